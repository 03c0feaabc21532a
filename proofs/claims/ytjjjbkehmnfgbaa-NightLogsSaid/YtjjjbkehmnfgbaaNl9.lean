/- What any bytes give back: the program's way. -/
import Derived.Test.YtjjjbkehmnfgbaaNl8
import Derived.Outline
set_option linter.unusedSimpArgs false
set_option linter.unusedVariables false
namespace Go.Proofs.Ytjjjbkehmnfgbaa
open Go.RowKit Go.Grow

/-- The bytes l lie behind a, in a row with room for cap. -/
structure Bytes (w : World) (b o : Nat) (l : List Nat) : Prop where
  cell : ∀ k (h : k < l.length), w.cell? ⟨b, o + k, none⟩ = some (.int .u8 (l[k] : Nat))
  small : small l
theorem Bytes.take {w : World} {b o : Nat} {l : List Nat} (h : Bytes w b o l) (n : Nat) : Bytes w b o (l.take n) :=
  ⟨fun k hk => by rw [List.getElem_take]; exact h.cell k (by rw [List.length_take] at hk; omega), small_take h.small n⟩
theorem Bytes.drop {w : World} {b o : Nat} {l : List Nat} (h : Bytes w b o l) (n : Nat) : Bytes w b (o + n) (l.drop n) :=
  ⟨fun k hk => by rw [List.getElem_drop, Nat.add_assoc]; exact h.cell (n + k) (by rw [List.length_drop] at hk; omega), small_drop h.small n⟩
theorem Bytes.row {w : World} {b o : Nat} {l : List Nat} (h : Bytes w b o l) : RowAt w (some ⟨b, o, none⟩) l := .inr ⟨b, o, rfl, h.cell⟩
theorem Bytes.below {w w' : World} {b o n : Nat} {l : List Nat} (h : Bytes w b o l) (hb : Below n w w') (hl : b < n) : Bytes w' b o l :=
  ⟨fun k hk => by rw [hb.cell (p := ⟨b, o + k, none⟩) hl]; exact h.cell k hk, h.small⟩
theorem Bytes.at {w : World} {b o o' : Nat} {l l' : List Nat} (h : Bytes w b o l) (ho : o = o') (hl : l = l') : Bytes w b o' l' := ho ▸ hl ▸ h
def lenV : Value → Nat
  | .slice _ n _ => n
  | _ => 0
theorem lenV_slice (r : Option Addr) (n c : Nat) : lenV (.slice r n c) = n := rfl
def RecRel (w : World) (B : List Nat) (gb : Nat) (v0 v5 : Value) (wr : World) : Prop :=
  ∃ (f s : Nat) (l : List Nat) (got : List Res) (r : Option Addr) (cap : Nat) (vg : Value), v0 = .slice r l.length cap ∧ l.length ≤ cap ∧ l.length ≤ f ∧ (28 ≤ l.length → ∃ b o, r = some ⟨b, o, none⟩ ∧ b < w.heap.size ∧ Bytes w b o l) ∧ v5 = .int .u32 (s : Nat) ∧ s < 4294967296 ∧
    28 * got.length + l.length ≤ B.length ∧ recF B.length 0 B = got ++ recF f s l ∧ Known wr gb #[vg] ∧ wr.ownsRow (gb + 1) 28 3 vg got.length (rv got) ∧ Below w.heap.size w wr

def RecPost (w : World) (l : List Res) (e : Ending) (w' : World) : Prop :=
  ∃ gb vg, w.heap.size ≤ gb ∧ e = .returned (.tuple #[.pointer (some ⟨gb, 0, none⟩), .int .i64 (l.length : Nat)]) ∧ Known w' gb #[vg] ∧ w'.ownsRow (gb + 1) 28 3 vg l.length (rv l) ∧ Below w.heap.size w w'
set_option maxRecDepth 100000 in
set_option maxHeartbeats 8000000 in
theorem recover_walk (r : Option Addr) (B : List Nat) (cap : Nat) (w : World) (hcap : B.length ≤ cap) (hcm : cap ≤ 9223372036854775807) (hr : 28 ≤ B.length → ∃ b o, r = some ⟨b, o, none⟩ ∧ b < w.heap.size ∧ Bytes w b o B) (hl : B.length ≤ 100000) :
    Calls Try.prog 10 #[.slice r B.length cap] w (RecPost w (recF B.length 0 B)) := by
  have HR := Lib.hid hr
  clear hr
  go_enter Try.func10, Try.ntmps10
  go_wp2_with (go_at_call 4; refine (newLog_walk w).mono ?_; rintro e w1 ⟨rfl, hw1⟩; have HW1 := Lib.hid hw1; clear hw1)
  have k1 : Known w1 w.heap.size #[.slice none 0 0] := by rw [HW1.out]; exact Known.new w _ _
  have hb1 : Below w.heap.size w w1 := by rw [HW1.out]; exact grow_alloc (grow_refl w) _
  clear HW1
  have K1 := Lib.hid k1
  have HB1 := Lib.hid hb1
  clear k1 hb1
  go_loopw [0, 5] (fun v0 v5 wr => RecRel w B w.heap.size v0 v5 wr) (fun v _ _ => lenV v)
  case atStart => exact ⟨B.length, 0, B, [], r, cap, _, rfl, hcap, Nat.le_refl _, HR.out, rfl, by decide, by simp, rfl, K1.out, World.ownsRow_nil _ _ _ _, HB1.out⟩
  case round =>
    clear K1 HB1 w1
    obtain ⟨f, s, l, got, r1, cap1, vg, rfl, hcap1, hf, hr1, rfl, hs, hlen, hrec, hk, hown, hg⟩ := hrel
    have HR1 := Lib.hid hr1
    have HREC := Lib.hid hrec
    have HK := Lib.hid hk
    have HO := Lib.hid hown
    have HG := Lib.hid hg
    clear hr1 hrec hk hown hg
    have hz := HG.out.size
    by_cases h28 : 28 ≤ l.length
    · obtain ⟨b1, o1, rfl, hb1, hby⟩ := HR1.out h28
      obtain ⟨f, rfl⟩ : ∃ f', f = f' + 1 := ⟨f - 1, by omega⟩
      have hby' := hby.below HG.out hb1
      have Y := Lib.hid hby'
      have hl24 : (l.take 24).length = 24 := by rw [List.length_take]; omega
      have hl4 : ((l.drop 24).take 4).length = 4 := by rw [List.length_take, List.length_drop]; omega
      have S24 := Lib.hid (show Calls Try.prog 13 #[.int .u32 s, .slice (some ⟨b1, o1, none⟩) 24 cap1] wr fun e w' => e = .returned (.int .u32 (next s (l.take 24) : Nat)) ∧ Below wr.heap.size wr w' by
        have h := summed_walk s (some ⟨b1, o1, none⟩) (l.take 24) cap1 wr hs (by omega) (by intro h; rw [h] at hl24; cases hl24) (small_take hby.small _) (hby'.take 24).row (fun a h => by cases h; exact Nat.lt_of_lt_of_le hb1 hz)
        rw [hl24] at h
        exact h)
      have hnl := next_lt s (l.take 24)
      have G4 := Lib.hid (fun (W : World) (c : Nat) (hW : Below wr.heap.size wr W) => (show Calls Try.prog 17 #[.slice (some ⟨b1, o1 + 24, none⟩) 4 c] W fun e w' => e = .returned (.int .u64 (val ((l.drop 24).take 4) : Nat)) ∧ W = w' by
        have h := get_walk (some ⟨b1, o1 + 24, none⟩) ((l.drop 24).take 4) c W (by omega) (by intro h; rw [h] at hl4; cases hl4) (small_take (small_drop hby.small _) _) (((hby'.below hW (Nat.lt_of_lt_of_le hb1 hz)).drop 24).take 4).row
        rw [hl4] at h
        exact h))
      have hv4 : val ((l.drop 24).take 4) < 4294967296 := by
        have := val_lt ((l.drop 24).take 4) (small_take (small_drop hby.small _) _)
        rw [hl4] at this
        exact this
      have RS := Lib.hid (show recF (f + 1) s l = if next s (l.take 24) = val ((l.drop 24).take 4) then dec (l.take 24) :: recF f (next s (l.take 24)) (l.drop 28) else [] by
        rw [recF, if_neg (by omega)])
      generalize next s (l.take 24) = nx at S24 hnl RS
      generalize val ((l.drop 24).take 4) = vl at G4 hv4 RS
      clear hby hby' hl24 hl4
      by_cases he : nx = vl
      · subst he
        go_wp2_with (first
          | (go_at_call 13; (with_reducible refine S24.out.mono ?_); rintro e w2 ⟨rfl, hB2⟩; have HB2 := Lib.hid hB2; clear hB2)
          | (go_at_call 17; (with_reducible refine (G4.out _ _ HB2.out).mono ?_); rintro e w3 ⟨rfl, rfl⟩))
        have hb2 : b1 < w2.heap.size := Nat.lt_of_lt_of_le (Nat.lt_of_lt_of_le hb1 hz) HB2.out.size
        have K2 := Lib.hid (HK.out.below HB2.out)
        have O2 := Lib.hid (ownsRow_below HO.out HB2.out)
        have BG2 := Lib.hid (HG.out.trans (HB2.out.mono hz))
        have Y2 := Lib.hid (Y.out.below HB2.out (Nat.lt_of_lt_of_le hb1 hz))
        have GG := Lib.hid (fun (x : World) (o' n : Nat) (c : Nat) (l' : List Nat) (hy : Bytes w2 b1 o' l') (hn : l'.length = n) (hn8 : n = 8) => (show Calls Try.prog 17 #[.slice (some ⟨b1, o', none⟩) n c] (over w2 x) fun e w' => e = .returned (.int .u64 (val l' : Nat)) ∧ Below (over w2 x).heap.size (over w2 x) w' by
          have h := get_walk (some ⟨b1, o', none⟩) l' c (over w2 x) (by omega) (by intro h; rw [h] at hn; simp at hn; omega) hy.small (hy.below (below_over w2 x) hb2).row
          rw [hn] at h
          exact h.mono fun e w' ⟨h1, h2⟩ => ⟨h1, h2 ▸ Below.refl _ _⟩))
        have Q1 := Lib.hid (fun x c => GG.out x o1 8 c (l.take 8) (Y2.out.take 8) (by rw [List.length_take]; omega) rfl)
        have Q2 := Lib.hid (fun x c => GG.out x (o1 + 8) 8 c ((l.drop 8).take 8) ((Y2.out.drop 8).take 8) (by rw [List.length_take, List.length_drop]; omega) rfl)
        have Q3 := Lib.hid (fun x c => GG.out x (o1 + 16) 8 c ((l.drop 16).take 8) ((Y2.out.drop 16).take 8) (by rw [List.length_take, List.length_drop]; omega) rfl)
        have D1 := Lib.hid (show dec (l.take 24) = ⟨wrap64 (val (l.take 8) : Nat), wrap64 (val ((l.drop 8).take 8) : Nat), wrap64 (val ((l.drop 16).take 8) : Nat)⟩ by
          unfold dec
          rw [List.take_take, List.drop_take, List.drop_take, List.take_take]
          rfl)
        generalize val (l.take 8) = n1 at Q1 D1
        generalize val ((l.drop 8).take 8) = n2 at Q2 D1
        generalize val ((l.drop 16).take 8) = n3 at Q3 D1
        refine Grow.wp_region_over_tail 14 (by kernel_rfl) (by kernel_rfl) ?_
        simp only [List.take_succ_cons, List.take_zero, List.drop_succ_cons, List.drop_zero]
        repeat (go_big_quiet_step (first | (go_at_call 17; with_reducible exact Calls.over_of (Q1.out _ _)) | (go_at_call 17; with_reducible exact Calls.over_of (Q2.out _ _)) | (go_at_call 17; with_reducible exact Calls.over_of (Q3.out _ _))))
        refine wpQuiet_nil ?_
        intro x9 hz9
        have KX := Lib.hid (K2.out.below (below_over w2 x9))
        have OX := Lib.hid (ownsRow_below O2.out (below_over w2 x9))
        have BX := Lib.hid (BG2.out.trans ((below_over w2 x9).mono (Nat.le_trans hz HB2.out.size)))
        clear K2 O2 BG2 Q1 Q2 Q3 GG Y2 hb2 HB2 S24 G4
        generalize over w2 x9 = w4 at *
        go_wp2_with (go_at_call 5; refine (note_walk w.heap.size vg got ⟨wrap64 n1, wrap64 n2, wrap64 n3⟩ w4 KX.out OX.out (by omega)).mono ?_; rintro e w5 ⟨rfl, vg', hk', ho', hB'⟩; have HK5 := Lib.hid hk'; have HO5 := Lib.hid ho'; have HB5 := Lib.hid (BX.out.trans hB'); clear hk' ho' hB')
        go_roundw
        case rel =>
          obtain ⟨b', o', he, _, hby⟩ := HR1.out h28
          cases he
          refine ⟨f, nx, l.drop 28, got ++ [⟨wrap64 n1, wrap64 n2, wrap64 n3⟩], _, cap1 - 28, vg', by rw [List.length_drop], by rw [List.length_drop]; omega, by rw [List.length_drop]; omega, ?_, rfl, hnl, by rw [List.length_append, List.length_drop, List.length_singleton]; omega, ?_, HK5.out, HO5.out, HB5.out⟩
          · intro h
            rw [List.length_drop] at h
            rw [if_neg (by omega)]
            exact ⟨b1, o1 + 28, rfl, hb1, hby.drop 28⟩
          · rw [HREC.out, RS.out, if_pos trivial, D1.out, List.append_assoc]
            rfl
        case measure => simp [lenV_slice]; omega
      · have HE : Hid (recF B.length 0 B = got) := Lib.hid (by rw [HREC.out, RS.out, if_neg he, List.append_nil])
        have ht : ((vl : Int) != (nx : Int)) = true := by simp; omega
        go_wp2_with (first
          | (go_at_call 13; (with_reducible refine S24.out.mono ?_); rintro e w2 ⟨rfl, hB2⟩; have HB2 := Lib.hid hB2; clear hB2)
          | (go_at_call 17; (with_reducible refine (G4.out _ _ HB2.out).mono ?_); rintro e w3 ⟨rfl, rfl⟩))
        have k2 := HK.out.below HB2.out
        obtain ⟨_, r2, cap2, rfl, _, _⟩ := res_of_owns HO.out
        have c2 := k2.cell 0
        have l2 := k2.lt
        go_quiet (fail)
        go_wp2
        go_ret2
        rw [HE.out]
        exact ⟨_, _, Nat.le_refl _, rfl, k2.drewN _, ownsRow_below (ownsRow_below HO.out HB2.out) (grow_drewN (grow_refl _) _), grow_drewN (HG.out.trans (HB2.out.mono hz)) _⟩
    · have HE : Hid (recF B.length 0 B = got) := Lib.hid (by
        rw [HREC.out]
        cases f with
        | zero => simp [recF]
        | succ f => rw [recF, if_pos (by omega), List.append_nil])
      have k2 := HK.out
      obtain ⟨_, r2, cap2, rfl, _, _⟩ := res_of_owns HO.out
      have c2 := k2.cell 0
      have l2 := k2.lt
      go_wp2
      go_quiet (fail)
      go_wp2
      go_ret2
      rw [HE.out]
      exact ⟨_, _, Nat.le_refl _, rfl, k2.drewN _, ownsRow_below HO.out (grow_drewN (grow_refl _) _), grow_drewN HG.out _⟩
end Go.Proofs.Ytjjjbkehmnfgbaa
