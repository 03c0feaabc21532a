/- What any bytes give back: the document's way, walked. -/
import Derived.Test.YtjjjbkehmnfgbaaNl10
set_option linter.unusedSimpArgs false
set_option linter.unusedVariables false
namespace Go.Proofs.Ytjjjbkehmnfgbaa
open Go.RowKit Go.Grow

theorem infoRR : (Try.prog.info? 30).map (fun i => (i.zero, i.size, i.bytes)) = some (some (.agg #[.int .i64 0, .int .i64 0, .int .i64 0]), 3, 24) := by kernel_rfl
def ResRel (w : World) (B : List Nat) (v3 v4 : Value) (wr : World) : Prop :=
  ∃ (f m : Nat) (got : List Res), got.length = m ∧ v4 = .int .i64 ((28 * m + 28 : Nat) : Int) ∧ 28 * m ≤ B.length ∧ B.length ≤ f + 28 * m ∧ logF 0 got = B.take (28 * m) ∧
    recF B.length 0 B = got ++ recF f (sumR 0 got) (B.drop (28 * m)) ∧ wr.ownsRow w.heap.size 30 3 v3 m (rv got) ∧ Below w.heap.size w wr
def ResPost (w : World) (l : List Res) (e : Ending) (w' : World) : Prop :=
  ∃ v, e = .returned v ∧ w'.ownsRow w.heap.size 30 3 v l.length (rv l) ∧ Below w.heap.size w w'

theorem res_step (B : List Nat) (got : List Res) (m : Nat) (hB : small B) (hm : 28 * m + 28 ≤ B.length) (hlog : logF 0 got = B.take (28 * m)) :
    logF 0 (got ++ [dec ((B.drop (28 * m)).take 24)]) = B.take (28 * m + 28) ↔ next (sumR 0 got) ((B.drop (28 * m)).take 24) = val (((B.drop (28 * m)).drop 24).take 4) := by
  have hl : ((B.drop (28 * m)).take 28).length = 28 := by rw [List.length_take, List.length_drop]; omega
  have h := entry_iff (sumR 0 got) ((B.drop (28 * m)).take 28) (small_take (small_drop hB _) _) hl
  rw [List.take_take, show min 24 28 = 24 by rfl, List.drop_take, List.take_take, show min 4 (28 - 24) = 4 by rfl] at h
  rw [← h, logF_snoc, hlog, show B.take (28 * m + 28) = B.take (28 * m) ++ (B.drop (28 * m)).take 28 by rw [List.take_add], List.append_cancel_left_eq]
set_option maxRecDepth 100000 in
set_option maxHeartbeats 8000000 in
theorem resultsOf_walk (r : Option Addr) (B : List Nat) (cap : Nat) (w : World) (hcap : B.length ≤ cap) (hcm : cap ≤ 9223372036854775807) (hr : 28 ≤ B.length → ∃ b o, r = some ⟨b, o, none⟩ ∧ b < w.heap.size ∧ Bytes w b o B) (hl : B.length ≤ 20000) :
    Calls Try.prog 11 #[.slice r B.length cap] w (ResPost w (recF B.length 0 B)) := by
  obtain ⟨i0, hi, hz0, hz1, hz2⟩ := info_parts infoRR
  have HI := Lib.hid hi
  have HZ0 := Lib.hid hz0
  have HZ1 := Lib.hid hz1
  have HZ2 := Lib.hid hz2
  have HR := Lib.hid hr
  clear hr hi hz0 hz1 hz2
  go_enter Try.func11, Try.ntmps11
  go_wp2
  go_loopw [3, 4] (fun v3 v4 wr => ResRel w B v3 v4 wr) (fun _ v _ => B.length + 28 - (intOf v).toNat)
  case atStart => exact ⟨B.length, 0, [], rfl, rfl, by simp, by simp, by simp [logF], rfl, World.ownsRow_nil _ _ _ _, Below.refl _ _⟩
  case round =>
    obtain ⟨f, m, got, hm, rfl, h28, hf, hlog, hrec, hown, hg⟩ := hrel
    have HM := Lib.hid hm
    clear hm
    have HREC := Lib.hid hrec
    have HLOG := Lib.hid hlog
    have HO := Lib.hid hown
    have HG := Lib.hid hg
    clear hrec hlog hown hg
    have hz := HG.out.size
    by_cases hin : 28 * m + 28 ≤ B.length
    · obtain ⟨b1, o1, rfl, hb1, hby⟩ := HR.out (by omega)
      obtain ⟨f, rfl⟩ : ∃ f', f = f' + 1 := ⟨f - 1, by omega⟩
      have Y := Lib.hid (hby.below HG.out hb1)
      have SB := Lib.hid hby.small
      have HBY := Lib.hid hby
      clear hby
      have C3 := Lib.hid (show m ≤ maxLen by unfold maxLen; omega)
      have C4 := Lib.hid (show m * 24 ≤ 140737488355328 by omega)
      have C5 := Lib.hid (show m + 1 ≤ maxLen by unfold maxLen; omega)
      have C6 := Lib.hid (show (m + 1) * 24 ≤ 140737488355328 by omega)
      have hb2 : b1 < wr.heap.size := Nat.lt_of_lt_of_le hb1 hz
      go_wp2_with (at_builtin; refine wpList_append_src rfl _ _ 22 rfl 30 i0 (.agg #[.int .i64 0, .int .i64 0, .int .i64 0]) 3 24 Try.underlying22 HI.out HZ0.out HZ1.out HZ2.out rfl (by decide) rfl _ w.heap.size m (rv got) rfl HO.out (rv_one_cell got) C3.out C4.out ?_; intro v6 w6 ho6 hb6 _; have HO6 := Lib.hid ho6; have HB6 := Lib.hid hb6; clear ho6 hb6)
      have hb6 : b1 < w6.heap.size := Nat.lt_of_lt_of_le hb2 HB6.out.size
      have Y6 := Lib.hid (Y.out.below HB6.out hb2)
      have BG6 := Lib.hid (HG.out.trans (HB6.out.mono hz))
      have O6 := Lib.hid (ownsRow_below HO.out HB6.out)
      have HV := Lib.hid (Nat.le_trans hz HB6.out.size)
      have hq3 := Lib.hid (fun q (h : u3.ownBlock = some q) => (HO.out.lt q h).2)
      have hw6 := HB6.out.size
      clear HO Y HB6
      have GG := Lib.hid (fun (W : World) (hW : Below w6.heap.size w6 W) (o' : Nat) (c : Nat) (l' : List Nat) (hy : Bytes w6 b1 o' l') (hn : l'.length = 8) => (show Calls Try.prog 18 #[.slice (some ⟨b1, o', none⟩) 8 c] W fun e w' => e = .returned (.int .i64 (wrap64 (val l' : Nat))) ∧ W = w' from
          numberOf_walk (some ⟨b1, o', none⟩) l' c W hn hy.small (hy.below hW hb6).row))
      obtain ⟨x, hx⟩ : ∃ x, x = (B.drop (28 * m)).take 24 := ⟨_, rfl⟩
      have hx24 : x.length = 24 := by rw [hx, List.length_take, List.length_drop]; omega
      have YX := Lib.hid (show Bytes w6 b1 (o1 + 28 * m) x by rw [hx]; exact (Y6.out.drop (28 * m)).take 24)
      have Q1 := Lib.hid (fun y hy c => GG.out y hy (o1 + 28 * m) c (x.take 8) (YX.out.take 8) (by rw [List.length_take]; omega))
      have Q2 := Lib.hid (fun y hy c => GG.out y hy (o1 + 28 * m + 8) c ((x.drop 8).take 8) ((YX.out.drop 8).take 8) (by rw [List.length_take, List.length_drop]; omega))
      have Q3 := Lib.hid (fun y hy c => GG.out y hy (o1 + 28 * m + 16) c (x.drop 16) (YX.out.drop 16) (by rw [List.length_drop]; omega))
      have D1 := Lib.hid (show dec x = ⟨wrap64 (val (x.take 8) : Nat), wrap64 (val ((x.drop 8).take 8) : Nat), wrap64 (val (x.drop 16) : Nat)⟩ from rfl)
      have HX := Lib.hid hx
      clear hx
      generalize val (x.take 8) = n1 at Q1 D1
      generalize val ((x.drop 8).take 8) = n2 at Q2 D1
      generalize val (x.drop 16) = n3 at Q3 D1
      have hc28 : 28 ≤ cap - 28 * m := by omega
      generalize cap - 28 * m = cx at hc28 ⊢
      have i8 : (8 : Int) ≤ (cx : Int) := by omega
      have i16 : (16 : Int) ≤ (cx : Int) := by omega
      have i24 : (24 : Int) ≤ (cx : Int) := by omega
      have n8 : cx ≠ 8 := by omega
      have n16 : cx ≠ 16 := by omega
      go_region_law (first
        | (refine step_append_lies _ rfl (.tmp 22) (.tmp 33) 22 rfl wr.heap.size 30 i0 (.agg #[.int .i64 0, .int .i64 0, .int .i64 0]) 3 24 Try.underlying22 HI.out HZ0.out HZ1.out HZ2.out rfl (by decide) v6 m (rv got) (by simp [Act.eval, Act.put]) (by (repeat (first | exact HO6.out | apply World.ownsRow.alloc | apply World.ownsRow.drew))) _ 1 1 (rc ⟨wrap64 n1, wrap64 n2, wrap64 n3⟩) (by simp [Act.eval, Act.put]) rfl (news_new _ (rc _) _) (rc_one _) (by decide) C5.out C6.out (by simp; omega) _ rfl ?_; intro g cap7 w7 hown hg hat hlt; have HO7 := Lib.hid hown; have HG7 := Lib.hid hg; clear hown hg hat)
        | (go_simp; go_at_call 18; (first | (with_reducible refine (Q1.out _ ?_ _).mono ?_) | (with_reducible refine (Q2.out _ ?_ _).mono ?_) | (with_reducible refine (Q3.out _ ?_ _).mono ?_)); exact grow_drew (grow_refl _); rintro e w7 ⟨rfl, rfl⟩))
      have bg7 : Below w.heap.size w w7 := Below.grown (((Below.drew BG6.out).alloc HV.out _)) HG7.out (by simp; have := HV.out; omega) (fun k hk => Nat.le_trans hz (HO6.out.lt k hk).1)
      have BG7 := Lib.hid bg7
      have O7 := Lib.hid (show w7.ownsRow w.heap.size 30 3 u3 m (rv got) from (((O6.out.alloc _).drew).kept (row := v6.ownBlock) HG7.out (by
        cases hu : u3.ownBlock with
        | none => exact .inl rfl
        | some q => exact .inr (fun e => by have h1 := hq3.out q hu; have h2 := (HO6.out.lt q e.symm).1; omega))))
      have Y7 := Lib.hid (HBY.out.below bg7 hb1)
      have hb7 : b1 < w7.heap.size := Nat.lt_of_lt_of_le hb1 bg7.size
      have RS := Lib.hid (show recF (f + 1) (sumR 0 got) (B.drop (28 * m)) = if next (sumR 0 got) x = val (((B.drop (28 * m)).drop 24).take 4) then dec x :: recF f (next (sumR 0 got) x) ((B.drop (28 * m)).drop 28) else [] by
        rw [recF, if_neg (by rw [List.length_drop]; omega), ← HX.out])
      have ST := Lib.hid (show logF 0 (got ++ [dec x]) = B.take (28 * m + 28) ↔ next (sumR 0 got) x = val (((B.drop (28 * m)).drop 24).take 4) by
        have h := res_step B got m SB.out hin HLOG.out
        rwa [← HX.out] at h)
      have SX := Lib.hid (show sumR 0 (got ++ [dec x]) = next (sumR 0 got) x by
        rw [sumR_snoc, enc_dec x (by rw [HX.out]; exact small_take (small_drop SB.out _) _) hx24])
      have N7 := Lib.hid (show w7.ownsRow wr.heap.size 30 3 (.slice (some ⟨g, 0, none⟩) (m + 1) cap7) (m + 1) (rv (got ++ [dec x])) by
        rw [rv_append, rv_one, D1.out]; exact HO7.out)
      obtain ⟨hdr, rg, capg, hev, hresg, hrbg⟩ := res_of_owns (ownsRow_below N7.out (grow_drew (grow_refl w7)))
      have hlen7 : (got ++ [dec x]).length = m + 1 := by rw [List.length_append, HM.out]; rfl
      rw [hlen7] at hev
      cases hev
      clear hdr
      have LW := Lib.hid (show Calls Try.prog 7 #[.slice (some ⟨g, 0, none⟩) (m + 1) cap7] w7.drew fun e w' => ∃ v', e = .returned v' ∧ w'.ownsRow w7.drew.heap.size 5 1 v' (logF 0 (got ++ [dec x])).length (bv (logF 0 (got ++ [dec x]))) ∧ Below w7.drew.heap.size w7.drew w' by
        have h := logOf_walk (some ⟨g, 0, none⟩) (got ++ [dec x]) cap7 w7.drew hresg (by rw [hlen7]; omega)
        rwa [hlen7] at h)
      have SL := Lib.hid (small_logF 0 (got ++ [dec x]))
      have ST4 := Lib.hid (small_take SB.out (28 * m + 28))
      have hT : (B.take (28 * m + 28)).length = 28 * m + 28 := by rw [List.length_take]; omega
      have CB := Lib.hid (fun (W : World) (hW : Below w7.heap.size w7 W) => (show (convert 23 9 (.slice (some ⟨b1, o1, none⟩) (28 * m + 28) cap)).run Try.prog W = .ok (.string (strOf (B.take (28 * m + 28)))) W by
        have h := conv_row ((Y7.out.below hW hb7).take (28 * m + 28)).row (fun _ => .inr ⟨_, rfl⟩) cap
        rwa [hT] at h))
      clear hresg hrbg HO7 HG7 O6 HO6 BG6 Q1 Q2 Q3 GG Y6 YX HX D1 Y7 SB HBY hlen7 i8 i16 i24 n8 n16 hc28
      generalize hTT : B.take (28 * m + 28) = T at ST ST4 CB
      generalize hLL : logF 0 (got ++ [dec x]) = L at LW SL ST
      have HTT := Lib.hid hTT
      have HLL := Lib.hid hLL
      clear hTT hLL
      have cv0 := CB.out w7.drew (grow_drew (grow_refl w7))
      have ib : (28 * (m : Int) + 28) ≤ (cap : Int) := by omega
      go_wp2
      go_simp
      by_cases hEq : L = T
      · have HEQ := Lib.hid (ST.out.1 hEq)
        clear ST
        subst hEq
        go_region_with (go_at_call 7; (with_reducible refine LW.out.mono ?_); rintro e w8 ⟨v8, rfl, ho8, hb8⟩; obtain ⟨hd, r8, cap8, rfl, hrow8, hrb8⟩ := row_of_owns ho8; clear hd hrb8; have cv8 := conv_row hrow8 (fun _ => by cases r8; exact .inl rfl; exact .inr ⟨_, rfl⟩) cap8; have HB8 := Lib.hid hb8; have cvB := CB.out w8 ((grow_drew (grow_refl w7)).trans hb8); clear hb8 ho8 hrow8)
        all_goals
          go_wp2
          go_roundw
          case rel =>
            refine ⟨f, m + 1, got ++ [dec x], by rw [List.length_append, HM.out]; rfl, by go_num, by omega, by omega, ?_, ?_, owns_base (ownsRow_below (ownsRow_below N7.out (grow_drew (grow_refl w7))) HB8.out) hz, (Below.drew BG7.out).trans (HB8.out.mono BG7.out.size)⟩
            · rw [HLL.out, show 28 * (m + 1) = 28 * m + 28 by omega, HTT.out]
            · rw [HREC.out, RS.out, if_pos HEQ.out, SX.out, List.append_assoc, List.drop_drop, show 28 * (m + 1) = 28 * m + 28 by omega]
              rfl
          case measure => simp [intOf]; omega
      · have HEQ := Lib.hid (fun h => hEq (ST.out.2 h))
        have ht := strOf_ne SL.out ST4.out hEq
        clear ST hEq
        go_region_with (go_at_call 7; (with_reducible refine LW.out.mono ?_); rintro e w8 ⟨v8, rfl, ho8, hb8⟩; obtain ⟨hd, r8, cap8, rfl, hrow8, hrb8⟩ := row_of_owns ho8; clear hd hrb8; have cv8 := conv_row hrow8 (fun _ => by cases r8; exact .inl rfl; exact .inr ⟨_, rfl⟩) cap8; have HB8 := Lib.hid hb8; have cvB := CB.out w8 ((grow_drew (grow_refl w7)).trans hb8); clear hb8 ho8 hrow8)
        all_goals
          go_wp2
          go_ret
          refine ⟨_, rfl, ?_, (Below.drew BG7.out).trans (HB8.out.mono BG7.out.size)⟩
          rw [HREC.out, RS.out, if_neg HEQ.out, List.append_nil, HM.out]
          exact ownsRow_below (ownsRow_below O7.out (grow_drew (grow_refl w7))) HB8.out
    · have HE : Hid (recF B.length 0 B = got) := Lib.hid (by
        rw [HREC.out]
        cases f with
        | zero => simp [recF]
        | succ f => rw [recF, if_pos (by rw [List.length_drop]; omega), List.append_nil])
      go_wp2
      go_ret
      refine ⟨_, rfl, ?_, HG.out⟩
      rw [HE.out, HM.out]
      exact HO.out
end Go.Proofs.Ytjjjbkehmnfgbaa
