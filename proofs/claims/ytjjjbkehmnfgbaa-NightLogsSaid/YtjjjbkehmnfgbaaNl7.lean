/- A log's bytes. -/
import Derived.Test.YtjjjbkehmnfgbaaNl6
import Derived.LoopN
set_option linter.unusedSimpArgs false
set_option linter.unusedVariables false
namespace Go.Proofs.Ytjjjbkehmnfgbaa
open Go.RowKit Go.Grow

/-- The results l lie behind r, where there are any. -/
def ResAt (w : World) (r : Option Addr) (l : List Res) : Prop := l = [] ∨ ∃ b o, r = some ⟨b, o, none⟩ ∧ ∀ k (h : k < l.length),
  w.cell? ⟨b, o + k * 3, none⟩ = some (.int .i64 l[k].i) ∧ w.cell? ⟨b, o + k * 3 + 1, none⟩ = some (.int .i64 l[k].s) ∧ w.cell? ⟨b, o + k * 3 + 2, none⟩ = some (.int .i64 l[k].l)
theorem ResAt.below {w w' : World} {r : Option Addr} {l : List Res} {n : Nat} (h : ResAt w r l) (hb : Below n w w') (hr : ∀ a, r = some a → a.block < n) : ResAt w' r l := by
  rcases h with h | ⟨b, o, rfl, h⟩
  · exact .inl h
  · have hl : b < n := hr ⟨b, o, none⟩ rfl
    exact .inr ⟨b, o, rfl, fun k hk => by
      obtain ⟨h0, h1, h2⟩ := h k hk
      exact ⟨by rw [hb.cell (p := ⟨b, _, none⟩) hl]; exact h0, by rw [hb.cell (p := ⟨b, _, none⟩) hl]; exact h1, by rw [hb.cell (p := ⟨b, _, none⟩) hl]; exact h2⟩⟩
theorem wrapU64 (x : Int) : IntKind.u64.wrap x = ((u64 x : Nat) : Int) := by
  show x % 18446744073709551616 = _
  rw [u64_cast]
theorem rv_get (l : List Res) (k : Nat) (h : k < l.length) : (rv l)[k * 3]? = some (.int .i64 l[k].i) ∧ (rv l)[k * 3 + 1]? = some (.int .i64 l[k].s) ∧ (rv l)[k * 3 + 2]? = some (.int .i64 l[k].l) := by
  induction l generalizing k with
  | nil => simp at h
  | cons a l ih =>
    cases k with
    | zero => simp [rv, rc]
    | succ k =>
      have := ih k (by simpa using h)
      have e : rv (a :: l) = .int .i64 a.i :: .int .i64 a.s :: .int .i64 a.l :: rv l := rfl
      rw [e, show (k + 1) * 3 = k * 3 + 3 by omega, show k * 3 + 3 + 1 = k * 3 + 1 + 3 by omega, show k * 3 + 3 + 2 = k * 3 + 2 + 3 by omega]
      simpa using this
theorem res_of_owns {w : World} {base n : Nat} {v : Value} {l : List Res} {e : TypeId} (h : w.ownsRow base e 3 v n (rv l)) : n = l.length ∧ ∃ r cap, v = .slice r l.length cap ∧ ResAt w r l ∧ ∀ a, r = some a → base ≤ a.block ∧ a.block < w.heap.size := by
  have hlen : n = l.length := by have := h.1; rw [rv_length] at this; omega
  have hlt := h.lt
  subst hlen
  obtain ⟨_, ⟨hv, hn⟩ | ⟨g, cap, cur, hv, hg⟩⟩ := h
  · exact ⟨rfl, none, 0, by rw [hv, hn], .inl (List.length_eq_zero_iff.1 hn), fun a h => by cases h⟩
  · subst hv
    have hc := owns_cells (w := w) (base := base) (e := e) (size := 3) (g := g) (n := l.length) (cap := cap) (xs := rv l) ⟨by rw [rv_length], .inr ⟨g, cap, cur, rfl, hg⟩⟩
    refine ⟨rfl, some ⟨g, 0, none⟩, cap, rfl, .inr ⟨g, 0, rfl, fun k hk => ?_⟩, fun a ha => by cases ha; exact hlt g rfl⟩
    obtain ⟨h0, h1, h2⟩ := rv_get l k hk
    simp only [Nat.zero_add]
    exact ⟨hc _ _ h0, hc _ _ h1, hc _ _ h2⟩
theorem take_snocR (l : List Res) (k : Nat) (h : k < l.length) : l.take (k + 1) = l.take k ++ [l[k]] := by
  rw [List.take_succ_eq_append_getElem h]
theorem news_row {w : World} {b o : Nat} {l : List Nat} (hc : ∀ k (h : k < l.length), w.cell? ⟨b, o + k, none⟩ = some (.int .u8 (l[k] : Nat))) : ∀ j u, (bv l)[j]? = some u → w.cell? ((⟨b, o, none⟩ : Addr).add j) = some u := fun j u hu => by
  have hj : j < l.length := by
    have := (List.getElem?_eq_some_iff.1 hu).1
    rwa [bv_length] at this
  have e : u = .int .u8 (l[j] : Nat) := by
    simp [bv, hj] at hu; exact hu.symm
  subst e
  have e2 : (⟨b, o, none⟩ : Addr).add j = ⟨b, o + j, none⟩ := by unfold Addr.add; split <;> simp_all
  rw [e2]
  exact hc j hj
def BytesRel (w : World) (l : List Res) (v3 v4 v15 : Value) (wr : World) : Prop :=
  ∃ k : Nat, k ≤ l.length ∧ v15 = .int .i64 k ∧ v4 = .int .u32 (sumR 0 (l.take k) : Nat) ∧ wr.ownsRow w.heap.size 5 1 v3 (logF 0 (l.take k)).length (bv (logF 0 (l.take k))) ∧ Below w.heap.size w wr

set_option maxRecDepth 100000 in
set_option maxHeartbeats 8000000 in
theorem logBytes_walk (b : Nat) (v : Value) (l : List Res) (w : World) (hk : Known w b #[v]) (ho : w.ownsRow (b + 1) 28 3 v l.length (rv l)) (hl : l.length ≤ 1000) :
    Calls Try.prog 6 #[.pointer (some ⟨b, 0, none⟩)] w fun e w' => ∃ v', e = .returned v' ∧ w'.ownsRow w.heap.size 5 1 v' (logF 0 l).length (bv (logF 0 l)) ∧ Below w.heap.size w w' := by
  obtain ⟨i0, hi, hz0, hz1, hz2⟩ := info_parts info5
  have HI := Lib.hid hi
  have HZ0 := Lib.hid hz0
  have HZ1 := Lib.hid hz1
  have HZ2 := Lib.hid hz2
  obtain ⟨_, r, cap, rfl, hres, hrb⟩ := res_of_owns ho
  have c0 := hk.cell 0
  have l0 := hk.lt
  have HR := Lib.hid hres
  have HRB := Lib.hid hrb
  clear hi hz0 hz1 hz2 hk ho hres hrb
  go_enter Try.func6, Try.ntmps6
  go_wp2
  go_loopw [3, 4, 15] (fun v3 v4 v15 wr => BytesRel w l v3 v4 v15 wr) (fun _ _ i _ => l.length - (intOf i).toNat)
  case atStart => exact ⟨0, Nat.zero_le _, rfl, rfl, World.ownsRow_nil _ _ _ _, Below.refl _ _⟩
  case round =>
    obtain ⟨k, hk, rfl, rfl, hown, hg⟩ := hrel
    have HO := Lib.hid hown
    have HG := Lib.hid hg
    clear hown hg
    by_cases hlt : k < l.length
    · obtain ⟨b1, o1, rfl, hc⟩ := HR.out.resolve_left (by intro h; rw [h] at hlt; exact absurd hlt (by simp))
      have hb1 : b1 < w.heap.size := (HRB.out ⟨b1, o1, none⟩ rfl).2
      obtain ⟨e0, e1, e2⟩ := hc k hlt
      rw [← HG.out.cell (p := ⟨b1, _, none⟩) hb1] at e0 e1 e2
      have TS := Lib.hid (take_snocR l k hlt)
      have hsl := sumR_lt 0 (l.take k) (by decide)
      have hbs := HG.out.size
      clear hc
      generalize l[k] = x at e0 e1 e2 TS
      have i0' : ∀ w, (Instr.index 42 (.agg #[.int .i64 x.i, .int .i64 x.s, .int .i64 x.l]) (.int .i64 0)).run Try.prog w = .ok (.int .i64 x.i) w := fun _ => by kernel_rfl
      have i1' : ∀ w, (Instr.index 42 (.agg #[.int .i64 x.i, .int .i64 x.s, .int .i64 x.l]) (.int .i64 1)).run Try.prog w = .ok (.int .i64 x.s) w := fun _ => by kernel_rfl
      have i2' : ∀ w, (Instr.index 42 (.agg #[.int .i64 x.i, .int .i64 x.s, .int .i64 x.l]) (.int .i64 2)).run Try.prog w = .ok (.int .i64 x.l) w := fun _ => by kernel_rfl
      go_wp2
      refine wp_loop_rounds 4 ?_
      rw [rounds_succ]
      go_wp2_with (go_at_call 12; rw [wrapU64]; refine (put_walk (wr.heap.size + 1) _ [] _ 8 _ (by simp) (World.ownsRow_nil _ _ _ _) (u64_lt _) (by decide) (by simp)).mono ?_; rintro e w1 ⟨v1, rfl, ho1, hB1⟩; have HO1 := Lib.hid ho1; have HB1 := Lib.hid hB1; clear ho1 hB1)
      rw [rounds_succ]
      go_wp2_with (go_at_call 12; rw [wrapU64]; refine (put_walk (wr.heap.size + 1) _ _ _ 8 _ (by have := HB1.out.size; simpa using this) HO1.out (u64_lt _) (by decide) (by simp [le_length])).mono ?_; rintro e w2 ⟨v2, rfl, ho2, hB2⟩; have HO2 := Lib.hid ho2; have HB2 := Lib.hid (HB1.out.trans hB2); clear ho2 hB2 HO1 HB1)
      rw [rounds_succ]
      go_wp2_with (first
        | (go_at_call 12; rw [wrapU64]; refine (put_walk (wr.heap.size + 1) _ _ _ 8 _ (by have := HB2.out.size; simpa using this) HO2.out (u64_lt _) (by decide) (by simp [le_length])).mono ?_; rintro e w3 ⟨v3, rfl, ho3, hB3⟩; have HO3 := Lib.hid ho3; have HB3 := Lib.hid (HB2.out.trans hB3); clear ho3 hB3 HO2 HB2)
        | fail)
      have HE : Hid (w3.ownsRow (wr.heap.size + 1) 5 1 v3 (enc x).length (bv (enc x))) := Lib.hid (by
        have h := HO3.out
        rwa [show ([] ++ le 8 (u64 x.i) ++ le 8 (u64 x.s) ++ le 8 (u64 x.l)) = enc x by simp [enc]] at h)
      obtain ⟨_, r3, cap3, rfl, hrow, hrb3⟩ := row_of_owns HE.out
      obtain ⟨b3, o3, rfl, hc3⟩ := hrow.resolve_left (by intro h; have := enc_length x; rw [h] at this; cases this)
      have hb3 : b3 < w3.heap.size := (hrb3 _ rfl).2
      have HB := Lib.hid (show Below wr.heap.size wr w3 from (grow_alloc (grow_refl wr) _).trans (HB3.out.mono (by omega)))
      clear HO3 HB3 HE hrb3 hrow e0 e1 e2 i0' i1' i2'
      have HC3 := Lib.hid hc3
      clear hc3
      have hel := enc_length x
      have C3 := Lib.hid (show (logF 0 (l.take k)).length + 24 ≤ maxLen by rw [logF_length, List.length_take]; unfold maxLen; omega)
      have C4 := Lib.hid (show ((logF 0 (l.take k)).length + 24) * 1 ≤ 140737488355328 by rw [logF_length, List.length_take]; omega)
      have C5 := Lib.hid (show (logF 0 (l.take k) ++ enc x).length ≤ 1000000 by rw [List.length_append, logF_length, List.length_take, hel]; omega)
      have E5 := Lib.hid (show (logF 0 (l.take k)).length + 24 = (logF 0 (l.take k) ++ enc x).length by rw [List.length_append, hel])
      rw [rounds_succ]
      go_wp2_with (first
        | (go_at_call 13; refine (summed_walk _ _ (enc x) _ _ hsl (by omega) (by intro h; rw [h] at hel; cases hel) (small_enc x) (.inr ⟨b3, o3, rfl, HC3.out⟩) (fun a h => by cases h; exact hb3)).mono ?_; rintro e w4 ⟨rfl, hB4⟩; have HC4 := Lib.hid (fun k (h : k < (enc x).length) => (hB4.cell (p := ⟨b3, o3 + k, none⟩) hb3).trans (HC3.out k h)); have HB4 := Lib.hid (HB.out.trans (hB4.mono HB.out.size)); clear hB4 HC3 HB; generalize hq : sumF 0 (le 4 (sumR 0 (List.take k l)) ++ enc x) = q; have HQ := Lib.hid hq; have hql : q < 4294967296 := by { rw [← hq]; exact sumF_lt _ _ (by decide) }; clear hq)
        | (at_builtin; refine wpList_append_own _ rfl _ _ 23 rfl w.heap.size 5 i0 (.int .u8 0) 1 1 Try.underlying23 HI.out HZ0.out HZ1.out HZ2.out rfl (by decide) _ _ _ rfl (ownsRow_below HO.out HB4.out) ⟨b3, o3, none⟩ 24 cap3 (bv (enc x)) rfl (by rw [bv_length, hel]) (news_row HC4.out) (bytes_one _) C3.out C4.out (Nat.le_trans HG.out.size HB4.out.size) ?_; intro v5 w5 ho5 hg5 _; rw [← bv_append, E5.out] at ho5; have HO5 := Lib.hid ho5; have HB5 := Lib.hid (Below.grown (HG.out.trans (HB4.out.mono HG.out.size)) hg5 (Nat.le_trans HG.out.size HB4.out.size) (fun k hk => (HO.out.lt k hk).1)); clear ho5 hg5)
        | (go_at_call 12; refine (put_walk w.heap.size _ _ q 4 _ HB5.out.size HO5.out (by omega) (by decide) C5.out).mono ?_; rintro e w6 ⟨v6, rfl, ho6, hB6⟩; have HO6 := Lib.hid ho6; have HB6 := Lib.hid (HB5.out.trans hB6); clear ho6 hB6))
      go_roundw
      case rel =>
        refine ⟨k + 1, by omega, by go_num, ?_, ?_, HB6.out⟩
        · rw [TS.out, sumR_snoc]
          unfold next
          rw [HQ.out]
        · have h := HO6.out
          rw [TS.out, logF_snoc]
          unfold entryF next
          rw [HQ.out, ← List.append_assoc]
          exact h
      case measure => simp [intOf]; omega
    · obtain rfl : k = l.length := by omega
      go_wp2
      go_ret
      refine ⟨_, rfl, ?_, HG.out⟩
      have := HO.out
      rwa [List.take_length] at this
end Go.Proofs.Ytjjjbkehmnfgbaa
