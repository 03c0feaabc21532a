/- Spans: whether a list has an instant (joined's closure). -/
import Derived.Test.YtlfpfeidaohjmaaDoorEs8
import Derived.Deep.DeepCutAuto
import Derived.Deep.CutBlock
set_option linter.unusedSimpArgs false
set_option linter.unusedVariables false
namespace Go.Proofs.YtlfpfeidaohjmaaDoor
open Go.RowKit Go.Grow

theorem rise_of_fine {l : List (Int × Int)} (h : fineB l = true) : Rise l := fun k hk => by
  obtain ⟨h1, _, _, h4⟩ := fine_at h k hk
  exact ⟨h1, h4⟩
theorem apart {l : List (Int × Int)} (h : Rise l) (i : Nat) : ∀ (d : Nat) (hd : i + d + 1 < l.length), (l[i]'(by omega)).2 < (l[i + d + 1]'hd).1
  | 0, hd => (h (i + 1) hd).2 i rfl
  | d + 1, hd => by
    have h1 := apart h i d (by omega)
    have h2 := (h (i + d + 1) (by omega)).1
    have h3 := (h (i + d + 1 + 1) hd).2 (i + d + 1) rfl
    show (l[i]'(by omega)).2 < (l[i + d + 1 + 1]'hd).1
    omega
theorem apart2 {l : List (Int × Int)} (h : Rise l) {i j : Nat} (hi : i < j) (hj : j < l.length) : (l[i]'(by omega)).2 < l[j].1 := by
  obtain ⟨d, rfl⟩ : ∃ d, j = i + d + 1 := ⟨j - i - 1, by omega⟩
  exact apart h i d hj
theorem ends_of_rise {l : List (Int × Int)} (h : Rise l) : Ends l := fun i j hi hj => by
  have h1 := apart2 h hi hj
  have h2 := (h j hj).1
  omega
theorem has_eq {l : List (Int × Int)} (h : Rise l) {x : Int} {i : Nat} (hi : i ≤ l.length) (lo : ∀ j (hj : j < l.length), j < i → l[j].2 ≤ x) (up : ∀ j (hj : j < l.length), i ≤ j → x < l[j].2) :
    inSp l x = if hi : i < l.length then decide (l[i].1 ≤ x) else false := by
  split
  · rename_i hi
    have u := up i hi (Nat.le_refl _)
    by_cases c : l[i].1 ≤ x
    · rw [decide_eq_true c]
      unfold inSp
      rw [List.any_eq_true]
      exact ⟨l[i], List.getElem_mem hi, by simp [c, u]⟩
    · rw [decide_eq_false c]
      unfold inSp
      rw [List.any_eq_false]
      intro y hy
      obtain ⟨j, hj, rfl⟩ := List.mem_iff_getElem.1 hy
      rcases Nat.lt_trichotomy j i with h1 | h1 | h1
      · have := lo j hj h1
        simp; intro _; omega
      · subst h1; simp [c]
      · have h2 := apart2 h h1 hj
        simp; intro _; omega
  · unfold inSp
    rw [List.any_eq_false]
    intro y hy
    obtain ⟨j, hj, rfl⟩ := List.mem_iff_getElem.1 hy
    have := lo j hj (by omega)
    simp; intro _; omega
set_option maxRecDepth 100000 in
set_option maxHeartbeats 8000000 in
theorem has_walk (r : Option Addr) (l : List (Int × Int)) (cap : Nat) (x : Int) (w : World) (h1 : -2305843009213693952 ≤ x) (h2 : x ≤ 2305843009213693952) (hl : l.length ≤ 1000000) (hr : SpAt w r l) (hR : Rise l) :
    Calls Tryd.prog 127 #[.slice r l.length cap, .int .i64 x] w fun e w' => e = .returned (.bool (inSp l x)) ∧ Below w.heap.size w w' := by
  have SW := Lib.hid (search_walk r l cap x w h1 h2 hl hr (ends_of_rise hR))
  unfold SearchPost at SW
  have HR := Lib.hid hr
  have RI := Lib.hid hR
  clear hr hR h1 h2
  go_enter Tryd.func127, Tryd.ntmps127
  go_upto_region 2 with (go_at_call 128; (with_reducible refine SW.out.mono ?_); rintro e w1 ⟨i, b, rfl, hi, lo, up, hb⟩; have HB := Lib.hid hb; have EQ := Lib.hid (has_eq RI.out hi lo up); clear hb lo up)
  by_cases c : i < l.length
  · have SP := HR.out.below HB.out
    obtain ⟨b1, o1, rfl, hc⟩ := SP.resolve_left (by intro h; rw [h] at c; exact absurd c (by simp))
    obtain ⟨d0, d1⟩ := hc i c
    have E2 := Lib.hid (show inSp l x = decide (l[i].1 ≤ x) by rw [EQ.out, dif_pos c])
    have hi0 : (0 : Int) ≤ (i : Int) := by omega
    have hi1 : (i : Int) < (l.length : Int) := by omega
    clear hc SP EQ
    generalize l[i] = y at d0 d1 E2
    obtain ⟨xa, xb⟩ := y
    simp only at d0 d1
    go_wp2
    go_ret
    exact ⟨by rw [E2.out]; rfl, HB.out⟩
  · have E2 := Lib.hid (show inSp l x = false by rw [EQ.out, dif_neg c])
    go_wp2
    go_ret
    exact ⟨by rw [E2.out]; rfl, HB.out⟩
end Go.Proofs.YtlfpfeidaohjmaaDoor
