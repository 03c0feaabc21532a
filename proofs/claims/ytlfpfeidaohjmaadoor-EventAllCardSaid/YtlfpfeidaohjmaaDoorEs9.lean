/- Spans: where an instant stands in a list; whether a list has it (joined's closure). -/
import Derived.Test.YtlfpfeidaohjmaaDoorEs6
import Derived.Deep.DeepCutAuto
import Derived.Deep.CutBlock
set_option linter.unusedSimpArgs false
set_option linter.unusedVariables false
namespace Go.Proofs.YtlfpfeidaohjmaaDoor
open Go.RowKit Go.Grow

def cmpZ (x y : Int) : Int := if x < y then -1 else if y < x then 1 else 0
set_option maxRecDepth 100000 in
set_option maxHeartbeats 4000000 in
theorem isNaN_walk (x : Int) (w : World) : Calls Tryd.prog 133 #[.int .i64 x] w fun e w' => e = .returned (.bool false) ∧ w = w' := by
  go_enter Tryd.func133, Tryd.ntmps133
  go_wp2
  go_ret
  exact ⟨by simp, rfl⟩
set_option maxRecDepth 100000 in
set_option maxHeartbeats 4000000 in
theorem compare_walk (x y : Int) (w : World) : Calls Tryd.prog 101 #[.int .i64 x, .int .i64 y] w fun e w' => e = .returned (.int .i64 (cmpZ x y)) ∧ w = w' := by
  have N1 := Lib.hid (fun z X => isNaN_walk z X)
  unfold cmpZ
  by_cases c1 : x < y
  · rw [if_pos c1]
    go_enter Tryd.func101, Tryd.ntmps101
    go_wp2_with (go_at_call 133; (with_reducible refine (N1.out _ _).mono ?_); rintro e w1 ⟨rfl, rfl⟩)
    go_ret
    exact ⟨rfl, rfl⟩
  · rw [if_neg c1]
    by_cases c2 : y < x
    · rw [if_pos c2]
      have d1 : decide (x < y) = false := decide_eq_false c1
      go_enter Tryd.func101, Tryd.ntmps101
      go_wp2_with (go_at_call 133; (with_reducible refine (N1.out _ _).mono ?_); rintro e w1 ⟨rfl, rfl⟩)
      go_ret
      exact ⟨rfl, rfl⟩
    · rw [if_neg c2]
      have d1 : decide (x < y) = false := decide_eq_false c1
      have d2 : decide (y < x) = false := decide_eq_false c2
      go_enter Tryd.func101, Tryd.ntmps101
      go_wp2_with (go_at_call 133; (with_reducible refine (N1.out _ _).mono ?_); rintro e w1 ⟨rfl, rfl⟩)
      go_ret
      exact ⟨rfl, rfl⟩
set_option maxRecDepth 100000 in
set_option maxHeartbeats 4000000 in
theorem toCmp_walk (a b x : Int) (w : World) (h1 : -2305843009213693952 ≤ x) (h2 : x ≤ 2305843009213693952) : Calls Tryd.prog 129 #[.agg #[.int .i64 a, .int .i64 b], .int .i64 x] w fun e w' => e = .returned (.int .i64 (cmpZ b (x + 1))) ∧ Below w.heap.size w w' := by
  have CW := Lib.hid (fun X => compare_walk b (x + 1) X)
  go_enter Tryd.func129, Tryd.ntmps129
  go_wp2_with (go_at_call 101; (with_reducible refine (CW.out _).mono ?_); rintro e w1 ⟨rfl, rfl⟩)
  go_ret
  exact ⟨rfl, by (repeat (with_reducible first | exact grow_refl _ | refine Grow.grow_drewN ?_ _ | refine Grow.grow_drew ?_ | refine Grow.grow_setCell ?_ ?_ _ | refine Grow.grow_alloc ?_ _)) <;> omega⟩
end Go.Proofs.YtlfpfeidaohjmaaDoor
/- Spans: where an instant stands in a list (slices.BinarySearchFunc); whether a list has it (joined's closure). -/
set_option linter.unusedSimpArgs false
set_option linter.unusedVariables false
namespace Go.Proofs.YtlfpfeidaohjmaaDoor
open Go.RowKit Go.Grow

/-- The ends rise. -/
def Ends (l : List (Int × Int)) : Prop := ∀ i j (hi : i < j) (hj : j < l.length), (l[i]'(by omega)).2 ≤ l[j].2
def SearchPost (l : List (Int × Int)) (x : Int) (w : World) (e : Ending) (w' : World) : Prop :=
  ∃ (i : Nat) (b : Bool), e = .returned (.tuple #[.int .i64 i, .bool b]) ∧ i ≤ l.length ∧ (∀ j (hj : j < l.length), j < i → l[j].2 ≤ x) ∧ (∀ j (hj : j < l.length), i ≤ j → x < l[j].2) ∧ Below w.heap.size w w'
set_option maxRecDepth 100000 in
set_option maxHeartbeats 8000000 in
theorem search_walk (r : Option Addr) (l : List (Int × Int)) (cap : Nat) (x : Int) (w : World) (h1 : -2305843009213693952 ≤ x) (h2 : x ≤ 2305843009213693952) (hl : l.length ≤ 1000000) (hr : SpAt w r l) (hE : Ends l) :
    Calls Tryd.prog 128 #[.slice r l.length cap, .int .i64 x, .func (.func 129) #[] #[]] w (SearchPost l x w) := by
  have HR := Lib.hid hr
  have HE := Lib.hid hE
  have TC := Lib.hid (fun a b X => toCmp_walk a b x X h1 h2)
  clear hr hE h1 h2
  go_enter Tryd.func128, Tryd.ntmps128
  go_wp2
  go_loopw [9, 10] (fun v9 v10 wr => ∃ i j : Nat, i ≤ j ∧ j ≤ l.length ∧ v9 = .int .i64 i ∧ v10 = .int .i64 j ∧ Hid (∀ k (hk : k < l.length), k < i → l[k].2 ≤ x) ∧ Hid (∀ k (hk : k < l.length), j ≤ k → x < l[k].2) ∧ Below w.heap.size w wr) (fun i j _ => (intOf j).toNat - (intOf i).toNat)
  case atStart => exact ⟨0, l.length, Nat.zero_le _, Nat.le_refl _, rfl, rfl, Lib.hid fun k hk h => absurd h (by omega), Lib.hid fun k hk h => absurd hk (by omega), Below.refl _ _⟩
  case round =>
    obtain ⟨i, j, hij, hjl, rfl, rfl, LO, UP, hg⟩ := hrel
    have G := Lib.hid hg
    clear hg
    by_cases hlt : i < j
    · obtain ⟨m, hm⟩ : ∃ m, (i + j) / 2 = m := ⟨_, rfl⟩
      have hmi : i ≤ m := by omega
      have hmj : m < j := by omega
      have e4 : IntKind.u64.wrap ((i : Int) + (j : Int)) / 2 = (m : Int) := by
        rw [show IntKind.u64.wrap ((i : Int) + (j : Int)) = (i : Int) + (j : Int) from IntWalk.u64_in _ (by omega)]; omega
      have e5 : ((i : Int) + (j : Int)) / 2 = (m : Int) := by omega
      have hml : m < l.length := by omega
      have SP := HR.out.below G.out
      obtain ⟨b1, o1, rfl, hc⟩ := SP.resolve_left (by intro h; rw [h] at hml; exact absurd hml (by simp))
      obtain ⟨d0, d1⟩ := hc m hml
      have hi0 : (0 : Int) ≤ (m : Int) := by omega
      have hi1 : (m : Int) < (l.length : Int) := by omega
      clear hc SP
      obtain ⟨⟨xa, xb⟩, hx⟩ : ∃ y, l[m] = y := ⟨_, rfl⟩
      rw [hx] at d0 d1
      simp only at d0 d1
      have TCm := Lib.hid (fun X => TC.out xa xb X)
      by_cases c : xb < x + 1
      · have e6 : cmpZ xb (x + 1) = -1 := by unfold cmpZ; rw [if_pos c]
        rw [e6] at TCm
        have LO2 := Lib.hid (show ∀ k (hk : k < l.length), k < m + 1 → l[k].2 ≤ x from fun k hk h => by
          rcases Nat.lt_or_ge k m with h3 | h3
          · have h5 := HE.out k m h3 hml
            rw [hx] at h5
            simp only at h5
            omega
          · obtain rfl : k = m := by omega
            rw [hx]; simp only; omega)
        clear c e6 hx
        go_wp2_with (go_at_call 129; (with_reducible refine (TCm.out _).mono ?_); rintro e w1 ⟨rfl, hb⟩; have HB := Lib.hid (grow_trans G.out hb); clear hb)
        go_roundw
        case rel => exact ⟨m + 1, j, by omega, hjl, by go_num, rfl, LO2, UP, HB.out⟩
        case measure => simp [intOf]; omega
      · have e6 : ¬ (cmpZ xb (x + 1) < 0) := by
          unfold cmpZ; rw [if_neg c]; split <;> omega
        generalize cmpZ xb (x + 1) = z at TCm e6
        have e7 : decide (z < 0) = false := decide_eq_false e6
        have UP2 := Lib.hid (show ∀ k (hk : k < l.length), m ≤ k → x < l[k].2 from fun k hk h => by
          rcases Nat.lt_or_ge m k with h3 | h3
          · have h5 := HE.out m k h3 hk
            rw [hx] at h5
            simp only at h5
            omega
          · obtain rfl : k = m := by omega
            rw [hx]; simp only; omega)
        clear c e6 hx
        go_wp2_with (go_at_call 129; (with_reducible refine (TCm.out _).mono ?_); rintro e w1 ⟨rfl, hb⟩; have HB := Lib.hid (grow_trans G.out hb); clear hb)
        go_roundw
        case rel => exact ⟨i, m, hmi, by omega, rfl, by go_num, LO, UP2, HB.out⟩
        case measure => simp [intOf]; omega
    · obtain rfl : i = j := by omega
      by_cases c : i < l.length
      · have SP := HR.out.below G.out
        obtain ⟨b1, o1, rfl, hc⟩ := SP.resolve_left (by intro h; rw [h] at c; exact absurd c (by simp))
        obtain ⟨d0, d1⟩ := hc i c
        have hi0 : (0 : Int) ≤ (i : Int) := by omega
        have hi1 : (i : Int) < (l.length : Int) := by omega
        clear hc SP
        have UPi := UP
        generalize l[i] = y at d0 d1
        obtain ⟨xa, xb⟩ := y
        simp only at d0 d1
        have TCm := Lib.hid (fun X => TC.out xa xb X)
        generalize cmpZ xb (x + 1) = z at TCm
        go_wp2_with (go_at_call 129; (with_reducible refine (TCm.out _).mono ?_); rintro e w1 ⟨rfl, hb⟩; have HB := Lib.hid (grow_trans G.out hb); clear hb)
        go_ret2
        exact ⟨i, _, rfl, hjl, LO.out, UP.out, HB.out⟩
      · go_wp2
        go_ret2
        exact ⟨i, _, rfl, hjl, LO.out, UP.out, G.out⟩
end Go.Proofs.YtlfpfeidaohjmaaDoor
/- Spans: whether a list has an instant (joined's closure). -/
set_option linter.unusedSimpArgs false
set_option linter.unusedVariables false
namespace Go.Proofs.YtlfpfeidaohjmaaDoor
open Go.RowKit Go.Grow

theorem rise_of_fine {l : List (Int × Int)} (h : fineB l = true) : Rise l := fun k hk => by
  obtain ⟨h1, _, _, h4⟩ := fine_at h k hk
  exact ⟨h1, h4⟩
theorem apart {l : List (Int × Int)} (h : Rise l) (i : Nat) : ∀ (d : Nat) (hd : i + d + 1 < l.length), (l[i]'(by omega)).2 < (l[i + d + 1]'hd).1
  | 0, hd => (h (i + 1) hd).2 i rfl
  | d + 1, hd => by
    have h1 := apart h i d (by omega)
    have h2 := (h (i + d + 1) (by omega)).1
    have h3 := (h (i + d + 1 + 1) hd).2 (i + d + 1) rfl
    show (l[i]'(by omega)).2 < (l[i + d + 1 + 1]'hd).1
    omega
theorem apart2 {l : List (Int × Int)} (h : Rise l) {i j : Nat} (hi : i < j) (hj : j < l.length) : (l[i]'(by omega)).2 < l[j].1 := by
  obtain ⟨d, rfl⟩ : ∃ d, j = i + d + 1 := ⟨j - i - 1, by omega⟩
  exact apart h i d hj
theorem ends_of_rise {l : List (Int × Int)} (h : Rise l) : Ends l := fun i j hi hj => by
  have h1 := apart2 h hi hj
  have h2 := (h j hj).1
  omega
theorem has_eq {l : List (Int × Int)} (h : Rise l) {x : Int} {i : Nat} (hi : i ≤ l.length) (lo : ∀ j (hj : j < l.length), j < i → l[j].2 ≤ x) (up : ∀ j (hj : j < l.length), i ≤ j → x < l[j].2) :
    inSp l x = if hi : i < l.length then decide (l[i].1 ≤ x) else false := by
  split
  · rename_i hi
    have u := up i hi (Nat.le_refl _)
    by_cases c : l[i].1 ≤ x
    · rw [decide_eq_true c]
      unfold inSp
      rw [List.any_eq_true]
      exact ⟨l[i], List.getElem_mem hi, by simp [c, u]⟩
    · rw [decide_eq_false c]
      unfold inSp
      rw [List.any_eq_false]
      intro y hy
      obtain ⟨j, hj, rfl⟩ := List.mem_iff_getElem.1 hy
      rcases Nat.lt_trichotomy j i with h1 | h1 | h1
      · have := lo j hj h1
        simp; intro _; omega
      · subst h1; simp [c]
      · have h2 := apart2 h h1 hj
        simp; intro _; omega
  · unfold inSp
    rw [List.any_eq_false]
    intro y hy
    obtain ⟨j, hj, rfl⟩ := List.mem_iff_getElem.1 hy
    have := lo j hj (by omega)
    simp; intro _; omega
set_option maxRecDepth 100000 in
set_option maxHeartbeats 8000000 in
theorem has_walk (r : Option Addr) (l : List (Int × Int)) (cap : Nat) (x : Int) (w : World) (h1 : -2305843009213693952 ≤ x) (h2 : x ≤ 2305843009213693952) (hl : l.length ≤ 1000000) (hr : SpAt w r l) (hR : Rise l) :
    Calls Tryd.prog 127 #[.slice r l.length cap, .int .i64 x] w fun e w' => e = .returned (.bool (inSp l x)) ∧ Below w.heap.size w w' := by
  have SW := Lib.hid (search_walk r l cap x w h1 h2 hl hr (ends_of_rise hR))
  unfold SearchPost at SW
  have HR := Lib.hid hr
  have RI := Lib.hid hR
  clear hr hR h1 h2
  go_enter Tryd.func127, Tryd.ntmps127
  go_upto_region 2 with (go_at_call 128; (with_reducible refine SW.out.mono ?_); rintro e w1 ⟨i, b, rfl, hi, lo, up, hb⟩; have HB := Lib.hid hb; have EQ := Lib.hid (has_eq RI.out hi lo up); clear hb lo up)
  by_cases c : i < l.length
  · have SP := HR.out.below HB.out
    obtain ⟨b1, o1, rfl, hc⟩ := SP.resolve_left (by intro h; rw [h] at c; exact absurd c (by simp))
    obtain ⟨d0, d1⟩ := hc i c
    have E2 := Lib.hid (show inSp l x = decide (l[i].1 ≤ x) by rw [EQ.out, dif_pos c])
    have hi0 : (0 : Int) ≤ (i : Int) := by omega
    have hi1 : (i : Int) < (l.length : Int) := by omega
    clear hc SP EQ
    generalize l[i] = y at d0 d1 E2
    obtain ⟨xa, xb⟩ := y
    simp only at d0 d1
    go_wp2
    go_ret
    exact ⟨by rw [E2.out]; rfl, HB.out⟩
  · have E2 := Lib.hid (show inSp l x = false by rw [EQ.out, dif_neg c])
    go_wp2
    go_ret
    exact ⟨by rw [E2.out]; rfl, HB.out⟩
end Go.Proofs.YtlfpfeidaohjmaaDoor
