/- Mild floats, sizes, whether a length is a power of two: walks. -/
import Derived.Test.YtaakbajhbmbhcaaDoorWv7
import Derived.Test.YtaakbajhbmbhcaaDoorWf4
import Derived.Test.YtaakbajhbmbhcaaDoorFf8
import Derived.Deep.LoopGhost
import Derived.LoopTactic
import Derived.Outline
import Derived.Deep.RegionWith
set_option linter.unusedSimpArgs false
set_option linter.unusedVariables false
namespace Go.Proofs.YtaakbajhbmbhcaaDoor
open Go.RowKit Go.Fl Go.Grow Go.Tr

def MildPost (X : Option Nat) (v : Value) : Prop := ∃ r, v = .bool r ∧ (r = true → Fe.mildF X = true)
set_option maxHeartbeats 4000000 in
theorem mild_walk (a : Nat) (w : World) : Calls Tryd.prog 11 #[.float .f64 a] w (Post (MildPost (fl a)) w) := by
  have key := Fe.mildF_fl a
  have HK := Lib.hid key
  clear key
  cases h : FloatKind.f64.format.order a 0 == some Ordering.lt
  all_goals
    go_enter Tryd.func11, Tryd.ntmps11
    go_wp2
    all_goals
      go_ret
      refine Post.mk (T := MildPost (fl a)) ⟨_, rfl, fun hr => ?_⟩ (Grow.grow_refl _)
      have h' : (Ieee.double.order a 0 == some Ordering.lt) = _ := h
      have ef : FloatKind.f64.format = Ieee.double := rfl
      rw [HK.out, h']
      show Fe.mildO _ = true
      unfold Fe.mildO
      simp only [ef] at *
      simp_all
theorem absF_fl (a : Nat) : Fe.absF (fl a) = fl (if Ieee.double.order a 0 == some .lt then Op.negFloat .f64 a else a) := by
  have e0 : fl 0 = some 0 := by decide +kernel
  unfold Fe.absF flt
  rw [← e0, ← order_fl]
  split
  · rw [fl_neg]
  · rfl
set_option maxHeartbeats 4000000 in
theorem msize_walk (a : Nat) (w : World) : Calls Tryd.prog 12 #[.float .f64 a] w (Post (IsF (Fe.absF (fl a))) w) := by
  have HK := Lib.hid (absF_fl a)
  cases h : FloatKind.f64.format.order a 0 == some Ordering.lt
  all_goals
    go_enter Tryd.func12, Tryd.ntmps12
    go_wp2
    go_ret
    refine Post.mk (T := IsF (Fe.absF (fl a))) ⟨_, rfl, ?_⟩ (Grow.grow_refl _)
    have h' : (Ieee.double.order a 0 == some Ordering.lt) = _ := h
    rw [HK.out, h']
    rfl
def AnyB (e : Ending) : Prop := ∃ b, e = .returned (.bool b)
set_option maxRecDepth 100000 in
set_option maxHeartbeats 4000000 in
theorem isTwo_some (n : Nat) (hn : n ≤ 9223372036854775807) (w : World) : Calls Tryd.prog 10 #[.int .i64 n] w fun e w' => AnyB e ∧ w = w' := by
  go_enter Tryd.func10, Tryd.ntmps10
  go_wp2
  go_loop [0] (fun v0 => ∃ m : Nat, v0 = .int .i64 m ∧ m ≤ 9223372036854775807) (fun i => (intOf i).toNat)
  case atStart => exact ⟨n, rfl, hn⟩
  case round =>
    obtain ⟨m, rfl, hm⟩ := hrel
    by_cases h1 : 1 < m
    · by_cases h2 : m % 2 = 0
      · have d2 : ((m : Int) % 2 == 0) = true := by simp; omega
        go_wp2
        go_round
        case rel => exact ⟨m / 2, by congr 1, by omega⟩
        case measure => simp [intOf]; omega
      · have d2 : ((m : Int) % 2 == 0) = false := by simp; omega
        go_wp2
        all_goals
          go_ret
          exact ⟨⟨_, rfl⟩, rfl⟩
    · have d1 : decide (1 < (m : Int)) = false := decide_eq_false (by omega)
      go_wp2
      all_goals
        go_ret
        exact ⟨⟨_, rfl⟩, rfl⟩
theorem order_swap (a b : Ieee.Datum) : (a.order b == some .gt) = (b.order a == some .lt) := by
  cases a with
  | nan s f => cases b <;> rfl
  | infinity s => cases b with
    | nan => rfl
    | infinity t => cases s <;> cases t <;> rfl
    | number t n j => cases s <;> rfl
  | number s m i => cases b with
    | nan => rfl
    | infinity t => cases t <;> rfl
    | number t n j =>
      show (some (compare _ _) == some .gt) = (some (compare _ _) == some .lt)
      rw [Int.min_comm j i]
      generalize Ieee.signed s m (i - min i j).toNat = x
      generalize Ieee.signed t n (j - min i j).toNat = y
      rcases Int.lt_trichotomy x y with h | h | h
      · rw [Int.compare_eq_lt.2 h, Int.compare_eq_gt.2 h]; rfl
      · subst h; rw [Int.compare_eq_eq.2 rfl]; rfl
      · rw [Int.compare_eq_gt.2 h, Int.compare_eq_lt.2 h]; rfl
/-- A test 'a > b'. -/
theorem gt_flt {a b : Nat} {X Y : Option Nat} (ha : fl a = X) (hb : fl b = Y) : (FloatKind.f64.format.order a b == some Ordering.gt) = flt Y X := by
  have e : (FloatKind.f64.format.order a b == some Ordering.gt) = (Ieee.double.order b a == some Ordering.lt) := order_swap _ _
  rw [e, order_fl, hb, ha]
  rfl
end Go.Proofs.YtaakbajhbmbhcaaDoor
/- ShiftInverse: the first loop: the greatest part, whether all is mild. -/
set_option linter.unusedSimpArgs false
set_option linter.unusedVariables false
namespace Go.Proofs.YtaakbajhbmbhcaaDoor
open Go.RowKit Go.Fl Go.Grow Go.Tr

theorem fast_is (b : Bool) : ∀ (m : Nat) (X : Nat → C2), fastZ b m X = Fe.fastC b m X
  | 0, X => rfl
  | m + 1, X => by
    funext k
    show (if k < 2 ^ m then _ else _) = (if k < 2 ^ m then _ else _)
    rw [fast_is b m, fast_is b m]
    rfl
theorem up_is (X : Nat → C2) (n : Nat) (b : Bool) (k : Nat) : ∀ j, wUp X n b k j = Fe.upC X n b k j
  | 0 => rfl
  | j + 1 => by
    show cadd (wUp X n b k j) _ = Fe.addC (Fe.upC X n b k j) _
    rw [up_is X n b k j]
    rfl
/-- The law at a row of numbers X: what its tests ask. -/
theorem inverse_tests {p n : Nat} (hn : 2 ^ p = n) (h64 : n ≤ 64) {X : Nat → C2} (hm : ∀ j, j < n → Fe.mildF (X j).re = true ∧ Fe.mildF (X j).im = true) {k : Nat} (hk : k < n) :
    (flt (fmul (fl 4427038433705197568) (Fe.mostUp X n)) (Fe.absF (fsub (fstZ n p true (fastZ false p X) k).re (X k).re)) = false ∧
    flt (fmul (fl 4427038433705197568) (Fe.mostUp X n)) (Fe.absF (fsub (fstZ n p true (fastZ false p X) k).im (X k).im)) = false) ∧
    flt (fmul (fmul (fl 4463067230724161536) (ofI (n : Int))) (Fe.mostUp X n)) (Fe.absF (fsub (wavZ X n false k).re (fastZ false p X k).re)) = false ∧
    flt (fmul (fmul (fl 4463067230724161536) (ofI (n : Int))) (Fe.mostUp X n)) (Fe.absF (fsub (wavZ X n false k).im (fastZ false p X k).im)) = false := by
  subst hn
  have hp : p < 7 := by
    rcases Nat.lt_or_ge p 7 with h | h
    · exact h
    · have : 2 ^ 7 ≤ 2 ^ p := Nat.pow_le_pow_right (by decide) h
      omega
  obtain ⟨h1, h2, h3, h4⟩ := Fe.inverse_good hp hm hk
  rw [fast_is, ]
  have e1 : fstZ (2 ^ p) p true (Fe.fastC false p X) k = Fe.shrC (2 ^ p) (Fe.fastC true p (Fe.fastC false p X) k) := by
    show shr (2 ^ p) (fastZ true p (Fe.fastC false p X) k) = _
    rw [fast_is]; rfl
  have e2 : wavZ X (2 ^ p) false k = Fe.upC X (2 ^ p) false k (2 ^ p) := up_is X _ _ _ _
  rw [e1, e2]
  exact ⟨⟨h1, h2⟩, h3, h4⟩
/-- At the first loop's head. -/
def MaxRel (X : Nat → C2) (n : Nat) (w : World) (v5 v6 : Value) (wr : World) : Prop :=
  ∃ k mw : Nat, k ≤ n ∧ v6 = .int .i64 k ∧ v5 = .float .f64 mw ∧ fl mw = Fe.mostUp X k ∧ (∀ j, j < k → Fe.mildF (X j).re = true ∧ Fe.mildF (X j).im = true) ∧ Below w.heap.size w wr
theorem most_next {X : Nat → C2} {k a b m m1 m2 : Nat} (hm : fl m = Fe.mostUp X k) (ha : fl a = (X k).re) (hb : fl b = (X k).im) (h1 : fl m1 = if flt (fl m) (Fe.absF (fl a)) then Fe.absF (fl a) else fl m) (h2 : fl m2 = if flt (fl m1) (Fe.absF (fl b)) then Fe.absF (fl b) else fl m1) : fl m2 = Fe.mostUp X (k + 1) := by
  show _ = Fe.bigF (Fe.bigF (Fe.mostUp X k) (X k).re) (X k).im
  unfold Fe.bigF
  rw [h2, h1, hm, ha, hb]
end Go.Proofs.YtaakbajhbmbhcaaDoor
