/- ShiftGuess: the program's guess of rows that are wrong; what it finds, by the plain law. -/
import Derived.Test.YtaakbajhbmbhcaaDoorGu4
import Derived.Test.YtaakbajhbmbhcaaDoorGf9
import Derived.Test.YtaakbajhbmbhcaaDoorSx7
set_option linter.unusedSimpArgs false
set_option linter.unusedVariables false
namespace Go.Proofs.YtaakbajhbmbhcaaDoor
open Go.RowKit Go.Fl Go.Grow Go.Tr

def guessE (n m : Nat) (x y : Nat → Int) : Nat := if rowsE n m x y = 0 then (if isP2 n then 0 else 5) else rowsE n m x y
theorem guessE_le (n m : Nat) (x y : Nat → Int) : guessE n m x y ≤ 10 := by
  unfold guessE rowsE
  repeat' split
  all_goals omega
set_option maxRecDepth 100000 in
set_option maxHeartbeats 8000000 in
theorem guess_no (a : Nat → Addr) (r1 r2 : Option Addr) (n m cap1 cap2 : Nat) (x y : Nat → Int) (w : World) (hn : n ≤ 9223372036854775807) (hm : m ≤ 9223372036854775807) (hs : Sen a [2, 5] w) (h1 : IntsAt w r1 n x) (h2 : IntsAt w r2 m y) (hE : guessE n m x y ≠ 0) :
    Calls Tryd.prog 29 #[.slice r1 n cap1, .slice r2 m cap2] w fun e w' => e = .returned (.tuple #[.int .i64 0, errV a (guessE n m x y)]) ∧ Below w.heap.size w w' := by
  unfold guessE at hE ⊢
  have RW := Lib.hid (rows_walk a r1 r2 n m cap1 cap2 x y w hn hm hs h1 h2)
  by_cases h0 : rowsE n m x y = 0
  · rw [if_pos h0] at hE ⊢
    obtain ⟨rfl, hn2, _⟩ := rowsE_yes h0
    rw [h0, errV_zero] at RW
    have hp : isP2 n = false := by
      cases h : isP2 n with
      | true => rw [h] at hE; simp at hE
      | false => rfl
    rw [hp]
    simp only [Bool.false_eq_true, if_false]
    have TW := Lib.hid (fun X => show Calls Tryd.prog 32 #[.int .i64 n] X fun e w' => e = .returned (.bool false) ∧ X = w' by
      have h := two_walk n X hn2
      rwa [hp] at h)
    have SS := Lib.hid (fun X (hX : Below w.heap.size w X) => ((hs.below hX) 5 (by decide)).1)
    have HE5 := Lib.hid (errV_pos a (show 5 ≠ 0 by decide))
    rw [HE5.out]
    clear hs h1 h2 hE h0 hp
    go_enter Tryd.func29, Tryd.ntmps29
    go_wp2_with (first
      | (go_at_call 42; (with_reducible refine RW.out.mono ?_); rintro e w1 ⟨rfl, hb⟩; have HB := Lib.hid hb; have c5 := SS.out _ hb; (try simp only [gOf] at c5); clear hb SS)
      | (go_at_call 32; (with_reducible refine (TW.out _).mono ?_); rintro e w2 ⟨rfl, rfl⟩))
    go_quiet (fail)
    go_wp2
    go_ret2
    exact ⟨rfl, (by (repeat (with_reducible first | exact HB.out | refine Grow.grow_drewN ?_ _ | refine Grow.grow_drew ?_)))⟩
  · rw [if_neg h0]
    obtain ⟨u, hu⟩ := errV_pos2 a h0
    rw [hu] at RW ⊢
    clear hs h1 h2 hE hu h0
    go_enter Tryd.func29, Tryd.ntmps29
    go_wp2_with (go_at_call 42; (with_reducible refine RW.out.mono ?_); rintro e w1 ⟨rfl, hb⟩; have HB := Lib.hid hb; clear hb)
    go_ret2
    exact ⟨rfl, HB.out⟩
/-! What it finds. -/
theorem fastC_is (b : Bool) : ∀ (m : Nat) (X : Nat → C2), fastZ b m X = Fe.fastC b m X
  | 0, X => rfl
  | m + 1, X => by
    funext k
    show (if k < 2 ^ m then _ else _) = (if k < 2 ^ m then _ else _)
    rw [fastC_is b m, fastC_is b m]
    rfl
theorem best_is (D : Nat → Option Nat) : ∀ n, bestU D n = Fe.bestF D n
  | 0 => rfl
  | n + 1 => by
    show (if flt (D (bestU D n)) (D n) then n else bestU D n) = (if flt (D (Fe.bestF D n)) (D n) then n else Fe.bestF D n)
    rw [best_is D n]
theorem guessZ_is (m n : Nat) (x y : Nat → Int) : guessZ m n x y = Fe.bestF (fun j => (Fe.shrC n (Fe.guessC m x y j)).re) n := by
  unfold guessZ
  rw [best_is]
  congr 1
  funext j
  show (shr n (fastZ true m (QC (fastZ false m (XC x)) (fastZ false m (XC y))) j)).re = _
  rw [fastC_is, fastC_is, fastC_is]
  rfl
theorem farB_le {z : Int} (h : farB z = false) : z.natAbs ≤ 1048576 := by
  simp only [farB, Bool.or_eq_false_iff, decide_eq_false_iff_not] at h
  omega
theorem cross_isum {x y : Nat → Int} {n s : Nat} (hx : ∀ i, i < n → (x i).natAbs ≤ 1048576) (hy : ∀ i, i < n → (y i).natAbs ≤ 1048576) (hn : n ≤ 256) : ∀ i, i ≤ n →
    crossUp x y n s i = Fe.isum (fun k => x k * y ((k + s) % n)) i ∧ (crossUp x y n s i).natAbs ≤ i * 1099511627776
  | 0, _ => ⟨rfl, by simp [crossUp]⟩
  | i + 1, hi => by
    obtain ⟨e, b⟩ := cross_isum hx hy hn i (by omega)
    have p1 := hx i (by omega)
    have p2 := hy ((i + s) % n) (Nat.mod_lt _ (by omega))
    have p3 : (x i * y ((i + s) % n)).natAbs ≤ 1099511627776 := by
      rw [Int.natAbs_mul]
      exact Nat.le_trans (Nat.mul_le_mul p1 p2) (by decide)
    have b2 : i * 1099511627776 ≤ 256 * 1099511627776 := Nat.mul_le_mul_right _ (by omega)
    have w1 : wrap64 (x i * y ((i + s) % n)) = x i * y ((i + s) % n) := IntWalk.wrap64_in _ (by omega)
    have gen : ∀ P Q : Int, P.natAbs ≤ 256 * 1099511627776 → Q.natAbs ≤ 1099511627776 → wrap64 (P + Q) = P + Q := fun P Q h1 h2 => IntWalk.wrap64_in _ (by omega)
    have w2 := gen _ _ (Nat.le_trans b b2) p3
    have step : crossUp x y n s (i + 1) = crossUp x y n s i + x i * y ((i + s) % n) := by
      show wrap64 (crossUp x y n s i + wrap64 (x i * y ((i + s) % n))) = _
      rw [w1, w2]
    rw [step]
    refine ⟨by rw [e]; rfl, ?_⟩
    have : (i + 1) * 1099511627776 = i * 1099511627776 + 1099511627776 := by omega
    omega
/-- A row that was shifted by s. -/
def movZ (x : Nat → Int) (n s : Nat) (i : Nat) : Int := x ((i + n - s) % n)
theorem guess_moved {m n : Nat} (hm : 2 ^ m = n) (hn : n ≤ 256) {x : Nat → Int} {s : Nat} (hs : s < n) (hx : ∀ i, i < n → (x i).natAbs ≤ 1048576)
    (h : ∀ j, j < n → j ≠ s → 2 * crossZ x (movZ x n s) n j < crossZ x (movZ x n s) n s) : guessZ m n x (movZ x n s) = s := by
  have hp : m < 9 := by
    refine Nat.lt_of_not_le fun h9 => ?_
    have := Nat.pow_le_pow_right (n := 2) (by decide) h9
    omega
  have hy : ∀ i, i < n → (movZ x n s i).natAbs ≤ 1048576 := fun i hi => hx _ (Nat.mod_lt _ (by omega))
  rw [guessZ_is]
  refine Fe.guess_is hp hm hs hx (fun i _ => rfl) fun j hj hne => ?_
  have := h j hj hne
  unfold crossZ at this
  rwa [(cross_isum hx hy hn n (Nat.le_refl n)).1, (cross_isum hx hy hn n (Nat.le_refl n)).1] at this
def z0500 (k : Nat) : Int := if k = 1 then 5 else 0
def z0050 (k : Nat) : Int := if k = 2 then 5 else 0
theorem z_moved : ∀ i, i < 4 → movZ z0500 4 1 i = z0050 i := by decide
theorem guess_first : guessZ 2 4 z0500 z0050 = 1 := by
  rw [guessZ_is]
  exact Fe.guess_is (p := 2) (n := 4) (s := 1) (by decide) rfl (by decide) (by decide) (fun i hi => (z_moved i hi).symm) (by decide)
def W4 (w : World) : World := (w.alloc (.cells #[.int .i64 0, .int .i64 5, .int .i64 0, .int .i64 0] 3)).alloc (.cells #[.int .i64 0, .int .i64 0, .int .i64 5, .int .i64 0] 3)
theorem grow_W4 (w : World) : Below w.heap.size w (W4 w) := grow_alloc (grow_alloc (grow_refl w) _) _
theorem first_guess (a : Nat → Addr) (w : World) (hs : Sen a [2, 5] w) :
    Calls Tryd.prog 29 #[.slice (some ⟨w.heap.size, 0, none⟩) 4 4, .slice (some ⟨w.heap.size + 1, 0, none⟩) 4 4] (W4 w) fun e w' => e = .returned (.tuple #[.int .i64 1, .nilIface]) ∧ Below w.heap.size w w' := by
  have k1 : IntsAt (W4 w) (some ⟨w.heap.size, 0, none⟩) 4 z0500 := ints_of_known ((Known.new w _ _).alloc _) fun k hk => by
    have : k = 0 ∨ k = 1 ∨ k = 2 ∨ k = 3 := by omega
    rcases this with rfl | rfl | rfl | rfl <;> rfl
  have k2 : IntsAt (W4 w) (some ⟨w.heap.size + 1, 0, none⟩) 4 z0050 := ints_of_known (Known.new' (by simp)) fun k hk => by
    have : k = 0 ∨ k = 1 ∨ k = 2 ∨ k = 3 := by omega
    rcases this with rfl | rfl | rfl | rfl <;> rfl
  have h := guess_yes a (some ⟨w.heap.size, 0, none⟩) (some ⟨w.heap.size + 1, 0, none⟩) 2 4 4 4 z0500 z0050 (W4 w) (hs.below (grow_W4 w)) k1 k2 (by decide) rfl (by decide)
  rw [guess_first] at h
  exact h.mono fun e w' hh => ⟨hh.1, grow_trans (grow_W4 w) hh.2⟩
end Go.Proofs.YtaakbajhbmbhcaaDoor
