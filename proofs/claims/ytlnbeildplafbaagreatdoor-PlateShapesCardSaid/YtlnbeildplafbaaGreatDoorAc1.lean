/- Cells of directions: the plain law (half by half is at once). Nothing of a program stands here. -/
set_option linter.unusedSimpArgs false
set_option linter.unusedVariables false
namespace Go.Atl

/-- A number from -m to m, half by half. -/
def stripUp (u m : Int) : Nat → Int
  | 0 => 0
  | i + 1 => 2 * stripUp u m i + if (2 * (2 * stripUp u m i + 1) - 2 ^ (i + 1)) * m ≤ u * 2 ^ (i + 1) then 1 else 0
def place (u m n : Int) : Int := min ((u + m) * n / (2 * m)) (n - 1)

theorem pow_pos' (i : Nat) : (0 : Int) < 2 ^ i := by
  induction i with
  | zero => decide
  | succ i ih => rw [Int.pow_succ]; omega
/-- What its strip is told by. -/
theorem strip_spec (u m : Int) (hm : 0 < m) (h1 : -m ≤ u) (h2 : u ≤ m) : ∀ i, 0 ≤ stripUp u m i ∧ stripUp u m i ≤ 2 ^ i - 1 ∧ 2 * m * stripUp u m i ≤ (u + m) * 2 ^ i ∧ ((u + m) * 2 ^ i < 2 * m * (stripUp u m i + 1) ∨ stripUp u m i = 2 ^ i - 1)
  | 0 => by
    refine ⟨Int.le_refl _, by show (0 : Int) ≤ 1 - 1; decide, ?_, .inr rfl⟩
    show 2 * m * 0 ≤ (u + m) * 1
    omega
  | i + 1 => by
    obtain ⟨a1, a2, a3, a4⟩ := strip_spec u m hm h1 h2 i
    have hp := pow_pos' i
    have e : (2 : Int) ^ (i + 1) = 2 * 2 ^ i := by rw [Int.pow_succ, Int.mul_comm]
    have hs : stripUp u m (i + 1) = 2 * stripUp u m i + if (2 * (2 * stripUp u m i + 1) - 2 ^ (i + 1)) * m ≤ u * 2 ^ (i + 1) then 1 else 0 := rfl
    rw [hs, e]
    generalize stripUp u m i = c at *
    generalize (2 : Int) ^ i = p at *
    have k1 : (2 * (2 * c + 1) - 2 * p) * m = 2 * (2 * m * c) + 2 * m - 2 * (m * p) := by grind
    have k2 : u * (2 * p) = 2 * (u * p) := by grind
    have k3 : (u + m) * (2 * p) = 2 * ((u + m) * p) := by grind
    have k4 : (u + m) * p = u * p + m * p := by grind
    rw [k1, k2, k3]
    by_cases c1 : 2 * (2 * m * c) + 2 * m - 2 * (m * p) ≤ 2 * (u * p)
    · rw [if_pos c1]
      have k5 : 2 * m * (2 * c + 1) = 2 * (2 * m * c) + 2 * m := by grind
      have k6 : 2 * m * (2 * c + 1 + 1) = 2 * (2 * m * (c + 1)) := by grind
      refine ⟨by omega, by omega, by omega, ?_⟩
      rcases a4 with a4 | a4
      · left; omega
      · right; omega
    · rw [if_neg c1]
      have k5 : 2 * m * (2 * c + 0) = 2 * (2 * m * c) := by grind
      have k6 : 2 * m * (2 * c + 0 + 1) = 2 * (2 * m * c) + 2 * m := by grind
      refine ⟨by omega, by omega, by omega, .inl ?_⟩
      omega
theorem place_of_spec {u m n c : Int} (hm : 0 < m) (h0 : 0 ≤ c) (h1 : c ≤ n - 1) (h2 : 2 * m * c ≤ (u + m) * n) (h3 : (u + m) * n < 2 * m * (c + 1) ∨ c = n - 1) : place u m n = c := by
  unfold place
  have hq : c ≤ (u + m) * n / (2 * m) := by
    rw [Int.le_ediv_iff_mul_le (by omega)]
    have : c * (2 * m) = 2 * m * c := Int.mul_comm _ _
    omega
  rcases h3 with h3 | h3
  · have hq2 : (u + m) * n / (2 * m) < c + 1 := by
      rw [Int.ediv_lt_iff_lt_mul (by omega)]
      have : (c + 1) * (2 * m) = 2 * m * (c + 1) := Int.mul_comm _ _
      omega
    omega
  · omega
/-- Half by half is at once. -/
theorem strip_place (u m : Int) (hm : 0 < m) (h1 : -m ≤ u) (h2 : u ≤ m) (i : Nat) : stripUp u m i = place u m (2 ^ i) := by
  obtain ⟨a1, a2, a3, a4⟩ := strip_spec u m hm h1 h2 i
  exact (place_of_spec hm a1 a2 a3 a4).symm
theorem strip_half (u m : Int) (hm : 0 < m) (h1 : -m ≤ u) (h2 : u ≤ m) (i : Nat) : stripUp u m (i + 1) / 2 = stripUp u m i := by
  obtain ⟨a1, _⟩ := strip_spec u m hm h1 h2 i
  rw [stripUp]
  split <;> omega

structure Dr where
  x : Int
  y : Int
  z : Int
deriving DecidableEq
structure Sp where
  face : Int
  level : Int
  col : Int
  row : Int
deriving DecidableEq
def sz (n : Int) : Int := max n (-n)
def isDir (d : Dr) : Bool := (decide (d.x ≤ 1048576) && decide (-1048576 ≤ d.x) && decide (d.y ≤ 1048576) && decide (-1048576 ≤ d.y) && decide (d.z ≤ 1048576) && decide (-1048576 ≤ d.z)) && (!decide (d.x = 0) || !decide (d.y = 0) || !decide (d.z = 0))
/-- Which axis; both numbers; its own. -/
def axis (d : Dr) : Nat := if sz d.x < sz d.y then (if sz d.y < sz d.z then 2 else 1) else (if sz d.x < sz d.z then 2 else 0)
def fU (d : Dr) : Int := if axis d = 0 then d.y else d.x
def fV (d : Dr) : Int := if axis d = 2 then d.y else d.z
def fM (d : Dr) : Int := if axis d = 0 then d.x else if axis d = 1 then d.y else d.z
def faceOf (d : Dr) : Int := 2 * (axis d : Int) + if fM d < 0 then 1 else 0
def cellAt (d : Dr) (lev : Nat) : Sp := ⟨faceOf d, lev, stripUp (fU d) (sz (fM d)) lev, stripUp (fV d) (sz (fM d)) lev⟩
theorem isDir_spec {d : Dr} (h : isDir d = true) : (-1048576 ≤ d.x ∧ d.x ≤ 1048576) ∧ (-1048576 ≤ d.y ∧ d.y ≤ 1048576) ∧ (-1048576 ≤ d.z ∧ d.z ≤ 1048576) ∧ ¬ (d.x = 0 ∧ d.y = 0 ∧ d.z = 0) := by
  unfold isDir at h
  simp only [Bool.and_eq_true, Bool.or_eq_true, decide_eq_true_eq, Bool.not_eq_true', decide_eq_false_iff_not] at h
  omega
theorem axis_lt (d : Dr) : axis d < 3 := by unfold axis; split <;> split <;> omega
theorem face_spec {d : Dr} (h : isDir d = true) : 0 < sz (fM d) ∧ sz (fM d) ≤ 1048576 ∧ -sz (fM d) ≤ fU d ∧ fU d ≤ sz (fM d) ∧ -sz (fM d) ≤ fV d ∧ fV d ≤ sz (fM d) := by
  obtain ⟨h1, h2, h3, h4⟩ := isDir_spec h
  unfold fM fU fV
  have hx : axis d = 0 → sz d.y ≤ sz d.x ∧ sz d.z ≤ sz d.x := fun e => by
    unfold axis at e
    split at e <;> split at e <;> omega
  have hy : axis d = 1 → sz d.x < sz d.y ∧ sz d.z ≤ sz d.y := fun e => by
    unfold axis at e
    split at e <;> split at e <;> omega
  have hz : axis d = 2 → sz d.x ≤ sz d.z ∧ sz d.y ≤ sz d.z := fun e => by
    unfold axis at e
    split at e <;> split at e <;> omega
  have := axis_lt d
  unfold sz at *
  rcases (show axis d = 0 ∨ axis d = 1 ∨ axis d = 2 by omega) with e | e | e
  · have := hx e
    simp only [e, if_true]
    rw [if_neg (show ¬ (0 = 2) by decide)]
    omega
  · have := hy e
    simp only [e]
    rw [if_neg (show ¬ (1 = 0) by decide), if_pos trivial, if_neg (show ¬ (1 = 2) by decide), if_neg (show ¬ (1 = 0) by decide)]
    omega
  · have := hz e
    simp only [e]
    rw [if_neg (show ¬ (2 = 0) by decide), if_neg (show ¬ (2 = 1) by decide), if_pos trivial, if_neg (show ¬ (2 = 0) by decide)]
    omega
def upOf (s : Sp) : Sp := ⟨s.face, s.level - 1, s.col / 2, s.row / 2⟩
theorem up_cell {d : Dr} (h : isDir d = true) (lev : Nat) : upOf (cellAt d (lev + 1)) = cellAt d lev := by
  obtain ⟨h1, h2, h3, h4, h5, h6⟩ := face_spec h
  unfold upOf cellAt
  simp only [Sp.mk.injEq, true_and]
  refine ⟨by omega, strip_half _ _ h1 h3 h4 lev, strip_half _ _ h1 h5 h6 lev⟩
def validS (s : Sp) : Bool := decide (0 ≤ s.face) && decide (s.face < 6) && decide (0 ≤ s.level) && decide (s.level ≤ 12) && decide (0 ≤ s.col) && decide (0 ≤ s.row) && decide (s.col < 2 ^ s.level.toNat) && decide (s.row < 2 ^ s.level.toNat)
theorem cell_valid {d : Dr} (h : isDir d = true) {lev : Nat} (hl : lev ≤ 12) : validS (cellAt d lev) = true := by
  obtain ⟨h1, h2, h3, h4, h5, h6⟩ := face_spec h
  obtain ⟨a1, a2, _⟩ := strip_spec (fU d) (sz (fM d)) h1 h3 h4 lev
  obtain ⟨b1, b2, _⟩ := strip_spec (fV d) (sz (fM d)) h1 h5 h6 lev
  have := axis_lt d
  unfold validS cellAt faceOf
  simp only [Int.toNat_natCast, Bool.and_eq_true, decide_eq_true_eq]
  refine ⟨⟨⟨⟨⟨⟨⟨?_, ?_⟩, by omega⟩, by omega⟩, a1⟩, b1⟩, by omega⟩, by omega⟩ <;> split <;> omega
end Go.Atl
