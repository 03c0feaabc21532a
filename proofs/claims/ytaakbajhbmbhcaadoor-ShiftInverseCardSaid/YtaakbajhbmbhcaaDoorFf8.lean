/- Waves there and back are the row; both ways to them are the same: within what is told. Nothing of a program stands here. -/
import Derived.Test.YtaakbajhbmbhcaaDoorFf6
import Derived.Test.YtaakbajhbmbhcaaDoorFe43
set_option linter.unusedSimpArgs false
set_option linter.unusedVariables false
namespace Go.Fe
open Ieee Fl

/-! There and back: the errors joined. -/
theorem dft_gap (b : Bool) (st : Nat) {X Y : Nat → Z} {n : Nat} {e : Rat} (e0 : 0 ≤ e) (h : ∀ j, j < n → Zn (zsub (X j) (Y j)) e) (k : Nat) : Zn (zsub (dft b st X n k) (dft b st Y n k)) ((n : Rat) * (e * (1 + U))) := by
  refine zsum_gap (Rat.mul_nonneg e0 (by have := U_pos; grind)) fun j hj => ?_
  refine ((h j hj).mul (tz_size b (st * (j * k)))).eq ?_
  unfold zsub zmul; ext <;> simp <;> grind
theorem there_back {p : Nat} (hp : p < 7) {M : Rat} (hM : ScM M) (hM2 : M ≤ two 590) {X : Nat → C2} {z : Nat → Z} (hX : ∀ j, j < 2 ^ p → Fz (X j) (z j) ∧ Zn (z j) M) :
    ∃ y : Nat → Z, (∀ k, k < 2 ^ p → Fz (fastC false p X k) (y k) ∧ Zn (zsub (y k) (dft false (2 ^ (6 - p)) z (2 ^ p) k)) (1300 * U * M)) ∧
      ∀ k, k < 2 ^ p → ∃ B, Fz (fastC true p (fastC false p X) k) B ∧ Zn (zsub B ⟨((2 ^ p : Nat) : Rat) * (z k).re, ((2 ^ p : Nat) : Rat) * (z k).im⟩) (((2 ^ p : Nat) : Rat) * (2700 * U * M)) := by
  have hU := U_pos
  have hU1 : U ≤ 1 / 1000000 := by decide +kernel
  have F := fast_near false hM p hp X z hX
  obtain ⟨M0, M1, M2⟩ := hM
  obtain ⟨n, hn⟩ : ∃ n, 2 ^ p = n := ⟨_, rfl⟩
  have n64 : n ≤ 64 := by
    have : 2 ^ p ≤ 2 ^ 6 := Nat.pow_le_pow_right (by decide) (by omega)
    omega
  have n0 : 1 ≤ n := by rw [← hn]; exact Nat.one_le_two_pow
  have nr1 : (1 : Rat) ≤ (n : Rat) := by have := rat_le n0; exact this
  have nr64 : (n : Rat) ≤ 64 := by have := rat_le n64; exact this
  have pr0 := nat_nonneg p
  have pr6 : (p : Rat) ≤ 6 := by have := rat_le (show p ≤ 6 by omega); exact this
  have UM := Rat.mul_nonneg (Rat.le_of_lt hU) M0
  have UM1 := Rat.mul_le_mul_of_nonneg_right hU1 M0
  have UM2 := Rat.mul_le_mul_of_nonneg_right hU1 UM
  obtain ⟨G, hG⟩ : ∃ G, (n : Rat) * M = G := ⟨_, rfl⟩
  have G0 : 0 ≤ G := by rw [← hG]; exact Rat.mul_nonneg (by grind) M0
  have G64 : G ≤ 64 * M := by rw [← hG]; exact Rat.mul_le_mul_of_nonneg_right nr64 M0
  have MG : M ≤ G := by have := Rat.mul_le_mul_of_nonneg_right nr1 M0; grind
  have UG := Rat.mul_nonneg (Rat.le_of_lt hU) G0
  have UGM := Rat.mul_le_mul_of_nonneg_left G64 (Rat.le_of_lt hU)
  have pUG := Rat.mul_le_mul_of_nonneg_right pr6 UG
  have pUG0 := Rat.mul_nonneg pr0 UG
  have hE : (p : Rat) * (33 / 10 * U) * ((n : Rat) * M) = 33 / 10 * ((p : Rat) * (U * G)) := by rw [hG]; grind
  rw [hn] at F ⊢
  rw [hE] at F
  have hall : ∀ k, ∃ y, k < n → Fz (fastC false p X k) y ∧ Zn (zsub y (dft false (2 ^ (6 - p)) z n k)) (33 / 10 * ((p : Rat) * (U * G))) := fun k => by
    by_cases hk : k < n
    · obtain ⟨y, h⟩ := F k hk
      exact ⟨y, fun _ => h⟩
    · exact ⟨znil, fun h => absurd h hk⟩
  refine ⟨fun k => Classical.choose (hall k), fun k hk => ⟨(Classical.choose_spec (hall k) hk).1, (Classical.choose_spec (hall k) hk).2.le (by grind)⟩, ?_⟩
  obtain ⟨y, hy⟩ : ∃ y : Nat → Z, ∀ k, y k = Classical.choose (hall k) := ⟨_, fun _ => rfl⟩
  have Y : ∀ k, k < n → Fz (fastC false p X k) (y k) ∧ Zn (zsub (y k) (dft false (2 ^ (6 - p)) z n k)) (33 / 10 * ((p : Rat) * (U * G))) := fun k hk => by rw [hy]; exact Classical.choose_spec (hall k) hk
  intro j hj
  have ys : ∀ k, k < n → Fz (fastC false p X k) (y k) ∧ Zn (y k) (1001 / 1000 * G) := fun k hk =>
    ⟨(Y k hk).1, (near_size (Y k hk).2 (dft_size false _ (fun i hi => (hX i (by rw [hn]; exact hi)).2) M0 k)).le (by
      have e : (n : Rat) * (M * (1 + U)) = (1 + U) * G := by rw [← hG]; grind
      rw [e]
      have := Rat.mul_le_mul_of_nonneg_right hU1 G0
      grind)⟩
  have sc2 : ScM (1001 / 1000 * G) := by
    refine ⟨by grind, ?_, ?_⟩
    · have k : 100 * two 590 ≤ two 600 := by decide +kernel
      grind
    · rcases M2 with h | h
      · left; rw [h] at G64; grind
      · right; grind
  obtain ⟨B, fB, nB⟩ := fast_near true sc2 p hp (fastC false p X) y (fun k hk => ys k (by rw [← hn]; exact hk)) j (by rw [hn]; exact hj)
  rw [hn] at nB
  refine ⟨B, fB, ?_⟩
  have g1 := dft_gap true (2 ^ (6 - p)) (X := y) (Y := dft false (2 ^ (6 - p)) z n) (n := n) (e := 33 / 10 * ((p : Rat) * (U * G))) (by grind) (fun k hk => (Y k hk).2) j
  have g2 := dft_inv hp M0 (X := z) (fun i hi => (hX i hi).2) (j := j) (by rw [hn]; exact hj)
  rw [hn] at g2
  have t := (nB.add g1).add g2
  refine (t.eq ?_).le ?_
  · unfold zadd zsub; ext <;> simp <;> grind
  · have q1 : (p : Rat) * (33 / 10 * U) * ((n : Rat) * (1001 / 1000 * G)) = (n : Rat) * (33 / 10 * (1001 / 1000) * ((p : Rat) * (U * G))) := by grind
    have q2 : (n : Rat) * ((n : Rat) * (M * (3 / 2 * U))) = (n : Rat) * (3 / 2 * (U * G)) := by rw [← hG]; grind
    rw [q1, q2]
    have UpUG := Rat.mul_le_mul_of_nonneg_right hU1 pUG0
    have r : 33 / 10 * (1001 / 1000) * ((p : Rat) * (U * G)) + 33 / 10 * ((p : Rat) * (U * G)) * (1 + U) + 3 / 2 * (U * G) ≤ 2700 * U * M := by grind
    have := Rat.mul_le_mul_of_nonneg_left r (show 0 ≤ (n : Rat) by grind)
    grind
/-! The greatest part. -/
theorem abs_val {a : Nat} (h : Fn a) : ∃ y, absF (some a) = some y ∧ Fn y ∧ V y = ab (V a) := by
  unfold absF
  rw [flt_val h fn_zero, V_zero]
  by_cases h0 : V a < 0
  · rw [if_pos (by simpa using h0)]
    obtain ⟨nf, nv⟩ := neg_val h
    refine ⟨_, rfl, nf, ?_⟩
    rw [nv]; unfold ab
    rw [if_neg (by grind)]
  · rw [if_neg (by simpa using h0)]
    refine ⟨a, rfl, h, ?_⟩
    unfold ab
    rw [if_pos (by grind)]
def bigF (m x : Option Nat) : Option Nat := if Fl.flt m (absF x) then absF x else m
def mostUp (X : Nat → C2) : Nat → Option Nat
  | 0 => some 0
  | k + 1 => bigF (bigF (mostUp X k) (X k).re) (X k).im
/-- A size that is mild. -/
structure Big (m : Option Nat) (w : Nat) : Prop where
  e : m = some w
  f : Fn w
  n0 : 0 ≤ V w
  md : V w = 0 ∨ two (-300) ≤ V w
  hi : V w ≤ two 300
theorem big_next {m : Option Nat} {w : Nat} {x : Option Nat} (h : Big m w) (hx : mildF x = true) : ∃ u a, Big (bigF m x) u ∧ V w ≤ V u ∧ x = some a ∧ Fn a ∧ ab (V a) ≤ V u := by
  obtain ⟨rfl, fw, n0, md, hi⟩ := h
  obtain ⟨a, rfl, fa, ma⟩ := mild_of hx
  obtain ⟨y, hy, fy, vy⟩ := abs_val fa
  have h2 := two_pos 300
  unfold bigF
  rw [hy, flt_val fw fy, vy]
  have a0 := (ab_le (V a)).2.2
  by_cases hl : V w < ab (V a)
  · rw [if_pos (by simpa using hl)]
    refine ⟨y, a, ⟨rfl, fy, by rw [vy]; exact a0, ?_, ?_⟩, by rw [vy]; exact Rat.le_of_lt hl, rfl, fa, by rw [vy]; exact Rat.le_refl⟩
    · rw [vy]
      rcases ma with h | ⟨h, _⟩
      · left; rw [h]; unfold ab; simp
      · exact .inr h
    · rw [vy]
      rcases ma with h | ⟨_, h⟩
      · rw [h]; unfold ab; simp; grind
      · exact h
  · rw [if_neg (by simpa using hl)]
    exact ⟨w, a, ⟨rfl, fw, n0, md, hi⟩, Rat.le_refl, rfl, fa, by grind⟩
theorem most_up {X : Nat → C2} : ∀ {n : Nat}, (∀ j, j < n → mildF (X j).re = true ∧ mildF (X j).im = true) → ∃ w, Big (mostUp X n) w ∧ ∀ j, j < n → ∃ a b, X j = ⟨some a, some b⟩ ∧ Fn a ∧ Fn b ∧ ab (V a) ≤ V w ∧ ab (V b) ≤ V w
  | 0, _ => ⟨0, ⟨rfl, fn_zero, by rw [V_zero]; exact Rat.le_refl, .inl V_zero, by rw [V_zero]; exact Rat.le_of_lt (two_pos _)⟩, fun j hj => absurd hj (by omega)⟩
  | n + 1, h => by
    obtain ⟨w, hw, hall⟩ := most_up (n := n) fun j hj => h j (by omega)
    obtain ⟨m1, m2⟩ := h n (by omega)
    obtain ⟨u, a, hu, wu, e1, fa, la⟩ := big_next hw m1
    obtain ⟨v, b, hv, uv, e2, fb, lb⟩ := big_next hu m2
    refine ⟨v, hv, fun j hj => ?_⟩
    rcases Nat.lt_succ_iff_lt_or_eq.1 hj with hj | hj
    · obtain ⟨a', b', e, f1, f2, l1, l2⟩ := hall j hj
      exact ⟨a', b', e, f1, f2, by grind, by grind⟩
    · subst hj
      refine ⟨a, b, ?_, fa, fb, by grind, lb⟩
      cases hX : X j with
      | mk re im => rw [hX] at e1 e2; simp only at e1 e2; rw [e1, e2]
/-! Tests. -/
def OverNo (X M : Option Nat) : Prop := Fl.flt M (absF X) = false
theorem over_no {u v m : Nat} {e : Rat} (fu : Fn u) (fv : Fn v) (fm : Fn m) (h : Nr (V u) (V v) e) (e0 : 0 ≤ e) (he : e ≤ two 800) (hm : (1 + U) * e ≤ V m) : OverNo (Fl.fsub (some u) (some v)) (some m) := by
  have hU := U_pos
  obtain ⟨h1, h2⟩ := h
  have k := two_le (show (800 : Int) ≤ 900 by decide)
  obtain ⟨d, hd, fd, nd⟩ := sub_err fu fv (by grind) (by grind)
  obtain ⟨d1, d2⟩ := nd e h1 (by grind)
  obtain ⟨y, hy, fy, vy⟩ := abs_val fd
  unfold OverNo
  show Fl.flt (some m) (absF (double.sub u v)) = false
  rw [hd, hy, flt_val fm fy, vy]
  have : ab (V d) ≤ V m := by unfold ab; split <;> grind
  exact decide_eq_false (by grind)
end Go.Fe
/- Waves there and back are the row, and both ways to them are the same: the plain law. Nothing of a program stands here. -/
set_option linter.unusedSimpArgs false
set_option linter.unusedVariables false
namespace Go.Fe
open Ieee Fl

/-! The plain law of waves there and back. -/
theorem c40_w : Fl.fl 4427038433705197568 = some 4427038433705197568 ∧ Fn 4427038433705197568 ∧ V 4427038433705197568 = 8192 * U := ⟨by decide +kernel, fn_of (by decide +kernel), by decide +kernel⟩
theorem c32_w : Fl.fl 4463067230724161536 = some 4463067230724161536 ∧ Fn 4463067230724161536 ∧ V 4463067230724161536 = 2097152 * U := ⟨by decide +kernel, fn_of (by decide +kernel), by decide +kernel⟩
theorem near_w {m : Option Nat} {w : Nat} (h : Big m w) : ∃ v, Fl.fmul (Fl.fl 4427038433705197568) m = some v ∧ Fn v ∧ 8000 * U * V w ≤ V v := by
  obtain ⟨rfl, fw, n0, md, hi⟩ := h
  obtain ⟨hc, fc, vc⟩ := c40_w
  have hU := U_pos
  have hU1 : U ≤ 1 / 1000000 := by decide +kernel
  have UW := Rat.mul_nonneg (Rat.le_of_lt hU) n0
  have UW1 := Rat.mul_le_mul_of_nonneg_right hU1 n0
  have UW2 := Rat.mul_le_mul_of_nonneg_right hU1 UW
  have g : 1000 * two 300 ≤ two 900 := by decide +kernel
  have h3 := two_pos 300
  obtain ⟨v, hv, fv, vz, nv⟩ := mul_err fc fw (by rw [vc]; grind) (by rw [vc]; grind)
  obtain ⟨n1, n2⟩ := nv (8192 * (U * V w)) (by rw [vc]; grind) (by rw [vc]; grind)
  rw [vc] at n1 n2 vz
  refine ⟨v, by rw [hc]; exact hv, fv, ?_⟩
  rcases md with h0 | h0
  · rw [vz (by rw [h0]; grind), h0]; grind
  · have t : two (-1075) ≤ U * V w := by
      have g1 := Rat.mul_le_mul_of_nonneg_left h0 (Rat.le_of_lt hU)
      have g2 : two (-1075) ≤ U * two (-300) := by decide +kernel
      grind
    grind
theorem far_w {m : Option Nat} {w n : Nat} (h : Big m w) (h1 : 1 ≤ n) (h64 : n ≤ 64) : ∃ v, Fl.fmul (Fl.fmul (Fl.fl 4463067230724161536) (Tr.ofI (n : Int))) m = some v ∧ Fn v ∧ 100000 * U * V w ≤ V v := by
  obtain ⟨rfl, fw, n0, md, hi⟩ := h
  obtain ⟨hc, fc, vc⟩ := c32_w
  obtain ⟨u, hu, fu, vu⟩ := ofI_val (n := (n : Int)) (by omega)
  have vu' : V u = (n : Rat) := vu
  have r1 : (1 : Rat) ≤ (n : Rat) := by have := rat_le h1; exact this
  have r64 : (n : Rat) ≤ 64 := by have := rat_le h64; exact this
  have hU := U_pos
  have hU1 : U ≤ 1 / 1000000000 := by decide +kernel
  have UW := Rat.mul_nonneg (Rat.le_of_lt hU) n0
  have UW1 := Rat.mul_le_mul_of_nonneg_right hU1 n0
  have UW2 := Rat.mul_le_mul_of_nonneg_right hU1 UW
  have g : 1000000 * two 300 ≤ two 900 := by decide +kernel
  have g9 : (1000 : Rat) ≤ two 900 := by decide +kernel
  have h3 := two_pos 300
  have Un1 := Rat.mul_le_mul_of_nonneg_left r1 (Rat.le_of_lt hU)
  have Un64 := Rat.mul_le_mul_of_nonneg_left r64 (Rat.le_of_lt hU)
  obtain ⟨a, ha, fa, _, na⟩ := mul_err fc fu (by rw [vc, vu']; grind) (by rw [vc, vu']; grind)
  obtain ⟨a1, a2⟩ := na (2097152 * 64 * U) (by rw [vc, vu']; grind) (by rw [vc, vu']; grind)
  rw [vc, vu'] at a1 a2
  have e75 : two (-1075) ≤ U * U := by decide +kernel
  have UU := Rat.mul_le_mul_of_nonneg_right hU1 (Rat.le_of_lt hU)
  have lo : 2000000 * U ≤ V a := by grind
  have up : V a ≤ 200000000 * U := by grind
  have aw := mul_le_both (a := 2000000 * U) (b := V w) (A := V a) (B := V w) (by grind) n0 lo Rat.le_refl
  have aw2 := mul_le_both (a := V a) (b := V w) (A := 200000000 * U) (B := V w) (by grind) n0 up Rat.le_refl
  obtain ⟨v, hv, fv, vz, nv⟩ := mul_err fa fw (by grind) (by grind)
  obtain ⟨n1, n2⟩ := nv (200000000 * U * V w) aw2 (by grind)
  refine ⟨v, ?_, fv, ?_⟩
  · rw [hc, hu]
    show Fl.fmul (double.mul 4463067230724161536 u) _ = _
    rw [ha]; exact hv
  · rcases md with h0 | h0
    · rw [vz (by rw [h0]; grind), h0]; grind
    · have t : two (-1075) ≤ U * V w := by
        have g1 := Rat.mul_le_mul_of_nonneg_left h0 (Rat.le_of_lt hU)
        have g2 : two (-1075) ≤ U * two (-300) := by decide +kernel
        grind
      grind
theorem lim_a {c W M : Rat} (hM : U * M = 1415 / 1000 * (U * W)) (hW : 0 ≤ U * W) (hb : 10000 * (U * W) ≤ two 800) (c0 : 0 ≤ c) (hc : c ≤ 6000) : c * U * M ≤ two 800 := by
  have e : c * U * M = c * (U * M) := by grind
  rw [e, hM]
  have := Rat.mul_le_mul_of_nonneg_right hc hW
  grind
theorem lim_b {c K W M v : Rat} (hM : U * M = 1415 / 1000 * (U * W)) (hW : 0 ≤ U * W) (hv : K * U * W ≤ v) (c0 : 0 ≤ c) (hc : 2 * c ≤ K) : (1 + U) * (c * U * M) ≤ v := by
  have hU1 : U ≤ 1 / 1000000 := by decide +kernel
  have e : (1 + U) * (c * U * M) = c * ((1 + U) * (U * M)) := by grind
  rw [e, hM]
  have k1 := Rat.mul_le_mul_of_nonneg_right hU1 hW
  have k2 : (1 + U) * (1415 / 1000 * (U * W)) ≤ 2 * (U * W) := by grind
  have k3 := Rat.mul_le_mul_of_nonneg_left k2 c0
  have k4 := Rat.mul_le_mul_of_nonneg_right hc hW
  grind
theorem inverse_good {p : Nat} (hp : p < 7) {X : Nat → C2} (hm : ∀ j, j < 2 ^ p → mildF (X j).re = true ∧ mildF (X j).im = true) {k : Nat} (hk : k < 2 ^ p) :
    OverNo (Fl.fsub (shrC (2 ^ p) (fastC true p (fastC false p X) k)).re (X k).re) (Fl.fmul (Fl.fl 4427038433705197568) (mostUp X (2 ^ p))) ∧
    OverNo (Fl.fsub (shrC (2 ^ p) (fastC true p (fastC false p X) k)).im (X k).im) (Fl.fmul (Fl.fl 4427038433705197568) (mostUp X (2 ^ p))) ∧
    OverNo (Fl.fsub (upC X (2 ^ p) false k (2 ^ p)).re (fastC false p X k).re) (Fl.fmul (Fl.fmul (Fl.fl 4463067230724161536) (Tr.ofI ((2 ^ p : Nat) : Int))) (mostUp X (2 ^ p))) ∧
    OverNo (Fl.fsub (upC X (2 ^ p) false k (2 ^ p)).im (fastC false p X k).im) (Fl.fmul (Fl.fmul (Fl.fl 4463067230724161536) (Tr.ofI ((2 ^ p : Nat) : Int))) (mostUp X (2 ^ p))) := by
  have hU := U_pos
  have hU1 : U ≤ 1 / 1000000 := by decide +kernel
  obtain ⟨w, hw, hall⟩ := most_up hm
  have n64 : 2 ^ p ≤ 64 := by
    have : 2 ^ p ≤ 2 ^ 6 := Nat.pow_le_pow_right (by decide) (by omega)
    omega
  have n1 : 1 ≤ 2 ^ p := Nat.one_le_two_pow
  obtain ⟨nw, hnw, fnw, vnw⟩ := near_w hw
  obtain ⟨fw, hfw, ffw, vfw⟩ := far_w (n := 2 ^ p) hw n1 n64
  obtain ⟨M, hM⟩ : ∃ M, 1415 / 1000 * V w = M := ⟨_, rfl⟩
  have w0 := hw.n0
  have M0 : 0 ≤ M := by grind
  have h3 := two_pos 300
  have M590 : M ≤ two 590 := by
    have k : 1000 * two 300 ≤ two 590 := by decide +kernel
    have := hw.hi
    grind
  have sc : ScM M := by
    refine ⟨M0, ?_, ?_⟩
    · have k : two 590 ≤ two 600 := by decide +kernel
      grind
    · rcases hw.md with h | h
      · left; rw [h] at hM; grind
      · right
        have k : two (-700) ≤ two (-300) := by decide +kernel
        have := two_pos (-300)
        grind
  have hz : ∀ j, ∃ z : Z, j < 2 ^ p → Fz (X j) z ∧ Zn z M ∧ z.re ≤ V w ∧ -V w ≤ z.re ∧ z.im ≤ V w ∧ -V w ≤ z.im := fun j => by
    by_cases hj : j < 2 ^ p
    · obtain ⟨a, b, e, fa, fb, la, lb⟩ := hall j hj
      obtain ⟨a1, a2, _⟩ := ab_le (V a)
      obtain ⟨b1, b2, _⟩ := ab_le (V b)
      refine ⟨⟨V a, V b⟩, fun _ => ⟨⟨a, b, e, fa, fb, rfl, rfl⟩, (Zn.of2 (e := V w) w0 (by show V a ≤ _; grind) (by show _ ≤ V a; grind) (by show V b ≤ _; grind) (by show _ ≤ V b; grind)).le (by grind), by show V a ≤ _; grind, by show _ ≤ V a; grind, by show V b ≤ _; grind, by show _ ≤ V b; grind⟩⟩
    · exact ⟨znil, fun h => absurd h hj⟩
  obtain ⟨z, hz⟩ : ∃ z : Nat → Z, ∀ j, j < 2 ^ p → Fz (X j) (z j) ∧ Zn (z j) M ∧ (z j).re ≤ V w ∧ -V w ≤ (z j).re ∧ (z j).im ≤ V w ∧ -V w ≤ (z j).im := ⟨fun j => Classical.choose (hz j), fun j hj => Classical.choose_spec (hz j) hj⟩
  have hX : ∀ j, j < 2 ^ p → Fz (X j) (z j) ∧ Zn (z j) M := fun j hj => ⟨(hz j hj).1, (hz j hj).2.1⟩
  obtain ⟨y, hy, hB⟩ := there_back hp sc M590 hX
  obtain ⟨B, ⟨bu, bv, eB, fbu, fbv, vbu, vbv⟩, nB⟩ := hB k hk
  obtain ⟨⟨yu, yv, eY, fyu, fyv, vyu, vyv⟩, nY⟩ := hy k hk
  obtain ⟨S, ⟨su, sv, eS, fsu, fsv, vsu, vsv⟩, nS⟩ := slow_near false hp sc hX k (2 ^ p) (Nat.le_refl _)
  obtain ⟨⟨xu, xv, eX, fxu, fxv, vxu, vxv⟩, nX, x1, x2, x3, x4⟩ := hz k hk
  have UM := Rat.mul_nonneg (Rat.le_of_lt hU) M0
  have UM1 := Rat.mul_le_mul_of_nonneg_right hU1 M0
  have Uw := Rat.mul_nonneg (Rat.le_of_lt hU) w0
  have Uw1 := Rat.mul_le_mul_of_nonneg_right hU1 w0
  have Uw2 := Rat.mul_le_mul_of_nonneg_right hU1 Uw
  have hUM : U * M = 1415 / 1000 * (U * V w) := by rw [← hM]; grind
  have hUM2 : U * (U * M) = 1415 / 1000 * (U * (U * V w)) := by rw [hUM]; grind
  have r64 : ((2 ^ p : Nat) : Rat) ≤ 64 := by have := rat_le n64; exact this
  obtain ⟨⟨c1, c2⟩, ⟨c3, c4⟩⟩ := nB.comp
  rw [eB, eX, eY, eS, hnw, hfw]
  have big : 10000 * (U * V w) ≤ two 800 := by
    have k : two 300 ≤ two 800 := by decide +kernel
    have := hw.hi
    grind
  have lim1 := lim_a (c := 2705) hUM Uw big (by decide) (by decide)
  have lim2 := lim_b (c := 2705) (K := 8000) hUM Uw vnw (by decide) (by decide +kernel)
  have lim3 := lim_a (c := 5800) hUM Uw big (by decide) (by decide)
  have lim4 := lim_b (c := 5800) (K := 100000) hUM Uw vfw (by decide) (by decide +kernel)
  -- the way back
  obtain ⟨r1, hr1, fr1, nr1⟩ := shr_part (m := (z k).re) (e := 2700 * U * M) fbu n1 n64 sc ⟨by rw [vbu]; exact c1, by rw [vbu]; unfold zsub at c2; simp only at c2; grind⟩ (by grind) (by grind) (by grind) (by grind)
  obtain ⟨r2, hr2, fr2, nr2⟩ := shr_part (m := (z k).im) (e := 2700 * U * M) fbv n1 n64 sc ⟨by rw [vbv]; exact c3, by rw [vbv]; unfold zsub at c4; simp only at c4; grind⟩ (by grind) (by grind) (by grind) (by grind)
  -- both ways
  have gap : Zn (zsub S (y k)) (5800 * U * M) := by
    refine ((nS.add nY.neg).eq ?_).le ?_
    · unfold zadd zsub; ext <;> simp <;> grind
    · have := Rat.mul_le_mul_of_nonneg_right r64 (show 0 ≤ 70 * U * M by grind)
      grind
  obtain ⟨⟨d1, d2⟩, ⟨d3, d4⟩⟩ := gap.comp
  unfold zsub at d1 d2 d3 d4
  simp only at d1 d2 d3 d4
  refine ⟨?_, ?_, ?_, ?_⟩
  · show OverNo (Fl.fsub (Fl.fdiv (some bu) (Tr.ofI _)) (some xu)) _
    rw [hr1]
    exact over_no fr1 fxu fnw (e := 2705 * U * M) (by rw [vxu]; exact ⟨by have := nr1.hi; grind, by have := nr1.lo; grind⟩) (by grind) lim1 lim2
  · show OverNo (Fl.fsub (Fl.fdiv (some bv) (Tr.ofI _)) (some xv)) _
    rw [hr2]
    exact over_no fr2 fxv fnw (e := 2705 * U * M) (by rw [vxv]; exact ⟨by have := nr2.hi; grind, by have := nr2.lo; grind⟩) (by grind) lim1 lim2
  · exact over_no fsu fyu ffw (e := 5800 * U * M) (by rw [vsu, vyu]; exact ⟨by grind, by grind⟩) (by grind) lim3 lim4
  · exact over_no fsv fyv ffw (e := 5800 * U * M) (by rw [vsv, vyv]; exact ⟨by grind, by grind⟩) (by grind) lim3 lim4
end Go.Fe
