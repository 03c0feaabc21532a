/- Waves of rows of floats, by halves: near those of rationals. Nothing of a program stands here. -/
import Derived.Test.YtaakbajhbmbhcaaDoorGf3
import Derived.Test.YtaakbajhbmbhcaaDoorCx
set_option linter.unusedSimpArgs false
set_option linter.unusedVariables false
namespace Go.Fe
open Ieee Fl

/-! There and back, by rationals. -/
theorem idx_back {st n i j k d : Nat} (hs : st * n = 256) (hi : i < n) (hd : (j + (n - i)) % n = d) : (st * (k * j) + (256 - st * (i * k) % 256)) % 256 = st * (d * k) % 256 := by
  obtain ⟨q, hq⟩ : ∃ q, n * q + d = j + (n - i) := ⟨(j + (n - i)) / n, by rw [← hd]; exact Nat.div_add_mod _ _⟩
  have h1 : st * (k * (j + (n - i))) = st * (k * j) + st * (k * (n - i)) := by rw [Nat.mul_add, Nat.mul_add]
  have h2 : st * (k * (n - i)) + st * (i * k) = 256 * k := by
    rw [Nat.mul_comm i k, ← Nat.mul_add, ← Nat.mul_add, Nat.sub_add_cancel (by omega), Nat.mul_comm k n, ← Nat.mul_assoc, hs]
  have h3 : st * (k * (j + (n - i))) = 256 * (k * q) + st * (d * k) := by
    rw [← hq, Nat.mul_add, Nat.mul_add, Nat.mul_comm d k]
    congr 1
    rw [Nat.mul_left_comm k n, ← Nat.mul_assoc, hs]
  omega
theorem dft_inv {p : Nat} (hp : p < 9) {X : Nat → Z} {M : Rat} (M0 : 0 ≤ M) (hX : ∀ i, i < 2 ^ p → Zn (X i) M) {j : Nat} (hj : j < 2 ^ p) :
    Zn (zsub (dft true (2 ^ (8 - p)) (dft false (2 ^ (8 - p)) X (2 ^ p)) (2 ^ p) j) ⟨((2 ^ p : Nat) : Rat) * (X j).re, ((2 ^ p : Nat) : Rat) * (X j).im⟩) (((2 ^ p : Nat) : Rat) * (((2 ^ p : Nat) : Rat) * (M * (5 / 2 * U)))) := by
  have hs : 2 ^ (8 - p) * 2 ^ p = 256 := by rw [← Nat.pow_add, show 8 - p + p = 8 by omega]
  generalize hst : 2 ^ (8 - p) = st at *
  generalize hn : 2 ^ p = n at *
  have zero : ∀ d, d < n → d ≠ 0 → zsum (fun k => tz true (st * (d * k))) n = znil := fun d h1 h2 => by
    have := row_zero hp (d := d) (by rw [hn]; exact h1) h2
    rw [hst, hn] at this; exact this
  have n0 : 0 < n := by omega
  have e : dft true st (dft false st X n) n j = zsum (fun i => zsum (fun k => zmul (zmul (X i) (tz false (st * (i * k)))) (tz true (st * (k * j)))) n) n := by
    rw [← zsum_swap (fun i k => zmul (zmul (X i) (tz false (st * (i * k)))) (tz true (st * (k * j))))]
    unfold dft
    exact zsum_congr fun k _ => (zsum_mul _ _ _).symm
  have f : (⟨(n : Rat) * (X j).re, (n : Rat) * (X j).im⟩ : Z) = zsum (fun i => zmul (X i) (if i = j then ⟨n, 0⟩ else znil)) n := by
    rw [zsum_pick, if_pos hj]; unfold zmul; ext <;> simp <;> grind
  rw [e, f]
  refine zsum_gap (Rat.mul_nonneg (nat_nonneg _) (Rat.mul_nonneg M0 U15)) fun i hi => ?_
  have g : zmul (X i) (if i = j then ⟨n, 0⟩ else znil) = zsum (fun k => zmul (X i) (tz true (st * ((j + (n - i)) % n * k)))) n := by
    have swap : ∀ h : Nat → Z, zsum (fun k => zmul (X i) (h k)) n = zmul (X i) (zsum h n) := fun h => by
      have c : ∀ a b : Z, zmul a b = zmul b a := fun a b => by unfold zmul; ext <;> simp <;> grind
      rw [c (X i) (zsum h n), ← zsum_mul]
      exact zsum_congr fun k _ => c _ _
    rw [swap]
    congr 1
    by_cases hij : i = j
    · subst hij
      rw [if_pos rfl, show i + (n - i) = n by omega, Nat.mod_self]
      have : (fun k => tz true (st * (0 * k))) = fun _ => (⟨1, 0⟩ : Z) := by
        funext k; rw [Nat.zero_mul, Nat.mul_zero, tz_zero]
      rw [this, zsum_const]; ext <;> simp
    · rw [if_neg hij]
      refine (zero _ (Nat.mod_lt _ n0) ?_).symm
      intro h
      have := Nat.dvd_of_mod_eq_zero h
      obtain ⟨q, hq⟩ := this
      rcases Nat.lt_or_ge q 1 with h1 | h1
      · obtain rfl : q = 0 := by omega
        omega
      · rcases Nat.lt_or_ge q 2 with h2 | h2
        · obtain rfl : q = 1 := by omega
          omega
        · have : n * 2 ≤ n * q := Nat.mul_le_mul_left _ h2
          omega
  rw [g]
  refine zsum_gap (Rat.mul_nonneg M0 U15) fun k hk => ?_
  have t := (hX i hi).mul (tz_con (st * (i * k)) (st * (k * j)))
  rw [tz_same true (idx_back hs hi rfl)] at t
  refine t.eq ?_
  generalize tz false (st * (i * k)) = t1
  generalize tz true (st * (k * j)) = t2
  generalize tz true (st * ((j + (n - i)) % n * k)) = t3
  generalize X i = x
  unfold zsub zmul; ext <;> simp <;> grind
/-! Floats. -/
def mulC (x y : C2) : C2 := ⟨Fl.fsub (Fl.fmul x.re y.re) (Fl.fmul x.im y.im), Fl.fadd (Fl.fmul x.re y.im) (Fl.fmul x.im y.re)⟩
def addC (x y : C2) : C2 := ⟨Fl.fadd x.re y.re, Fl.fadd x.im y.im⟩
def subC (x y : C2) : C2 := ⟨Fl.fsub x.re y.re, Fl.fsub x.im y.im⟩
def wavC (g : Int) (back : Bool) : C2 := ⟨Tr.cosA g, if back then Tr.sinA g else Fl.fneg (Tr.sinA g)⟩
/-- A complex float that is a rational. -/
def Fz (X : C2) (z : Z) : Prop := ∃ u v, X = ⟨some u, some v⟩ ∧ Fn u ∧ Fn v ∧ V u = z.re ∧ V v = z.im
theorem wav_is (b : Bool) {m : Nat} (h : m < 256) : Fz (wavC ((5062500000 * m : Nat) : Int) b) (tz b m) := by
  obtain ⟨c, s, hc, hs, fc, fs, vc, vs⟩ := wave_word h
  unfold wavC
  rw [hc, hs]
  cases b
  · obtain ⟨nf, nv⟩ := neg_val fs
    exact ⟨c, _, rfl, fc, nf, vc, by rw [nv, vs]; rfl⟩
  · exact ⟨c, s, rfl, fc, fs, vc, vs⟩
/-- What underflows is small against M. -/
def ScM (M : Rat) : Prop := 0 ≤ M ∧ M ≤ two 600 ∧ (M = 0 ∨ two (-700) ≤ M)
theorem mul_tw {O T : C2} {o t : Z} {R M : Rat} (hO : Fz O o) (hT : Fz T t) (hn : Zn o R) (ht : Zn t (1 + U)) (hM : ScM M) (hR : M ≤ R) (hR2 : R ≤ 100000 * M) :
    ∃ p, Fz (mulC O T) p ∧ Zn (zsub p (zmul o t)) (29 / 10 * U * R) := by
  obtain ⟨a, b, rfl, fa, fb, va, vb⟩ := hO
  obtain ⟨c, s, rfl, fc, fs, vc, vs⟩ := hT
  have hU := U_pos
  have hU1 : U ≤ 1 / 1000000 := by decide +kernel
  obtain ⟨M0, M1, M2⟩ := hM
  have R0 := hn.e0
  have cau1 := cauchy (ab (V c)) (ab (V s)) 0 (ab (V a)) (ab (V b)) 0
  have cau2 := cauchy (ab (V s)) (ab (V c)) 0 (ab (V a)) (ab (V b)) 0
  simp only [ab_sq] at cau1 cau2
  have ho := hn.s
  have hts := ht.s
  rw [← va, ← vb] at ho
  rw [← vc, ← vs] at hts
  have aa := sq_nonneg (V a)
  have bb := sq_nonneg (V b)
  have cc := sq_nonneg (V c)
  have ss := sq_nonneg (V s)
  have k4 := mul_le_both (show 0 ≤ V c * V c + V s * V s by grind) (show 0 ≤ V a * V a + V b * V b by grind) hts ho
  have UR := Rat.mul_nonneg (Rat.le_of_lt hU) R0
  have k5 : (1 + U) * (1 + U) * (R * R) = (1 + U) * R * ((1 + U) * R) := by grind
  rw [k5] at k4
  have B0 : 0 ≤ (1 + U) * R := by grind
  have tot1 := (abs_le_of_sq (x := ab (V a) * ab (V c) + ab (V b) * ab (V s)) B0 (by grind)).1
  have tot2 := (abs_le_of_sq (x := ab (V a) * ab (V s) + ab (V b) * ab (V c)) B0 (by grind)).1
  obtain ⟨A1, A2⟩ := ab_mul (V a) (V c)
  obtain ⟨B1, B2⟩ := ab_mul (V b) (V s)
  obtain ⟨A3, A4⟩ := ab_mul (V a) (V s)
  obtain ⟨B3, B4⟩ := ab_mul (V b) (V c)
  have g6 : 1000000 * two 600 ≤ two 800 := by decide +kernel
  have g7 : two (-800) ≤ two (-700) := two_le (by decide)
  have UR1 := Rat.mul_le_mul_of_nonneg_right hU1 R0
  have hz : M = 0 → V a = 0 ∧ V b = 0 := fun h => by
    have r : R = 0 := by rw [h] at hR2; grind
    rw [r] at ho
    exact ⟨sq_zero (by grind), sq_zero (by grind)⟩
  have sc1 : (M = 0 ∧ V a * V c = 0 ∧ V b * V s = 0) ∨ two (-800) ≤ M := M2.imp (fun h => ⟨h, by rw [(hz h).1]; grind, by rw [(hz h).2]; grind⟩) (fun h => by grind)
  have sc2 : (M = 0 ∧ V a * V s = 0 ∧ V b * V c = 0) ∨ two (-800) ≤ M := M2.imp (fun h => ⟨h, by rw [(hz h).1]; grind, by rw [(hz h).2]; grind⟩) (fun h => by grind)
  obtain ⟨⟨x, hx, fx, x1, x2⟩, _⟩ := two_s (m := M) fa fc fb fs A1 A2 B1 B2 (by grind) (by grind) sc1
  obtain ⟨_, ⟨y, hy, fy, y1, y2⟩⟩ := two_s (m := M) fa fs fb fc A3 A4 B3 B4 (by grind) (by grind) sc2
  refine ⟨⟨V x, V y⟩, ⟨x, y, ?_, fx, fy, rfl, rfl⟩, ?_⟩
  · show (⟨_, _⟩ : C2) = _
    rw [hx, hy]
  · have l1 := Rat.mul_le_mul_of_nonneg_left tot1 (Rat.le_of_lt hU)
    have l2 := Rat.mul_le_mul_of_nonneg_left tot2 (Rat.le_of_lt hU)
    have UM := Rat.mul_le_mul_of_nonneg_left hR (Rat.le_of_lt hU)
    have UM0 := Rat.mul_nonneg (Rat.le_of_lt hU) M0
    have k8 : U * U * M ≤ 1 / 1000000 * (U * M) := by
      have := Rat.mul_le_mul_of_nonneg_right hU1 UM0
      grind
    have UUR := Rat.mul_le_mul_of_nonneg_right hU1 UR
    have e1 : (zsub ⟨V x, V y⟩ (zmul o t)).re = V x - (V a * V c - V b * V s) := by unfold zsub zmul; rw [va, vb, vc, vs]
    have e2 : (zsub ⟨V x, V y⟩ (zmul o t)).im = V y - (V a * V s + V b * V c) := by unfold zsub zmul; rw [va, vb, vc, vs]
    clear cau1 cau2 k4 k5 aa bb cc ss A1 A2 A3 A4 B1 B2 B3 B4 sc1 sc2 hx hy ho hts g6 g7 tot1 tot2 hz
    generalize ab (V a) * ab (V c) + ab (V b) * ab (V s) = Z1 at *
    generalize ab (V a) * ab (V s) + ab (V b) * ab (V c) = Z2 at *
    refine (Zn.of2 (e := 2045 / 1000 * U * R) (by grind) ?_ ?_ ?_ ?_).le (by grind)
    · rw [e1]; grind
    · rw [e1]; grind
    · rw [e2]; grind
    · rw [e2]; grind
theorem add_tw {E P : C2} {e p : Z} {S : Rat} (hE : Fz E e) (hP : Fz P p) (hS : Zn (zadd e p) S) (hb : S ≤ two 900) : ∃ r, Fz (addC E P) r ∧ Zn (zsub r (zadd e p)) (U * S) := by
  obtain ⟨a, b, rfl, fa, fb, va, vb⟩ := hE
  obtain ⟨c, d, rfl, fc, fd, vc, vd⟩ := hP
  have hU := U_pos
  obtain ⟨⟨s1, s2⟩, ⟨s3, s4⟩⟩ := hS.comp
  have hs := hS.s
  unfold zadd at s1 s2 s3 s4 hs
  simp only at s1 s2 s3 s4 hs
  rw [← va, ← vc] at s1 s2 hs
  rw [← vb, ← vd] at s3 s4 hs
  obtain ⟨x, hx, fx, nx⟩ := add_err fa fc (by grind) (by grind)
  obtain ⟨y, hy, fy, ny⟩ := add_err fb fd (by grind) (by grind)
  obtain ⟨a1, a2, a0⟩ := ab_le (V a + V c)
  obtain ⟨b1, b2, b0⟩ := ab_le (V b + V d)
  obtain ⟨x1, x2⟩ := nx _ a1 (by grind)
  obtain ⟨y1, y2⟩ := ny _ b1 (by grind)
  refine ⟨⟨V x, V y⟩, ⟨x, y, ?_, fx, fy, rfl, rfl⟩, ⟨Rat.mul_nonneg (Rat.le_of_lt hU) hS.e0, ?_⟩⟩
  · show (⟨double.add a c, double.add b d⟩ : C2) = _
    rw [hx, hy]
  · have q1 := (mul_size x1 (by grind) x1 (by grind)).1
    have q2 := (mul_size y1 (by grind) y1 (by grind)).1
    have r1 := ab_sq (V a + V c)
    have r2 := ab_sq (V b + V d)
    have UU := Rat.mul_nonneg (Rat.le_of_lt hU) (Rat.le_of_lt hU)
    have m := Rat.mul_le_mul_of_nonneg_left hs UU
    have e1 : (zsub ⟨V x, V y⟩ (zadd e p)).re = V x - (V a + V c) := by unfold zsub zadd; rw [va, vc]
    have e2 : (zsub ⟨V x, V y⟩ (zadd e p)).im = V y - (V b + V d) := by unfold zsub zadd; rw [vb, vd]
    rw [e1, e2]
    have f1 : U * ab (V a + V c) * (U * ab (V a + V c)) = U * U * ((V a + V c) * (V a + V c)) := by rw [← r1]; grind
    have f2 : U * ab (V b + V d) * (U * ab (V b + V d)) = U * U * ((V b + V d) * (V b + V d)) := by rw [← r2]; grind
    rw [f1] at q1
    rw [f2] at q2
    grind
theorem sub_tw {E P : C2} {e p : Z} {S : Rat} (hE : Fz E e) (hP : Fz P p) (hS : Zn (zsub e p) S) (hb : S ≤ two 900) : ∃ r, Fz (subC E P) r ∧ Zn (zsub r (zsub e p)) (U * S) := by
  obtain ⟨a, b, rfl, fa, fb, va, vb⟩ := hE
  obtain ⟨c, d, rfl, fc, fd, vc, vd⟩ := hP
  have hU := U_pos
  obtain ⟨⟨s1, s2⟩, ⟨s3, s4⟩⟩ := hS.comp
  have hs := hS.s
  unfold zsub at s1 s2 s3 s4 hs
  simp only at s1 s2 s3 s4 hs
  rw [← va, ← vc] at s1 s2 hs
  rw [← vb, ← vd] at s3 s4 hs
  obtain ⟨x, hx, fx, nx⟩ := sub_err fa fc (by grind) (by grind)
  obtain ⟨y, hy, fy, ny⟩ := sub_err fb fd (by grind) (by grind)
  obtain ⟨a1, a2, a0⟩ := ab_le (V a - V c)
  obtain ⟨b1, b2, b0⟩ := ab_le (V b - V d)
  obtain ⟨x1, x2⟩ := nx _ a1 (by grind)
  obtain ⟨y1, y2⟩ := ny _ b1 (by grind)
  refine ⟨⟨V x, V y⟩, ⟨x, y, ?_, fx, fy, rfl, rfl⟩, ⟨Rat.mul_nonneg (Rat.le_of_lt hU) hS.e0, ?_⟩⟩
  · show (⟨double.sub a c, double.sub b d⟩ : C2) = _
    rw [hx, hy]
  · have q1 := (mul_size x1 (by grind) x1 (by grind)).1
    have q2 := (mul_size y1 (by grind) y1 (by grind)).1
    have r1 := ab_sq (V a - V c)
    have r2 := ab_sq (V b - V d)
    have UU := Rat.mul_nonneg (Rat.le_of_lt hU) (Rat.le_of_lt hU)
    have m := Rat.mul_le_mul_of_nonneg_left hs UU
    have e1 : (zsub ⟨V x, V y⟩ (zsub e p)).re = V x - (V a - V c) := by unfold zsub; rw [va, vc]
    have e2 : (zsub ⟨V x, V y⟩ (zsub e p)).im = V y - (V b - V d) := by unfold zsub; rw [vb, vd]
    rw [e1, e2]
    have f1 : U * ab (V a - V c) * (U * ab (V a - V c)) = U * U * ((V a - V c) * (V a - V c)) := by rw [← r1]; grind
    have f2 : U * ab (V b - V d) * (U * ab (V b - V d)) = U * U * ((V b - V d) * (V b - V d)) := by rw [← r2]; grind
    rw [f1] at q1
    rw [f2] at q2
    grind
end Go.Fe
/- Waves of rows of floats, by halves: the error. Nothing of a program stands here. -/
set_option linter.unusedSimpArgs false
set_option linter.unusedVariables false
namespace Go.Fe
open Ieee Fl

/-! Waves by halves. -/
def fastC (back : Bool) : Nat → (Nat → C2) → Nat → C2
  | 0, X => X
  | m + 1, X => fun k =>
    if k < 2 ^ m then addC (fastC back m (fun i => X (2 * i)) k) (mulC (fastC back m (fun i => X (2 * i + 1)) k) (wavC ((1296000000000 * k / 2 ^ (m + 1) : Nat) : Int) back))
    else subC (fastC back m (fun i => X (2 * i)) (k - 2 ^ m)) (mulC (fastC back m (fun i => X (2 * i + 1)) (k - 2 ^ m)) (wavC ((1296000000000 * (k - 2 ^ m) / 2 ^ (m + 1) : Nat) : Int) back))
theorem ang_idx {p k : Nat} (hp : p < 9) : 1296000000000 * k / 2 ^ p = 5062500000 * (2 ^ (8 - p) * k) := by
  have e : 1296000000000 * k = 5062500000 * (2 ^ (8 - p) * k) * 2 ^ p := by
    have h : 2 ^ (8 - p) * 2 ^ p = 256 := by rw [← Nat.pow_add, show 8 - p + p = 8 by omega]
    have : 5062500000 * (2 ^ (8 - p) * k) * 2 ^ p = 5062500000 * (k * (2 ^ (8 - p) * 2 ^ p)) := by
      rw [Nat.mul_assoc, Nat.mul_comm (2 ^ (8 - p)) k, Nat.mul_assoc]
    rw [this, h]; omega
  rw [e, Nat.mul_div_cancel _ (Nat.two_pow_pos p)]
theorem dft_one (b : Bool) (z : Nat → Z) : dft b 256 z 1 0 = z 0 := by
  unfold dft
  show zadd znil (zmul (z 0) (tz b (256 * (0 * 0)))) = z 0
  have : tz b (256 * (0 * 0)) = ⟨1, 0⟩ := by unfold tz; cases b <;> ext <;> decide +kernel
  rw [this]; unfold zadd znil zmul; ext <;> simp <;> grind
theorem lev {G E0 : Rat} (G0 : 0 ≤ G) (h0 : 0 ≤ E0) (h1 : E0 ≤ 7 * (U * G)) : U * (2003 / 1000 * G) + 38 / 10 * E0 + 29 / 10 * U * (1001 / 1000 * G) + 38 / 10 * E0 * (1 + U) + G * (5 / 2 * U) ≤ 76 / 10 * E0 + 76 / 10 * (U * G) := by
  have hU := U_pos
  have hU1 : U ≤ 1 / 1000000 := by decide +kernel
  have UG := Rat.mul_nonneg (Rat.le_of_lt hU) G0
  have k := Rat.mul_le_mul_of_nonneg_right hU1 h0
  grind
theorem fin_add {r yE p yO dE dO t D : Z} {a e c g τ f : Rat} (h1 : Zn (zsub r (zadd yE p)) a) (h2 : Zn (zsub yE dE) e) (h3 : Zn (zsub p (zmul yO t)) c) (h4 : Zn (zsub yO dO) e) (h5 : Zn t τ) (h6 : Zn (zsub D (zadd dE (zmul dO t))) g)
    (hf : a + e + c + e * τ + g ≤ f) : Zn (zsub r D) f := by
  have k := (((h1.add h2).add h3).add (h4.mul h5)).add h6.neg
  refine (k.eq ?_).le hf
  unfold zadd zsub zmul; ext <;> simp <;> grind
theorem fin_sub {r yE p yO dE dO t D : Z} {a e c g τ f : Rat} (h1 : Zn (zsub r (zsub yE p)) a) (h2 : Zn (zsub yE dE) e) (h3 : Zn (zsub p (zmul yO t)) c) (h4 : Zn (zsub yO dO) e) (h5 : Zn t τ) (h6 : Zn (zsub D (zsub dE (zmul dO t))) g)
    (hf : a + e + c + e * τ + g ≤ f) : Zn (zsub r D) f := by
  have k := (((h1.add h2).add h3.neg).add (h4.mul h5).neg).add h6.neg
  refine (k.eq ?_).le hf
  unfold zadd zsub zmul; ext <;> simp <;> grind
/-- What is near, and its size. -/
theorem near_size {y d : Z} {e s : Rat} (h : Zn (zsub y d) e) (k : Zn d s) : Zn y (e + s) := (h.add k).eq (by unfold zadd zsub; ext <;> simp <;> grind)
theorem fast_near (b : Bool) {M : Rat} (hM : ScM M) : ∀ (p : Nat), p < 9 → ∀ (X : Nat → C2) (z : Nat → Z), (∀ j, j < 2 ^ p → Fz (X j) (z j) ∧ Zn (z j) M) → ∀ k, k < 2 ^ p →
    ∃ y, Fz (fastC b p X k) y ∧ Zn (zsub y (dft b (2 ^ (8 - p)) z (2 ^ p) k)) ((p : Rat) * (38 / 10 * U) * (((2 ^ p : Nat) : Rat) * M))
  | 0, _, X, z, hX, k, hk => by
    have hk0 : k = 0 := by simpa using hk
    subst hk0
    refine ⟨z 0, (hX 0 (by decide)).1, ?_⟩
    have : dft b (2 ^ (8 - 0)) z (2 ^ 0) 0 = z 0 := dft_one b z
    rw [this]
    have c0 : ((0 : Nat) : Rat) = 0 := rfl
    rw [c0]
    refine ⟨by grind, ?_⟩
    unfold zsub; simp <;> grind
  | m + 1, hp, X, z, hX, k, hk => by
    have hU := U_pos
    have hU1 : U ≤ 1 / 1000000 := by decide +kernel
    obtain ⟨M0, M1, M2⟩ := hM
    obtain ⟨h, hh⟩ : ∃ h, 2 ^ m = h := ⟨_, rfl⟩
    have h2 : 2 ^ (m + 1) = 2 * h := by rw [Nat.pow_succ, hh, Nat.mul_comm]
    have st2 : 2 ^ (8 - m) = 2 * 2 ^ (8 - (m + 1)) := by rw [show 8 - m = 8 - (m + 1) + 1 by omega, Nat.pow_succ, Nat.mul_comm]
    have h1 : 1 ≤ h := by rw [← hh]; exact Nat.one_le_two_pow
    have h32 : h ≤ 128 := by rw [← hh]; exact Nat.pow_le_pow_right (by decide) (show m ≤ 7 by omega)
    have hst : 2 ^ (8 - (m + 1)) * (2 * h) = 256 := by rw [← h2, ← Nat.pow_add, show 8 - (m + 1) + (m + 1) = 8 by omega]
    have IE := fast_near b ⟨M0, M1, M2⟩ m (by omega) (fun i => X (2 * i)) (fun i => z (2 * i)) (fun j hj => hX (2 * j) (by rw [h2, ← hh]; omega))
    have IO := fast_near b ⟨M0, M1, M2⟩ m (by omega) (fun i => X (2 * i + 1)) (fun i => z (2 * i + 1)) (fun j hj => hX (2 * j + 1) (by rw [h2, ← hh]; omega))
    have hz : ∀ j, j < 2 * h → Zn (z j) M := fun j hj => (hX j (by rw [h2]; exact hj)).2
    have ang : ∀ q, 1296000000000 * q / 2 ^ (m + 1) = 5062500000 * (2 ^ (8 - (m + 1)) * q) := fun q => ang_idx hp
    rw [h2] at hk ⊢
    -- the sizes
    have hr1 : (1 : Rat) ≤ (h : Rat) := by have := rat_le h1; exact this
    have hr32 : (h : Rat) ≤ 128 := by have := rat_le h32; exact this
    have mr0 := nat_nonneg m
    have mr5 : (m : Rat) ≤ 7 := by have := rat_le (show m ≤ 7 by omega); exact this
    have c2h : ((2 * h : Nat) : Rat) = 2 * (h : Rat) := by rw [Rat.natCast_mul]; rfl
    have cm1 : ((m + 1 : Nat) : Rat) = (m : Rat) + 1 := nat_succ m
    rw [hh] at IE IO
    rw [cm1, c2h]
    obtain ⟨G, hG⟩ : ∃ G, (h : Rat) * M = G := ⟨_, rfl⟩
    have G0 : 0 ≤ G := by rw [← hG]; exact Rat.mul_nonneg (by grind) M0
    have MG : M ≤ G := by have := Rat.mul_le_mul_of_nonneg_right hr1 M0; grind
    have GM : G ≤ 128 * M := by have := Rat.mul_le_mul_of_nonneg_right hr32 M0; grind
    have UG := Rat.mul_nonneg (Rat.le_of_lt hU) G0
    have UG1 := Rat.mul_le_mul_of_nonneg_right hU1 G0
    obtain ⟨E0, hE0⟩ : ∃ E0, (m : Rat) * (U * G) = E0 := ⟨_, rfl⟩
    have E00 : 0 ≤ E0 := by rw [← hE0]; exact Rat.mul_nonneg mr0 UG
    have E05 : E0 ≤ 7 * (U * G) := by rw [← hE0]; exact Rat.mul_le_mul_of_nonneg_right mr5 UG
    have eE : (m : Rat) * (38 / 10 * U) * ((h : Rat) * M) = 38 / 10 * E0 := by rw [hG, ← hE0]; grind
    rw [eE] at IE IO
    have tgt : ((m : Rat) + 1) * (38 / 10 * U) * (2 * (h : Rat) * M) = 76 / 10 * E0 + 76 / 10 * (U * G) := by rw [← hE0, ← hG]; grind
    rw [tgt]
    have sz : ∀ (w : Nat → Z), (∀ j, j < h → Zn (w j) M) → ∀ q, Zn (dft b (2 ^ (8 - m)) w h q) ((1 + U) * G) := fun w hw q => (dft_size b _ hw M0 q).le (by rw [← hG]; grind)
    have zE : ∀ j, j < h → Zn ((fun i => z (2 * i)) j) M := fun j hj => hz (2 * j) (by omega)
    have zO : ∀ j, j < h → Zn ((fun i => z (2 * i + 1)) j) M := fun j hj => hz (2 * j + 1) (by omega)
    have big : 2003 / 1000 * G ≤ two 900 := by
      have k : 1000000 * two 600 ≤ two 900 := by decide +kernel
      have := two_pos 600
      grind
    by_cases hlt : k < h
    · obtain ⟨yE, fE, nE⟩ := IE k hlt
      obtain ⟨yO, fO, nO⟩ := IO k hlt
      have sE := (near_size nE (sz _ zE k)).le (s := 1001 / 1000 * G) (by grind)
      have sO := (near_size nO (sz _ zO k)).le (s := 1001 / 1000 * G) (by grind)
      have hi : 2 ^ (8 - (m + 1)) * k < 256 := by
        have := Nat.mul_lt_mul_of_pos_left (show k < 2 * h by omega) (Nat.two_pow_pos (8 - (m + 1)))
        omega
      obtain ⟨p, fp, np⟩ := mul_tw fO (wav_is b hi) sO (tz_size b _) ⟨M0, M1, M2⟩ (by grind) (by grind)
      have sp := (near_size np (sO.mul (tz_size b (2 ^ (8 - (m + 1)) * k)))).le (s := 1002 / 1000 * G) (by grind)
      have sS := (sE.add sp)
      obtain ⟨r, fr, nr⟩ := add_tw fE fp sS (by grind)
      refine ⟨r, ?_, ?_⟩
      · unfold fastC
        rw [if_pos (by rw [hh]; exact hlt), ang]
        exact fr
      · have low := dft_low b (2 ^ (8 - (m + 1))) hz M0 k
        rw [← st2] at low
        refine fin_add (nr.le (s := U * (2003 / 1000 * G)) (by grind)) nE np nO (tz_size b _) low ?_
        have := lev G0 E00 E05
        have e3 : (h : Rat) * (M * (5 / 2 * U)) = G * (5 / 2 * U) := by rw [← hG]; grind
        rw [e3]
        exact this
    · have hlt' : k - h < h := by omega
      obtain ⟨yE, fE, nE⟩ := IE (k - h) hlt'
      obtain ⟨yO, fO, nO⟩ := IO (k - h) hlt'
      have sE := (near_size nE (sz _ zE (k - h))).le (s := 1001 / 1000 * G) (by grind)
      have sO := (near_size nO (sz _ zO (k - h))).le (s := 1001 / 1000 * G) (by grind)
      have hi : 2 ^ (8 - (m + 1)) * (k - h) < 256 := by
        have := Nat.mul_lt_mul_of_pos_left (show k - h < 2 * h by omega) (Nat.two_pow_pos (8 - (m + 1)))
        omega
      obtain ⟨p, fp, np⟩ := mul_tw fO (wav_is b hi) sO (tz_size b _) ⟨M0, M1, M2⟩ (by grind) (by grind)
      have sp := (near_size np (sO.mul (tz_size b (2 ^ (8 - (m + 1)) * (k - h))))).le (s := 1002 / 1000 * G) (by grind)
      have sS := (sE.sub sp)
      obtain ⟨r, fr, nr⟩ := sub_tw fE fp sS (by grind)
      refine ⟨r, ?_, ?_⟩
      · unfold fastC
        rw [if_neg (by rw [hh]; exact hlt), hh, ang]
        exact fr
      · have low := dft_high b (2 ^ (8 - (m + 1))) hst hz M0 (k - h)
        rw [← st2, Nat.sub_add_cancel (by omega)] at low
        refine fin_sub (nr.le (s := U * (2003 / 1000 * G)) (by grind)) nE np nO (tz_size b _) low ?_
        have := lev G0 E00 E05
        have e3 : (h : Rat) * (M * (5 / 2 * U)) = G * (5 / 2 * U) := by rw [← hG]; grind
        rw [e3]
        exact this
end Go.Fe
