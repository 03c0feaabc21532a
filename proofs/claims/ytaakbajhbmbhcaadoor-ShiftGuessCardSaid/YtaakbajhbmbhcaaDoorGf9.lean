/- How two rational rows go together, by waves. Nothing of a program stands here. -/
import Derived.Test.YtaakbajhbmbhcaaDoorGf5
import Derived.Test.YtaakbajhbmbhcaaDoorFe23
import Derived.Test.YtaakbajhbmbhcaaDoorFe8
set_option linter.unusedSimpArgs false
set_option linter.unusedVariables false
namespace Go.Fe
open Ieee Fl

/-! How two rows go together, by waves. -/
theorem zmul_comm (a b : Z) : zmul a b = zmul b a := by unfold zmul; ext <;> simp <;> grind
theorem dft_mod (b : Bool) {st n : Nat} (hs : st * n = 256) (X : Nat → Z) (q : Nat) : dft b st X n q = dft b st X n (q % n) := by
  unfold dft
  refine zsum_congr fun k _ => ?_
  have : tz b (st * (k * q)) = tz b (st * (k * (q % n))) := tz_same b (by
    have h := Nat.div_add_mod q n
    have e : st * (k * q) = 256 * (k * (q / n)) + st * (k * (q % n)) := by
      conv => lhs; rw [← h, Nat.mul_add, Nat.mul_add, Nat.mul_left_comm k n, ← Nat.mul_assoc, hs]
    omega)
  rw [this]
/-- The sum of real parts. -/
def rsum (f : Nat → Rat) : Nat → Rat
  | 0 => 0
  | n + 1 => rsum f n + f n
theorem zsum_real (f : Nat → Rat) : ∀ n, zsum (fun i => ⟨f i, 0⟩) n = ⟨rsum f n, 0⟩
  | 0 => rfl
  | n + 1 => by
    show zadd (zsum _ n) _ = _
    rw [zsum_real f n]; unfold zadd; ext <;> simp <;> first | rfl | grind
theorem rsum_mul (f : Nat → Rat) (c : Rat) : ∀ n, rsum (fun i => c * f i) n = c * rsum f n
  | 0 => by show (0 : Rat) = c * 0; grind
  | n + 1 => by
    show rsum _ n + c * f n = c * (rsum f n + f n)
    rw [rsum_mul f c n]; grind
theorem together {p : Nat} (hp : p < 9) {a c : Nat → Rat} {M : Rat} (M0 : 0 ≤ M) (ha : ∀ i, i < 2 ^ p → Zn ⟨a i, 0⟩ M) (hc : ∀ i, i < 2 ^ p → Zn ⟨c i, 0⟩ M) {j : Nat} :
    Zn (zsub (dft true (2 ^ (8 - p)) (fun k => zmul (dft true (2 ^ (8 - p)) (fun i => ⟨a i, 0⟩) (2 ^ p) k) (dft false (2 ^ (8 - p)) (fun i => ⟨c i, 0⟩) (2 ^ p) k)) (2 ^ p) j) ⟨((2 ^ p : Nat) : Rat) * rsum (fun i => a i * c ((i + j) % 2 ^ p)) (2 ^ p), 0⟩)
      (((2 ^ p : Nat) : Rat) * ((((2 ^ p : Nat) : Rat) * (M * (5 / 2 * U))) * (((2 ^ p : Nat) : Rat) * (M * (1 + U)))) + ((2 ^ p : Nat) : Rat) * (M * (((2 ^ p : Nat) : Rat) * (((2 ^ p : Nat) : Rat) * (M * (5 / 2 * U)))))) := by
  have hs : 2 ^ (8 - p) * 2 ^ p = 256 := by rw [← Nat.pow_add, show 8 - p + p = 8 by omega]
  have inv := fun (q : Nat) (hq : q < 2 ^ p) => dft_inv hp M0 hc hq
  generalize hst : 2 ^ (8 - p) = st at *
  have n0 : 0 < 2 ^ p := Nat.two_pow_pos p
  generalize hn : 2 ^ p = n at *
  have U25 := U15
  obtain ⟨dC, hdC⟩ : ∃ dC, dC = fun k => dft false st (fun i => (⟨c i, 0⟩ : Z)) n k := ⟨_, rfl⟩
  have sC : ∀ k, Zn (dC k) ((n : Rat) * (M * (1 + U))) := fun k => by rw [hdC]; exact dft_size false st hc M0 k
  -- the middle
  obtain ⟨mid, hmid⟩ : ∃ mid, mid = zsum (fun k => zmul (zsum (fun i => zmul (⟨a i, 0⟩ : Z) (tz true (st * (k * (i + j))))) n) (dC k)) n := ⟨_, rfl⟩
  have g1 : Zn (zsub (dft true st (fun k => zmul (dft true st (fun i => (⟨a i, 0⟩ : Z)) n k) (dC k)) n j) mid) ((n : Rat) * (((n : Rat) * (M * (5 / 2 * U))) * ((n : Rat) * (M * (1 + U))))) := by
    rw [hmid]
    refine zsum_gap (Rat.mul_nonneg (Rat.mul_nonneg (nat_nonneg _) (Rat.mul_nonneg M0 U25)) (sC 0).e0) fun k hk => ?_
    have in1 : Zn (zsub (zmul (dft true st (fun i => (⟨a i, 0⟩ : Z)) n k) (tz true (st * (k * j)))) (zsum (fun i => zmul (⟨a i, 0⟩ : Z) (tz true (st * (k * (i + j))))) n)) ((n : Rat) * (M * (5 / 2 * U))) := by
      have e : zmul (dft true st (fun i => (⟨a i, 0⟩ : Z)) n k) (tz true (st * (k * j))) = zsum (fun i => zmul (zmul (⟨a i, 0⟩ : Z) (tz true (st * (i * k)))) (tz true (st * (k * j)))) n := by
        unfold dft; rw [zsum_mul]
      rw [e]
      refine zsum_gap (Rat.mul_nonneg M0 U25) fun i hi => ?_
      have t := (ha i hi).mul (tz_mul true (st * (i * k)) (st * (k * j)))
      have ei : st * (i * k) + st * (k * j) = st * (k * (i + j)) := by rw [Nat.mul_comm i k, ← Nat.mul_add, ← Nat.mul_add]
      rw [ei] at t
      refine t.eq ?_
      generalize tz true (st * (i * k)) = t1
      generalize tz true (st * (k * j)) = t2
      generalize tz true (st * (k * (i + j))) = t3
      unfold zsub zmul; ext <;> simp <;> grind
    have fin : ∀ x1 x2 x3 x4 : Z, zmul (zsub (zmul x1 x3) x4) x2 = zsub (zmul (zmul x1 x2) x3) (zmul x4 x2) := fun x1 x2 x3 x4 => by unfold zsub zmul; ext <;> simp <;> grind
    exact (in1.mul (sC k)).eq (fin _ _ _ _)
  have e2 : mid = zsum (fun i => zmul (⟨a i, 0⟩ : Z) (dft true st dC n ((i + j) % n))) n := by
    rw [hmid]
    have s1 : zsum (fun k => zmul (zsum (fun i => zmul (⟨a i, 0⟩ : Z) (tz true (st * (k * (i + j))))) n) (dC k)) n = zsum (fun k => zsum (fun i => zmul (⟨a i, 0⟩ : Z) (zmul (dC k) (tz true (st * (k * (i + j)))))) n) n := by
      refine zsum_congr fun k _ => ?_
      rw [← zsum_mul]
      refine zsum_congr fun i _ => ?_
      generalize tz true (st * (k * (i + j))) = t
      generalize dC k = y
      unfold zmul; ext <;> simp <;> grind
    rw [s1, zsum_swap (fun i k => zmul (⟨a i, 0⟩ : Z) (zmul (dC k) (tz true (st * (k * (i + j))))))]
    refine zsum_congr fun i _ => ?_
    rw [← dft_mod true hs dC (i + j), zmul_comm, show dft true st dC n (i + j) = zsum (fun k => zmul (dC k) (tz true (st * (k * (i + j))))) n from rfl, ← zsum_mul]
    exact zsum_congr fun k _ => zmul_comm _ _
  have g2 : Zn (zsub mid ⟨(n : Rat) * rsum (fun i => a i * c ((i + j) % n)) n, 0⟩) ((n : Rat) * (M * ((n : Rat) * ((n : Rat) * (M * (5 / 2 * U)))))) := by
    have e3 : (⟨(n : Rat) * rsum (fun i => a i * c ((i + j) % n)) n, 0⟩ : Z) = zsum (fun i => zmul (⟨a i, 0⟩ : Z) ⟨(n : Rat) * c ((i + j) % n), (n : Rat) * 0⟩) n := by
      rw [← rsum_mul, ← zsum_real]
      refine zsum_congr fun i _ => ?_
      unfold zmul; ext <;> simp <;> grind
    rw [e2, e3]
    refine zsum_gap (Rat.mul_nonneg M0 (Rat.mul_nonneg (nat_nonneg _) (Rat.mul_nonneg (nat_nonneg _) (Rat.mul_nonneg M0 U25)))) fun i hi => ?_
    have t := (ha i hi).mul (inv ((i + j) % n) (Nat.mod_lt _ n0))
    rw [← show dC = dft false st (fun i => (⟨c i, 0⟩ : Z)) n from hdC] at t
    refine t.eq ?_
    generalize dft true st dC n ((i + j) % n) = y
    unfold zsub zmul; ext <;> simp <;> grind
  have t := g1.add g2
  rw [hdC] at t
  refine t.eq ?_
  unfold zadd zsub; ext <;> simp <;> grind
end Go.Fe
/- Products of two complex floats, turned over, and parts by n. Nothing of a program stands here. -/
set_option linter.unusedSimpArgs false
set_option linter.unusedVariables false
namespace Go.Fe
open Ieee Fl

theorem mul_gen {O T : C2} {o t : Z} {R S : Rat} (hO : Fz O o) (hT : Fz T t) (hn : Zn o R) (ht : Zn t S) (h1 : 1 ≤ R * S) (h2 : R * S ≤ two 600) :
    ∃ p, Fz (mulC O T) p ∧ Zn (zsub p (zmul o t)) (29 / 10 * U * (R * S)) := by
  obtain ⟨a, b, rfl, fa, fb, va, vb⟩ := hO
  obtain ⟨c, s, rfl, fc, fs, vc, vs⟩ := hT
  have hU := U_pos
  have hU1 : U ≤ 1 / 1000000 := by decide +kernel
  have R0 := hn.e0
  have S0 := ht.e0
  have cau1 := cauchy (ab (V c)) (ab (V s)) 0 (ab (V a)) (ab (V b)) 0
  have cau2 := cauchy (ab (V s)) (ab (V c)) 0 (ab (V a)) (ab (V b)) 0
  simp only [ab_sq] at cau1 cau2
  have ho := hn.s
  have hts := ht.s
  rw [← va, ← vb] at ho
  rw [← vc, ← vs] at hts
  have aa := sq_nonneg (V a)
  have bb := sq_nonneg (V b)
  have cc := sq_nonneg (V c)
  have ss := sq_nonneg (V s)
  have k4 := mul_le_both (show 0 ≤ V c * V c + V s * V s by grind) (show 0 ≤ V a * V a + V b * V b by grind) hts ho
  have k5 : S * S * (R * R) = R * S * (R * S) := by grind
  rw [k5] at k4
  obtain ⟨K, hK⟩ : ∃ K, R * S = K := ⟨_, rfl⟩
  rw [hK] at k4 h1 h2 ⊢
  clear k5
  have B0 : 0 ≤ K := by grind
  have tot1 := (abs_le_of_sq (x := ab (V a) * ab (V c) + ab (V b) * ab (V s)) B0 (by grind)).1
  have tot2 := (abs_le_of_sq (x := ab (V a) * ab (V s) + ab (V b) * ab (V c)) B0 (by grind)).1
  obtain ⟨A1, A2⟩ := ab_mul (V a) (V c)
  obtain ⟨B1, B2⟩ := ab_mul (V b) (V s)
  obtain ⟨A3, A4⟩ := ab_mul (V a) (V s)
  obtain ⟨B3, B4⟩ := ab_mul (V b) (V c)
  have g6 : 1000000 * two 600 ≤ two 800 := by decide +kernel
  have g7 : two (-800) ≤ 1 := by decide +kernel
  have g8 := two_pos 600
  clear ho hts k4 cau1 cau2 aa bb cc ss
  have sc1 : (K = 0 ∧ V a * V c = 0 ∧ V b * V s = 0) ∨ two (-800) ≤ K := Or.inr (Rat.le_trans g7 h1)
  have sc2 : (K = 0 ∧ V a * V s = 0 ∧ V b * V c = 0) ∨ two (-800) ≤ K := Or.inr (Rat.le_trans g7 h1)
  obtain ⟨⟨x, hx, fx, x1, x2⟩, _⟩ := two_s (m := K) fa fc fb fs A1 A2 B1 B2 (by grind) (by grind) sc1
  obtain ⟨_, ⟨y, hy, fy, y1, y2⟩⟩ := two_s (m := K) fa fs fb fc A3 A4 B3 B4 (by grind) (by grind) sc2
  refine ⟨⟨V x, V y⟩, ⟨x, y, ?_, fx, fy, rfl, rfl⟩, ?_⟩
  · show (⟨_, _⟩ : C2) = _
    rw [hx, hy]
  · have l1 := Rat.mul_le_mul_of_nonneg_left tot1 (Rat.le_of_lt hU)
    have l2 := Rat.mul_le_mul_of_nonneg_left tot2 (Rat.le_of_lt hU)
    have UM0 := Rat.mul_nonneg (Rat.le_of_lt hU) B0
    have k8 : U * U * K ≤ 1 / 1000000 * (U * K) := by
      have := Rat.mul_le_mul_of_nonneg_right hU1 UM0
      grind
    have e1 : (zsub ⟨V x, V y⟩ (zmul o t)).re = V x - (V a * V c - V b * V s) := by unfold zsub zmul; rw [va, vb, vc, vs]
    have e2 : (zsub ⟨V x, V y⟩ (zmul o t)).im = V y - (V a * V s + V b * V c) := by unfold zsub zmul; rw [va, vb, vc, vs]
    clear A1 A2 A3 A4 B1 B2 B3 B4 sc1 sc2 hx hy g6 g7 g8 tot1 tot2 hK h2
    generalize ab (V a) * ab (V c) + ab (V b) * ab (V s) = Z1 at *
    generalize ab (V a) * ab (V s) + ab (V b) * ab (V c) = Z2 at *
    refine (Zn.of2 (e := 2045 / 1000 * U * K) (by grind) ?_ ?_ ?_ ?_).le (by grind)
    · rw [e1]; grind
    · rw [e1]; grind
    · rw [e2]; grind
    · rw [e2]; grind
/-- Turned over. -/
def conC (x : C2) : C2 := ⟨x.re, Fl.fneg x.im⟩
def con (z : Z) : Z := ⟨z.re, -z.im⟩
theorem con_is {X : C2} {z : Z} (h : Fz X z) : Fz (conC X) (con z) := by
  obtain ⟨u, v, rfl, fu, fv, vu, vv⟩ := h
  obtain ⟨nf, nv⟩ := neg_val fv
  exact ⟨u, _, rfl, fu, nf, vu, by rw [nv, vv]; rfl⟩
theorem Zn.con {z : Z} {r : Rat} (h : Zn z r) : Zn (con z) r := ⟨h.e0, by have := h.s; show z.re * z.re + -z.im * -z.im ≤ _; grind⟩
theorem con_sub (a b : Z) : zsub (con a) (con b) = con (zsub a b) := by unfold zsub con; ext <;> simp <;> grind
theorem zsum_con (f : Nat → Z) : ∀ n, con (zsum f n) = zsum (fun j => con (f j)) n
  | 0 => by show con znil = znil; unfold con znil; ext <;> simp
  | n + 1 => by
    show con (zadd (zsum f n) (f n)) = zadd (zsum (fun j => con (f j)) n) (con (f n))
    rw [← zsum_con f n]; unfold con zadd; ext <;> simp <;> grind
theorem dft_con (st : Nat) (a : Nat → Rat) (n k : Nat) : con (dft false st (fun i => ⟨a i, 0⟩) n k) = dft true st (fun i => ⟨a i, 0⟩) n k := by
  unfold dft
  rw [zsum_con]
  refine zsum_congr fun j _ => ?_
  unfold con zmul tz; ext <;> simp <;> grind
theorem dft_gap (b : Bool) (st : Nat) {X Y : Nat → Z} {n : Nat} {e : Rat} (e0 : 0 ≤ e) (h : ∀ j, j < n → Zn (zsub (X j) (Y j)) e) (k : Nat) : Zn (zsub (dft b st X n k) (dft b st Y n k)) ((n : Rat) * (e * (1 + U))) := by
  refine zsum_gap (Rat.mul_nonneg e0 (by have := U_pos; grind)) fun j hj => ?_
  refine ((h j hj).mul (tz_size b (st * (j * k)))).eq ?_
  unfold zsub zmul; ext <;> simp <;> grind
def shrC (n : Nat) (x : C2) : C2 := ⟨Fl.fdiv x.re (Tr.ofI (n : Int)), Fl.fdiv x.im (Tr.ofI (n : Int))⟩
theorem shr_gen {x n : Nat} {m M e : Rat} (hx : Fn x) (hn0 : 0 < n) (hn : n ≤ 256) (M1 : 1 ≤ M) (M2 : M ≤ two 600) (hB : Nr (V x) ((n : Rat) * m) ((n : Rat) * e)) (hm : m ≤ M) (hm' : -M ≤ m) (he : e ≤ M) (e0 : 0 ≤ e) :
    ∃ r, Fl.fdiv (some x) (Tr.ofI (n : Int)) = some r ∧ Fn r ∧ Nr (V r) m (e + 5 * U * M) := by
  have M0 : 0 ≤ M := by grind
  have hU := U_pos
  obtain ⟨w, hw, fw, vw⟩ := ofI_val (n := (n : Int)) (by omega)
  have vw' : V w = (n : Rat) := vw
  have n1 : (1 : Rat) ≤ (n : Rat) := rat_le hn0
  have n64 : (n : Rat) ≤ 256 := by have := rat_le hn; exact this
  obtain ⟨b1, b2⟩ := hB
  have nm := Rat.mul_le_mul_of_nonneg_right n64 M0
  have k1 : ab (V x) ≤ two 800 * V w := by
    rw [vw']
    have q1 : V x ≤ 2 * ((n : Rat) * M) := by
      have g1 := Rat.mul_le_mul_of_nonneg_left hm (show 0 ≤ (n : Rat) by grind)
      have g2 := Rat.mul_le_mul_of_nonneg_left he (show 0 ≤ (n : Rat) by grind)
      grind
    have q2 : -V x ≤ 2 * ((n : Rat) * M) := by
      have g1 := Rat.mul_le_mul_of_nonneg_left hm' (show 0 ≤ (n : Rat) by grind)
      have g2 := Rat.mul_le_mul_of_nonneg_left he (show 0 ≤ (n : Rat) by grind)
      grind
    have q3 : ab (V x) ≤ 2 * ((n : Rat) * M) := by unfold ab; split <;> grind
    have g6 : 1000 * two 600 ≤ two 800 := by decide +kernel
    have g8 := two_pos 800
    have q4 := Rat.mul_le_mul_of_nonneg_left n1 (Rat.le_of_lt g8)
    grind
  rw [hw]
  obtain ⟨r, hr, fr, r1, r2⟩ := part_of hx fw (by rw [vw']; grind) k1
  refine ⟨r, hr, fr, ?_⟩
  obtain ⟨u, hu⟩ : ∃ u, V x / V w = u := ⟨_, rfl⟩
  rw [hu] at r1 r2
  have hux : V x = u * (n : Rat) := by rw [← hu, vw']; exact (Rat.div_mul_cancel (by grind)).symm
  rw [hux] at b1 b2
  have u1 : u - m ≤ e := by
    refine Rat.not_lt.mp fun h => ?_
    have := Rat.mul_pos (show 0 < u - m - e by grind) (show 0 < (n : Rat) by grind)
    grind
  have u2 : m - u ≤ e := by
    refine Rat.not_lt.mp fun h => ?_
    have := Rat.mul_pos (show 0 < m - u - e by grind) (show 0 < (n : Rat) by grind)
    grind
  have ua : ab u ≤ 2 * M := by unfold ab; split <;> grind
  have k2 := Rat.mul_le_mul_of_nonneg_left ua (Rat.le_of_lt hU)
  have tiny : two (-1075) ≤ U * M := by
    have g := Rat.mul_le_mul_of_nonneg_left M1 (Rat.le_of_lt hU)
    have g2 : two (-1075) ≤ U * 1 := by decide +kernel
    grind
  exact ⟨by grind, by grind⟩
end Go.Fe
/- How two rows of whole numbers go together, by waves of floats: the error. Nothing of a program stands here. -/
set_option linter.unusedSimpArgs false
set_option linter.unusedVariables false
namespace Go.Fe
open Ieee Fl

def rowC (a : Nat → Int) (i : Nat) : C2 := ⟨Tr.ofI (a i), some 0⟩
def guessC (p : Nat) (a c : Nat → Int) : Nat → C2 := fastC true p (fun k => mulC (conC (fastC false p (rowC a) k)) (fastC false p (rowC c) k))
theorem row_is {a : Nat → Int} {i M : Nat} (h : (a i).natAbs ≤ M) (hM : M ≤ 1048576) : Fz (rowC a i) ⟨(a i : Rat), 0⟩ ∧ Zn ⟨(a i : Rat), 0⟩ (M : Rat) := by
  obtain ⟨w, hw, fw, vw⟩ := ofI_val (n := a i) (by omega)
  refine ⟨⟨w, 0, ?_, fw, fn_zero, vw, V_zero⟩, ?_⟩
  · unfold rowC; rw [hw]
  · refine ⟨nat_nonneg _, ?_⟩
    have k1 := rat_int (show a i ≤ (M : Int) by omega)
    have k2 := rat_int (show -(M : Int) ≤ a i by omega)
    have e2 : ((-(M : Int) : Int) : Rat) = -(M : Rat) := by rw [Rat.intCast_neg]; rfl
    have e1 : (((M : Int) : Int) : Rat) = (M : Rat) := rfl
    rw [e1] at k1
    rw [e2] at k2
    have := Rat.mul_nonneg (show 0 ≤ (M : Rat) - (a i : Rat) by grind) (show 0 ≤ (M : Rat) + (a i : Rat) by grind)
    show (a i : Rat) * (a i : Rat) + 0 * 0 ≤ _
    grind
theorem rsum_le {f : Nat → Rat} {B : Rat} : ∀ {n : Nat}, (∀ i, i < n → f i ≤ B ∧ -B ≤ f i) → rsum f n ≤ (n : Rat) * B ∧ -((n : Rat) * B) ≤ rsum f n
  | 0, _ => by
    have c0 : ((0 : Nat) : Rat) = 0 := rfl
    rw [c0]; show (0 : Rat) ≤ 0 * B ∧ -(0 * B) ≤ 0; constructor <;> grind
  | n + 1, h => by
    have k := rsum_le (n := n) fun i hi => h i (by omega)
    have l := h n (by omega)
    rw [nat_succ]
    show rsum f n + f n ≤ _ ∧ _ ≤ rsum f n + f n
    constructor <;> grind
theorem pow_le {p : Nat} (hp : p < 9) : 2 ^ p ≤ 256 := by
  have := Nat.pow_le_pow_right (n := 2) (by decide) (show p ≤ 8 by omega)
  simpa using this
theorem guess_mid {p : Nat} (hp : p < 9) {a c : Nat → Int} {M : Nat} (M1 : 1 ≤ M) (hM : M ≤ 1048576) (ha : ∀ i, i < 2 ^ p → (a i).natAbs ≤ M) (hc : ∀ i, i < 2 ^ p → (c i).natAbs ≤ M) {G : Rat} (hG : ((2 ^ p : Nat) : Rat) * (M : Rat) = G) (k : Nat) (hk : k < 2 ^ p) :
    ∃ q, Fz (mulC (conC (fastC false p (rowC a) k)) (fastC false p (rowC c) k)) q ∧ Zn q (101 / 100 * (G * G)) ∧
      Zn (zsub q (zmul (dft true (2 ^ (8 - p)) (fun i => ⟨(a i : Rat), 0⟩) (2 ^ p) k) (dft false (2 ^ (8 - p)) (fun i => ⟨(c i : Rat), 0⟩) (2 ^ p) k))) (66 * U * (G * G)) := by
  have hU := U_pos
  have hU1 : U ≤ 1 / 1000000 := by decide +kernel
  have m1 : (1 : Rat) ≤ (M : Rat) := rat_le M1
  have m2 : (M : Rat) ≤ 1048576 := by have := rat_le hM; exact this
  have n1 : (1 : Rat) ≤ ((2 ^ p : Nat) : Rat) := rat_le (Nat.two_pow_pos p)
  have n2 : ((2 ^ p : Nat) : Rat) ≤ 256 := by have := rat_le (pow_le hp); exact this
  have hS : ScM (M : Rat) := ⟨by grind, Rat.le_trans m2 (by decide +kernel), Or.inr (Rat.le_trans (show two (-700) ≤ 1 by decide +kernel) m1)⟩
  have G1 : 1 ≤ G := by have := mul_le_both (show (0 : Rat) ≤ 1 by decide) (show (0 : Rat) ≤ 1 by decide) n1 m1; grind
  have G2 : G ≤ 268435456 := by have := mul_le_both (show (0 : Rat) ≤ ((2 ^ p : Nat) : Rat) by grind) (show (0 : Rat) ≤ (M : Rat) by grind) n2 m2; grind
  have p8 : (p : Rat) ≤ 8 := by have := rat_le (show p ≤ 8 by omega); exact this
  have UG := Rat.mul_nonneg (Rat.le_of_lt hU) (show 0 ≤ G by grind)
  have eE : (p : Rat) * (38 / 10 * U) * (((2 ^ p : Nat) : Rat) * (M : Rat)) ≤ 31 * U * G := by
    rw [hG]
    have := Rat.mul_le_mul_of_nonneg_right p8 UG
    grind
  obtain ⟨x, fx, nx⟩ := fast_near false hS p hp (rowC a) (fun i => ⟨(a i : Rat), 0⟩) (fun j hj => row_is (ha j hj) hM) k hk
  obtain ⟨y, fy, ny⟩ := fast_near false hS p hp (rowC c) (fun i => ⟨(c i : Rat), 0⟩) (fun j hj => row_is (hc j hj) hM) k hk
  have nx := nx.le eE
  have ny := ny.le eE
  have sG : ((2 ^ p : Nat) : Rat) * ((M : Rat) * (1 + U)) ≤ 10001 / 10000 * G := by
    have := Rat.mul_le_mul_of_nonneg_right hU1 (show 0 ≤ G by grind)
    have e : ((2 ^ p : Nat) : Rat) * ((M : Rat) * (1 + U)) = G * (1 + U) := by rw [← hG]; grind
    rw [e]; grind
  have da := (dft_size false (2 ^ (8 - p)) (fun j hj => (row_is (ha j hj) hM).2) hS.1 k).le sG
  have dc := (dft_size false (2 ^ (8 - p)) (fun j hj => (row_is (hc j hj) hM).2) hS.1 k).le sG
  have cx := nx.con
  rw [← con_sub, dft_con] at cx
  have ca := da.con
  rw [dft_con] at ca
  clear nx da
  generalize dft true (2 ^ (8 - p)) (fun i => (⟨(a i : Rat), 0⟩ : Z)) (2 ^ p) k = A at *
  generalize dft false (2 ^ (8 - p)) (fun i => (⟨(c i : Rat), 0⟩ : Z)) (2 ^ p) k = C at *
  have UG1 := Rat.mul_le_mul_of_nonneg_right hU1 (show 0 ≤ G by grind)
  have sx := (near_size cx ca).le (show _ ≤ 1001 / 1000 * G by grind)
  have sy := (near_size ny dc).le (show _ ≤ 1001 / 1000 * G by grind)
  have GG1 := mul_le_both (show (0 : Rat) ≤ 1 by decide) (show (0 : Rat) ≤ 1 by decide) G1 G1
  have GG2 := mul_le_both (show 0 ≤ G by grind) (show 0 ≤ G by grind) G2 G2
  have eR : 1001 / 1000 * G * (1001 / 1000 * G) = 1002001 / 1000000 * (G * G) := by grind
  obtain ⟨q, fq, nq⟩ := mul_gen (con_is fx) fy sx sy (by rw [eR]; grind) (by rw [eR]; exact Rat.le_trans (show _ ≤ (1000000000000000000 : Rat) by grind) (by decide +kernel))
  have UGG := Rat.mul_nonneg UG (show 0 ≤ G by grind)
  have UGG1 := Rat.mul_le_mul_of_nonneg_right hU1 (show 0 ≤ G * G by grind)
  have near : Zn (zsub q (zmul A C)) (66 * U * (G * G)) := by
    have t := (nq.add (cx.mul sy)).add (ca.mul ny)
    refine (t.eq ?_).le (by grind)
    unfold zadd zsub zmul; ext <;> simp <;> grind
  refine ⟨q, fq, ?_, near⟩
  exact (near_size near (ca.mul dc)).le (by grind)
theorem guess_near {p : Nat} (hp : p < 9) {a c : Nat → Int} {M : Nat} (M1 : 1 ≤ M) (hM : M ≤ 1048576) (ha : ∀ i, i < 2 ^ p → (a i).natAbs ≤ M) (hc : ∀ i, i < 2 ^ p → (c i).natAbs ≤ M) {j : Nat} (hj : j < 2 ^ p) :
    ∃ w, (shrC (2 ^ p) (guessC p a c j)).re = some w ∧ Fn w ∧ Nr (V w) (rsum (fun i => (a i : Rat) * (c ((i + j) % 2 ^ p) : Rat)) (2 ^ p)) (1 / 1000 * ((M : Rat) * (M : Rat))) := by
  have hU := U_pos
  have hU1 : U ≤ 1 / 1000000 := by decide +kernel
  have hU2 : U ≤ 1 / 10000000000 := by decide +kernel
  have m1 : (1 : Rat) ≤ (M : Rat) := rat_le M1
  have m2 : (M : Rat) ≤ 1048576 := by have := rat_le hM; exact this
  have n1 : (1 : Rat) ≤ ((2 ^ p : Nat) : Rat) := rat_le (Nat.two_pow_pos p)
  have n2 : ((2 ^ p : Nat) : Rat) ≤ 256 := by have := rat_le (pow_le hp); exact this
  obtain ⟨G, hG⟩ : ∃ G, ((2 ^ p : Nat) : Rat) * (M : Rat) = G := ⟨_, rfl⟩
  have G1 : 1 ≤ G := by have := mul_le_both (show (0 : Rat) ≤ 1 by decide) (show (0 : Rat) ≤ 1 by decide) n1 m1; grind
  have G2 : G ≤ 268435456 := by have := mul_le_both (show (0 : Rat) ≤ ((2 ^ p : Nat) : Rat) by grind) (show (0 : Rat) ≤ (M : Rat) by grind) n2 m2; grind
  have p8 : (p : Rat) ≤ 8 := by have := rat_le (show p ≤ 8 by omega); exact this
  have GG1 := mul_le_both (show (0 : Rat) ≤ 1 by decide) (show (0 : Rat) ≤ 1 by decide) G1 G1
  have GG2 := mul_le_both (show 0 ≤ G by grind) (show 0 ≤ G by grind) G2 G2
  have G0 : 0 ≤ G := by grind
  have GG0 : 0 ≤ G * G := Rat.mul_nonneg G0 G0
  have mid := fun k hk => guess_mid hp M1 hM ha hc hG k hk
  have mid2 : ∀ k, ∃ q, k < 2 ^ p → Fz (mulC (conC (fastC false p (rowC a) k)) (fastC false p (rowC c) k)) q ∧ Zn q (101 / 100 * (G * G)) ∧
      Zn (zsub q (zmul (dft true (2 ^ (8 - p)) (fun i => ⟨(a i : Rat), 0⟩) (2 ^ p) k) (dft false (2 ^ (8 - p)) (fun i => ⟨(c i : Rat), 0⟩) (2 ^ p) k))) (66 * U * (G * G)) := fun k => by
    by_cases hk : k < 2 ^ p
    · obtain ⟨q, h⟩ := mid k hk
      exact ⟨q, fun _ => h⟩
    · exact ⟨znil, fun h => absurd h hk⟩
  obtain ⟨q, hq⟩ := Classical.axiomOfChoice mid2
  have hS : ScM (101 / 100 * (G * G)) := ⟨by grind, Rat.le_trans (show _ ≤ (1000000000000000000 : Rat) by grind) (by decide +kernel), Or.inr (Rat.le_trans (show two (-700) ≤ 1 by decide +kernel) (by grind))⟩
  obtain ⟨y, fy, ny⟩ := fast_near true hS p hp (fun k => mulC (conC (fastC false p (rowC a) k)) (fastC false p (rowC c) k)) q (fun k hk => ⟨(hq k hk).1, (hq k hk).2.1⟩) j hj
  have gap := dft_gap true (2 ^ (8 - p)) (n := 2 ^ p) (X := q) (Y := fun k => zmul (dft true (2 ^ (8 - p)) (fun i => ⟨(a i : Rat), 0⟩) (2 ^ p) k) (dft false (2 ^ (8 - p)) (fun i => ⟨(c i : Rat), 0⟩) (2 ^ p) k)) (Rat.mul_nonneg (by grind) GG0) (fun k hk => (hq k hk).2.2) j
  have tog := together hp (a := fun i => (a i : Rat)) (c := fun i => (c i : Rat)) (j := j) (M := (M : Rat)) (by grind) (fun i hi => (row_is (ha i hi) hM).2) (fun i hi => (row_is (hc i hi) hM).2)
  have cs := rsum_le (n := 2 ^ p) (f := fun i => (a i : Rat) * (c ((i + j) % 2 ^ p) : Rat)) (B := (M : Rat) * (M : Rat)) (fun i hi => by
    have k1 := (row_is (ha i hi) hM).2.mul (row_is (hc _ (Nat.mod_lt (i + j) (Nat.two_pow_pos p))) hM).2
    have k2 := k1.comp.1
    unfold zmul at k2
    simp at k2
    constructor <;> grind)
  have tot := ((ny.add gap).add tog)
  clear ny gap tog mid mid2 hq
  generalize hsum : rsum (fun i => (a i : Rat) * (c ((i + j) % 2 ^ p) : Rat)) (2 ^ p) = W at *
  obtain ⟨n, hn⟩ : ∃ n : Rat, ((2 ^ p : Nat) : Rat) = n := ⟨_, rfl⟩
  rw [hn] at tot cs hG n1 n2
  have pos : 0 ≤ n * (U * (G * G)) := Rat.mul_nonneg (by grind) (Rat.mul_nonneg (Rat.le_of_lt hU) GG0)
  have b1 : (p : Rat) * (38 / 10 * U) * (n * (101 / 100 * (G * G))) ≤ 31 * (n * (U * (G * G))) := by
    have := Rat.mul_le_mul_of_nonneg_right p8 pos
    grind
  have b2 : n * (66 * U * (G * G) * (1 + U)) ≤ 67 * (n * (U * (G * G))) := by
    have := Rat.mul_le_mul_of_nonneg_right hU1 pos
    grind
  have b3 : n * ((n * ((M : Rat) * (5 / 2 * U))) * (n * ((M : Rat) * (1 + U)))) + n * ((M : Rat) * (n * (n * ((M : Rat) * (5 / 2 * U))))) ≤ 6 * (n * (U * (G * G))) := by
    have e : n * ((n * ((M : Rat) * (5 / 2 * U))) * (n * ((M : Rat) * (1 + U)))) + n * ((M : Rat) * (n * (n * ((M : Rat) * (5 / 2 * U))))) = 5 * (n * (U * (G * G))) + 5 / 2 * (U * (n * (U * (G * G)))) := by rw [← hG]; grind
    have := Rat.mul_le_mul_of_nonneg_right hU1 pos
    rw [e]; grind
  obtain ⟨u, v, ey, fu, fv, vu, vv⟩ := fy
  have near : Zn (zsub y ⟨n * W, 0⟩) (n * (104 * U * (G * G))) := by
    refine (tot.eq ?_).le (by grind)
    unfold zadd zsub; ext <;> simp <;> grind
  clear tot b1 b2 b3
  have cmp := near.comp.1
  unfold zsub at cmp
  simp only at cmp
  rw [← vu] at cmp
  have nM := Rat.mul_le_mul_of_nonneg_right n1 (show 0 ≤ n * ((M : Rat) * (M : Rat)) from Rat.mul_nonneg (by grind) (Rat.mul_nonneg (by grind) (by grind)))
  have eG : G * G = n * (n * ((M : Rat) * (M : Rat))) := by rw [← hG]; grind
  have UGG1 := Rat.mul_le_mul_of_nonneg_right hU1 GG0
  have UGG0 := Rat.mul_nonneg (Rat.le_of_lt hU) GG0
  obtain ⟨w, hw, fw, nw⟩ := shr_gen (x := u) (n := 2 ^ p) (m := W) (M := G * G) (e := 104 * U * (G * G)) fu (Nat.two_pow_pos p) (pow_le hp) (by grind) (Rat.le_trans (show _ ≤ (1000000000000000000 : Rat) by grind) (by decide +kernel))
    ⟨by rw [hn]; grind, by rw [hn]; grind⟩ (by grind) (by grind) (by grind) (by grind)
  refine ⟨w, ?_, fw, ?_⟩
  · show Fl.fdiv (guessC p a c j).re _ = _
    unfold guessC
    rw [ey]
    exact hw
  · have MM0 : 0 ≤ (M : Rat) * (M : Rat) := Rat.mul_nonneg (by grind) (by grind)
    have nn := mul_le_both (show 0 ≤ n by grind) (show 0 ≤ n by grind) n2 n2
    have l1 := Rat.mul_le_mul_of_nonneg_right nn MM0
    have l2 := Rat.mul_le_mul_of_nonneg_left l1 (Rat.le_of_lt hU)
    have l3 := Rat.mul_le_mul_of_nonneg_right hU2 MM0
    have lim : 109 * (U * (G * G)) ≤ 1 / 1000 * ((M : Rat) * (M : Rat)) := by rw [eG]; grind
    obtain ⟨r1, r2⟩ := nw
    exact ⟨by grind, by grind⟩
end Go.Fe
/- The greatest of a row of floats, and the shift that it finds. Nothing of a program stands here. -/
set_option linter.unusedSimpArgs false
set_option linter.unusedVariables false
namespace Go.Fe
open Ieee Fl

def bestF (D : Nat → Option Nat) : Nat → Nat
  | 0 => 0
  | i + 1 => if Fl.flt (D (bestF D i)) (D i) then i else bestF D i
theorem bestF_le (D : Nat → Option Nat) : ∀ i, bestF D i ≤ i - 1
  | 0 => Nat.le_refl 0
  | i + 1 => by
    have := bestF_le D i
    unfold bestF
    split <;> omega
theorem bestF_one (D : Nat → Option Nat) : bestF D 1 = 0 := by have := bestF_le D 1; omega
theorem best_at {D : Nat → Option Nat} {W : Nat → Nat} {n s : Nat} (hs : s < n) (hD : ∀ j, j < n → D j = some (W j) ∧ Fn (W j)) (h : ∀ j, j < n → j ≠ s → V (W j) < V (W s)) :
    ∀ i, i ≤ n → s < i → bestF D i = s
  | 0, _, h0 => absurd h0 (Nat.not_lt_zero _)
  | i + 1, hi, hsi => by
    have l := bestF_le D i
    have bn : bestF D i < n := by omega
    obtain ⟨d1, f1⟩ := hD i (by omega)
    obtain ⟨d2, f2⟩ := hD (bestF D i) bn
    unfold bestF
    rw [d1, d2, flt_val f2 f1]
    rcases Nat.lt_or_ge s i with g | g
    · have e := best_at hs hD h i (by omega) g
      have k := h i (by omega) (by omega)
      rw [e, decide_eq_false (by grind)]
      rfl
    · have e : s = i := by omega
      subst e
      by_cases g2 : bestF D s = s
      · rw [g2]; simp
      · rw [decide_eq_true (h _ bn g2)]; rfl
/-- Sums of whole numbers. -/
def isum (f : Nat → Int) : Nat → Int
  | 0 => 0
  | n + 1 => isum f n + f n
theorem isum_rat (f : Nat → Int) : ∀ n, ((isum f n : Int) : Rat) = rsum (fun i => (f i : Rat)) n
  | 0 => rfl
  | n + 1 => by
    show ((isum f n + f n : Int) : Rat) = rsum _ n + _
    rw [Rat.intCast_add, isum_rat f n]
theorem isum_nil {f : Nat → Int} : ∀ {n : Nat}, (∀ i, i < n → f i = 0) → isum f n = 0
  | 0, _ => rfl
  | n + 1, h => by
    show isum f n + f n = 0
    rw [isum_nil fun i hi => h i (by omega), h n (by omega)]; rfl
theorem isum_pos {f : Nat → Int} : ∀ {n : Nat}, (∀ i, i < n → 0 ≤ f i) → 0 ≤ isum f n
  | 0, _ => Int.le_refl 0
  | n + 1, h => by
    have k := isum_pos (n := n) fun i hi => h i (by omega)
    have l := h n (by omega)
    show 0 ≤ isum f n + f n
    omega
theorem isum_ge {f : Nat → Int} {i : Nat} : ∀ {n : Nat}, (∀ i, i < n → 0 ≤ f i) → i < n → f i ≤ isum f n
  | 0, _, h0 => absurd h0 (Nat.not_lt_zero _)
  | n + 1, h, hi => by
    show f i ≤ isum f n + f n
    rcases Nat.lt_or_ge i n with g | g
    · have k := isum_ge (n := n) (fun i hi => h i (by omega)) g
      have l := h n (by omega)
      omega
    · have e : i = n := by omega
      subst e
      have k := isum_pos (n := i) fun i hi => h i (by omega)
      omega
theorem isum_congr {f g : Nat → Int} : ∀ {n : Nat}, (∀ i, i < n → f i = g i) → isum f n = isum g n
  | 0, _ => rfl
  | n + 1, h => by
    show isum f n + f n = isum g n + g n
    rw [isum_congr fun i hi => h i (by omega), h n (by omega)]
theorem most_of (a : Nat → Int) : ∀ n, 0 < n → ∃ M i, i < n ∧ (a i).natAbs = M ∧ ∀ j, j < n → (a j).natAbs ≤ M
  | 0, h => absurd h (Nat.lt_irrefl 0)
  | 1, _ => ⟨_, 0, by omega, rfl, fun j hj => by obtain rfl : j = 0 := by omega
                                                 exact Nat.le_refl _⟩
  | n + 2, _ => by
    obtain ⟨M, i, hi, hM, h⟩ := most_of a (n + 1) (by omega)
    by_cases g : (a (n + 1)).natAbs ≤ M
    · exact ⟨M, i, by omega, hM, fun j hj => by
        rcases Nat.lt_or_ge j (n + 1) with k | k
        · exact h j k
        · obtain rfl : j = n + 1 := by omega
          exact g⟩
    · exact ⟨_, n + 1, by omega, rfl, fun j hj => by
        rcases Nat.lt_or_ge j (n + 1) with k | k
        · have := h j k; omega
        · obtain rfl : j = n + 1 := by omega
          exact Nat.le_refl _⟩
theorem back_idx {i s n : Nat} (hi : i < n) (hs : s < n) : ((i + s) % n + n - s) % n = i := by
  rcases Nat.lt_or_ge (i + s) n with h | h
  · rw [Nat.mod_eq_of_lt h, show i + s + n - s = i + n by omega, Nat.add_mod_right, Nat.mod_eq_of_lt hi]
  · rw [Nat.mod_eq_sub_mod h, Nat.mod_eq_of_lt (show i + s - n < n by omega), show i + s - n + n - s = i by omega, Nat.mod_eq_of_lt hi]
/-- What complex numbers guess of a row that was shifted. -/
theorem guess_is {p n : Nat} (hp : p < 9) (hn : 2 ^ p = n) {a c : Nat → Int} {s : Nat} (hs : s < n) (ha : ∀ i, i < n → (a i).natAbs ≤ 1048576) (hc : ∀ i, i < n → c i = a ((i + n - s) % n))
    (h : ∀ j, j < n → j ≠ s → 2 * isum (fun i => a i * c ((i + j) % n)) n < isum (fun i => a i * c ((i + s) % n)) n) :
    bestF (fun j => (shrC n (guessC p a c j)).re) n = s := by
  obtain ⟨M, i0, hi0, hM, hle⟩ := most_of a n (by omega)
  have M2 : M ≤ 1048576 := by have := ha i0 hi0; omega
  have self : ∀ i, i < n → c ((i + s) % n) = a i := fun i hi => by
    rw [hc _ (Nat.mod_lt _ (by omega)), back_idx hi hs]
  rcases Nat.eq_zero_or_pos M with M0 | M1
  · rcases Nat.lt_or_ge 1 n with n1 | n1
    · exfalso
      have z : ∀ j, isum (fun i => a i * c ((i + j) % n)) n = 0 := fun j => isum_nil fun i hi => by
        have : a i = 0 := by have := hle i hi; omega
        show a i * _ = 0
        rw [this, Int.zero_mul]
      obtain ⟨j, j1, j2⟩ : ∃ j, j < n ∧ j ≠ s := by
        rcases Nat.eq_zero_or_pos s with g | g
        · exact ⟨1, n1, by omega⟩
        · exact ⟨0, by omega, by omega⟩
      have := h j j1 j2
      rw [z j, z s] at this
      omega
    · obtain rfl : n = 1 := by omega
      rw [bestF_one]; omega
  · subst hn
    have cle : ∀ i, i < 2 ^ p → (c i).natAbs ≤ M := fun i hi => by
      rw [hc i hi]; exact hle _ (Nat.mod_lt _ (by omega))
    have near := fun j (hj : j < 2 ^ p) => guess_near hp M1 M2 hle cle hj
    have near2 : ∀ j, ∃ w, j < 2 ^ p → (shrC (2 ^ p) (guessC p a c j)).re = some w ∧ Fn w ∧ Nr (V w) (rsum (fun i => (a i : Rat) * (c ((i + j) % 2 ^ p) : Rat)) (2 ^ p)) (1 / 1000 * ((M : Rat) * (M : Rat))) := fun j => by
      by_cases hj : j < 2 ^ p
      · obtain ⟨w, hw⟩ := near j hj
        exact ⟨w, fun _ => hw⟩
      · exact ⟨0, fun g => absurd g hj⟩
    obtain ⟨W, hW⟩ := Classical.axiomOfChoice near2
    have cast : ∀ j, rsum (fun i => (a i : Rat) * (c ((i + j) % 2 ^ p) : Rat)) (2 ^ p) = ((isum (fun i => a i * c ((i + j) % 2 ^ p)) (2 ^ p) : Int) : Rat) := fun j => by
      rw [isum_rat]
      congr 1
      funext i
      rw [Rat.intCast_mul]
    have big : (M : Int) * (M : Int) ≤ isum (fun i => a i * c ((i + s) % 2 ^ p)) (2 ^ p) := by
      rw [isum_congr (g := fun i => a i * a i) fun i hi => by show a i * c _ = _; rw [self i hi]]
      have k := isum_ge (f := fun i => a i * a i) (i := i0) (fun i _ => by
        show 0 ≤ a i * a i
        rcases Int.le_total 0 (a i) with g | g
        · exact Int.mul_nonneg g g
        · have := Int.mul_nonneg (show 0 ≤ -a i by omega) (show 0 ≤ -a i by omega)
          rwa [Int.neg_mul_neg] at this) hi0
      have e : a i0 * a i0 = (M : Int) * (M : Int) := by
        rw [← hM]
        have := Int.natAbs_mul_self (a := a i0)
        omega
      have k : a i0 * a i0 ≤ isum (fun i => a i * a i) (2 ^ p) := k
      omega
    have bigR : (M : Rat) * (M : Rat) ≤ ((isum (fun i => a i * c ((i + s) % 2 ^ p)) (2 ^ p) : Int) : Rat) := by
      have := rat_int big
      rw [Rat.intCast_mul] at this
      exact this
    have m1 : (1 : Rat) ≤ (M : Rat) := rat_le M1
    have MM1 := mul_le_both (show (0 : Rat) ≤ 1 by decide) (show (0 : Rat) ≤ 1 by decide) m1 m1
    refine best_at hs (W := W) (fun j hj => ⟨(hW j hj).1, (hW j hj).2.1⟩) (fun j hj hne => ?_) (2 ^ p) (Nat.le_refl _) hs
    have hlt := rat_int (show 2 * isum (fun i => a i * c ((i + j) % 2 ^ p)) (2 ^ p) ≤ isum (fun i => a i * c ((i + s) % 2 ^ p)) (2 ^ p) from Int.le_of_lt (h j hj hne))
    rw [Rat.intCast_mul] at hlt
    obtain ⟨_, _, a1, a2⟩ := hW j hj
    obtain ⟨_, _, b1, b2⟩ := hW s hs
    rw [cast] at a1 a2 b1 b2
    have e2 : ((2 : Int) : Rat) = 2 := rfl
    rw [e2] at hlt
    grind
end Go.Fe
