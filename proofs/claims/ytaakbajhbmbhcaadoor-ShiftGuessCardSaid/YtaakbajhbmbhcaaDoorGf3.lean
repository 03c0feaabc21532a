/- Complex rationals: sizes, sums, waves. Nothing of a program stands here. -/
import Derived.Test.YtaakbajhbmbhcaaDoorGf1
set_option linter.unusedSimpArgs false
set_option linter.unusedVariables false
namespace Go.Fe
open Ieee Fl

/-! Complex rationals. -/
@[ext] structure Z where
  re : Rat
  im : Rat
def zadd (a b : Z) : Z := ⟨a.re + b.re, a.im + b.im⟩
def zsub (a b : Z) : Z := ⟨a.re - b.re, a.im - b.im⟩
def zmul (a b : Z) : Z := ⟨a.re * b.re - a.im * b.im, a.re * b.im + a.im * b.re⟩
def znil : Z := ⟨0, 0⟩
/-- No longer than r. -/
structure Zn (a : Z) (r : Rat) : Prop where
  e0 : 0 ≤ r
  s : a.re * a.re + a.im * a.im ≤ r * r
theorem Zn.l2 {a : Z} {r : Rat} (h : Zn a r) : L2 a.re a.im 0 r := ⟨h.e0, by have := h.s; grind⟩
theorem L2.zn {a : Z} {r : Rat} (h : L2 a.re a.im 0 r) : Zn a r := ⟨h.e0, by have := h.s; grind⟩
theorem Zn.le {a : Z} {r s : Rat} (h : Zn a r) (hs : r ≤ s) : Zn a s := (h.l2.le hs).zn
theorem Zn.add {a b : Z} {r s : Rat} (h : Zn a r) (k : Zn b s) : Zn (zadd a b) (r + s) := by
  have := h.l2.add k.l2
  refine ⟨this.e0, ?_⟩
  have t := this.s
  show (a.re + b.re) * (a.re + b.re) + (a.im + b.im) * (a.im + b.im) ≤ _
  grind
theorem Zn.neg {a : Z} {r : Rat} (h : Zn a r) : Zn ⟨-a.re, -a.im⟩ r := ⟨h.e0, by have := h.s; show -a.re * -a.re + -a.im * -a.im ≤ _; grind⟩
theorem Zn.eq {a b : Z} {r : Rat} (h : Zn a r) (e : a = b) : Zn b r := e ▸ h
theorem Zn.sub {a b : Z} {r s : Rat} (h : Zn a r) (k : Zn b s) : Zn (zsub a b) (r + s) :=
  (h.add k.neg).eq (by unfold zadd zsub; ext <;> simp <;> grind)
theorem Zn.mul {a b : Z} {r s : Rat} (h : Zn a r) (k : Zn b s) : Zn (zmul a b) (r * s) := by
  obtain ⟨r0, h⟩ := h
  obtain ⟨s0, k⟩ := k
  refine ⟨Rat.mul_nonneg r0 s0, ?_⟩
  have e : (zmul a b).re * (zmul a b).re + (zmul a b).im * (zmul a b).im = (a.re * a.re + a.im * a.im) * (b.re * b.re + b.im * b.im) := by unfold zmul; grind
  rw [e]
  have x1 := sq_nonneg a.re
  have x2 := sq_nonneg a.im
  have x3 := sq_nonneg b.re
  have x4 := sq_nonneg b.im
  have := mul_le_both (show 0 ≤ a.re * a.re + a.im * a.im by grind) (show 0 ≤ b.re * b.re + b.im * b.im by grind) h k
  grind
theorem Zn.comp {a : Z} {r : Rat} (h : Zn a r) : (a.re ≤ r ∧ -r ≤ a.re) ∧ (a.im ≤ r ∧ -r ≤ a.im) := ⟨h.l2.comp.1, h.l2.comp.2.1⟩
theorem Zn.of2 {a : Z} {e : Rat} (e0 : 0 ≤ e) (h1 : a.re ≤ e) (h2 : -e ≤ a.re) (h3 : a.im ≤ e) (h4 : -e ≤ a.im) : Zn a (1415 / 1000 * e) := (L2.of2 e0 h1 h2 h3 h4).zn
theorem Zn.nil {r : Rat} (h : 0 ≤ r) : Zn znil r := ⟨h, by unfold znil; have := Rat.mul_nonneg h h; grind⟩
/-- Sums. -/
def zsum (f : Nat → Z) : Nat → Z
  | 0 => znil
  | n + 1 => zadd (zsum f n) (f n)
theorem nat_succ (n : Nat) : ((n + 1 : Nat) : Rat) = (n : Rat) + 1 := by rw [Rat.natCast_add]; rfl
theorem zsum_size {f : Nat → Z} {r : Rat} (r0 : 0 ≤ r) : ∀ {n : Nat}, (∀ j, j < n → Zn (f j) r) → Zn (zsum f n) ((n : Rat) * r)
  | 0, _ => Zn.nil (by have c0 : ((0 : Nat) : Rat) = 0 := rfl; rw [c0]; grind)
  | n + 1, h => ((zsum_size r0 fun j hj => h j (by omega)).add (h n (by omega))).le (by rw [nat_succ]; grind)
theorem zsum_gap {f g : Nat → Z} {r : Rat} (r0 : 0 ≤ r) : ∀ {n : Nat}, (∀ j, j < n → Zn (zsub (f j) (g j)) r) → Zn (zsub (zsum f n) (zsum g n)) ((n : Rat) * r)
  | 0, _ => (Zn.nil (r := 0) Rat.le_refl).eq (by unfold zsum zsub znil; ext <;> simp <;> grind) |>.le (by have c0 : ((0 : Nat) : Rat) = 0 := rfl; rw [c0]; grind)
  | n + 1, h => by
    have k := (zsum_gap (n := n) r0 fun j hj => h j (by omega)).add (h n (by omega))
    refine (k.eq ?_).le (by rw [nat_succ]; grind)
    show zadd (zsub (zsum f n) (zsum g n)) (zsub (f n) (g n)) = zsub (zadd (zsum f n) (f n)) (zadd (zsum g n) (g n))
    unfold zadd zsub; ext <;> simp <;> grind
theorem zsum_congr {f g : Nat → Z} : ∀ {n : Nat}, (∀ j, j < n → f j = g j) → zsum f n = zsum g n
  | 0, _ => rfl
  | n + 1, h => by
    show zadd (zsum f n) (f n) = zadd (zsum g n) (g n)
    rw [zsum_congr fun j hj => h j (by omega), h n (by omega)]
theorem zsum_mul (f : Nat → Z) (c : Z) : ∀ n, zsum (fun j => zmul (f j) c) n = zmul (zsum f n) c
  | 0 => by show znil = zmul znil c; unfold znil zmul; ext <;> simp <;> grind
  | n + 1 => by
    show zadd (zsum (fun j => zmul (f j) c) n) (zmul (f n) c) = zmul (zadd (zsum f n) (f n)) c
    rw [zsum_mul f c n]; unfold zadd zmul; ext <;> simp <;> grind
theorem zsum_two (f : Nat → Z) : ∀ h, zsum f (2 * h) = zadd (zsum (fun i => f (2 * i)) h) (zsum (fun i => f (2 * i + 1)) h)
  | 0 => by show znil = zadd znil znil; unfold znil zadd; ext <;> simp <;> grind
  | h + 1 => by
    rw [show 2 * (h + 1) = 2 * h + 1 + 1 by omega]
    show zadd (zadd (zsum f (2 * h)) (f (2 * h))) (f (2 * h + 1)) = zadd (zadd (zsum (fun i => f (2 * i)) h) (f (2 * h))) (zadd (zsum (fun i => f (2 * i + 1)) h) (f (2 * h + 1)))
    rw [zsum_two f h]; unfold zadd; ext <;> simp <;> grind
theorem zsum_add (f g : Nat → Z) : ∀ n, zsum (fun j => zadd (f j) (g j)) n = zadd (zsum f n) (zsum g n)
  | 0 => by show znil = zadd znil znil; unfold znil zadd; ext <;> simp <;> grind
  | n + 1 => by
    show zadd (zsum (fun j => zadd (f j) (g j)) n) (zadd (f n) (g n)) = zadd (zadd (zsum f n) (f n)) (zadd (zsum g n) (g n))
    rw [zsum_add f g n]; unfold zadd; ext <;> simp <;> grind
theorem zsum_nil : ∀ n, zsum (fun _ => znil) n = znil
  | 0 => rfl
  | n + 1 => by show zadd (zsum (fun _ => znil) n) znil = znil; rw [zsum_nil n]; unfold zadd znil; ext <;> simp <;> grind
/-- The order of two sums. -/
theorem zsum_swap (f : Nat → Nat → Z) (n : Nat) : ∀ m, zsum (fun k => zsum (fun i => f i k) n) m = zsum (fun i => zsum (fun k => f i k) m) n
  | 0 => (zsum_nil n).symm
  | m + 1 => by
    show zadd (zsum (fun k => zsum (fun i => f i k) n) m) (zsum (fun i => f i m) n) = zsum (fun i => zadd (zsum (fun k => f i k) m) (f i m)) n
    rw [zsum_add, zsum_swap f n m]
/-! The waves. -/
def tz (b : Bool) (m : Nat) : Z := ⟨tC m, if b then tS m else -tS m⟩
theorem tC_mod (m : Nat) : tC (m % 256) = tC m := by unfold tC; rw [cI_mod]
theorem tS_mod (m : Nat) : tS (m % 256) = tS m := by unfold tS; rw [sI_mod]
theorem tz_mod (b : Bool) (m : Nat) : tz b (m % 256) = tz b m := by unfold tz; rw [tC_mod, tS_mod]
theorem cI_same {a b : Nat} (h : a % 256 = b % 256) : cI a = cI b := by rw [← cI_mod a, h, cI_mod]
theorem sI_same {a b : Nat} (h : a % 256 = b % 256) : sI a = sI b := by rw [← sI_mod a, h, sI_mod]
theorem tz_same (t : Bool) {a b : Nat} (h : a % 256 = b % 256) : tz t a = tz t b := by rw [← tz_mod t a, h, tz_mod]
theorem tz_half (b : Bool) (m : Nat) : tz b (m + 128) = ⟨-(tz b m).re, -(tz b m).im⟩ := by
  obtain ⟨h1, h2⟩ := half_all (m % 256) (Nat.mod_lt _ (by decide))
  have e1 : cI (m + 128) = -cI m := by rw [← cI_mod m, ← h1]; exact cI_same (by omega)
  have e2 : sI (m + 128) = -sI m := by rw [← sI_mod m, ← h2]; exact sI_same (by omega)
  have f1 : tC (m + 128) = -tC m := by unfold tC; rw [e1, Rat.intCast_neg]; grind
  have f2 : tS (m + 128) = -tS m := by unfold tS; rw [e2, Rat.intCast_neg]; grind
  unfold tz
  rw [f1, f2]
  cases b <;> simp
theorem t60 : two (-60) * two (-60) = two (-120) := by rw [← two_add]; rfl
theorem tz_size (b : Bool) (m : Nat) : Zn (tz b m) (1 + U) := by
  have h := size_all (m % 256) (Nat.mod_lt _ (by decide))
  rw [cI_mod, sI_mod] at h
  have hU := U_pos
  refine ⟨by grind, ?_⟩
  have k := Rat.mul_le_mul_of_nonneg_right (rat_int h) (Rat.le_of_lt (two_pos (-120)))
  rw [Rat.intCast_add, Rat.intCast_mul, Rat.intCast_mul] at k
  have e : ((1329227995784915872903807060280344576 + 295147905179352825856 : Int) : Rat) * two (-120) ≤ 1 + 2 * U := by decide +kernel
  have t := t60
  have sq : (tz b m).re * (tz b m).re + (tz b m).im * (tz b m).im = ((cI m : Rat) * (cI m : Rat) + (sI m : Rat) * (sI m : Rat)) * two (-120) := by
    rw [← t]
    unfold tz tC tS
    cases b <;> simp <;> grind
  rw [sq]
  have UU := Rat.mul_pos hU hU
  grind
theorem gap_int {X Y : Int} (h : X * X + Y * Y ≤ 136112946768375385385349842972707284582400) : ((X : Rat) * two (-120)) * ((X : Rat) * two (-120)) + ((Y : Rat) * two (-120)) * ((Y : Rat) * two (-120)) ≤ 5 / 2 * U * (5 / 2 * U) := by
  have k := Rat.mul_le_mul_of_nonneg_right (rat_int h) (Rat.le_of_lt (two_pos (-240)))
  rw [Rat.intCast_add, Rat.intCast_mul, Rat.intCast_mul] at k
  have e : ((136112946768375385385349842972707284582400 : Int) : Rat) * two (-240) ≤ 5 / 2 * U * (5 / 2 * U) := by decide +kernel
  have t : two (-120) * two (-120) = two (-240) := by rw [← two_add]; rfl
  rw [← t] at k e
  grind
end Go.Fe
/- Waves of rational rows: by halves, and back. Nothing of a program stands here. -/
set_option linter.unusedSimpArgs false
set_option linter.unusedVariables false
namespace Go.Fe
open Ieee Fl

/-! Products of waves. -/
theorem c60 : (1152921504606846976 : Rat) * two (-120) = two (-60) := by decide +kernel
theorem mul_int (x y : Nat) : (cI x * cI y - sI x * sI y - 1152921504606846976 * cI (x + y)) * (cI x * cI y - sI x * sI y - 1152921504606846976 * cI (x + y)) + (cI x * sI y + sI x * cI y - 1152921504606846976 * sI (x + y)) * (cI x * sI y + sI x * cI y - 1152921504606846976 * sI (x + y)) ≤ 136112946768375385385349842972707284582400 := by
  have h := mul_all (x % 256) (Nat.mod_lt _ (by decide)) (y % 256) (Nat.mod_lt _ (by decide))
  unfold mulB at h
  rw [decide_eq_true_eq] at h
  rw [cI_mod, cI_mod, sI_mod, sI_mod, cI_same (a := x % 256 + y % 256) (b := x + y) (by omega), sI_same (a := x % 256 + y % 256) (b := x + y) (by omega)] at h
  exact h
theorem con_int (x y : Nat) : (cI x * cI y + sI x * sI y - 1152921504606846976 * cI (y + (256 - x % 256))) * (cI x * cI y + sI x * sI y - 1152921504606846976 * cI (y + (256 - x % 256))) + (cI x * sI y - sI x * cI y - 1152921504606846976 * sI (y + (256 - x % 256))) * (cI x * sI y - sI x * cI y - 1152921504606846976 * sI (y + (256 - x % 256))) ≤ 136112946768375385385349842972707284582400 := by
  have h := con_all (x % 256) (Nat.mod_lt _ (by decide)) (y % 256) (Nat.mod_lt _ (by decide))
  unfold conB at h
  rw [decide_eq_true_eq] at h
  rw [cI_mod, cI_mod, sI_mod, sI_mod, cI_same (a := y % 256 + (256 - x % 256)) (b := y + (256 - x % 256)) (by omega), sI_same (a := y % 256 + (256 - x % 256)) (b := y + (256 - x % 256)) (by omega)] at h
  exact h
theorem cast3 (a b c d e : Int) (m : Int) : ((a * b - c * d - m * e : Int) : Rat) = (a : Rat) * b - (c : Rat) * d - (m : Rat) * e := by
  rw [Rat.intCast_sub, Rat.intCast_sub, Rat.intCast_mul, Rat.intCast_mul, Rat.intCast_mul]
theorem cast3' (a b c d e : Int) (m : Int) : ((a * b + c * d - m * e : Int) : Rat) = (a : Rat) * b + (c : Rat) * d - (m : Rat) * e := by
  rw [Rat.intCast_sub, Rat.intCast_add, Rat.intCast_mul, Rat.intCast_mul, Rat.intCast_mul]
theorem U15 : 0 ≤ 5 / 2 * U := by have := U_pos; grind
theorem part_a (a b c d e H T N : Rat) (t : H * H = T) (c60 : N * T = H) : a * H * (b * H) - c * H * (d * H) - e * H = (a * b - c * d - N * e) * T := by
  have h1 : a * H * (b * H) = a * b * T := by rw [← t]; grind
  have h2 : c * H * (d * H) = c * d * T := by rw [← t]; grind
  rw [h1, h2, ← c60]
  grind
theorem part_b (a b c d e H T N : Rat) (t : H * H = T) (c60 : N * T = H) : a * H * (b * H) + c * H * (d * H) - e * H = (a * b + c * d - N * e) * T := by
  have h1 : a * H * (b * H) = a * b * T := by rw [← t]; grind
  have h2 : c * H * (d * H) = c * d * T := by rw [← t]; grind
  rw [h1, h2, ← c60]
  grind
theorem Zn.of_parts {z : Z} {r A B : Rat} (r0 : 0 ≤ r) (h : A * A + B * B ≤ r * r) (h1 : z.re = A) (h2 : z.im = B ∨ z.im = -B) : Zn z r := by
  refine ⟨r0, ?_⟩
  rw [h1]
  rcases h2 with h2 | h2 <;> rw [h2]
  · exact h
  · grind
theorem tz_mul (b : Bool) (x y : Nat) : Zn (zsub (zmul (tz b x) (tz b y)) (tz b (x + y))) (5 / 2 * U) := by
  have h := gap_int (mul_int x y)
  rw [cast3, cast3'] at h
  have cc : ((1152921504606846976 : Int) : Rat) = 1152921504606846976 := rfl
  rw [cc] at h
  have pa := part_a (cI x) (cI y) (sI x) (sI y) (cI (x + y)) _ _ _ t60 c60
  have pb := part_b (cI x) (sI y) (sI x) (cI y) (sI (x + y)) _ _ _ t60 c60
  cases b
  · refine Zn.of_parts U15 h ?_ (.inr ?_)
    · rw [← pa]; unfold zsub zmul tz tC tS; simp only [Bool.false_eq_true, if_false]; grind
    · rw [← pb]; unfold zsub zmul tz tC tS; simp only [Bool.false_eq_true, if_false]; grind
  · refine Zn.of_parts U15 h ?_ (.inl ?_)
    · rw [← pa]; unfold zsub zmul tz tC tS; simp only [if_true]
    · rw [← pb]; unfold zsub zmul tz tC tS; simp only [if_true]
theorem tz_con (x y : Nat) : Zn (zsub (zmul (tz false x) (tz true y)) (tz true (y + (256 - x % 256)))) (5 / 2 * U) := by
  have h := gap_int (con_int x y)
  rw [cast3', cast3] at h
  have cc : ((1152921504606846976 : Int) : Rat) = 1152921504606846976 := rfl
  rw [cc] at h
  have pa := part_b (cI x) (cI y) (sI x) (sI y) (cI (y + (256 - x % 256))) _ _ _ t60 c60
  have pb := part_a (cI x) (sI y) (sI x) (cI y) (sI (y + (256 - x % 256))) _ _ _ t60 c60
  refine Zn.of_parts U15 h ?_ (.inl ?_)
  · rw [← pa]; unfold zsub zmul tz tC tS; simp only [Bool.false_eq_true, if_false, if_true]; grind
  · rw [← pb]; unfold zsub zmul tz tC tS; simp only [Bool.false_eq_true, if_false, if_true]; grind
/-! Waves of a row. -/
def dft (b : Bool) (st : Nat) (X : Nat → Z) (n k : Nat) : Z := zsum (fun j => zmul (X j) (tz b (st * (j * k)))) n
theorem Zn.one {a : Z} {r : Rat} (h : Zn a r) (c : Z) (hc : Zn c (1 + U)) : Zn (zmul a c) (r * (1 + U)) := h.mul hc
theorem dft_size (b : Bool) (st : Nat) {X : Nat → Z} {n : Nat} {M : Rat} (h : ∀ j, j < n → Zn (X j) M) (M0 : 0 ≤ M) (k : Nat) : Zn (dft b st X n k) ((n : Rat) * (M * (1 + U))) :=
  zsum_size (Rat.mul_nonneg M0 (by have := U_pos; grind)) fun j hj => (h j hj).mul (tz_size b _)
theorem dft_low (b : Bool) (st : Nat) {X : Nat → Z} {h : Nat} {M : Rat} (hX : ∀ j, j < 2 * h → Zn (X j) M) (M0 : 0 ≤ M) (k : Nat) :
    Zn (zsub (dft b st X (2 * h) k) (zadd (dft b (2 * st) (fun i => X (2 * i)) h k) (zmul (dft b (2 * st) (fun i => X (2 * i + 1)) h k) (tz b (st * k))))) ((h : Rat) * (M * (5 / 2 * U))) := by
  have e : dft b st X (2 * h) k = zadd (dft b (2 * st) (fun i => X (2 * i)) h k) (zsum (fun i => zmul (X (2 * i + 1)) (tz b (st * ((2 * i + 1) * k)))) h) := by
    unfold dft
    rw [zsum_two]
    congr 1
    refine zsum_congr fun j _ => ?_
    rw [show st * (2 * j * k) = 2 * st * (j * k) by rw [Nat.mul_assoc 2 j k, Nat.mul_left_comm, Nat.mul_assoc]]
  have f : zmul (dft b (2 * st) (fun i => X (2 * i + 1)) h k) (tz b (st * k)) = zsum (fun i => zmul (zmul (X (2 * i + 1)) (tz b (2 * st * (i * k)))) (tz b (st * k))) h := by
    unfold dft; rw [zsum_mul]
  rw [e, f]
  have g := zsum_gap (f := fun i => zmul (X (2 * i + 1)) (tz b (st * ((2 * i + 1) * k)))) (g := fun i => zmul (zmul (X (2 * i + 1)) (tz b (2 * st * (i * k)))) (tz b (st * k))) (r := M * (5 / 2 * U)) (n := h) (Rat.mul_nonneg M0 U15) (fun j hj => by
    have k1 := (hX (2 * j + 1) (by omega)).mul (tz_mul b (2 * st * (j * k)) (st * k)).neg
    refine k1.eq ?_
    rw [show st * ((2 * j + 1) * k) = 2 * st * (j * k) + st * k by rw [Nat.add_mul, Nat.one_mul, Nat.mul_add, Nat.mul_assoc 2 j k, Nat.mul_left_comm, Nat.mul_assoc]]
    generalize X (2 * j + 1) = x
    generalize tz b (2 * st * (j * k)) = t1
    generalize tz b (st * k) = t2
    generalize tz b (2 * st * (j * k) + st * k) = t3
    unfold zsub zmul; ext <;> simp <;> grind)
  refine g.eq ?_
  unfold zsub zadd; ext <;> simp <;> grind
/-- The upper half: the same with a minus. -/
theorem dft_high (b : Bool) (st : Nat) {X : Nat → Z} {h : Nat} {M : Rat} (hs : st * (2 * h) = 256) (hX : ∀ j, j < 2 * h → Zn (X j) M) (M0 : 0 ≤ M) (k : Nat) :
    Zn (zsub (dft b st X (2 * h) (k + h)) (zsub (dft b (2 * st) (fun i => X (2 * i)) h k) (zmul (dft b (2 * st) (fun i => X (2 * i + 1)) h k) (tz b (st * k))))) ((h : Rat) * (M * (5 / 2 * U))) := by
  have l := dft_low b st hX M0 (k + h)
  have e : ∀ Y : Nat → Z, dft b (2 * st) Y h (k + h) = dft b (2 * st) Y h k := fun Y => by
    unfold dft
    refine zsum_congr fun j _ => ?_
    have : tz b (2 * st * (j * (k + h))) = tz b (2 * st * (j * k)) := tz_same b (by
      have : 2 * st * (j * (k + h)) = 2 * st * (j * k) + 256 * j := by
        rw [Nat.mul_add, Nat.mul_add, ← hs]
        congr 1
        rw [Nat.mul_comm j h, ← Nat.mul_assoc, Nat.mul_comm 2 st, Nat.mul_assoc st 2 h]
      rw [this]; omega)
    rw [this]
  have t : tz b (st * (k + h)) = ⟨-(tz b (st * k)).re, -(tz b (st * k)).im⟩ := by
    have : st * h = 128 := by
      have : st * (2 * h) = 2 * (st * h) := Nat.mul_left_comm _ _ _
      omega
    rw [Nat.mul_add, this]
    exact tz_half b _
  rw [e, e, t] at l
  refine l.eq ?_
  unfold zsub zadd zmul; ext <;> simp <;> grind
/-! There and back. -/
theorem zsum_pick (f : Nat → Z) (j : Nat) (c : Z) : ∀ n, zsum (fun i => zmul (f i) (if i = j then c else znil)) n = if j < n then zmul (f j) c else znil
  | 0 => rfl
  | n + 1 => by
    show zadd (zsum (fun i => zmul (f i) (if i = j then c else znil)) n) (zmul (f n) (if n = j then c else znil)) = _
    rw [zsum_pick f j c n]
    by_cases h1 : n = j
    · subst h1
      rw [if_neg (by omega), if_pos rfl, if_pos (by omega)]
      unfold zadd znil; ext <;> simp <;> grind
    · rw [if_neg h1]
      by_cases h2 : j < n
      · rw [if_pos h2, if_pos (by omega)]
        unfold zadd znil zmul; ext <;> simp <;> grind
      · rw [if_neg h2, if_neg (by omega)]
        unfold zadd znil zmul; ext <;> simp <;> grind
theorem zsum_int (f g : Nat → Int) : ∀ n, zsum (fun k => ⟨(f k : Rat) * two (-60), (g k : Rat) * two (-60)⟩) n = ⟨(sumI f n : Rat) * two (-60), (sumI g n : Rat) * two (-60)⟩
  | 0 => by
    show znil = _
    have c0 : ((sumI f 0 : Int) : Rat) = 0 := rfl
    have c1 : ((sumI g 0 : Int) : Rat) = 0 := rfl
    rw [c0, c1]; unfold znil; ext <;> simp
  | n + 1 => by
    show zadd (zsum _ n) _ = _
    rw [zsum_int f g n]
    have e1 : ((sumI f (n + 1) : Int) : Rat) = (sumI f n : Rat) + (f n : Rat) := by show ((sumI f n + f n : Int) : Rat) = _; rw [Rat.intCast_add]
    have e2 : ((sumI g (n + 1) : Int) : Rat) = (sumI g n : Rat) + (g n : Rat) := by show ((sumI g n + g n : Int) : Rat) = _; rw [Rat.intCast_add]
    rw [e1, e2]; unfold zadd; ext <;> simp <;> grind
theorem zsum_const (c : Z) : ∀ n, zsum (fun _ => c) n = ⟨(n : Rat) * c.re, (n : Rat) * c.im⟩
  | 0 => by
    have c0 : ((0 : Nat) : Rat) = 0 := rfl
    show znil = _
    rw [c0]; unfold znil; ext <;> simp
  | n + 1 => by
    show zadd (zsum (fun _ => c) n) c = _
    rw [zsum_const c n, nat_succ]; unfold zadd; ext <;> simp <;> grind
theorem tz_zero : tz true 0 = ⟨1, 0⟩ := by unfold tz; ext <;> decide +kernel
theorem row_zero {p d : Nat} (hp : p < 9) (hd : d < 2 ^ p) (h0 : d ≠ 0) : zsum (fun k => tz true (2 ^ (8 - p) * (d * k))) (2 ^ p) = znil := by
  have h := zero_all p hp
  unfold zeroB at h
  rw [List.all_eq_true] at h
  have k := h d (List.mem_range.2 hd)
  simp only [Bool.or_eq_true, Bool.and_eq_true, beq_iff_eq] at k
  obtain ⟨k1, k2⟩ := k.resolve_left h0
  have e : (fun k => tz true (2 ^ (8 - p) * (d * k))) = fun k => (⟨(cI (2 ^ (8 - p) * (d * k)) : Rat) * two (-60), (sI (2 ^ (8 - p) * (d * k)) : Rat) * two (-60)⟩ : Z) := by
    funext k; rfl
  rw [e, zsum_int (fun k => cI (2 ^ (8 - p) * (d * k))) (fun k => sI (2 ^ (8 - p) * (d * k))), k1, k2]
  have c0 : ((0 : Int) : Rat) = 0 := rfl
  rw [c0]; unfold znil; ext <;> simp
end Go.Fe
