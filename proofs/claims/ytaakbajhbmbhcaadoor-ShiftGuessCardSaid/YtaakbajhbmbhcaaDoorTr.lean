/- Angles, sines and the angle of a point, as plain functions of whole numbers. Nothing of a program stands here. -/
import Derived.Test.YtaakbajhbmbhcaaDoorKn
set_option linter.unusedSimpArgs false
set_option linter.unusedVariables false
namespace Go.Tr
open Go Go.RowKit Go.Fl

/-! Numbers up to the sign of a zero. -/
def zd : Ieee.Datum → Ieee.Datum
  | .number _ 0 e => .number false 0 e
  | d => d
def nz (X : Option Nat) : Option Ieee.Datum := X.map fun b => zd (Ieee.double.read b)
theorem signed_zero (s : Bool) (k : Nat) : Ieee.signed s 0 k = 0 := by cases s <;> simp [Ieee.signed]
theorem order_zd (a b : Ieee.Datum) : (zd a).order (zd b) = a.order b := by
  cases a with
  | number s m i =>
    cases b with
    | number t n j => cases m <;> cases n <;> simp [zd, Ieee.Datum.order, signed_zero]
    | infinity t => cases m <;> rfl
    | nan t u => cases m <;> rfl
  | infinity s =>
    cases b with
    | number t n j => cases n <;> rfl
    | infinity t => rfl
    | nan t u => rfl
  | nan s u => cases b with
    | number t n j => cases n <;> rfl
    | infinity t => rfl
    | nan t u => rfl
theorem ford_nz (X Y : Option Nat) : ford X Y = (nz X).bind fun a => (nz Y).bind fun b => a.order b := by
  cases X with
  | none => rfl
  | some a => cases Y with
    | none => rfl
    | some b => exact (order_zd _ _).symm
theorem ford_congr {X X' Y Y' : Option Nat} (h : nz X = nz X') (k : nz Y = nz Y') : ford X Y = ford X' Y' := by rw [ford_nz, ford_nz, h, k]
theorem nearest_zero (s : Bool) (e : Int) : zd (Ieee.double.read (Ieee.double.nearest s 0 e)) = zd (Ieee.double.read 0) := by
  unfold Ieee.Format.nearest
  rw [if_pos rfl]
  cases s <;> decide +kernel
theorem prod_zd (c : Ieee.Datum) {d1 d2 : Ieee.Datum} (h : zd d1 = zd d2) :
    (c.product d1).map (fun d => zd (Ieee.double.read (Ieee.double.write d))) = (c.product d2).map (fun d => zd (Ieee.double.read (Ieee.double.write d))) := by
  have key : ∀ s t i, (c.product (.number s 0 i)).map (fun d => zd (Ieee.double.read (Ieee.double.write d))) = (c.product (.number t 0 i)).map (fun d => zd (Ieee.double.read (Ieee.double.write d))) := by
    intro s t i
    cases c with
    | number u n j => simp [Ieee.Datum.product, Ieee.Format.write, nearest_zero]
    | infinity u => rfl
    | nan u v => rfl
  cases d1 with
  | number s m i =>
    cases m with
    | zero =>
      cases d2 with
      | number t n j =>
        cases n with
        | zero => simp only [zd, Ieee.Datum.number.injEq, true_and] at h; rw [h]; exact key _ _ _
        | succ n => simp [zd] at h
      | infinity t => simp [zd] at h
      | nan t u => simp [zd] at h
    | succ m =>
      cases d2 with
      | number t n j =>
        cases n with
        | zero => simp [zd] at h
        | succ n => simp only [zd] at h; rw [h]
      | infinity t => simp [zd] at h
      | nan t u => simp [zd] at h
  | infinity s =>
    cases d2 with
    | number t n j => cases n <;> simp [zd] at h
    | infinity t => simp only [zd] at h; rw [h]
    | nan t u => simp [zd] at h
  | nan s u =>
    cases d2 with
    | number t n j => cases n <;> simp [zd] at h
    | infinity t => simp [zd] at h
    | nan t u => simp only [zd] at h; rw [h]
theorem nz_mul (s : Option Nat) {X Y : Option Nat} (h : nz X = nz Y) : nz (fmul s X) = nz (fmul s Y) := by
  cases X with
  | none =>
    cases Y with
    | none => rfl
    | some b => simp [nz] at h
  | some a =>
    cases Y with
    | none => simp [nz] at h
    | some b =>
      cases s with
      | none => rfl
      | some c =>
        simp only [nz, Option.map_some, Option.some.injEq] at h
        have := prod_zd (Ieee.double.read c) h
        show Option.map _ (Ieee.double.mul c a) = Option.map _ (Ieee.double.mul c b)
        unfold Ieee.Format.mul
        rw [Option.map_map, Option.map_map]
        exact this

/-! The size of a number. -/
def fabs (X : Option Nat) : Option Nat := X.map (· % 2 ^ 63)
theorem fl_abs (b : Nat) : fl (b % 2 ^ 63) = fabs (fl b) := by
  have h : (Ieee.double.read (b % 2 ^ 63)).isNaN = (Ieee.double.read b).isNaN := by
    rw [isNaN_iff, isNaN_iff, Nat.mod_mod]
  unfold fl fabs
  rw [h]
  split <;> rfl
def fneg0 (X : Option Nat) : Option Nat := if flt X (some 0) then fneg X else X
def setSign (s : Bool) : Ieee.Datum → Ieee.Datum
  | .number _ m e => .number s m e
  | .infinity _ => .infinity s
  | .nan _ t => .nan s t
theorem signWeight : Ieee.double.signWeight = 2 ^ 63 := by decide +kernel
theorem read_parts (b : Nat) : Ieee.double.read b = setSign (b / 2 ^ 63 % 2 == 1) (Ieee.double.read (b % 2 ^ 63)) := by
  unfold Ieee.Format.read
  dsimp only
  rw [signWeight, Nat.mod_mod]
  split
  · rfl
  · split
    · rfl
    · split
      · rfl
      · rfl
theorem setSign_twice (s t : Bool) (d : Ieee.Datum) : setSign s (setSign t d) = setSign s d := by cases d <;> rfl
theorem read_abs (b : Nat) : Ieee.double.read (b % 2 ^ 63) = setSign false (Ieee.double.read b) := by
  rw [read_parts b, setSign_twice]
  have := read_parts (b % 2 ^ 63)
  rw [Nat.mod_mod, Nat.div_eq_of_lt (Nat.mod_lt _ (by decide))] at this
  exact this
theorem read_neg (b : Nat) : Ieee.double.read (Op.negFloat .f64 b) = setSign (!(b / 2 ^ 63 % 2 == 1)) (Ieee.double.read b) := by
  have h1 : Op.negFloat .f64 b % 2 ^ 63 = b % 2 ^ 63 := by
    show (b ^^^ 2 ^ 63) % 2 ^ 63 = _
    rw [Nat.xor_mod_two_pow]; simp
  have h2 : (Op.negFloat .f64 b / 2 ^ 63 % 2 == 1) = !(b / 2 ^ 63 % 2 == 1) := by
    show ((b ^^^ 2 ^ 63) / 2 ^ 63 % 2 == 1) = _
    rw [Nat.xor_div_two_pow]
    have : (2 ^ 63 : Nat) / 2 ^ 63 = 1 := by decide
    rw [this]
    have h3 : (b / 2 ^ 63 ^^^ 1) % 2 = (b / 2 ^ 63 % 2) ^^^ 1 := by
      have := Nat.xor_mod_two_pow (a := b / 2 ^ 63) (b := 1) (n := 1)
      simpa using this
    rw [h3]
    rcases Nat.mod_two_eq_zero_or_one (b / 2 ^ 63) with h | h <;> rw [h] <;> rfl
  rw [read_parts (Op.negFloat .f64 b), h1, h2, read_parts b, setSign_twice]
theorem nz_abs {b : Nat} : nz (fabs (fl b)) = nz (fneg0 (fl b)) := by
  unfold fl
  split
  · rfl
  rename_i hnn
  have hz : Ieee.double.read 0 = .number false 0 Ieee.double.leastPlace := by decide +kernel
  have hn : (Ieee.double.read b).neg = (b / 2 ^ 63 % 2 == 1) := by
    rw [read_parts b]
    cases Ieee.double.read (b % 2 ^ 63) <;> rfl
  have e1 : nz (fabs (some b)) = some (zd (setSign false (Ieee.double.read b))) := by
    show some (zd (Ieee.double.read (b % 2 ^ 63))) = _
    rw [read_abs]
  have e2 : nz (fneg0 (some b)) = if flt (some b) (some 0) then some (zd (setSign (!(b / 2 ^ 63 % 2 == 1)) (Ieee.double.read b))) else some (zd (Ieee.double.read b)) := by
    unfold fneg0
    split
    · show some (zd (Ieee.double.read (Op.negFloat .f64 b))) = _
      rw [read_neg]
    · rfl
  have e3 : flt (some b) (some 0) = ((Ieee.double.read b).order (.number false 0 Ieee.double.leastPlace) == some .lt) := by
    show (Ieee.Format.order Ieee.double b 0 == some .lt) = _
    unfold Ieee.Format.order
    rw [hz]
  rw [e1, e2, e3, ← hn]
  revert hnn
  generalize Ieee.double.read b = d
  intro hnn
  cases d with
  | number s m e =>
    cases m with
    | zero => cases s <;> simp [Ieee.Datum.order, signed_zero, setSign, zd, Ieee.Datum.neg]
    | succ m =>
      have hp : 0 < (m + 1) <<< (e - min e Ieee.double.leastPlace).toNat := by
        rw [Nat.shiftLeft_eq]; exact Nat.mul_pos (Nat.succ_pos _) (Nat.two_pow_pos _)
      have key : ((Ieee.Datum.number s (m + 1) e).order (.number false 0 Ieee.double.leastPlace) == some Ordering.lt) = s := by
        show (some (compare (Ieee.signed s (m + 1) (e - min e Ieee.double.leastPlace).toNat) (Ieee.signed false 0 (Ieee.double.leastPlace - min e Ieee.double.leastPlace).toNat)) == some Ordering.lt) = s
        rw [signed_zero]
        unfold Ieee.signed
        generalize (m + 1) <<< (e - min e Ieee.double.leastPlace).toNat = q at hp
        cases s
        · have : ¬ (compare ((q : Nat) : Int) 0 = .lt) := by rw [Int.compare_eq_lt]; omega
          simp [this]
        · have : compare (-((q : Nat) : Int)) 0 = .lt := by rw [Int.compare_eq_lt]; omega
          simp [this]
      rw [key]
      cases s <;> simp [setSign, zd, Ieee.Datum.neg]
  | infinity s => cases s <;> simp [Ieee.Datum.order, setSign, zd, Ieee.Datum.neg]
  | nan s t => exact absurd rfl hnn

/-! Products the other way round, differences the other way round. -/
theorem prod_comm (a b : Ieee.Datum) : a.product b = b.product a := by
  cases a <;> cases b <;> simp [Ieee.Datum.product, Bool.xor_comm, Nat.mul_comm, Int.add_comm]
theorem fmul_comm (X Y : Option Nat) : fmul X Y = fmul Y X := by
  cases X <;> cases Y <;> first | rfl | skip
  rename_i a b
  show Ieee.double.mul a b = Ieee.double.mul b a
  unfold Ieee.Format.mul
  rw [prod_comm]
theorem prod_self (d : Ieee.Datum) : d.product d = (setSign false d).product (setSign false d) := by
  cases d <;> simp [Ieee.Datum.product, setSign]
theorem diff_swap (a b : Ieee.Datum) : (a.sum b.opposite).map (setSign false) = (b.sum a.opposite).map (setSign false) := by
  cases a with
  | number s m i =>
    cases b with
    | number t n j =>
      simp only [Ieee.Datum.sum, Ieee.Datum.opposite, Option.map_some, setSign, Option.some.injEq, Ieee.Datum.number.injEq, true_and]
      have e : ∀ (u : Bool) (q k : Nat), Ieee.signed (!u) q k = - Ieee.signed u q k := fun u q k => by cases u <;> simp [Ieee.signed]
      rw [e, e, Int.min_comm j i]
      refine ⟨?_, rfl⟩
      rw [← Int.natAbs_neg]
      congr 1
      omega
    | infinity t => cases t <;> rfl
    | nan t u => rfl
  | infinity s =>
    cases b with
    | number t n j => cases s <;> rfl
    | infinity t => cases s <;> cases t <;> rfl
    | nan t u => rfl
  | nan s u => cases b <;> rfl
theorem word_read (s : Bool) {r : Nat} (h : r < 2 ^ 63) : setSign false (Ieee.double.read (Ieee.double.word s r)) = setSign false (Ieee.double.read r) := by
  have e : Ieee.double.word s r % 2 ^ 63 = r := by
    unfold Ieee.Format.word
    rw [signWeight]
    split
    · rw [Nat.add_mod_left, Nat.mod_eq_of_lt h]
    · exact Nat.mod_eq_of_lt h
  rw [← read_abs, ← read_abs, e, Nat.mod_eq_of_lt h]
theorem write_sign (d : Ieee.Datum) : setSign false (Ieee.double.read (Ieee.double.write d)) = setSign false (Ieee.double.read (Ieee.double.write (setSign false d))) := by
  have hi : Ieee.double.infRung < 2 ^ 63 := by decide +kernel
  cases d with
  | number s m e =>
    show setSign false (Ieee.double.read (Ieee.double.nearest s m e)) = setSign false (Ieee.double.read (Ieee.double.nearest false m e))
    have hc : ∀ (q k : Nat), Ieee.Toward.even.cut s q k = Ieee.Toward.even.cut false q k := fun _ _ => rfl
    unfold Ieee.Format.nearest
    split
    · rw [word_read s (by decide), word_read false (by decide)]
    · dsimp only
      rw [hc, word_read s (Nat.lt_of_le_of_lt (Nat.min_le_right _ _) hi), word_read false (Nat.lt_of_le_of_lt (Nat.min_le_right _ _) hi)]
  | infinity s =>
    show setSign false (Ieee.double.read (Ieee.double.word s _)) = setSign false (Ieee.double.read (Ieee.double.word false _))
    rw [word_read s hi, word_read false hi]
  | nan s t =>
    have hb : Ieee.double.infRung + t % Ieee.double.binade < 2 ^ 63 := by
      have h1 := Ieee.double.infRung_add_binade
      rw [signWeight] at h1
      have : t % Ieee.double.binade < Ieee.double.binade := Nat.mod_lt _ (by decide +kernel)
      omega
    show setSign false (Ieee.double.read (Ieee.double.word s _)) = setSign false (Ieee.double.read (Ieee.double.word false _))
    rw [word_read s hb, word_read false hb]
def ab (X : Option Nat) : Option Ieee.Datum := X.map fun b => setSign false (Ieee.double.read b)
theorem sq_ab {X Y : Option Nat} (h : ab X = ab Y) : fmul X X = fmul Y Y := by
  cases X with
  | none => cases Y with
    | none => rfl
    | some b => simp [ab] at h
  | some a => cases Y with
    | none => simp [ab] at h
    | some b =>
      simp only [ab, Option.map_some, Option.some.injEq] at h
      show Ieee.double.mul a a = Ieee.double.mul b b
      unfold Ieee.Format.mul
      rw [prod_self, prod_self (Ieee.double.read b), h]
theorem ab_sub (X Y : Option Nat) : ab (fsub X Y) = ab (fsub Y X) := by
  cases X <;> cases Y <;> first | rfl | skip
  rename_i a b
  show Option.map _ (Ieee.double.sub a b) = Option.map _ (Ieee.double.sub b a)
  unfold Ieee.Format.sub
  have h := diff_swap (Ieee.double.read a) (Ieee.double.read b)
  rw [Option.map_map, Option.map_map]
  have e : (fun c => setSign false (Ieee.double.read c)) ∘ Ieee.double.write = (fun d => setSign false (Ieee.double.read (Ieee.double.write d))) ∘ setSign false := by
    funext d; exact write_sign d
  rw [e, ← Option.map_map, h, Option.map_map]
theorem sq_sub (X Y : Option Nat) : fmul (fsub X Y) (fsub X Y) = fmul (fsub Y X) (fsub Y X) := sq_ab (ab_sub X Y)

/-! Angles. -/
def nrm (a : Int) : Int := a % 1296000000000
def qrt (a : Int) : Int := (nrm a + 162000000000) / 324000000000
def rst (a : Int) : Int := nrm a - qrt a * 324000000000
theorem qrt_lo (a : Int) : 0 ≤ qrt a := by unfold qrt nrm; omega
theorem qrt_hi (a : Int) : qrt a ≤ 4 := by unfold qrt nrm; omega
theorem qrt_four (a : Int) : qrt a % 4 = 0 ∨ qrt a % 4 = 1 ∨ qrt a % 4 = 2 ∨ qrt a % 4 = 3 := by omega
def ofI (n : Int) : Option Nat := fl (floatOfInt FloatKind.f64 n)
def xr (a : Int) : Option Nat := fmul (ofI (rst a)) (fl 4437543736006956352)
def hor (z : Option Nat) : List Nat → Option Nat
  | [] => none
  | [c] => fl c
  | c :: l => fadd (fl c) (fmul z (hor z l))
def ser (cs : List Nat) (z : Option Nat) : Option Nat := fadd (fl 4607182418800017408) (fmul z (hor z cs))
def oddC : List Nat := [13818544856648471893, 4575957461383581969, 13774824197408792602, 4523617214285662004, 13716528800881525988, 4460272573143870729, 13648976655441704991, 4389130328383466826]
def evenC : List Nat := [13826050856027422720, 4586165620538955093, 13787419979223755799, 4537941361671905306, 13732177094651715420, 4477122120089393304, 13666517717442657437, 4407590220077447199]
def sn (x z : Option Nat) : Option Nat := fmul x (ser oddC z)
def cs (z : Option Nat) : Option Nat := ser evenC z
def quad (q : Int) (a b c d : Option Nat) : Option Nat := if q % 4 = 0 then a else if q % 4 = 1 then b else if q % 4 = 2 then c else d
def sinA (a : Int) : Option Nat := quad (qrt a) (sn (xr a) (fmul (xr a) (xr a))) (cs (fmul (xr a) (xr a))) (fneg (sn (xr a) (fmul (xr a) (xr a)))) (fneg (cs (fmul (xr a) (xr a))))
def cosA (a : Int) : Option Nat := quad (qrt a) (cs (fmul (xr a) (xr a))) (fneg (sn (xr a) (fmul (xr a) (xr a)))) (fneg (cs (fmul (xr a) (xr a)))) (sn (xr a) (fmul (xr a) (xr a)))

/-- The last place at which f is still true, by halving. -/
def bis (f : Int → Bool) (lo hi : Int) : Int :=
  if hi - lo > 1 then (if f ((lo + hi) / 2) then bis f ((lo + hi) / 2) hi else bis f lo ((lo + hi) / 2)) else lo
termination_by (hi - lo).toNat
decreasing_by all_goals omega
theorem bis_done {f : Int → Bool} {lo hi : Int} (h : ¬ hi - lo > 1) : bis f lo hi = lo := by rw [bis, if_neg h]
theorem bis_up {f : Int → Bool} {lo hi : Int} (h : hi - lo > 1) (hf : f ((lo + hi) / 2) = true) : bis f lo hi = bis f ((lo + hi) / 2) hi := by
  rw [bis, if_pos h, if_pos hf]
theorem bis_down {f : Int → Bool} {lo hi : Int} (h : hi - lo > 1) (hf : f ((lo + hi) / 2) = false) : bis f lo hi = bis f lo ((lo + hi) / 2) := by
  rw [bis, if_pos h, if_neg (by simp [hf])]
def under (u w : Option Nat) (m : Int) : Bool := fle (fmul (sinA m) u) (fmul (cosA m) w)
theorem under_congr {u u' w w' : Option Nat} (h : nz u = nz u') (k : nz w = nz w') : under u w = under u' w' := by
  funext m
  unfold under fle
  rw [ford_congr (nz_mul (sinA m) h) (nz_mul (cosA m) k)]
def fin (X : Option Nat) : Bool := feq (fsub X X) (some 0)
def ang (y x : Option Nat) : Int × Bool :=
  if !fin x || !fin y || feq x (some 0) && feq y (some 0) then (0, false) else
  let lo := bis (under (fneg0 x) (fneg0 y)) 0 324000000001
  (if flt x (some 0) && flt y (some 0) then 648000000000 + lo else if flt x (some 0) then 648000000000 - lo else if flt y (some 0) then nrm (1296000000000 - lo) else lo, true)
/-- The same, with fuel, so that it can be worked out. -/
def bisN (f : Int → Bool) : Nat → Int → Int → Int
  | 0, lo, _ => lo
  | n + 1, lo, hi => if hi - lo > 1 then (if f ((lo + hi) / 2) then bisN f n ((lo + hi) / 2) hi else bisN f n lo ((lo + hi) / 2)) else lo
theorem bis_eq (f : Int → Bool) (n : Nat) : ∀ lo hi : Int, hi - lo ≤ 2 ^ n → bis f lo hi = bisN f n lo hi := by
  induction n with
  | zero => intro lo hi h; rw [bis_done (by simp at h; omega)]; rfl
  | succ n ih =>
    intro lo hi h
    have h2 : (2 : Int) ^ (n + 1) = 2 * 2 ^ n := by rw [Int.pow_succ]; omega
    by_cases g : hi - lo > 1
    · unfold bisN
      rw [if_pos g]
      cases hf : f ((lo + hi) / 2) with
      | true => rw [bis_up g hf, if_pos rfl]; exact ih _ _ (by omega)
      | false => rw [bis_down g hf, if_neg (by simp)]; exact ih _ _ (by omega)
    · unfold bisN
      rw [bis_done g, if_neg g]
/-! What the document's series is made of. -/
def facN : Nat → Nat
  | 0 => 4607182418800017408
  | n + 1 => (Ieee.double.mul (facN n) (floatOfInt FloatKind.f64 ((n : Int) + 1))).getD 0
theorem facN_step : ∀ n, n < 17 → fmul (fl (facN n)) (fl (floatOfInt FloatKind.f64 ((n : Int) + 1))) = some (facN (n + 1)) := by decide +kernel
def sgnN (k : Nat) (b : Nat) : Nat := if k % 2 = 1 then Op.negFloat .f64 b else b
def coN (odd k : Nat) : Nat := (Ieee.double.div 4607182418800017408 (sgnN k (facN (2 * k + odd)))).getD 0
theorem coN_step : ∀ odd, odd < 2 → ∀ k, k < 9 → fdiv (fl 4607182418800017408) (fl (sgnN k (facN (2 * k + odd)))) = some (coN odd k) := by decide +kernel
theorem coN_odd : (List.range 8).map (fun k => coN 1 (k + 1)) = oddC := by decide +kernel
theorem coN_even : (List.range 8).map (fun k => coN 0 (k + 1)) = evenC := by decide +kernel
/-! Places and points. -/
def pnt (lon lat : Int) : V3 := ⟨fmul (cosA lat) (cosA lon), fmul (cosA lat) (sinA lon), sinA lat⟩
def sgd (a : Int) : Int := if 648000000000 < nrm a then nrm a - 1296000000000 else nrm a
def plc (v : V3) : (Int × Int) × Bool :=
  if !fin v.x || !fin v.y || !fin v.z then ((0, 0), false) else
  let r := ang v.z (fsqrt (fadd (fmul v.x v.x) (fmul v.y v.y)))
  if r.2 then (((ang v.y v.x).1, sgd r.1), true) else ((0, 0), false)
def hrz (hour dec lat : Int) : V3 :=
  ⟨fsub (fmul (sinA dec) (cosA lat)) (fmul (fmul (cosA dec) (cosA hour)) (sinA lat)), fsub (some 0) (fmul (cosA dec) (sinA hour)), fadd (fmul (sinA dec) (sinA lat)) (fmul (fmul (cosA dec) (cosA hour)) (cosA lat))⟩
end Go.Tr
