/- The series of sine and cosine as floats: how near. Nothing of a program stands here. -/
import Derived.Test.YtaakbajhbmbhcaaDoorFe
set_option linter.unusedSimpArgs false
set_option linter.unusedVariables false
namespace Go.Fe
open Ieee
/-! The series of the sine and the cosine: how near what is written is to the polynomial. -/
def fnB (w : Nat) : Bool := match double.read w with | .number _ _ e => decide (-1074 ≤ e) | _ => false
theorem fn_of {w : Nat} (h : fnB w = true) : Fn w := by
  unfold fnB at h
  split at h
  · rename_i s m e he
    exact ⟨_, _, _, he, by simpa using h⟩
  · cases h
theorem Ap.const {w : Nat} {A : Rat} (h : fnB w = true) (h1 : V w ≤ A) (h2 : -A ≤ V w) : Ap (Fl.fl w) (V w) 0 A := by
  rw [fn_not_nan (fn_of h)]
  exact Ap.word (fn_of h) h1 h2
/-- The polynomial, exactly. -/
def horR (z : Rat) : List Nat → Rat
  | [] => 0
  | [c] => V c
  | c :: l => V c + z * horR z l
def serR (cs : List Nat) (z : Rat) : Rat := 1 + z * horR z cs
def rad : Rat := V 4437543736006956352
theorem one_val : V 4607182418800017408 = 1 := by decide +kernel

theorem horO {Zf : Option Nat} {z : Rat} (hz : Ap Zf z (10272620673 / 50000000000000000000000000 : Rat) (6168502751 / 10000000000 : Rat)) : Ap (Tr.hor Zf Tr.oddC) (horR z Tr.oddC) (2202128167 / 100000000000000000000000000 : Rat) (859416164770042396953 / 5000000000000000000000 : Rat) := by
  have h7 : Ap (Tr.hor Zf [4389130328383466826]) (horR z [4389130328383466826]) 0 (562291451 / 200000000000000000000000 : Rat) := Ap.const (by decide +kernel) (by decide +kernel) (by decide +kernel)
  have h6 : Ap (Tr.hor Zf [13648976655441704991, 4389130328383466826]) (horR z [13648976655441704991, 4389130328383466826]) (1 / 50000000000000000000000000 : Rat) (3832253107 / 5000000000000000000000 : Rat) := Ap.add (A := (382358186591 / 500000000000000000000000 : Rat)) (Ap.const (by decide +kernel) (by decide +kernel) (by decide +kernel)) (Ap.mul (C := (867124091 / 500000000000000000000000 : Rat)) (g := (1 / 100000000000000000000000000 : Rat)) hz h7 (by decide +kernel) (by decide +kernel) (by decide +kernel)) (by decide +kernel) (by decide +kernel) (by decide +kernel)
  have h5 : Ap (Tr.hor Zf [4460272573143870729, 13648976655441704991, 4389130328383466826]) (horR z [4460272573143870729, 13648976655441704991, 4389130328383466826]) (1 / 25000000000000000000000000 : Rat) (1610632236449 / 10000000000000000000000 : Rat) := Ap.add (A := (160590438368217 / 1000000000000000000000000 : Rat)) (Ap.const (by decide +kernel) (by decide +kernel) (by decide +kernel)) (Ap.mul (C := (236392638331 / 500000000000000000000000 : Rat)) (g := (1 / 50000000000000000000000000 : Rat)) hz h6 (by decide +kernel) (by decide +kernel) (by decide +kernel)) (by decide +kernel) (by decide +kernel) (by decide +kernel)
  have h4 : Ap (Tr.hor Zf [13716528800881525988, 4460272573143870729, 13648976655441704991, 4389130328383466826]) (horR z [13716528800881525988, 4460272573143870729, 13648976655441704991, 4389130328383466826]) (287 / 100000000000000000000000000 : Rat) (62878650698139 / 2500000000000000000000 : Rat) := Ap.add (A := (25052108385441721 / 1000000000000000000000000 : Rat)) (Ap.const (by decide +kernel) (by decide +kernel) (by decide +kernel)) (Ap.mul (C := (1987037876277 / 20000000000000000000000 : Rat)) (g := (7 / 100000000000000000000000000 : Rat)) hz h5 (by decide +kernel) (by decide +kernel) (by decide +kernel)) (by decide +kernel) (by decide +kernel) (by decide +kernel)
  have h3 : Ap (Tr.hor Zf [4523617214285662004, 13716528800881525988, 4460272573143870729, 13648976655441704991, 4389130328383466826]) (horR z [4523617214285662004, 13716528800881525988, 4460272573143870729, 13648976655441704991, 4389130328383466826]) (6327 / 20000000000000000000000000 : Rat) (6928116518977537 / 2500000000000000000000 : Rat) := Ap.add (A := (688932980599647313 / 250000000000000000000000 : Rat)) (Ap.const (by decide +kernel) (by decide +kernel) (by decide +kernel)) (Ap.mul (C := (775734259621277 / 50000000000000000000000 : Rat)) (g := (867 / 100000000000000000000000000 : Rat)) hz h4 (by decide +kernel) (by decide +kernel) (by decide +kernel)) (by decide +kernel) (by decide +kernel) (by decide +kernel)
  have h2 : Ap (Tr.hor Zf [13774824197408792602, 4523617214285662004, 13716528800881525988, 4460272573143870729, 13648976655441704991, 4389130328383466826]) (horR z [13774824197408792602, 4523617214285662004, 13716528800881525988, 4460272573143870729, 13648976655441704991, 4389130328383466826]) (144827 / 6250000000000000000000000 : Rat) (1000610713224804359 / 5000000000000000000000 : Rat) := Ap.add (A := (198412698412698412527 / 1000000000000000000000000 : Rat)) (Ap.const (by decide +kernel) (by decide +kernel) (by decide +kernel)) (Ap.mul (C := (427361058065614807 / 250000000000000000000000 : Rat)) (g := (95429 / 100000000000000000000000000 : Rat)) hz h3 (by decide +kernel) (by decide +kernel) (by decide +kernel)) (by decide +kernel) (by decide +kernel) (by decide +kernel)
  have h1 : Ap (Tr.hor Zf [4575957461383581969, 13774824197408792602, 4523617214285662004, 13716528800881525988, 4460272573143870729, 13648976655441704991, 4389130328383466826]) (horR z [4575957461383581969, 13774824197408792602, 4523617214285662004, 13716528800881525988, 4460272573143870729, 13648976655441704991, 4389130328383466826]) (12600071 / 12500000000000000000000000 : Rat) (84567787320774787731 / 10000000000000000000000 : Rat) := Ap.add (A := (4166666666666666608843 / 500000000000000000000000 : Rat)) (Ap.const (by decide +kernel) (by decide +kernel) (by decide +kernel)) (Ap.mul (C := (123445398744145555399 / 1000000000000000000000000 : Rat)) (g := (6911463 / 100000000000000000000000000 : Rat)) hz h2 (by decide +kernel) (by decide +kernel) (by decide +kernel)) (by decide +kernel) (by decide +kernel) (by decide +kernel)
  have h0 : Ap (Tr.hor Zf [13818544856648471893, 4575957461383581969, 13774824197408792602, 4523617214285662004, 13716528800881525988, 4460272573143870729, 13648976655441704991, 4389130328383466826]) (horR z [13818544856648471893, 4575957461383581969, 13774824197408792602, 4523617214285662004, 13716528800881525988, 4460272573143870729, 13648976655441704991, 4389130328383466826]) (2202128167 / 100000000000000000000000000 : Rat) (859416164770042396953 / 5000000000000000000000 : Rat) := Ap.add (A := (166666666666666657414809 / 1000000000000000000000000 : Rat)) (Ap.const (by decide +kernel) (by decide +kernel) (by decide +kernel)) (Ap.mul (C := (2608283143670910987851 / 500000000000000000000000 : Rat)) (g := (293840939 / 100000000000000000000000000 : Rat)) hz h1 (by decide +kernel) (by decide +kernel) (by decide +kernel)) (by decide +kernel) (by decide +kernel) (by decide +kernel)
  exact h0

theorem horE {Zf : Option Nat} {z : Rat} (hz : Ap Zf z (10272620673 / 50000000000000000000000000 : Rat) (6168502751 / 10000000000 : Rat)) : Ap (Tr.hor Zf Tr.evenC) (horR z Tr.evenC) (7328802141 / 100000000000000000000000000 : Rat) (657795542883221664847 / 1250000000000000000000 : Rat) := by
  have h7 : Ap (Tr.hor Zf [4407590220077447199]) (horR z [4407590220077447199]) 0 (11948693331 / 250000000000000000000000 : Rat) := Ap.const (by decide +kernel) (by decide +kernel) (by decide +kernel)
  have h6 : Ap (Tr.hor Zf [13666517717442657437, 4407590220077447199]) (horR z [13666517717442657437, 4407590220077447199]) (1 / 50000000000000000000000000 : Rat) (115002278169 / 10000000000000000000000 : Rat) := Ap.add (A := (1147074559773 / 100000000000000000000000 : Rat)) (Ap.const (by decide +kernel) (by decide +kernel) (by decide +kernel)) (Ap.mul (C := (14741109537 / 500000000000000000000000 : Rat)) (g := (1 / 100000000000000000000000000 : Rat)) hz h7 (by decide +kernel) (by decide +kernel) (by decide +kernel)) (by decide +kernel) (by decide +kernel) (by decide +kernel)
  have h5 : Ap (Tr.hor Zf [4477122120089393304, 13666517717442657437, 4407590220077447199]) (horR z [4477122120089393304, 13666517717442657437, 4407590220077447199]) (13 / 50000000000000000000000000 : Rat) (10473848087397 / 5000000000000000000000 : Rat) := Ap.add (A := (2087675698786811 / 1000000000000000000000000 : Rat)) (Ap.const (by decide +kernel) (by decide +kernel) (by decide +kernel)) (Ap.mul (C := (886739836571 / 125000000000000000000000 : Rat)) (g := (1 / 50000000000000000000000000 : Rat)) hz h6 (by decide +kernel) (by decide +kernel) (by decide +kernel)) (by decide +kernel) (by decide +kernel) (by decide +kernel)
  have h4 : Ap (Tr.hor Zf [13732177094651715420, 4477122120089393304, 13666517717442657437, 4407590220077447199]) (horR z [13732177094651715420, 4477122120089393304, 13666517717442657437, 4407590220077447199]) (787 / 25000000000000000000000000 : Rat) (1384326757273361 / 5000000000000000000000 : Rat) := Ap.add (A := (275573192239858883 / 1000000000000000000000000 : Rat)) (Ap.const (by decide +kernel) (by decide +kernel) (by decide +kernel)) (Ap.mul (C := (129215921481329 / 100000000000000000000000 : Rat)) (g := (37 / 50000000000000000000000000 : Rat)) hz h5 (by decide +kernel) (by decide +kernel) (by decide +kernel)) (by decide +kernel) (by decide +kernel) (by decide +kernel)
  have h3 : Ap (Tr.hor Zf [4537941361671905306, 13732177094651715420, 4477122120089393304, 13666517717442657437, 4407590220077447199]) (horR z [4537941361671905306, 13732177094651715420, 4477122120089393304, 13666517717442657437, 4407590220077447199]) (286777 / 100000000000000000000000000 : Rat) (249723717697977743 / 10000000000000000000000 : Rat) := Ap.add (A := (12400793650793650783 / 500000000000000000000000 : Rat)) (Ap.const (by decide +kernel) (by decide +kernel) (by decide +kernel)) (Ap.mul (C := (42696117052618183 / 250000000000000000000000 : Rat)) (g := (9527 / 100000000000000000000000000 : Rat)) hz h4 (by decide +kernel) (by decide +kernel) (by decide +kernel)) (by decide +kernel) (by decide +kernel) (by decide +kernel)
  have h2 : Ap (Tr.hor Zf [13787419979223755799, 4537941361671905306, 13732177094651715420, 4477122120089393304, 13666517717442657437, 4407590220077447199]) (horR z [13787419979223755799, 4537941361671905306, 13732177094651715420, 4477122120089393304, 13666517717442657437, 4407590220077447199]) (1645177 / 10000000000000000000000000 : Rat) (14042931032849881729 / 10000000000000000000000 : Rat) := Ap.add (A := (277777777777777788379 / 200000000000000000000000 : Rat)) (Ap.const (by decide +kernel) (by decide +kernel) (by decide +kernel)) (Ap.mul (C := (15404214396099230949 / 1000000000000000000000000 : Rat)) (g := (107623 / 12500000000000000000000000 : Rat)) hz h3 (by decide +kernel) (by decide +kernel) (by decide +kernel)) (by decide +kernel) (by decide +kernel) (by decide +kernel)
  have h1 : Ap (Tr.hor Zf [4586165620538955093, 13787419979223755799, 4537941361671905306, 13732177094651715420, 4477122120089393304, 13666517717442657437, 4407590220077447199]) (horR z [4586165620538955093, 13787419979223755799, 4537941361671905306, 13732177094651715420, 4477122120089393304, 13666517717442657437, 4407590220077447199]) (130206777 / 25000000000000000000000000 : Rat) (425329052537490420219 / 10000000000000000000000 : Rat) := Ap.add (A := (41666666666666664353703 / 1000000000000000000000000 : Rat)) (Ap.const (by decide +kernel) (by decide +kernel) (by decide +kernel)) (Ap.mul (C := (433119293541188834077 / 500000000000000000000000 : Rat)) (g := (48617 / 100000000000000000000000 : Rat)) hz h2 (by decide +kernel) (by decide +kernel) (by decide +kernel)) (by decide +kernel) (by decide +kernel) (by decide +kernel)
  have h0 : Ap (Tr.hor Zf [13826050856027422720, 4586165620538955093, 13787419979223755799, 4537941361671905306, 13732177094651715420, 4477122120089393304, 13666517717442657437, 4407590220077447199]) (horR z [13826050856027422720, 4586165620538955093, 13787419979223755799, 4537941361671905306, 13732177094651715420, 4477122120089393304, 13666517717442657437, 4407590220077447199]) (7328802141 / 100000000000000000000000000 : Rat) (657795542883221664847 / 1250000000000000000000 : Rat) := Ap.add (A := (1 / 2 : Rat)) (Ap.const (by decide +kernel) (by decide +kernel) (by decide +kernel)) (Ap.mul (C := (26236434306577331877571 / 1000000000000000000000000 : Rat)) (g := (1486404083 / 100000000000000000000000000 : Rat)) hz h1 (by decide +kernel) (by decide +kernel) (by decide +kernel)) (by decide +kernel) (by decide +kernel) (by decide +kernel)
  exact h0

theorem serO {Zf : Option Nat} {z : Rat} (hz : Ap Zf z (10272620673 / 50000000000000000000000000 : Rat) (6168502751 / 10000000000 : Rat)) : Ap (Tr.ser Tr.oddC Zf) (serR Tr.oddC z) (229328139 / 1250000000000000000000000 : Rat) (1106026219532757517 / 1000000000000000000 : Rat) := by
  have h1 := Ap.const (w := 4607182418800017408) (A := 1) (by decide +kernel) (by decide +kernel) (by decide +kernel)
  exact (Ap.add (C := (1106026219532757517 / 1000000000000000000 : Rat)) (g := (229328139 / 1250000000000000000000000 : Rat)) h1 (Ap.mul (C := (165665968019933619 / 1562500000000000000 : Rat)) (g := (1516723343 / 25000000000000000000000000 : Rat)) hz (horO hz) (by decide +kernel) (by decide +kernel) (by decide +kernel)) (by decide +kernel) (by decide +kernel) (by decide +kernel)).eq (by unfold serR; rw [one_val])

theorem serE {Zf : Option Nat} {z : Rat} (hz : Ap Zf z (10272620673 / 50000000000000000000000000 : Rat) (6168502751 / 10000000000 : Rat)) : Ap (Tr.ser Tr.evenC Zf) (serR Tr.evenC z) (3364242811 / 10000000000000000000000000 : Rat) (264921817853931061 / 200000000000000000 : Rat) := by
  have h1 := Ap.const (w := 4607182418800017408) (A := 1) (by decide +kernel) (by decide +kernel) (by decide +kernel)
  exact (Ap.add (C := (264921817853931061 / 200000000000000000 : Rat)) (g := (3364242811 / 10000000000000000000000000 : Rat)) h1 (Ap.mul (C := (32460908926965530491 / 100000000000000000000 : Rat)) (g := (9468156507 / 50000000000000000000000000 : Rat)) hz (horE hz) (by decide +kernel) (by decide +kernel) (by decide +kernel)) (by decide +kernel) (by decide +kernel) (by decide +kernel)).eq (by unfold serR; rw [one_val])

theorem rst_in (a : Int) : -162000000000 ≤ Tr.rst a ∧ Tr.rst a ≤ 162000000000 := by unfold Tr.rst Tr.qrt Tr.nrm; omega
/-- A whole number as a float. -/
theorem ofI_val {n : Int} (h : n.natAbs < 4503599627370496) : ∃ w, Tr.ofI n = some w ∧ Fn w ∧ V w = (n : Rat) := by
  have key : Fn (floatOfInt .f64 n) ∧ V (floatOfInt .f64 n) = (n : Rat) := by
    show Fn (double.nearest (decide (n < 0)) n.natAbs 0) ∧ V (double.nearest (decide (n < 0)) n.natAbs 0) = (n : Rat)
    rcases Nat.eq_zero_or_pos n.natAbs with h0 | h0
    · have hn : n = 0 := by omega
      subst hn
      obtain ⟨r1, _, _, r4⟩ := nearest_err (decide ((0 : Int) < 0)) (Int.natAbs 0) 0 (by
        have := big_900
        simp
        exact Rat.le_of_lt (two_pos _))
      exact ⟨r1, by rw [r4 rfl]; rfl⟩
    · have hl : n.natAbs.log2 < 52 := (Nat.log2_lt (by omega)).2 (by simpa using h)
      obtain ⟨last, kept, hlast, hf, hv, _, _, h3⟩ := nearest_main (decide (n < 0)) n.natAbs 0 h0 (by omega)
      refine ⟨hf, ?_⟩
      rw [hv, Rat.mul_assoc, h3 (by omega), two_zero, Rat.mul_one]
      exact total_val _ n (fun _ => rfl)
  refine ⟨_, ?_, key.1, key.2⟩
  unfold Tr.ofI
  exact fn_not_nan key.1
theorem rat_int {a b : Int} (h : a ≤ b) : (a : Rat) ≤ (b : Rat) := by exact_mod_cast h
theorem ofI_ap {n : Int} (h1 : -162000000000 ≤ n) (h2 : n ≤ 162000000000) : Ap (Tr.ofI n) (n : Rat) 0 162000000000 := by
  obtain ⟨w, e1, e2, e3⟩ := ofI_val (n := n) (by omega)
  rw [e1, ← e3]
  have q1 := rat_int h1
  have q2 := rat_int h2
  refine Ap.word e2 ?_ ?_
  · rw [e3]; exact q2
  · rw [e3]; exact q1
theorem xr_ap (a : Int) : Ap (Tr.xr a) ((Tr.rst a : Rat) * rad) (4359835623 / 50000000000000000000000000 : Rat) (392699081699 / 500000000000 : Rat) :=
  Ap.mul (ofI_ap (rst_in a).1 (rst_in a).2) (Ap.const (w := 4437543736006956352) (A := rad) (by decide +kernel) Rat.le_refl (by decide +kernel)) (by decide +kernel) (by decide +kernel) (by decide +kernel)
theorem zr_ap (a : Int) : Ap (Fl.fmul (Tr.xr a) (Tr.xr a)) ((Tr.rst a : Rat) * rad * ((Tr.rst a : Rat) * rad)) (10272620673 / 50000000000000000000000000 : Rat) (6168502751 / 10000000000 : Rat) := Ap.mul (xr_ap a) (xr_ap a) (by decide +kernel) (by decide +kernel) (by decide +kernel)
def snR (x : Rat) : Rat := x * serR Tr.oddC (x * x)
def csR (x : Rat) : Rat := serR Tr.evenC (x * x)
theorem sn_ap (a : Int) : Ap (Tr.sn (Tr.xr a) (Fl.fmul (Tr.xr a) (Tr.xr a))) (snR ((Tr.rst a : Rat) * rad)) (16848740991 / 50000000000000000000000000 : Rat) (868670961491061 / 1000000000000000 : Rat) := Ap.mul (xr_ap a) (serO (zr_ap a)) (by decide +kernel) (by decide +kernel) (by decide +kernel)
theorem cs_ap (a : Int) : Ap (Tr.cs (Fl.fmul (Tr.xr a) (Tr.xr a))) (csR ((Tr.rst a : Rat) * rad)) (3364242811 / 10000000000000000000000000 : Rat) (264921817853931061 / 200000000000000000 : Rat) := serE (zr_ap a)

end Go.Fe
/- The steps of the sine polynomial. Nothing of a program stands here. -/
set_option linter.unusedSimpArgs false
set_option linter.unusedVariables false
namespace Go.Fe
open Ieee
/-! The sine's steps. -/
def Hs : Nat → Rat → Rat → Rat
  | 0, _, _ => 0
  | n + 1, x, y => y * Hs n x y + x ^ n
theorem Hs_id (x y : Rat) : ∀ n : Nat, y ^ n - x ^ n = (y - x) * Hs n x y
  | 0 => by unfold Hs; grind
  | n + 1 => by
    have h := Hs_id x y n
    show y ^ (n + 1) - x ^ (n + 1) = (y - x) * (y * Hs n x y + x ^ n)
    rw [Rat.pow_succ, Rat.pow_succ]
    grind
theorem pow_bd {x A : Rat} (h0 : 0 ≤ x) (h1 : x ≤ A) : ∀ n : Nat, 0 ≤ x ^ n ∧ x ^ n ≤ A ^ n
  | 0 => by rw [Rat.pow_zero, Rat.pow_zero]; exact ⟨by decide, Rat.le_refl⟩
  | n + 1 => by
    obtain ⟨i1, i2⟩ := pow_bd h0 h1 n
    rw [Rat.pow_succ, Rat.pow_succ]
    refine ⟨Rat.mul_nonneg i1 h0, ?_⟩
    have q1 := Rat.mul_le_mul_of_nonneg_right i2 h0
    have q2 := Rat.mul_le_mul_of_nonneg_left h1 (Rat.le_trans i1 i2)
    exact Rat.le_trans q1 q2
theorem Hs_bd {x y A : Rat} (h0 : 0 ≤ x) (h1 : x ≤ y) (h2 : y ≤ A) : ∀ n : Nat, 0 ≤ Hs n x y ∧ Hs (n + 1) x y ≤ ((n + 1 : Nat) : Rat) * A ^ n ∧ 0 ≤ Hs (n + 1) x y
  | 0 => by
    unfold Hs
    refine ⟨Rat.le_refl, ?_, ?_⟩
    · unfold Hs; rw [Rat.pow_zero, Rat.pow_zero]; grind
    · unfold Hs; rw [Rat.pow_zero]; grind
  | n + 1 => by
    obtain ⟨_, i2, i3⟩ := Hs_bd h0 h1 h2 n
    obtain ⟨p1, p2⟩ := pow_bd h0 (Rat.le_trans h1 h2) (n + 1)
    have hy : 0 ≤ y := Rat.le_trans h0 h1
    have q1 := Rat.mul_le_mul_of_nonneg_left i2 hy
    have q3 : 0 ≤ ((n + 1 : Nat) : Rat) * A ^ n := Rat.mul_nonneg (nat_nonneg _) (pow_bd (Rat.le_trans hy h2) Rat.le_refl n).1
    have q2 := Rat.mul_le_mul_of_nonneg_right h2 q3
    have e1 : Hs (n + 1 + 1) x y = y * Hs (n + 1) x y + x ^ (n + 1) := rfl
    have e2 : ((n + 1 + 1 : Nat) : Rat) = ((n + 1 : Nat) : Rat) + 1 := by rw [Rat.natCast_add]; rfl
    refine ⟨i3, ?_, ?_⟩
    · rw [e1, e2]
      have e3 : A ^ (n + 1) = A ^ n * A := Rat.pow_succ _ _
      rw [e3] at p2 ⊢
      grind
    · rw [e1]
      have := Rat.mul_nonneg hy i3
      grind
theorem term_eq {c Y X d H : Rat} (h : Y - X = d * H) : c * Y - c * X = d * (c * H) := by
  have : c * (Y - X) = c * (d * H) := by rw [h]
  grind
theorem mul_up {c h N : Rat} (hc : 0 ≤ c) (h1 : h ≤ N) : c * h ≤ c * N := Rat.mul_le_mul_of_nonneg_left h1 hc
theorem mul_dn {c h : Rat} (hc : c ≤ 0) (h1 : 0 ≤ h) : c * h ≤ 0 := by
  have := Rat.mul_nonneg (show 0 ≤ -c by grind) h1
  grind
theorem mul_ge {c h N : Rat} (hc : c ≤ 0) (h1 : h ≤ N) : c * N ≤ c * h := by
  have := Rat.mul_le_mul_of_nonneg_left h1 (show 0 ≤ -c by grind)
  grind
theorem snR_exp (x : Rat) : snR x = x + V 13818544856648471893 * x ^ 3 + V 4575957461383581969 * x ^ 5 + V 13774824197408792602 * x ^ 7 + V 4523617214285662004 * x ^ 9 + V 13716528800881525988 * x ^ 11 + V 4460272573143870729 * x ^ 13 + V 13648976655441704991 * x ^ 15 + V 4389130328383466826 * x ^ 17 := by
  unfold snR serR Tr.oddC horR horR horR horR horR horR horR horR
  grind
theorem csR_exp (x : Rat) : csR x = 1 + V 13826050856027422720 * x ^ 2 + V 4586165620538955093 * x ^ 4 + V 13787419979223755799 * x ^ 6 + V 4537941361671905306 * x ^ 8 + V 13732177094651715420 * x ^ 10 + V 4477122120089393304 * x ^ 12 + V 13666517717442657437 * x ^ 14 + V 4407590220077447199 * x ^ 16 := by
  unfold csR serR Tr.evenC horR horR horR horR horR horR horR horR
  grind
theorem snR_step {x y : Rat} (h0 : 0 ≤ x) (h1 : x ≤ y) (h2 : y ≤ 7854 / 10000) : (y - x) * (69 / 100) ≤ snR y - snR x ∧ snR y - snR x ≤ (y - x) * (100001 / 100000) := by
  have i3 := Hs_id x y 3
  obtain ⟨_, u3, v3⟩ := Hs_bd h0 h1 h2 2
  have i5 := Hs_id x y 5
  obtain ⟨_, u5, v5⟩ := Hs_bd h0 h1 h2 4
  have i7 := Hs_id x y 7
  obtain ⟨_, u7, v7⟩ := Hs_bd h0 h1 h2 6
  have i9 := Hs_id x y 9
  obtain ⟨_, u9, v9⟩ := Hs_bd h0 h1 h2 8
  have i11 := Hs_id x y 11
  obtain ⟨_, u11, v11⟩ := Hs_bd h0 h1 h2 10
  have i13 := Hs_id x y 13
  obtain ⟨_, u13, v13⟩ := Hs_bd h0 h1 h2 12
  have i15 := Hs_id x y 15
  obtain ⟨_, u15, v15⟩ := Hs_bd h0 h1 h2 14
  have i17 := Hs_id x y 17
  obtain ⟨_, u17, v17⟩ := Hs_bd h0 h1 h2 16
  have k5 : Hs 5 x y ≤ 2 * (7854 / 10000 * (7854 / 10000)) * Hs 3 x y := by
    have e : (x * x + y * y) * Hs 3 x y - Hs 5 x y = (x * y) * (x * y) := by
      unfold Hs Hs Hs Hs Hs Hs
      grind
    have p1 : 0 ≤ (x * y) * (x * y) := by
      have : 0 ≤ x * y := Rat.mul_nonneg h0 (Rat.le_trans h0 h1)
      exact Rat.mul_nonneg this this
    have hy : 0 ≤ y := Rat.le_trans h0 h1
    obtain ⟨s1, _⟩ := mul_size (a := x) (b := x) (A := 7854 / 10000) (B := 7854 / 10000) (by grind) (by grind) (by grind) (by grind)
    obtain ⟨s2, _⟩ := mul_size (a := y) (b := y) (A := 7854 / 10000) (B := 7854 / 10000) (by grind) (by grind) (by grind) (by grind)
    have p2 := Rat.mul_le_mul_of_nonneg_right (show x * x + y * y ≤ 2 * (7854 / 10000 * (7854 / 10000)) by grind) v3
    grind
  have e : snR y - snR x = (y - x) * (1 + V 13818544856648471893 * Hs 3 x y + V 4575957461383581969 * Hs 5 x y + V 13774824197408792602 * Hs 7 x y + V 4523617214285662004 * Hs 9 x y + V 13716528800881525988 * Hs 11 x y + V 4460272573143870729 * Hs 13 x y + V 13648976655441704991 * Hs 15 x y + V 4389130328383466826 * Hs 17 x y) := by
    rw [snR_exp, snR_exp]
    have t0 := term_eq (c := V 13818544856648471893) i3
    have t1 := term_eq (c := V 4575957461383581969) i5
    have t2 := term_eq (c := V 13774824197408792602) i7
    have t3 := term_eq (c := V 4523617214285662004) i9
    have t4 := term_eq (c := V 13716528800881525988) i11
    have t5 := term_eq (c := V 4460272573143870729) i13
    have t6 := term_eq (c := V 13648976655441704991) i15
    have t7 := term_eq (c := V 4389130328383466826) i17
    clear i3 u3 v3 i5 u5 v5 i7 u7 v7 i9 u9 v9 i11 u11 v11 i13 u13 v13 i15 u15 v15 i17 u17 v17 k5
    generalize V 13818544856648471893 * y ^ 3 = Y0 at t0 ⊢
    generalize V 13818544856648471893 * x ^ 3 = X0 at t0 ⊢
    generalize V 13818544856648471893 * Hs 3 x y = H0 at t0 ⊢
    generalize V 4575957461383581969 * y ^ 5 = Y1 at t1 ⊢
    generalize V 4575957461383581969 * x ^ 5 = X1 at t1 ⊢
    generalize V 4575957461383581969 * Hs 5 x y = H1 at t1 ⊢
    generalize V 13774824197408792602 * y ^ 7 = Y2 at t2 ⊢
    generalize V 13774824197408792602 * x ^ 7 = X2 at t2 ⊢
    generalize V 13774824197408792602 * Hs 7 x y = H2 at t2 ⊢
    generalize V 4523617214285662004 * y ^ 9 = Y3 at t3 ⊢
    generalize V 4523617214285662004 * x ^ 9 = X3 at t3 ⊢
    generalize V 4523617214285662004 * Hs 9 x y = H3 at t3 ⊢
    generalize V 13716528800881525988 * y ^ 11 = Y4 at t4 ⊢
    generalize V 13716528800881525988 * x ^ 11 = X4 at t4 ⊢
    generalize V 13716528800881525988 * Hs 11 x y = H4 at t4 ⊢
    generalize V 4460272573143870729 * y ^ 13 = Y5 at t5 ⊢
    generalize V 4460272573143870729 * x ^ 13 = X5 at t5 ⊢
    generalize V 4460272573143870729 * Hs 13 x y = H5 at t5 ⊢
    generalize V 13648976655441704991 * y ^ 15 = Y6 at t6 ⊢
    generalize V 13648976655441704991 * x ^ 15 = X6 at t6 ⊢
    generalize V 13648976655441704991 * Hs 15 x y = H6 at t6 ⊢
    generalize V 4389130328383466826 * y ^ 17 = Y7 at t7 ⊢
    generalize V 4389130328383466826 * x ^ 17 = X7 at t7 ⊢
    generalize V 4389130328383466826 * Hs 17 x y = H7 at t7 ⊢
    grind
  have g0 : V 13818544856648471893 ≤ 0 := by decide +kernel
  have g1 : 0 ≤ V 4575957461383581969 := by decide +kernel
  have g2 : V 13774824197408792602 ≤ 0 := by decide +kernel
  have g3 : 0 ≤ V 4523617214285662004 := by decide +kernel
  have g4 : V 13716528800881525988 ≤ 0 := by decide +kernel
  have g5 : 0 ≤ V 4460272573143870729 := by decide +kernel
  have g6 : V 13648976655441704991 ≤ 0 := by decide +kernel
  have g7 : 0 ≤ V 4389130328383466826 := by decide +kernel
  have m01 : V 4575957461383581969 * (2 * (7854 / 10000 * (7854 / 10000))) + V 13818544856648471893 ≤ 0 := by decide +kernel
  have b1 := mul_up g1 k5
  have b0 : (V 4575957461383581969 * (2 * (7854 / 10000 * (7854 / 10000))) + V 13818544856648471893) * Hs 3 x y ≤ 0 := mul_dn m01 v3
  have b3 := mul_up g3 u9
  have b5 := mul_up g5 u13
  have b7 := mul_up g7 u17
  have b2 := mul_dn g2 v7
  have b4 := mul_dn g4 v11
  have b6 := mul_dn g6 v15
  have l0 := mul_ge g0 u3
  have l2 := mul_ge g2 u7
  have l4 := mul_ge g4 u11
  have l6 := mul_ge g6 u15
  have l1 := Rat.mul_nonneg g1 v5
  have l3 := Rat.mul_nonneg g3 v9
  have l5 := Rat.mul_nonneg g5 v13
  have l7 := Rat.mul_nonneg g7 v17
  have nu : V 4523617214285662004 * (((8 + 1 : Nat) : Rat) * (7854 / 10000) ^ 8)+V 4460272573143870729 * (((12 + 1 : Nat) : Rat) * (7854 / 10000) ^ 12)+V 4389130328383466826 * (((16 + 1 : Nat) : Rat) * (7854 / 10000) ^ 16) ≤ 1 / 100000 := by decide +kernel
  have nl : -(31 / 100) ≤ V 13818544856648471893 * (((2 + 1 : Nat) : Rat) * (7854 / 10000) ^ 2)+V 13774824197408792602 * (((6 + 1 : Nat) : Rat) * (7854 / 10000) ^ 6)+V 13716528800881525988 * (((10 + 1 : Nat) : Rat) * (7854 / 10000) ^ 10)+V 13648976655441704991 * (((14 + 1 : Nat) : Rat) * (7854 / 10000) ^ 14) := by decide +kernel
  have hyx : 0 ≤ y - x := by grind
  rw [e]
  constructor
  · refine Rat.mul_le_mul_of_nonneg_left ?_ hyx
    clear e b0 b1 b2 b3 b4 b5 b6 b7 nu m01 k5
    grind
  · refine Rat.mul_le_mul_of_nonneg_left ?_ hyx
    clear e l0 l1 l2 l3 l4 l5 l6 l7 nl
    grind
theorem csR_step {x y : Rat} (h0 : 0 ≤ x) (h1 : x ≤ y) (h2 : y ≤ 7854 / 10000) : -(y - x) ≤ csR y - csR x ∧ csR y - csR x ≤ y - x := by
  have i2 := Hs_id x y 2
  obtain ⟨_, u2, v2⟩ := Hs_bd h0 h1 h2 1
  have i4 := Hs_id x y 4
  obtain ⟨_, u4, v4⟩ := Hs_bd h0 h1 h2 3
  have i6 := Hs_id x y 6
  obtain ⟨_, u6, v6⟩ := Hs_bd h0 h1 h2 5
  have i8 := Hs_id x y 8
  obtain ⟨_, u8, v8⟩ := Hs_bd h0 h1 h2 7
  have i10 := Hs_id x y 10
  obtain ⟨_, u10, v10⟩ := Hs_bd h0 h1 h2 9
  have i12 := Hs_id x y 12
  obtain ⟨_, u12, v12⟩ := Hs_bd h0 h1 h2 11
  have i14 := Hs_id x y 14
  obtain ⟨_, u14, v14⟩ := Hs_bd h0 h1 h2 13
  have i16 := Hs_id x y 16
  obtain ⟨_, u16, v16⟩ := Hs_bd h0 h1 h2 15
  have e : csR y - csR x = (y - x) * (V 13826050856027422720 * Hs 2 x y + V 4586165620538955093 * Hs 4 x y + V 13787419979223755799 * Hs 6 x y + V 4537941361671905306 * Hs 8 x y + V 13732177094651715420 * Hs 10 x y + V 4477122120089393304 * Hs 12 x y + V 13666517717442657437 * Hs 14 x y + V 4407590220077447199 * Hs 16 x y) := by
    rw [csR_exp, csR_exp]
    have t0 := term_eq (c := V 13826050856027422720) i2
    have t1 := term_eq (c := V 4586165620538955093) i4
    have t2 := term_eq (c := V 13787419979223755799) i6
    have t3 := term_eq (c := V 4537941361671905306) i8
    have t4 := term_eq (c := V 13732177094651715420) i10
    have t5 := term_eq (c := V 4477122120089393304) i12
    have t6 := term_eq (c := V 13666517717442657437) i14
    have t7 := term_eq (c := V 4407590220077447199) i16
    clear i2 u2 v2 i4 u4 v4 i6 u6 v6 i8 u8 v8 i10 u10 v10 i12 u12 v12 i14 u14 v14 i16 u16 v16
    generalize V 13826050856027422720 * y ^ 2 = Y0 at t0 ⊢
    generalize V 13826050856027422720 * x ^ 2 = X0 at t0 ⊢
    generalize V 13826050856027422720 * Hs 2 x y = H0 at t0 ⊢
    generalize V 4586165620538955093 * y ^ 4 = Y1 at t1 ⊢
    generalize V 4586165620538955093 * x ^ 4 = X1 at t1 ⊢
    generalize V 4586165620538955093 * Hs 4 x y = H1 at t1 ⊢
    generalize V 13787419979223755799 * y ^ 6 = Y2 at t2 ⊢
    generalize V 13787419979223755799 * x ^ 6 = X2 at t2 ⊢
    generalize V 13787419979223755799 * Hs 6 x y = H2 at t2 ⊢
    generalize V 4537941361671905306 * y ^ 8 = Y3 at t3 ⊢
    generalize V 4537941361671905306 * x ^ 8 = X3 at t3 ⊢
    generalize V 4537941361671905306 * Hs 8 x y = H3 at t3 ⊢
    generalize V 13732177094651715420 * y ^ 10 = Y4 at t4 ⊢
    generalize V 13732177094651715420 * x ^ 10 = X4 at t4 ⊢
    generalize V 13732177094651715420 * Hs 10 x y = H4 at t4 ⊢
    generalize V 4477122120089393304 * y ^ 12 = Y5 at t5 ⊢
    generalize V 4477122120089393304 * x ^ 12 = X5 at t5 ⊢
    generalize V 4477122120089393304 * Hs 12 x y = H5 at t5 ⊢
    generalize V 13666517717442657437 * y ^ 14 = Y6 at t6 ⊢
    generalize V 13666517717442657437 * x ^ 14 = X6 at t6 ⊢
    generalize V 13666517717442657437 * Hs 14 x y = H6 at t6 ⊢
    generalize V 4407590220077447199 * y ^ 16 = Y7 at t7 ⊢
    generalize V 4407590220077447199 * x ^ 16 = X7 at t7 ⊢
    generalize V 4407590220077447199 * Hs 16 x y = H7 at t7 ⊢
    grind
  have g0 : V 13826050856027422720 ≤ 0 := by decide +kernel
  have b0 := mul_dn g0 v2
  have l0 := mul_ge g0 u2
  have g1 : 0 ≤ V 4586165620538955093 := by decide +kernel
  have b1 := mul_up g1 u4
  have l1 := Rat.mul_nonneg g1 v4
  have g2 : V 13787419979223755799 ≤ 0 := by decide +kernel
  have b2 := mul_dn g2 v6
  have l2 := mul_ge g2 u6
  have g3 : 0 ≤ V 4537941361671905306 := by decide +kernel
  have b3 := mul_up g3 u8
  have l3 := Rat.mul_nonneg g3 v8
  have g4 : V 13732177094651715420 ≤ 0 := by decide +kernel
  have b4 := mul_dn g4 v10
  have l4 := mul_ge g4 u10
  have g5 : 0 ≤ V 4477122120089393304 := by decide +kernel
  have b5 := mul_up g5 u12
  have l5 := Rat.mul_nonneg g5 v12
  have g6 : V 13666517717442657437 ≤ 0 := by decide +kernel
  have b6 := mul_dn g6 v14
  have l6 := mul_ge g6 u14
  have g7 : 0 ≤ V 4407590220077447199 := by decide +kernel
  have b7 := mul_up g7 u16
  have l7 := Rat.mul_nonneg g7 v16
  have nu : V 4586165620538955093 * (((3 + 1 : Nat) : Rat) * (7854 / 10000) ^ 3)+V 4537941361671905306 * (((7 + 1 : Nat) : Rat) * (7854 / 10000) ^ 7)+V 4477122120089393304 * (((11 + 1 : Nat) : Rat) * (7854 / 10000) ^ 11)+V 4407590220077447199 * (((15 + 1 : Nat) : Rat) * (7854 / 10000) ^ 15) ≤ 1 := by decide +kernel
  have nl : -1 ≤ V 13826050856027422720 * (((1 + 1 : Nat) : Rat) * (7854 / 10000) ^ 1)+V 13787419979223755799 * (((5 + 1 : Nat) : Rat) * (7854 / 10000) ^ 5)+V 13732177094651715420 * (((9 + 1 : Nat) : Rat) * (7854 / 10000) ^ 9)+V 13666517717442657437 * (((13 + 1 : Nat) : Rat) * (7854 / 10000) ^ 13) := by decide +kernel
  have hyx : 0 ≤ y - x := by grind
  rw [e]
  generalize hq : V 13826050856027422720 * Hs 2 x y + V 4586165620538955093 * Hs 4 x y + V 13787419979223755799 * Hs 6 x y + V 4537941361671905306 * Hs 8 x y + V 13732177094651715420 * Hs 10 x y + V 4477122120089393304 * Hs 12 x y + V 13666517717442657437 * Hs 14 x y + V 4407590220077447199 * Hs 16 x y = q
  have q1 : q ≤ 1 := by
    rw [← hq]
    clear e hq l0 l1 l2 l3 l4 l5 l6 l7 nl
    grind
  have q2 : -1 ≤ q := by
    rw [← hq]
    clear e hq b0 b1 b2 b3 b4 b5 b6 b7 nu
    grind
  have q3 := Rat.mul_le_mul_of_nonneg_left q1 hyx
  have q4 := Rat.mul_le_mul_of_nonneg_left q2 hyx
  clear e hq b0 b1 b2 b3 b4 b5 b6 b7 nu l0 l1 l2 l3 l4 l5 l6 l7 nl
  constructor <;> grind
theorem snR_neg (x : Rat) : snR (-x) = -snR x := by
  unfold snR
  rw [show -x * -x = x * x by grind]
  grind
theorem csR_neg (x : Rat) : csR (-x) = csR x := by
  unfold csR
  rw [show -x * -x = x * x by grind]
theorem rad_pos : 0 < rad := by decide +kernel
/-- From one angle to the next. -/
theorem poly_step {a : Int} (h1 : -162000000000 ≤ a) (h2 : a + 1 ≤ 162000000000) :
    Nr (snR (((a + 1 : Int) : Rat) * rad)) (snR ((a : Rat) * rad)) (rad * (100001 / 100000)) ∧ Nr (csR (((a + 1 : Int) : Rat) * rad)) (csR ((a : Rat) * rad)) (rad * (100001 / 100000)) := by
  have hr := rad_pos
  have e1 : ((a + 1 : Int) : Rat) * rad = (a : Rat) * rad + rad := by rw [Rat.intCast_add]; show ((a : Rat) + 1) * rad = _; grind
  have hm : 162000000000 * rad ≤ 7854 / 10000 := by decide +kernel
  rcases Int.le_total 0 a with h | h
  · have p0 : 0 ≤ (a : Rat) * rad := Rat.mul_nonneg (rat_int h) (Rat.le_of_lt hr)
    have p1 : ((a + 1 : Int) : Rat) * rad ≤ 162000000000 * rad := Rat.mul_le_mul_of_nonneg_right (rat_int h2) (Rat.le_of_lt hr)
    obtain ⟨s1, s2⟩ := snR_step (x := (a : Rat) * rad) (y := ((a + 1 : Int) : Rat) * rad) p0 (by rw [e1]; grind) (by grind)
    obtain ⟨c1, c2⟩ := csR_step (x := (a : Rat) * rad) (y := ((a + 1 : Int) : Rat) * rad) p0 (by rw [e1]; grind) (by grind)
    have e2 : ((a + 1 : Int) : Rat) * rad - (a : Rat) * rad = rad := by rw [e1]; grind
    rw [e2] at s2 c1 c2
    exact ⟨⟨s2, by grind⟩, ⟨by grind, by grind⟩⟩
  · by_cases h0 : a = 0
    · subst h0
      have p0 : 0 ≤ ((0 : Int) : Rat) * rad := by simp
      have p1 : ((0 + 1 : Int) : Rat) * rad ≤ 162000000000 * rad := Rat.mul_le_mul_of_nonneg_right (by decide) (Rat.le_of_lt hr)
      obtain ⟨s1, s2⟩ := snR_step (x := ((0 : Int) : Rat) * rad) (y := ((0 + 1 : Int) : Rat) * rad) p0 (by rw [e1]; grind) (by grind)
      obtain ⟨c1, c2⟩ := csR_step (x := ((0 : Int) : Rat) * rad) (y := ((0 + 1 : Int) : Rat) * rad) p0 (by rw [e1]; grind) (by grind)
      have e2 : ((0 + 1 : Int) : Rat) * rad - ((0 : Int) : Rat) * rad = rad := by rw [e1]; grind
      rw [e2] at s2 c1 c2
      exact ⟨⟨s2, by grind⟩, ⟨by grind, by grind⟩⟩
    · have p0 : ((a + 1 : Int) : Rat) * rad ≤ 0 := by
        have := Rat.mul_le_mul_of_nonneg_right (rat_int (show a + 1 ≤ 0 by omega)) (Rat.le_of_lt hr)
        rw [show ((0 : Int) : Rat) * rad = 0 by simp] at this
        exact this
      have p1 : -162000000000 * rad ≤ (a : Rat) * rad := Rat.mul_le_mul_of_nonneg_right (rat_int h1) (Rat.le_of_lt hr)
      obtain ⟨s1, s2⟩ := snR_step (x := -(((a + 1 : Int) : Rat) * rad)) (y := -((a : Rat) * rad)) (by grind) (by rw [e1]; grind) (by grind)
      obtain ⟨c1, c2⟩ := csR_step (x := -(((a + 1 : Int) : Rat) * rad)) (y := -((a : Rat) * rad)) (by grind) (by rw [e1]; grind) (by grind)
      have e2 : -((a : Rat) * rad) - -(((a + 1 : Int) : Rat) * rad) = rad := by rw [e1]; grind
      rw [e2] at s2 c1 c2
      rw [snR_neg, snR_neg] at s1 s2
      rw [csR_neg, csR_neg] at c1 c2
      exact ⟨⟨by grind, by grind⟩, ⟨by grind, by grind⟩⟩

end Go.Fe
/- Sine and cosine of whole angles as floats. Nothing of a program stands here. -/
set_option linter.unusedSimpArgs false
set_option linter.unusedVariables false
namespace Go.Fe
open Ieee
/-! Sine and cosine of a whole angle, as floats, near the polynomials. -/
def quadR (q : Int) (a b c d : Rat) : Rat := if q % 4 = 0 then a else if q % 4 = 1 then b else if q % 4 = 2 then c else d
def sinR (k : Int) : Rat := quadR (Tr.qrt k) (snR ((Tr.rst k : Rat) * rad)) (csR ((Tr.rst k : Rat) * rad)) (-snR ((Tr.rst k : Rat) * rad)) (-csR ((Tr.rst k : Rat) * rad))
def cosR (k : Int) : Rat := quadR (Tr.qrt k) (csR ((Tr.rst k : Rat) * rad)) (-snR ((Tr.rst k : Rat) * rad)) (-csR ((Tr.rst k : Rat) * rad)) (snR ((Tr.rst k : Rat) * rad))
theorem Ap.quad {q : Int} {A B C D : Option Nat} {a b c d e S : Rat} (h1 : Ap A a e S) (h2 : Ap B b e S) (h3 : Ap C c e S) (h4 : Ap D d e S) : Ap (Tr.quad q A B C D) (quadR q a b c d) e S := by
  unfold Tr.quad quadR
  split
  · exact h1
  · split
    · exact h2
    · split
      · exact h3
      · exact h4
theorem sn_ap2 (k : Int) : Ap (Tr.sn (Tr.xr k) (Fl.fmul (Tr.xr k) (Tr.xr k))) (snR ((Tr.rst k : Rat) * rad)) (34 / 100000000000000000) (4 / 3) := (sn_ap k).weaken (by decide +kernel) (by decide +kernel)
theorem cs_ap2 (k : Int) : Ap (Tr.cs (Fl.fmul (Tr.xr k) (Tr.xr k))) (csR ((Tr.rst k : Rat) * rad)) (34 / 100000000000000000) (4 / 3) := (cs_ap k).weaken (by decide +kernel) (by decide +kernel)
theorem sin_ap (k : Int) : Ap (Tr.sinA k) (sinR k) (34 / 100000000000000000) (4 / 3) := Ap.quad (sn_ap2 k) (cs_ap2 k) (sn_ap2 k).neg (cs_ap2 k).neg
theorem cos_ap (k : Int) : Ap (Tr.cosA k) (cosR k) (34 / 100000000000000000) (4 / 3) := Ap.quad (cs_ap2 k) (sn_ap2 k).neg (cs_ap2 k).neg (sn_ap2 k)
def gapB (X Y : Option Nat) (d : Rat) : Bool := match X, Y with
  | some u, some v => decide (V v - V u ≤ d) && decide (V u - V v ≤ d)
  | _, _ => false
theorem gap_of {X Y : Option Nat} {d : Rat} {u v : Nat} (h : gapB X Y d = true) (hu : X = some u) (hv : Y = some v) : Nr (V v) (V u) d := by
  subst hu hv
  unfold gapB at h
  simp at h
  exact ⟨h.1, h.2⟩
/-- From one whole angle to the next the written sine goes by no more than a little over the angle. -/
theorem sin_step {k : Int} (h0 : 0 ≤ k) (h1 : k < 1296000000000) {u v : Nat} (hu : Tr.sinA k = some u) (hv : Tr.sinA (k + 1) = some v) : Nr (V v) (V u) (rad * (100001 / 100000) + 68 / 100000000000000000) := by
  by_cases b1 : k = 161999999999
  · subst b1; exact gap_of (by decide +kernel) hu hv
  by_cases b2 : k = 485999999999
  · subst b2; exact gap_of (by decide +kernel) hu hv
  by_cases b3 : k = 809999999999
  · subst b3; exact gap_of (by decide +kernel) hu hv
  by_cases b4 : k = 1133999999999
  · subst b4; exact gap_of (by decide +kernel) hu hv
  by_cases b5 : k = 1295999999999
  · subst b5; exact gap_of (by decide +kernel) hu hv
  have n1 : Tr.nrm k = k := by unfold Tr.nrm; omega
  have n2 : Tr.nrm (k + 1) = k + 1 := by unfold Tr.nrm; omega
  have q1 : Tr.qrt (k + 1) = Tr.qrt k := by unfold Tr.qrt; rw [n1, n2]; omega
  have r1 : Tr.rst (k + 1) = Tr.rst k + 1 := by unfold Tr.rst; rw [n1, n2, q1]; omega
  obtain ⟨s1, s2⟩ := rst_in k
  obtain ⟨s3, s4⟩ := rst_in (k + 1)
  obtain ⟨_, ⟨a1, a2⟩⟩ := (sin_ap k).val hu
  obtain ⟨_, ⟨c1, c2⟩⟩ := (sin_ap (k + 1)).val hv
  obtain ⟨⟨p1, p2⟩, ⟨p3, p4⟩⟩ := poly_step (a := Tr.rst k) s1 (by omega)
  have key : Nr (sinR (k + 1)) (sinR k) (rad * (100001 / 100000)) := by
    unfold sinR quadR
    rw [q1, r1]
    split
    · exact ⟨p1, p2⟩
    · split
      · exact ⟨p3, p4⟩
      · split
        · exact ⟨by grind, by grind⟩
        · exact ⟨by grind, by grind⟩
  obtain ⟨k1, k2⟩ := key
  exact ⟨by grind, by grind⟩

end Go.Fe
