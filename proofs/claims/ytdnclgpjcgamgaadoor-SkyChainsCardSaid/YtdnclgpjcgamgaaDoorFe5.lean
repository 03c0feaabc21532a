/- The series of sine and cosine as floats: how near. Nothing of a program stands here. -/
import Derived.Test.YtdnclgpjcgamgaaDoorFe
set_option linter.unusedSimpArgs false
set_option linter.unusedVariables false
namespace Go.Fe
open Ieee
/-! The series of the sine and the cosine: how near what is written is to the polynomial. -/
def fnB (w : Nat) : Bool := match double.read w with | .number _ _ e => decide (-1074 ≤ e) | _ => false
theorem fn_of {w : Nat} (h : fnB w = true) : Fn w := by
  unfold fnB at h
  split at h
  · rename_i s m e he
    exact ⟨_, _, _, he, by simpa using h⟩
  · cases h
theorem Ap.const {w : Nat} {A : Rat} (h : fnB w = true) (h1 : V w ≤ A) (h2 : -A ≤ V w) : Ap (Fl.fl w) (V w) 0 A := by
  rw [fn_not_nan (fn_of h)]
  exact Ap.word (fn_of h) h1 h2
/-- The polynomial, exactly. -/
def horR (z : Rat) : List Nat → Rat
  | [] => 0
  | [c] => V c
  | c :: l => V c + z * horR z l
def serR (cs : List Nat) (z : Rat) : Rat := 1 + z * horR z cs
def rad : Rat := V 4437543736006956352
theorem one_val : V 4607182418800017408 = 1 := by decide +kernel

theorem horO {Zf : Option Nat} {z : Rat} (hz : Ap Zf z (10272620673 / 50000000000000000000000000 : Rat) (6168502751 / 10000000000 : Rat)) : Ap (Tr.hor Zf Tr.oddC) (horR z Tr.oddC) (2202128167 / 100000000000000000000000000 : Rat) (859416164770042396953 / 5000000000000000000000 : Rat) := by
  have h7 : Ap (Tr.hor Zf [4389130328383466826]) (horR z [4389130328383466826]) 0 (562291451 / 200000000000000000000000 : Rat) := Ap.const (by decide +kernel) (by decide +kernel) (by decide +kernel)
  have h6 : Ap (Tr.hor Zf [13648976655441704991, 4389130328383466826]) (horR z [13648976655441704991, 4389130328383466826]) (1 / 50000000000000000000000000 : Rat) (3832253107 / 5000000000000000000000 : Rat) := Ap.add (A := (382358186591 / 500000000000000000000000 : Rat)) (Ap.const (by decide +kernel) (by decide +kernel) (by decide +kernel)) (Ap.mul (C := (867124091 / 500000000000000000000000 : Rat)) (g := (1 / 100000000000000000000000000 : Rat)) hz h7 (by decide +kernel) (by decide +kernel) (by decide +kernel)) (by decide +kernel) (by decide +kernel) (by decide +kernel)
  have h5 : Ap (Tr.hor Zf [4460272573143870729, 13648976655441704991, 4389130328383466826]) (horR z [4460272573143870729, 13648976655441704991, 4389130328383466826]) (1 / 25000000000000000000000000 : Rat) (1610632236449 / 10000000000000000000000 : Rat) := Ap.add (A := (160590438368217 / 1000000000000000000000000 : Rat)) (Ap.const (by decide +kernel) (by decide +kernel) (by decide +kernel)) (Ap.mul (C := (236392638331 / 500000000000000000000000 : Rat)) (g := (1 / 50000000000000000000000000 : Rat)) hz h6 (by decide +kernel) (by decide +kernel) (by decide +kernel)) (by decide +kernel) (by decide +kernel) (by decide +kernel)
  have h4 : Ap (Tr.hor Zf [13716528800881525988, 4460272573143870729, 13648976655441704991, 4389130328383466826]) (horR z [13716528800881525988, 4460272573143870729, 13648976655441704991, 4389130328383466826]) (287 / 100000000000000000000000000 : Rat) (62878650698139 / 2500000000000000000000 : Rat) := Ap.add (A := (25052108385441721 / 1000000000000000000000000 : Rat)) (Ap.const (by decide +kernel) (by decide +kernel) (by decide +kernel)) (Ap.mul (C := (1987037876277 / 20000000000000000000000 : Rat)) (g := (7 / 100000000000000000000000000 : Rat)) hz h5 (by decide +kernel) (by decide +kernel) (by decide +kernel)) (by decide +kernel) (by decide +kernel) (by decide +kernel)
  have h3 : Ap (Tr.hor Zf [4523617214285662004, 13716528800881525988, 4460272573143870729, 13648976655441704991, 4389130328383466826]) (horR z [4523617214285662004, 13716528800881525988, 4460272573143870729, 13648976655441704991, 4389130328383466826]) (6327 / 20000000000000000000000000 : Rat) (6928116518977537 / 2500000000000000000000 : Rat) := Ap.add (A := (688932980599647313 / 250000000000000000000000 : Rat)) (Ap.const (by decide +kernel) (by decide +kernel) (by decide +kernel)) (Ap.mul (C := (775734259621277 / 50000000000000000000000 : Rat)) (g := (867 / 100000000000000000000000000 : Rat)) hz h4 (by decide +kernel) (by decide +kernel) (by decide +kernel)) (by decide +kernel) (by decide +kernel) (by decide +kernel)
  have h2 : Ap (Tr.hor Zf [13774824197408792602, 4523617214285662004, 13716528800881525988, 4460272573143870729, 13648976655441704991, 4389130328383466826]) (horR z [13774824197408792602, 4523617214285662004, 13716528800881525988, 4460272573143870729, 13648976655441704991, 4389130328383466826]) (144827 / 6250000000000000000000000 : Rat) (1000610713224804359 / 5000000000000000000000 : Rat) := Ap.add (A := (198412698412698412527 / 1000000000000000000000000 : Rat)) (Ap.const (by decide +kernel) (by decide +kernel) (by decide +kernel)) (Ap.mul (C := (427361058065614807 / 250000000000000000000000 : Rat)) (g := (95429 / 100000000000000000000000000 : Rat)) hz h3 (by decide +kernel) (by decide +kernel) (by decide +kernel)) (by decide +kernel) (by decide +kernel) (by decide +kernel)
  have h1 : Ap (Tr.hor Zf [4575957461383581969, 13774824197408792602, 4523617214285662004, 13716528800881525988, 4460272573143870729, 13648976655441704991, 4389130328383466826]) (horR z [4575957461383581969, 13774824197408792602, 4523617214285662004, 13716528800881525988, 4460272573143870729, 13648976655441704991, 4389130328383466826]) (12600071 / 12500000000000000000000000 : Rat) (84567787320774787731 / 10000000000000000000000 : Rat) := Ap.add (A := (4166666666666666608843 / 500000000000000000000000 : Rat)) (Ap.const (by decide +kernel) (by decide +kernel) (by decide +kernel)) (Ap.mul (C := (123445398744145555399 / 1000000000000000000000000 : Rat)) (g := (6911463 / 100000000000000000000000000 : Rat)) hz h2 (by decide +kernel) (by decide +kernel) (by decide +kernel)) (by decide +kernel) (by decide +kernel) (by decide +kernel)
  have h0 : Ap (Tr.hor Zf [13818544856648471893, 4575957461383581969, 13774824197408792602, 4523617214285662004, 13716528800881525988, 4460272573143870729, 13648976655441704991, 4389130328383466826]) (horR z [13818544856648471893, 4575957461383581969, 13774824197408792602, 4523617214285662004, 13716528800881525988, 4460272573143870729, 13648976655441704991, 4389130328383466826]) (2202128167 / 100000000000000000000000000 : Rat) (859416164770042396953 / 5000000000000000000000 : Rat) := Ap.add (A := (166666666666666657414809 / 1000000000000000000000000 : Rat)) (Ap.const (by decide +kernel) (by decide +kernel) (by decide +kernel)) (Ap.mul (C := (2608283143670910987851 / 500000000000000000000000 : Rat)) (g := (293840939 / 100000000000000000000000000 : Rat)) hz h1 (by decide +kernel) (by decide +kernel) (by decide +kernel)) (by decide +kernel) (by decide +kernel) (by decide +kernel)
  exact h0

theorem horE {Zf : Option Nat} {z : Rat} (hz : Ap Zf z (10272620673 / 50000000000000000000000000 : Rat) (6168502751 / 10000000000 : Rat)) : Ap (Tr.hor Zf Tr.evenC) (horR z Tr.evenC) (7328802141 / 100000000000000000000000000 : Rat) (657795542883221664847 / 1250000000000000000000 : Rat) := by
  have h7 : Ap (Tr.hor Zf [4407590220077447199]) (horR z [4407590220077447199]) 0 (11948693331 / 250000000000000000000000 : Rat) := Ap.const (by decide +kernel) (by decide +kernel) (by decide +kernel)
  have h6 : Ap (Tr.hor Zf [13666517717442657437, 4407590220077447199]) (horR z [13666517717442657437, 4407590220077447199]) (1 / 50000000000000000000000000 : Rat) (115002278169 / 10000000000000000000000 : Rat) := Ap.add (A := (1147074559773 / 100000000000000000000000 : Rat)) (Ap.const (by decide +kernel) (by decide +kernel) (by decide +kernel)) (Ap.mul (C := (14741109537 / 500000000000000000000000 : Rat)) (g := (1 / 100000000000000000000000000 : Rat)) hz h7 (by decide +kernel) (by decide +kernel) (by decide +kernel)) (by decide +kernel) (by decide +kernel) (by decide +kernel)
  have h5 : Ap (Tr.hor Zf [4477122120089393304, 13666517717442657437, 4407590220077447199]) (horR z [4477122120089393304, 13666517717442657437, 4407590220077447199]) (13 / 50000000000000000000000000 : Rat) (10473848087397 / 5000000000000000000000 : Rat) := Ap.add (A := (2087675698786811 / 1000000000000000000000000 : Rat)) (Ap.const (by decide +kernel) (by decide +kernel) (by decide +kernel)) (Ap.mul (C := (886739836571 / 125000000000000000000000 : Rat)) (g := (1 / 50000000000000000000000000 : Rat)) hz h6 (by decide +kernel) (by decide +kernel) (by decide +kernel)) (by decide +kernel) (by decide +kernel) (by decide +kernel)
  have h4 : Ap (Tr.hor Zf [13732177094651715420, 4477122120089393304, 13666517717442657437, 4407590220077447199]) (horR z [13732177094651715420, 4477122120089393304, 13666517717442657437, 4407590220077447199]) (787 / 25000000000000000000000000 : Rat) (1384326757273361 / 5000000000000000000000 : Rat) := Ap.add (A := (275573192239858883 / 1000000000000000000000000 : Rat)) (Ap.const (by decide +kernel) (by decide +kernel) (by decide +kernel)) (Ap.mul (C := (129215921481329 / 100000000000000000000000 : Rat)) (g := (37 / 50000000000000000000000000 : Rat)) hz h5 (by decide +kernel) (by decide +kernel) (by decide +kernel)) (by decide +kernel) (by decide +kernel) (by decide +kernel)
  have h3 : Ap (Tr.hor Zf [4537941361671905306, 13732177094651715420, 4477122120089393304, 13666517717442657437, 4407590220077447199]) (horR z [4537941361671905306, 13732177094651715420, 4477122120089393304, 13666517717442657437, 4407590220077447199]) (286777 / 100000000000000000000000000 : Rat) (249723717697977743 / 10000000000000000000000 : Rat) := Ap.add (A := (12400793650793650783 / 500000000000000000000000 : Rat)) (Ap.const (by decide +kernel) (by decide +kernel) (by decide +kernel)) (Ap.mul (C := (42696117052618183 / 250000000000000000000000 : Rat)) (g := (9527 / 100000000000000000000000000 : Rat)) hz h4 (by decide +kernel) (by decide +kernel) (by decide +kernel)) (by decide +kernel) (by decide +kernel) (by decide +kernel)
  have h2 : Ap (Tr.hor Zf [13787419979223755799, 4537941361671905306, 13732177094651715420, 4477122120089393304, 13666517717442657437, 4407590220077447199]) (horR z [13787419979223755799, 4537941361671905306, 13732177094651715420, 4477122120089393304, 13666517717442657437, 4407590220077447199]) (1645177 / 10000000000000000000000000 : Rat) (14042931032849881729 / 10000000000000000000000 : Rat) := Ap.add (A := (277777777777777788379 / 200000000000000000000000 : Rat)) (Ap.const (by decide +kernel) (by decide +kernel) (by decide +kernel)) (Ap.mul (C := (15404214396099230949 / 1000000000000000000000000 : Rat)) (g := (107623 / 12500000000000000000000000 : Rat)) hz h3 (by decide +kernel) (by decide +kernel) (by decide +kernel)) (by decide +kernel) (by decide +kernel) (by decide +kernel)
  have h1 : Ap (Tr.hor Zf [4586165620538955093, 13787419979223755799, 4537941361671905306, 13732177094651715420, 4477122120089393304, 13666517717442657437, 4407590220077447199]) (horR z [4586165620538955093, 13787419979223755799, 4537941361671905306, 13732177094651715420, 4477122120089393304, 13666517717442657437, 4407590220077447199]) (130206777 / 25000000000000000000000000 : Rat) (425329052537490420219 / 10000000000000000000000 : Rat) := Ap.add (A := (41666666666666664353703 / 1000000000000000000000000 : Rat)) (Ap.const (by decide +kernel) (by decide +kernel) (by decide +kernel)) (Ap.mul (C := (433119293541188834077 / 500000000000000000000000 : Rat)) (g := (48617 / 100000000000000000000000 : Rat)) hz h2 (by decide +kernel) (by decide +kernel) (by decide +kernel)) (by decide +kernel) (by decide +kernel) (by decide +kernel)
  have h0 : Ap (Tr.hor Zf [13826050856027422720, 4586165620538955093, 13787419979223755799, 4537941361671905306, 13732177094651715420, 4477122120089393304, 13666517717442657437, 4407590220077447199]) (horR z [13826050856027422720, 4586165620538955093, 13787419979223755799, 4537941361671905306, 13732177094651715420, 4477122120089393304, 13666517717442657437, 4407590220077447199]) (7328802141 / 100000000000000000000000000 : Rat) (657795542883221664847 / 1250000000000000000000 : Rat) := Ap.add (A := (1 / 2 : Rat)) (Ap.const (by decide +kernel) (by decide +kernel) (by decide +kernel)) (Ap.mul (C := (26236434306577331877571 / 1000000000000000000000000 : Rat)) (g := (1486404083 / 100000000000000000000000000 : Rat)) hz h1 (by decide +kernel) (by decide +kernel) (by decide +kernel)) (by decide +kernel) (by decide +kernel) (by decide +kernel)
  exact h0

theorem serO {Zf : Option Nat} {z : Rat} (hz : Ap Zf z (10272620673 / 50000000000000000000000000 : Rat) (6168502751 / 10000000000 : Rat)) : Ap (Tr.ser Tr.oddC Zf) (serR Tr.oddC z) (229328139 / 1250000000000000000000000 : Rat) (1106026219532757517 / 1000000000000000000 : Rat) := by
  have h1 := Ap.const (w := 4607182418800017408) (A := 1) (by decide +kernel) (by decide +kernel) (by decide +kernel)
  exact (Ap.add (C := (1106026219532757517 / 1000000000000000000 : Rat)) (g := (229328139 / 1250000000000000000000000 : Rat)) h1 (Ap.mul (C := (165665968019933619 / 1562500000000000000 : Rat)) (g := (1516723343 / 25000000000000000000000000 : Rat)) hz (horO hz) (by decide +kernel) (by decide +kernel) (by decide +kernel)) (by decide +kernel) (by decide +kernel) (by decide +kernel)).eq (by unfold serR; rw [one_val])

theorem serE {Zf : Option Nat} {z : Rat} (hz : Ap Zf z (10272620673 / 50000000000000000000000000 : Rat) (6168502751 / 10000000000 : Rat)) : Ap (Tr.ser Tr.evenC Zf) (serR Tr.evenC z) (3364242811 / 10000000000000000000000000 : Rat) (264921817853931061 / 200000000000000000 : Rat) := by
  have h1 := Ap.const (w := 4607182418800017408) (A := 1) (by decide +kernel) (by decide +kernel) (by decide +kernel)
  exact (Ap.add (C := (264921817853931061 / 200000000000000000 : Rat)) (g := (3364242811 / 10000000000000000000000000 : Rat)) h1 (Ap.mul (C := (32460908926965530491 / 100000000000000000000 : Rat)) (g := (9468156507 / 50000000000000000000000000 : Rat)) hz (horE hz) (by decide +kernel) (by decide +kernel) (by decide +kernel)) (by decide +kernel) (by decide +kernel) (by decide +kernel)).eq (by unfold serR; rw [one_val])

theorem rst_in (a : Int) : -162000000000 ≤ Tr.rst a ∧ Tr.rst a ≤ 162000000000 := by unfold Tr.rst Tr.qrt Tr.nrm; omega
/-- A whole number as a float. -/
theorem ofI_val {n : Int} (h : n.natAbs < 4503599627370496) : ∃ w, Tr.ofI n = some w ∧ Fn w ∧ V w = (n : Rat) := by
  have key : Fn (floatOfInt .f64 n) ∧ V (floatOfInt .f64 n) = (n : Rat) := by
    show Fn (double.nearest (decide (n < 0)) n.natAbs 0) ∧ V (double.nearest (decide (n < 0)) n.natAbs 0) = (n : Rat)
    rcases Nat.eq_zero_or_pos n.natAbs with h0 | h0
    · have hn : n = 0 := by omega
      subst hn
      obtain ⟨r1, _, _, r4⟩ := nearest_err (decide ((0 : Int) < 0)) (Int.natAbs 0) 0 (by
        have := big_900
        simp
        exact Rat.le_of_lt (two_pos _))
      exact ⟨r1, by rw [r4 rfl]; rfl⟩
    · have hl : n.natAbs.log2 < 52 := (Nat.log2_lt (by omega)).2 (by simpa using h)
      obtain ⟨last, kept, hlast, hf, hv, _, _, h3⟩ := nearest_main (decide (n < 0)) n.natAbs 0 h0 (by omega)
      refine ⟨hf, ?_⟩
      rw [hv, Rat.mul_assoc, h3 (by omega), two_zero, Rat.mul_one]
      exact total_val _ n (fun _ => rfl)
  refine ⟨_, ?_, key.1, key.2⟩
  unfold Tr.ofI
  exact fn_not_nan key.1
theorem rat_int {a b : Int} (h : a ≤ b) : (a : Rat) ≤ (b : Rat) := by exact_mod_cast h
theorem ofI_ap {n : Int} (h1 : -162000000000 ≤ n) (h2 : n ≤ 162000000000) : Ap (Tr.ofI n) (n : Rat) 0 162000000000 := by
  obtain ⟨w, e1, e2, e3⟩ := ofI_val (n := n) (by omega)
  rw [e1, ← e3]
  have q1 := rat_int h1
  have q2 := rat_int h2
  refine Ap.word e2 ?_ ?_
  · rw [e3]; exact q2
  · rw [e3]; exact q1
theorem xr_ap (a : Int) : Ap (Tr.xr a) ((Tr.rst a : Rat) * rad) (4359835623 / 50000000000000000000000000 : Rat) (392699081699 / 500000000000 : Rat) :=
  Ap.mul (ofI_ap (rst_in a).1 (rst_in a).2) (Ap.const (w := 4437543736006956352) (A := rad) (by decide +kernel) Rat.le_refl (by decide +kernel)) (by decide +kernel) (by decide +kernel) (by decide +kernel)
theorem zr_ap (a : Int) : Ap (Fl.fmul (Tr.xr a) (Tr.xr a)) ((Tr.rst a : Rat) * rad * ((Tr.rst a : Rat) * rad)) (10272620673 / 50000000000000000000000000 : Rat) (6168502751 / 10000000000 : Rat) := Ap.mul (xr_ap a) (xr_ap a) (by decide +kernel) (by decide +kernel) (by decide +kernel)
def snR (x : Rat) : Rat := x * serR Tr.oddC (x * x)
def csR (x : Rat) : Rat := serR Tr.evenC (x * x)
theorem sn_ap (a : Int) : Ap (Tr.sn (Tr.xr a) (Fl.fmul (Tr.xr a) (Tr.xr a))) (snR ((Tr.rst a : Rat) * rad)) (16848740991 / 50000000000000000000000000 : Rat) (868670961491061 / 1000000000000000 : Rat) := Ap.mul (xr_ap a) (serO (zr_ap a)) (by decide +kernel) (by decide +kernel) (by decide +kernel)
theorem cs_ap (a : Int) : Ap (Tr.cs (Fl.fmul (Tr.xr a) (Tr.xr a))) (csR ((Tr.rst a : Rat) * rad)) (3364242811 / 10000000000000000000000000 : Rat) (264921817853931061 / 200000000000000000 : Rat) := serE (zr_ap a)

end Go.Fe
