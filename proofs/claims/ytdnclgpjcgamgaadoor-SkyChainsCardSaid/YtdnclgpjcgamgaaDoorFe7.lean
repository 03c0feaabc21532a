/- Sine and cosine of whole angles as floats. Nothing of a program stands here. -/
import Derived.Test.YtdnclgpjcgamgaaDoorFe6
set_option linter.unusedSimpArgs false
set_option linter.unusedVariables false
namespace Go.Fe
open Ieee
/-! Sine and cosine of a whole angle, as floats, near the polynomials. -/
def quadR (q : Int) (a b c d : Rat) : Rat := if q % 4 = 0 then a else if q % 4 = 1 then b else if q % 4 = 2 then c else d
def sinR (k : Int) : Rat := quadR (Tr.qrt k) (snR ((Tr.rst k : Rat) * rad)) (csR ((Tr.rst k : Rat) * rad)) (-snR ((Tr.rst k : Rat) * rad)) (-csR ((Tr.rst k : Rat) * rad))
def cosR (k : Int) : Rat := quadR (Tr.qrt k) (csR ((Tr.rst k : Rat) * rad)) (-snR ((Tr.rst k : Rat) * rad)) (-csR ((Tr.rst k : Rat) * rad)) (snR ((Tr.rst k : Rat) * rad))
theorem Ap.quad {q : Int} {A B C D : Option Nat} {a b c d e S : Rat} (h1 : Ap A a e S) (h2 : Ap B b e S) (h3 : Ap C c e S) (h4 : Ap D d e S) : Ap (Tr.quad q A B C D) (quadR q a b c d) e S := by
  unfold Tr.quad quadR
  split
  · exact h1
  · split
    · exact h2
    · split
      · exact h3
      · exact h4
theorem sn_ap2 (k : Int) : Ap (Tr.sn (Tr.xr k) (Fl.fmul (Tr.xr k) (Tr.xr k))) (snR ((Tr.rst k : Rat) * rad)) (34 / 100000000000000000) (4 / 3) := (sn_ap k).weaken (by decide +kernel) (by decide +kernel)
theorem cs_ap2 (k : Int) : Ap (Tr.cs (Fl.fmul (Tr.xr k) (Tr.xr k))) (csR ((Tr.rst k : Rat) * rad)) (34 / 100000000000000000) (4 / 3) := (cs_ap k).weaken (by decide +kernel) (by decide +kernel)
theorem sin_ap (k : Int) : Ap (Tr.sinA k) (sinR k) (34 / 100000000000000000) (4 / 3) := Ap.quad (sn_ap2 k) (cs_ap2 k) (sn_ap2 k).neg (cs_ap2 k).neg
theorem cos_ap (k : Int) : Ap (Tr.cosA k) (cosR k) (34 / 100000000000000000) (4 / 3) := Ap.quad (cs_ap2 k) (sn_ap2 k).neg (cs_ap2 k).neg (sn_ap2 k)
def gapB (X Y : Option Nat) (d : Rat) : Bool := match X, Y with
  | some u, some v => decide (V v - V u ≤ d) && decide (V u - V v ≤ d)
  | _, _ => false
theorem gap_of {X Y : Option Nat} {d : Rat} {u v : Nat} (h : gapB X Y d = true) (hu : X = some u) (hv : Y = some v) : Nr (V v) (V u) d := by
  subst hu hv
  unfold gapB at h
  simp at h
  exact ⟨h.1, h.2⟩
/-- From one whole angle to the next the written sine goes by no more than a little over the angle. -/
theorem sin_step {k : Int} (h0 : 0 ≤ k) (h1 : k < 1296000000000) {u v : Nat} (hu : Tr.sinA k = some u) (hv : Tr.sinA (k + 1) = some v) : Nr (V v) (V u) (rad * (100001 / 100000) + 68 / 100000000000000000) := by
  by_cases b1 : k = 161999999999
  · subst b1; exact gap_of (by decide +kernel) hu hv
  by_cases b2 : k = 485999999999
  · subst b2; exact gap_of (by decide +kernel) hu hv
  by_cases b3 : k = 809999999999
  · subst b3; exact gap_of (by decide +kernel) hu hv
  by_cases b4 : k = 1133999999999
  · subst b4; exact gap_of (by decide +kernel) hu hv
  by_cases b5 : k = 1295999999999
  · subst b5; exact gap_of (by decide +kernel) hu hv
  have n1 : Tr.nrm k = k := by unfold Tr.nrm; omega
  have n2 : Tr.nrm (k + 1) = k + 1 := by unfold Tr.nrm; omega
  have q1 : Tr.qrt (k + 1) = Tr.qrt k := by unfold Tr.qrt; rw [n1, n2]; omega
  have r1 : Tr.rst (k + 1) = Tr.rst k + 1 := by unfold Tr.rst; rw [n1, n2, q1]; omega
  obtain ⟨s1, s2⟩ := rst_in k
  obtain ⟨s3, s4⟩ := rst_in (k + 1)
  obtain ⟨_, ⟨a1, a2⟩⟩ := (sin_ap k).val hu
  obtain ⟨_, ⟨c1, c2⟩⟩ := (sin_ap (k + 1)).val hv
  obtain ⟨⟨p1, p2⟩, ⟨p3, p4⟩⟩ := poly_step (a := Tr.rst k) s1 (by omega)
  have key : Nr (sinR (k + 1)) (sinR k) (rad * (100001 / 100000)) := by
    unfold sinR quadR
    rw [q1, r1]
    split
    · exact ⟨p1, p2⟩
    · split
      · exact ⟨p3, p4⟩
      · split
        · exact ⟨by grind, by grind⟩
        · exact ⟨by grind, by grind⟩
  obtain ⟨k1, k2⟩ := key
  exact ⟨by grind, by grind⟩

end Go.Fe
