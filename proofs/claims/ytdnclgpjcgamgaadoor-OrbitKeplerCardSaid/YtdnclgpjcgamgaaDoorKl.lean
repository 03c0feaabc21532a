/- OrbitKepler: the law's walk. -/
import Derived.Test.YtdnclgpjcgamgaaDoorKe
set_option linter.unusedSimpArgs false
set_option linter.unusedVariables false
namespace Go.Proofs.YtdnclgpjcgamgaaDoor
open Go.RowKit Go.Fl Go.Grow Go.Tr

theorem errV_or (a : Nat → Addr) (k : Nat) : errV a k = .nilIface ∨ ∃ u, errV a k = .iface 106 u := by
  unfold errV; split
  · exact .inl rfl
  · exact .inr ⟨_, rfl⟩
set_option maxRecDepth 100000 in
set_option maxHeartbeats 4000000 in
/-- An error, and its number. -/
theorem coded_same (a : Nat → Addr) (k : Nat) (hk : k ≤ 10) (w : World) (hs : Sen a allK w) (hh : Hand w) (hne : ∀ j ∈ allK, ∀ k ∈ allK, j ≠ k → a j ≠ a k) :
    Calls Tryd.prog 10 #[errV a k, .int .i64 k] w fun e w' => e = .returned (.bool true) ∧ Below w.heap.size w w' := by
  have C := Lib.hid (code_any a k hk w hs hh hne)
  clear hs hh hne
  rcases errV_or a k with hE | ⟨u, hE⟩
  all_goals
    rw [hE] at C ⊢
    clear hE
    go_enter Tryd.func10, Tryd.ntmps10
    go_wp2_with (go_at_call 24; (with_reducible refine C.out.mono ?_); rintro e w1 ⟨rfl, hB⟩; have HB := Lib.hid hB; clear hB)
    go_ret
    exact ⟨by simp, HB.out⟩

theorem kep5 : kep 5 (fl 0) = 5 := by
  unfold kep
  rw [bis_eq _ 41 0 1296000000000 (by decide)]
  decide +kernel
theorem ecc0 : Ecc 0 := ⟨.inl (by decide +kernel), by decide +kernel⟩
set_option maxRecDepth 100000 in
set_option maxHeartbeats 4000000 in
theorem orbitKepler_walk (a : Nat → Addr) (m : Int) (p : Nat) (w : World) (hsen : Sen a allK w) (hh : Hand w) (hne : ∀ j ∈ allK, ∀ k ∈ allK, j ≠ k → a j ≠ a k) :
    Calls Tryd.prog 4 #[.int .i64 m, .float .f64 p] w fun e w' => e = .returned (.bool true) ∧ Below w.heap.size w w' := by
  have HS := Lib.hid hsen
  have HH := Lib.hid hh
  have HN := Lib.hid hne
  clear hsen hh hne
  have g : Hid (Below w.heap.size w w) := Lib.hid (Below.refl _ _)
  have CD := Lib.hid (fun (k : Nat) (hk : k ≤ 10) (x : World) (hx : Below w.heap.size w x) => coded_same a k hk x (HS.out.below hx) (HH.out.below hx) HN.out)
  have K5 := Lib.hid (fun x => kepler_ok 5 0 ecc0 x)
  rw [kep5] at K5
  by_cases hb : Ecc p
  · have KA := Lib.hid (fun x => kepler_ok m p hb x)
    have KB := Lib.hid (fun x => keplerOf_ok m p hb x)
    clear hb
    generalize kep m (fl p) = r at *
    have s0 := trivial
    go_enter Tryd.func4, Tryd.ntmps4
    go_wp2_with (first
      | (clear s0; go_at_call 6; (with_reducible refine (K5.out _).mono ?_); rintro e w1 ⟨rfl, hB⟩; replace g : Hid (Below w.heap.size w w1) := Lib.hid (grow_trans g.out hB); clear hB; have s1 := trivial)
      | (clear s1; go_at_call 6; (with_reducible refine (KA.out _).mono ?_); rintro e w2 ⟨rfl, hB⟩; replace g : Hid (Below w.heap.size w w2) := Lib.hid (grow_trans g.out hB); clear hB)
      | (go_at_call 9; (with_reducible refine (KB.out _).mono ?_); rintro e w3 ⟨rfl, hB⟩; replace g : Hid (Below w.heap.size w w3) := Lib.hid (grow_trans g.out hB); clear hB)
      | (go_at_call 10; rw [← errV_zero a]; refine (CD.out 0 (by decide) _ g.out).mono ?_; rintro e w4 ⟨rfl, hB⟩; replace g : Hid (Below w.heap.size w w4) := Lib.hid (grow_trans g.out hB); clear hB))
    go_ret
    exact ⟨rfl, g.out⟩
  · have KA := Lib.hid (fun x hx => kepler_bad a m p hb x hx)
    have KB := Lib.hid (fun x => keplerOf_bad m p hb x)
    clear hb
    rw [errV_pos a (k := 5) (by decide)] at KA
    have s0 := trivial
    go_enter Tryd.func4, Tryd.ntmps4
    go_wp2_with (first
      | (clear s0; go_at_call 6; (with_reducible refine (K5.out _).mono ?_); rintro e w1 ⟨rfl, hB⟩; replace g : Hid (Below w.heap.size w w1) := Lib.hid (grow_trans g.out hB); clear hB; have s1 := trivial)
      | (clear s1; go_at_call 6; (with_reducible refine (KA.out _ ?_).mono ?_); exact (HS.out.below g.out).sub (by decide); rintro e w2 ⟨rfl, hB⟩; replace g : Hid (Below w.heap.size w w2) := Lib.hid (grow_trans g.out hB); clear hB)
      | (go_at_call 9; (with_reducible refine (KB.out _).mono ?_); rintro e w3 ⟨rfl, hB⟩; replace g : Hid (Below w.heap.size w w3) := Lib.hid (grow_trans g.out hB); clear hB)
      | (go_at_call 10; rw [← errV_pos a (k := 5) (by decide)]; refine (CD.out 5 (by decide) _ g.out).mono ?_; rintro e w4 ⟨rfl, hB⟩; replace g : Hid (Below w.heap.size w w4) := Lib.hid (grow_trans g.out hB); clear hB))
    go_ret
    exact ⟨rfl, g.out⟩
end Go.Proofs.YtdnclgpjcgamgaaDoor
