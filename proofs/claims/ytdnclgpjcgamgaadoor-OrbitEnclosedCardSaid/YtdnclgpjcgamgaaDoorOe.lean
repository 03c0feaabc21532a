/- OrbitEnclosed: the law's walk. -/
import Derived.Test.YtdnclgpjcgamgaaDoorKe
import Derived.Test.YtdnclgpjcgamgaaDoorFe9
set_option linter.unusedSimpArgs false
set_option linter.unusedVariables false
namespace Go.Proofs.YtdnclgpjcgamgaaDoor
open Go.RowKit Go.Fl Go.Grow Go.Tr

theorem f_of {b3 b5 b6 b7 b8 b9 p : Nat} {m k : Int} (hp : Fe.Fn p) (h0 : 0 ≤ Fe.V p) (h1 : Fe.V p ≤ 1) (hk : k = kep m (fl p)) (H5 : Hid (fl b5 = fop .mul (fl (floatOfInt FloatKind.f64 k)) (fl 4437543736006956352))) (G3 : Hid (fl b3 = sinA k)) (H6 : Hid (fl b6 = fop .mul (fl p) (fl b3)))
    (H7 : Hid (fl b7 = fop .sub (fl b5) (fl b6))) (H8 : Hid (fl b8 = fop .mul (fl (floatOfInt FloatKind.f64 (nrm m))) (fl 4437543736006956352))) (H9 : Hid (fl b9 = fop .sub (fl b7) (fl b8))) :
    FloatKind.f64.format.order b9 4397347889687374747 = some .lt ∧ FloatKind.f64.format.order b9 13665425562189299083 = some .gt := by
  obtain ⟨w, hw, fw, _⟩ := Fe.mean_ap m
  have e8 : fl b8 = some w := H8.out.trans hw
  have ep := Fe.fn_not_nan hp
  obtain ⟨f, hf, ff, q1, q2⟩ := Fe.kep_enclosed (m := m) hp h0 h1 hw
  have e9 : fl b9 = some f := by
    rw [H9.out, H7.out, H5.out, H6.out, G3.out, e8, ep]
    have hk2 : k = Tr.bis (fun k => Fl.fle (Fe.kfE (some p) (some w) k) (some 0)) 0 1296000000000 := by
      rw [hk]
      unfold kep
      have em : kmean m = some w := hw
      rw [em, ep]
      rfl
    rw [← hk2] at hf
    exact hf
  have e : b9 = f := fl_some e9
  rw [e]
  exact Fe.enclosed_tests ff q1 q2
theorem low_of {b1 b2 : Nat} (H1 : Hid (fl b1 = fop .mul (fl 13835058055282163712) (fl 4437543736006956352))) (H2 : Hid (fl b2 = fop .sub (fl b1) (fl 4397347889687374747))) : b2 = 13665425562189299083 := by
  have e1 : fl b1 = some 13665419372489102656 := H1.out.trans (by decide +kernel)
  have e2 := H2.out
  rw [e1] at e2
  have e3 : fl b2 = some 13665425562189299083 := e2.trans (by decide +kernel)
  exact fl_some e3
set_option maxRecDepth 100000 in
set_option maxHeartbeats 8000000 in
theorem enclosed_walk (a : Nat → Addr) (m : Int) (p : Nat) (w : World) (hsen : Sen a [5] w) :
    Calls Tryd.prog 3 #[.int .i64 m, .float .f64 p] w fun e w' => e = .returned (.bool true) ∧ Below w.heap.size w w' := by
  have g : Hid (Below w.heap.size w w) := Lib.hid (Below.refl _ _)
  by_cases hb : Ecc p
  · have KA := Lib.hid (fun x => kepler_ok m p hb x)
    obtain ⟨fp, v0, v1⟩ := Fe.ecc_val hb.1 hb.2
    obtain ⟨x, hx⟩ : ∃ x, kep m (fl p) = x := ⟨_, rfl⟩
    have FO := Lib.hid (fun (b3 b5 b6 b7 b8 b9 : Nat) H5 G3 H6 H7 H8 H9 => f_of (b3 := b3) (b5 := b5) (b6 := b6) (b7 := b7) (b8 := b8) (b9 := b9) (k := x) (m := m) fp v0 v1 hx.symm H5 G3 H6 H7 H8 H9)
    rw [hx] at KA
    have NW := Lib.hid (fun X => normOf_walk m X)
    have A1 : ∀ X, (binOp .mul 22 (.float .f64 13835058055282163712) (.float .f64 4437543736006956352)).run Tryd.prog X = .ok (.float .f64 13665419372489102656) X := fun X => by
      rw [show binOp .mul 22 (.float .f64 13835058055282163712) (.float .f64 4437543736006956352) = Op.floatArith .mul .f64 13835058055282163712 4437543736006956352 from rfl]
      exact run_arith_some (bop := .mul) (x := 13835058055282163712) (y := 4437543736006956352) (c := 13665419372489102656) rfl (by decide +kernel) X
    have A2 : ∀ X, (binOp .sub 22 (.float .f64 13665419372489102656) (.float .f64 4397347889687374747)).run Tryd.prog X = .ok (.float .f64 13665425562189299083) X := fun X => by
      rw [show binOp .sub 22 (.float .f64 13665419372489102656) (.float .f64 4397347889687374747) = Op.floatArith .sub .f64 13665419372489102656 4397347889687374747 from rfl]
      exact run_arith_some (bop := .sub) (x := 13665419372489102656) (y := 4397347889687374747) (c := 13665425562189299083) rfl (by decide +kernel) X
    clear hsen hx fp v0 v1
    obtain ⟨h0 | h0, h1⟩ := hb
    all_goals
      have t0 := trivial
      go_enter Tryd.func3, Tryd.ntmps3
      go_wp2_with (first
        | (go_at_call 6; (with_reducible refine (KA.out _).mono ?_); rintro e w1 ⟨rfl, hB⟩; replace g : Hid (Below w.heap.size w w1) := Lib.hid (grow_trans g.out hB); clear hB)
        | (go_at_call 7; refine (sinCos_walk _ _).mono ?_; rintro e w3 ⟨v, rfl, ⟨b3, b4, rfl, g3, g4⟩, hB⟩; have G3 := Lib.hid g3; replace g : Hid (Below w.heap.size w w3) := Lib.hid (grow_trans g.out hB); clear g3 g4 hB)
        | (go_at_call 8; (with_reducible refine (NW.out _).mono ?_); rintro e w4 ⟨rfl, rfl⟩)
        | (clear t0; refine wpList_arith rfl rfl (by rfl) rfl rfl ?_; intro b5 n0 H5; have t1 := trivial)
        | (clear t1; refine wpList_arith rfl rfl (by rfl) rfl rfl ?_; intro b6 n1 H6; have t2 := trivial)
        | (clear t2; refine wpList_arith rfl rfl (by rfl) rfl rfl ?_; intro b7 n2 H7; have t3 := trivial)
        | (clear t3; refine wpList_arith rfl rfl (by rfl) rfl rfl ?_; intro b8 n3 H8; have t4 := trivial)
        | (clear t4; refine wpList_arith rfl rfl (by rfl) rfl rfl ?_; intro b9 n4 H9; obtain ⟨o1, o2⟩ := FO.out b3 b5 b6 b7 b8 b9 H5 G3 H6 H7 H8 H9))
      go_ret
      refine ⟨by first | rfl | simp, ?_⟩
      (repeat (with_reducible first | exact g.out | refine Grow.grow_alloc ?_ _ | refine Grow.grow_drewN ?_ _ | refine Grow.grow_via (by assumption) ?_))
  · have HS := Lib.hid hsen
    have KA := Lib.hid (fun X => kepler_bad a m p hb X)
    clear hsen
    rw [errV_pos a (k := 5) (by decide)] at KA
    rcases (ecc_cases p).resolve_left hb with ⟨_, (h0 | h0) | ⟨h0 | h0, h1 | h1 | h1⟩⟩
    all_goals
      go_enter Tryd.func3, Tryd.ntmps3
      go_wp2_with (go_at_call 6; (with_reducible refine (KA.out _ HS.out).mono ?_); rintro e w1 ⟨rfl, hB⟩; replace g : Hid (Below w.heap.size w w1) := Lib.hid (grow_trans g.out hB); clear hB)
      go_ret
      exact ⟨by first | rfl | simp, g.out⟩
end Go.Proofs.YtdnclgpjcgamgaaDoor
