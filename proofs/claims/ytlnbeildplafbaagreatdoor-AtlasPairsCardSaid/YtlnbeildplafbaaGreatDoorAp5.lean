/- Pairs of stars: the document's angle; whether a cone is one. -/
import Derived.Test.YtlnbeildplafbaaGreatDoorAp4
set_option linter.unusedSimpArgs false
set_option linter.unusedVariables false
namespace Go.Proofs.YtlnbeildplafbaaGreatDoor
open Go.RowKit Go.Grow Go.Bg Go.Atl

theorem cos_bounds {p num den : Int} {dd ee : Nat} (hp : -3298534883328 ≤ p ∧ p ≤ 3298534883328) (hn : -1048576 ≤ num ∧ num ≤ 1048576) (hd : -1048576 ≤ den ∧ den ≤ 1048576) (h1 : dd ≤ 3298534883328) (h2 : ee ≤ 3298534883328) :
    p.natAbs * p.natAbs < 1000000 ^ 100 ∧ den.natAbs * den.natAbs < 1000000 ^ 100 ∧ p.natAbs * p.natAbs * (den.natAbs * den.natAbs) < 1000000 ^ 100 ∧ num.natAbs * num.natAbs < 1000000 ^ 100 ∧ dd * ee < 1000000 ^ 100 ∧ num.natAbs * num.natAbs * (dd * ee) < 1000000 ^ 100 := by
  have a1 : p.natAbs * p.natAbs ≤ 3298534883328 * 3298534883328 := Nat.mul_le_mul (by omega) (by omega)
  have a2 : den.natAbs * den.natAbs ≤ 1048576 * 1048576 := Nat.mul_le_mul (by omega) (by omega)
  have a3 : p.natAbs * p.natAbs * (den.natAbs * den.natAbs) ≤ 3298534883328 * 3298534883328 * (1048576 * 1048576) := Nat.mul_le_mul a1 a2
  have a4 : num.natAbs * num.natAbs ≤ 1048576 * 1048576 := Nat.mul_le_mul (by omega) (by omega)
  have a5 : dd * ee ≤ 3298534883328 * 3298534883328 := Nat.mul_le_mul h1 h2
  have a6 : num.natAbs * num.natAbs * (dd * ee) ≤ 1048576 * 1048576 * (3298534883328 * 3298534883328) := Nat.mul_le_mul a4 a5
  refine ⟨by omega, by omega, by omega, by omega, by omega, by omega⟩
def cosC (d e : Dr) (num den : Int) : Int := cmpN ((dotZ d e).natAbs * (dotZ d e).natAbs * (den.natAbs * den.natAbs)) (num.natAbs * num.natAbs * ((dotZ d d).natAbs * (dotZ e e).natAbs))
/-- The document's answer: is the cosine at least num/den? -/
def cosR (d e : Dr) (num den : Int) : Bool := if 0 ≤ dotZ d e ∧ 0 ≤ num then decide (0 ≤ cosC d e num den) else if dotZ d e < 0 ∧ num < 0 then decide (cosC d e num den ≤ 0) else decide (0 ≤ dotZ d e)
set_option maxRecDepth 100000 in
set_option maxHeartbeats 16000000 in
theorem cosine_pp (d e : Dr) (num den : Int) (hd : Sm d) (he : Sm e) (hnum : -1048576 ≤ num ∧ num ≤ 1048576) (hden : -1048576 ≤ den ∧ den ≤ 1048576) (hp : 0 ≤ dotZ d e) (hn : 0 ≤ num) (w : World) :
    Calls Tryz.prog 20 #[drV d, drV e, .int .i64 num, .int .i64 den] w fun e' w' => e' = .returned (.bool (decide (0 ≤ cosC d e num den))) ∧ Below w.heap.size w w' := by
  have DE := Lib.hid (fun X => rdot_walk d e hd he X)
  have DD := Lib.hid (fun X => selfdot_walk d hd X)
  have EE := Lib.hid (fun X => selfdot_walk e he X)
  have i1 := dot_small hd he
  have i3 := dot_small hd hd
  have i4 := dot_small he he
  obtain ⟨z1, z2, z3, z4, z5, z6⟩ := cos_bounds (dd := (dotZ d d).natAbs) (ee := (dotZ e e).natAbs) i1 hnum hden (by omega) (by omega)
  have SP := Lib.hid (fun X => square_walk (dotZ d e) (by omega) X)
  have SD := Lib.hid (fun X => square_walk den (by omega) X)
  have SN := Lib.hid (fun X => square_walk num (by omega) X)
  have OD := Lib.hid (fun X => bigOf_walk (dotZ d d).natAbs (by omega) X)
  have OE := Lib.hid (fun X => bigOf_walk (dotZ e e).natAbs (by omega) X)
  have ML := Lib.hid (fun r1 r2 c1 c2 X h1 h2 => dgMul_walk r1 r2 ((dotZ d e).natAbs * (dotZ d e).natAbs) (den.natAbs * den.natAbs) c1 c2 X z1 z2 h1 h2)
  have MM := Lib.hid (fun r1 r2 c1 c2 X h1 h2 => dgMul_walk r1 r2 (dotZ d d).natAbs (dotZ e e).natAbs c1 c2 X (by omega) (by omega) h1 h2)
  have MR := Lib.hid (fun r1 r2 c1 c2 X h1 h2 => dgMul_walk r1 r2 (num.natAbs * num.natAbs) ((dotZ d d).natAbs * (dotZ e e).natAbs) c1 c2 X z4 z5 h1 h2)
  have CM := Lib.hid (fun r1 r2 c1 c2 X h1 h2 => dgCmp_walk r1 r2 ((dotZ d e).natAbs * (dotZ d e).natAbs * (den.natAbs * den.natAbs)) (num.natAbs * num.natAbs * ((dotZ d d).natAbs * (dotZ e e).natAbs)) c1 c2 X z3 z6 h1 h2)
  try unfold cosC
  clear i1 i3 i4 z1 z2 z3 z4 z5 z6 hd he hnum hden
  generalize cmpN ((dotZ d e).natAbs * (dotZ d e).natAbs * (den.natAbs * den.natAbs)) (num.natAbs * num.natAbs * ((dotZ d d).natAbs * (dotZ e e).natAbs)) = c at *
  generalize (dotZ d e).natAbs * (dotZ d e).natAbs * (den.natAbs * den.natAbs) = lh at *
  generalize num.natAbs * num.natAbs * ((dotZ d d).natAbs * (dotZ e e).natAbs) = rh at *
  generalize (dotZ d d).natAbs * (dotZ e e).natAbs = de at *
  generalize (dotZ d e).natAbs * (dotZ d e).natAbs = pp at *
  generalize num.natAbs * num.natAbs = nn at *
  generalize den.natAbs * den.natAbs = mm at *
  generalize dotZ d e = p at *
  generalize (dotZ d d).natAbs = dd at *
  generalize (dotZ e e).natAbs = ee at *
  have u1 : decide (0 ≤ p) = true := decide_eq_true hp
  have u2 : decide (p < 0) = false := decide_eq_false (by omega)
  have u3 : decide (0 ≤ num) = true := decide_eq_true hn
  have u4 : decide (num < 0) = false := decide_eq_false (by omega)
  unfold drV at *
  go_enter Tryz.func20, Tryz.ntmps20
  go_upto_region 1 with (fail)
  refine seal_wp fun W hW => ?_
  have K4 := Lib.hid (show Known W w.heap.size #[.int .i64 d.x, .int .i64 d.y, .int .i64 d.z] by rw [hW.out]; exact (Known.new w _ _).alloc _)
  have K5 := Lib.hid (show Known W (w.heap.size + 1) #[.int .i64 e.x, .int .i64 e.y, .int .i64 e.z] by rw [hW.out]; exact Known.new' (by simp))
  have BW := Lib.hid (show Below w.heap.size w W by rw [hW.out]; exact grow_alloc (grow_alloc (grow_refl w) _) _)
  clear hW
  generalize w.heap.size + 1 = b5 at *
  generalize hb4 : w.heap.size = b4 at K4 ⊢
  have c40 := K4.out.cell 0
  have c41 := K4.out.cell 1
  have c42 := K4.out.cell 2
  have l4 := K4.out.lt
  have c50 := K5.out.cell 0
  have c51 := K5.out.cell 1
  have c52 := K5.out.cell 2
  have l5 := K5.out.lt
  simp only [List.getElem?_toArray, List.getElem?_cons_zero, List.getElem?_cons_succ] at c40 c41 c42 c50 c51 c52
  have SS := Lib.hid (fun X (hX : Below W.heap.size W X) => (show X.cell? ⟨b4, 0, none⟩ = some (.int .i64 d.x) ∧ X.cell? ⟨b4, 1, none⟩ = some (.int .i64 d.y) ∧ X.cell? ⟨b4, 2, none⟩ = some (.int .i64 d.z) ∧ X.cell? ⟨b5, 0, none⟩ = some (.int .i64 e.x) ∧ X.cell? ⟨b5, 1, none⟩ = some (.int .i64 e.y) ∧ X.cell? ⟨b5, 2, none⟩ = some (.int .i64 e.z) ∧ b4 < X.heap.size ∧ b5 < X.heap.size from ⟨(K4.out.below hX).cell 0, (K4.out.below hX).cell 1, (K4.out.below hX).cell 2, (K5.out.below hX).cell 0, (K5.out.below hX).cell 1, (K5.out.below hX).cell 2, (K4.out.below hX).lt, (K5.out.below hX).lt⟩))
  go_upto_region 3 with (first
    | (go_at_call 48; (with_reducible refine (DE.out _).mono ?_); rintro e1 w1 ⟨rfl, hb⟩; have B1 := Lib.hid (grow_trans (by (repeat (with_reducible first | exact grow_refl _ | exact B12.out | exact B11.out | exact B10.out | exact B9.out | exact B8.out | exact B7.out | exact B6.out | exact B5.out | exact B4.out | exact B3.out | exact B2.out | exact B1.out | refine Grow.grow_drewN ?_ _ | refine Grow.grow_drew ?_ | refine Grow.grow_alloc ?_ _))) hb : Below W.heap.size W w1); clear hb)
    | (go_at_call 50; (with_reducible refine (SP.out _).mono ?_); rintro e2 w2 ⟨r2, k2, rfl, h2, hb⟩; have B2 := Lib.hid (grow_trans (by (repeat (with_reducible first | exact grow_refl _ | exact B12.out | exact B11.out | exact B10.out | exact B9.out | exact B8.out | exact B7.out | exact B6.out | exact B5.out | exact B4.out | exact B3.out | exact B2.out | exact B1.out | refine Grow.grow_drewN ?_ _ | refine Grow.grow_drew ?_ | refine Grow.grow_alloc ?_ _))) hb : Below W.heap.size W w2); have D2 := Lib.hid h2; clear h2 hb)
    | (go_at_call 50; (with_reducible refine (SD.out _).mono ?_); rintro e3 w3 ⟨r3, k3, rfl, h3, hb⟩; have B3 := Lib.hid (grow_trans (by (repeat (with_reducible first | exact grow_refl _ | exact B12.out | exact B11.out | exact B10.out | exact B9.out | exact B8.out | exact B7.out | exact B6.out | exact B5.out | exact B4.out | exact B3.out | exact B2.out | exact B1.out | refine Grow.grow_drewN ?_ _ | refine Grow.grow_drew ?_ | refine Grow.grow_alloc ?_ _))) hb : Below W.heap.size W w3); have D3 := Lib.hid (D2.out.below hb); have F3 := Lib.hid h3; clear h3 hb)
    | (go_at_call 49; (with_reducible refine (ML.out _ _ _ _ _ D3.out F3.out).mono ?_); rintro e4 w4 ⟨r4, k4, rfl, h4, hb⟩; have B4 := Lib.hid (grow_trans (by (repeat (with_reducible first | exact grow_refl _ | exact B12.out | exact B11.out | exact B10.out | exact B9.out | exact B8.out | exact B7.out | exact B6.out | exact B5.out | exact B4.out | exact B3.out | exact B2.out | exact B1.out | refine Grow.grow_drewN ?_ _ | refine Grow.grow_drew ?_ | refine Grow.grow_alloc ?_ _))) hb : Below W.heap.size W w4); have D4 := Lib.hid h4; clear h4 hb))
  clear c40 c41 c42 c50 c51 c52 l4 l5
  obtain ⟨c40, c41, c42, c50, c51, c52, l4, l5⟩ := SS.out w4 B4.out
  go_region_held3 (fun X => X.cell? ⟨b4, 0, none⟩ = some (.int .i64 d.x) ∧ X.cell? ⟨b4, 1, none⟩ = some (.int .i64 d.y) ∧ X.cell? ⟨b4, 2, none⟩ = some (.int .i64 d.z) ∧ X.cell? ⟨b5, 0, none⟩ = some (.int .i64 e.x) ∧ X.cell? ⟨b5, 1, none⟩ = some (.int .i64 e.y) ∧ X.cell? ⟨b5, 2, none⟩ = some (.int .i64 e.z) ∧ b4 < X.heap.size ∧ b5 < X.heap.size) (exact SS.out _ (by (repeat (with_reducible first | exact grow_refl _ | exact B12.out | exact B11.out | exact B10.out | exact B9.out | exact B8.out | exact B7.out | exact B6.out | exact B5.out | exact B4.out | exact B3.out | exact B2.out | exact B1.out | refine Grow.grow_drewN ?_ _ | refine Grow.grow_drew ?_ | refine Grow.grow_alloc ?_ _))))
    (first
    | (go_at_call 50; (with_reducible refine (SN.out _).mono ?_); rintro e5 w5 ⟨r5, k5, rfl, h5, hb⟩; have B5 := Lib.hid (grow_trans (by (repeat (with_reducible first | exact grow_refl _ | exact B12.out | exact B11.out | exact B10.out | exact B9.out | exact B8.out | exact B7.out | exact B6.out | exact B5.out | exact B4.out | exact B3.out | exact B2.out | exact B1.out | refine Grow.grow_drewN ?_ _ | refine Grow.grow_drew ?_ | refine Grow.grow_alloc ?_ _))) hb : Below W.heap.size W w5); have E5 := Lib.hid (D4.out.below (grow_trans (by (repeat (with_reducible first | exact grow_refl _ | refine Grow.grow_drewN ?_ _ | refine Grow.grow_drew ?_))) hb)); have D5 := Lib.hid h5; clear h5 hb)
    | (go_at_call 48; (with_reducible refine (DD.out _).mono ?_); rintro e6 w6 ⟨rfl, hb⟩; have B6 := Lib.hid (grow_trans (by (repeat (with_reducible first | exact grow_refl _ | exact B12.out | exact B11.out | exact B10.out | exact B9.out | exact B8.out | exact B7.out | exact B6.out | exact B5.out | exact B4.out | exact B3.out | exact B2.out | exact B1.out | refine Grow.grow_drewN ?_ _ | refine Grow.grow_drew ?_ | refine Grow.grow_alloc ?_ _))) hb : Below W.heap.size W w6); have E6 := Lib.hid (E5.out.below hb); have D6 := Lib.hid (D5.out.below hb); clear hb)
    | (go_at_call 51; (with_reducible refine (OD.out _).mono ?_); rintro e7 w7 ⟨r7, k7, rfl, h7, hb⟩; have B7 := Lib.hid (grow_trans (by (repeat (with_reducible first | exact grow_refl _ | exact B12.out | exact B11.out | exact B10.out | exact B9.out | exact B8.out | exact B7.out | exact B6.out | exact B5.out | exact B4.out | exact B3.out | exact B2.out | exact B1.out | refine Grow.grow_drewN ?_ _ | refine Grow.grow_drew ?_ | refine Grow.grow_alloc ?_ _))) hb : Below W.heap.size W w7); have E7 := Lib.hid (E6.out.below hb); have D7 := Lib.hid (D6.out.below hb); have F7 := Lib.hid h7; clear h7 hb)
    | (go_at_call 48; (with_reducible refine (EE.out _).mono ?_); rintro e8 w8 ⟨rfl, hb⟩; have B8 := Lib.hid (grow_trans (by (repeat (with_reducible first | exact grow_refl _ | exact B12.out | exact B11.out | exact B10.out | exact B9.out | exact B8.out | exact B7.out | exact B6.out | exact B5.out | exact B4.out | exact B3.out | exact B2.out | exact B1.out | refine Grow.grow_drewN ?_ _ | refine Grow.grow_drew ?_ | refine Grow.grow_alloc ?_ _))) hb : Below W.heap.size W w8); have E8 := Lib.hid (E7.out.below hb); have D8 := Lib.hid (D7.out.below hb); have F8 := Lib.hid (F7.out.below hb); clear hb)
    | (go_at_call 51; (with_reducible refine (OE.out _).mono ?_); rintro e9 w9 ⟨r9, k9, rfl, h9, hb⟩; have B9 := Lib.hid (grow_trans (by (repeat (with_reducible first | exact grow_refl _ | exact B12.out | exact B11.out | exact B10.out | exact B9.out | exact B8.out | exact B7.out | exact B6.out | exact B5.out | exact B4.out | exact B3.out | exact B2.out | exact B1.out | refine Grow.grow_drewN ?_ _ | refine Grow.grow_drew ?_ | refine Grow.grow_alloc ?_ _))) hb : Below W.heap.size W w9); have E9 := Lib.hid (E8.out.below hb); have D9 := Lib.hid (D8.out.below hb); have F9 := Lib.hid (F8.out.below hb); have G9 := Lib.hid h9; clear h9 hb)
    | (go_at_call 49; (with_reducible refine (MM.out _ _ _ _ _ F9.out G9.out).mono ?_); rintro e10 w10 ⟨r10, k10, rfl, h10, hb⟩; have B10 := Lib.hid (grow_trans (by (repeat (with_reducible first | exact grow_refl _ | exact B12.out | exact B11.out | exact B10.out | exact B9.out | exact B8.out | exact B7.out | exact B6.out | exact B5.out | exact B4.out | exact B3.out | exact B2.out | exact B1.out | refine Grow.grow_drewN ?_ _ | refine Grow.grow_drew ?_ | refine Grow.grow_alloc ?_ _))) hb : Below W.heap.size W w10); have E10 := Lib.hid (E9.out.below hb); have D10 := Lib.hid (D9.out.below hb); have F10 := Lib.hid h10; clear h10 hb)
    | (go_at_call 49; (with_reducible refine (MR.out _ _ _ _ _ D10.out F10.out).mono ?_); rintro e11 w11 ⟨r11, k11, rfl, h11, hb⟩; have B11 := Lib.hid (grow_trans (by (repeat (with_reducible first | exact grow_refl _ | exact B12.out | exact B11.out | exact B10.out | exact B9.out | exact B8.out | exact B7.out | exact B6.out | exact B5.out | exact B4.out | exact B3.out | exact B2.out | exact B1.out | refine Grow.grow_drewN ?_ _ | refine Grow.grow_drew ?_ | refine Grow.grow_alloc ?_ _))) hb : Below W.heap.size W w11); have E11 := Lib.hid (E10.out.below hb); have D11 := Lib.hid h11; clear h11 hb))
  go_wp2_with (go_at_call 52; (with_reducible refine (CM.out _ _ _ _ _ E11.out D11.out).mono ?_); rintro e12 w12 ⟨rfl, hb⟩; have B12 := Lib.hid (grow_trans B11.out hb); clear hb)
  go_ret
  exact ⟨rfl, grow_trans BW.out B12.out⟩
set_option maxRecDepth 100000 in
set_option maxHeartbeats 16000000 in
theorem cosine_pn (d e : Dr) (num den : Int) (hd : Sm d) (he : Sm e) (hnum : -1048576 ≤ num ∧ num ≤ 1048576) (hden : -1048576 ≤ den ∧ den ≤ 1048576) (hp : 0 ≤ dotZ d e) (hn : num < 0) (w : World) :
    Calls Tryz.prog 20 #[drV d, drV e, .int .i64 num, .int .i64 den] w fun e' w' => e' = .returned (.bool (true)) ∧ Below w.heap.size w w' := by
  have DE := Lib.hid (fun X => rdot_walk d e hd he X)
  have DD := Lib.hid (fun X => selfdot_walk d hd X)
  have EE := Lib.hid (fun X => selfdot_walk e he X)
  have i1 := dot_small hd he
  have i3 := dot_small hd hd
  have i4 := dot_small he he
  obtain ⟨z1, z2, z3, z4, z5, z6⟩ := cos_bounds (dd := (dotZ d d).natAbs) (ee := (dotZ e e).natAbs) i1 hnum hden (by omega) (by omega)
  have SP := Lib.hid (fun X => square_walk (dotZ d e) (by omega) X)
  have SD := Lib.hid (fun X => square_walk den (by omega) X)
  have SN := Lib.hid (fun X => square_walk num (by omega) X)
  have OD := Lib.hid (fun X => bigOf_walk (dotZ d d).natAbs (by omega) X)
  have OE := Lib.hid (fun X => bigOf_walk (dotZ e e).natAbs (by omega) X)
  have ML := Lib.hid (fun r1 r2 c1 c2 X h1 h2 => dgMul_walk r1 r2 ((dotZ d e).natAbs * (dotZ d e).natAbs) (den.natAbs * den.natAbs) c1 c2 X z1 z2 h1 h2)
  have MM := Lib.hid (fun r1 r2 c1 c2 X h1 h2 => dgMul_walk r1 r2 (dotZ d d).natAbs (dotZ e e).natAbs c1 c2 X (by omega) (by omega) h1 h2)
  have MR := Lib.hid (fun r1 r2 c1 c2 X h1 h2 => dgMul_walk r1 r2 (num.natAbs * num.natAbs) ((dotZ d d).natAbs * (dotZ e e).natAbs) c1 c2 X z4 z5 h1 h2)
  have CM := Lib.hid (fun r1 r2 c1 c2 X h1 h2 => dgCmp_walk r1 r2 ((dotZ d e).natAbs * (dotZ d e).natAbs * (den.natAbs * den.natAbs)) (num.natAbs * num.natAbs * ((dotZ d d).natAbs * (dotZ e e).natAbs)) c1 c2 X z3 z6 h1 h2)
  try unfold cosC
  clear i1 i3 i4 z1 z2 z3 z4 z5 z6 hd he hnum hden
  generalize cmpN ((dotZ d e).natAbs * (dotZ d e).natAbs * (den.natAbs * den.natAbs)) (num.natAbs * num.natAbs * ((dotZ d d).natAbs * (dotZ e e).natAbs)) = c at *
  generalize (dotZ d e).natAbs * (dotZ d e).natAbs * (den.natAbs * den.natAbs) = lh at *
  generalize num.natAbs * num.natAbs * ((dotZ d d).natAbs * (dotZ e e).natAbs) = rh at *
  generalize (dotZ d d).natAbs * (dotZ e e).natAbs = de at *
  generalize (dotZ d e).natAbs * (dotZ d e).natAbs = pp at *
  generalize num.natAbs * num.natAbs = nn at *
  generalize den.natAbs * den.natAbs = mm at *
  generalize dotZ d e = p at *
  generalize (dotZ d d).natAbs = dd at *
  generalize (dotZ e e).natAbs = ee at *
  have u1 : decide (0 ≤ p) = true := decide_eq_true hp
  have u2 : decide (p < 0) = false := decide_eq_false (by omega)
  have u3 : decide (0 ≤ num) = false := decide_eq_false (by omega)
  have u4 : decide (num < 0) = true := decide_eq_true hn
  unfold drV at *
  go_enter Tryz.func20, Tryz.ntmps20
  go_upto_region 1 with (fail)
  refine seal_wp fun W hW => ?_
  have K4 := Lib.hid (show Known W w.heap.size #[.int .i64 d.x, .int .i64 d.y, .int .i64 d.z] by rw [hW.out]; exact (Known.new w _ _).alloc _)
  have K5 := Lib.hid (show Known W (w.heap.size + 1) #[.int .i64 e.x, .int .i64 e.y, .int .i64 e.z] by rw [hW.out]; exact Known.new' (by simp))
  have BW := Lib.hid (show Below w.heap.size w W by rw [hW.out]; exact grow_alloc (grow_alloc (grow_refl w) _) _)
  clear hW
  generalize w.heap.size + 1 = b5 at *
  generalize hb4 : w.heap.size = b4 at K4 ⊢
  have c40 := K4.out.cell 0
  have c41 := K4.out.cell 1
  have c42 := K4.out.cell 2
  have l4 := K4.out.lt
  have c50 := K5.out.cell 0
  have c51 := K5.out.cell 1
  have c52 := K5.out.cell 2
  have l5 := K5.out.lt
  simp only [List.getElem?_toArray, List.getElem?_cons_zero, List.getElem?_cons_succ] at c40 c41 c42 c50 c51 c52
  have SS := Lib.hid (fun X (hX : Below W.heap.size W X) => (show X.cell? ⟨b4, 0, none⟩ = some (.int .i64 d.x) ∧ X.cell? ⟨b4, 1, none⟩ = some (.int .i64 d.y) ∧ X.cell? ⟨b4, 2, none⟩ = some (.int .i64 d.z) ∧ X.cell? ⟨b5, 0, none⟩ = some (.int .i64 e.x) ∧ X.cell? ⟨b5, 1, none⟩ = some (.int .i64 e.y) ∧ X.cell? ⟨b5, 2, none⟩ = some (.int .i64 e.z) ∧ b4 < X.heap.size ∧ b5 < X.heap.size from ⟨(K4.out.below hX).cell 0, (K4.out.below hX).cell 1, (K4.out.below hX).cell 2, (K5.out.below hX).cell 0, (K5.out.below hX).cell 1, (K5.out.below hX).cell 2, (K4.out.below hX).lt, (K5.out.below hX).lt⟩))
  go_upto_region 3 with (first
    | (go_at_call 48; (with_reducible refine (DE.out _).mono ?_); rintro e1 w1 ⟨rfl, hb⟩; have B1 := Lib.hid (grow_trans (by (repeat (with_reducible first | exact grow_refl _ | exact B12.out | exact B11.out | exact B10.out | exact B9.out | exact B8.out | exact B7.out | exact B6.out | exact B5.out | exact B4.out | exact B3.out | exact B2.out | exact B1.out | refine Grow.grow_drewN ?_ _ | refine Grow.grow_drew ?_ | refine Grow.grow_alloc ?_ _))) hb : Below W.heap.size W w1); clear hb)
    | (go_at_call 50; (with_reducible refine (SP.out _).mono ?_); rintro e2 w2 ⟨r2, k2, rfl, h2, hb⟩; have B2 := Lib.hid (grow_trans (by (repeat (with_reducible first | exact grow_refl _ | exact B12.out | exact B11.out | exact B10.out | exact B9.out | exact B8.out | exact B7.out | exact B6.out | exact B5.out | exact B4.out | exact B3.out | exact B2.out | exact B1.out | refine Grow.grow_drewN ?_ _ | refine Grow.grow_drew ?_ | refine Grow.grow_alloc ?_ _))) hb : Below W.heap.size W w2); have D2 := Lib.hid h2; clear h2 hb)
    | (go_at_call 50; (with_reducible refine (SD.out _).mono ?_); rintro e3 w3 ⟨r3, k3, rfl, h3, hb⟩; have B3 := Lib.hid (grow_trans (by (repeat (with_reducible first | exact grow_refl _ | exact B12.out | exact B11.out | exact B10.out | exact B9.out | exact B8.out | exact B7.out | exact B6.out | exact B5.out | exact B4.out | exact B3.out | exact B2.out | exact B1.out | refine Grow.grow_drewN ?_ _ | refine Grow.grow_drew ?_ | refine Grow.grow_alloc ?_ _))) hb : Below W.heap.size W w3); have D3 := Lib.hid (D2.out.below hb); have F3 := Lib.hid h3; clear h3 hb)
    | (go_at_call 49; (with_reducible refine (ML.out _ _ _ _ _ D3.out F3.out).mono ?_); rintro e4 w4 ⟨r4, k4, rfl, h4, hb⟩; have B4 := Lib.hid (grow_trans (by (repeat (with_reducible first | exact grow_refl _ | exact B12.out | exact B11.out | exact B10.out | exact B9.out | exact B8.out | exact B7.out | exact B6.out | exact B5.out | exact B4.out | exact B3.out | exact B2.out | exact B1.out | refine Grow.grow_drewN ?_ _ | refine Grow.grow_drew ?_ | refine Grow.grow_alloc ?_ _))) hb : Below W.heap.size W w4); have D4 := Lib.hid h4; clear h4 hb))
  clear c40 c41 c42 c50 c51 c52 l4 l5
  obtain ⟨c40, c41, c42, c50, c51, c52, l4, l5⟩ := SS.out w4 B4.out
  go_region_held3 (fun X => X.cell? ⟨b4, 0, none⟩ = some (.int .i64 d.x) ∧ X.cell? ⟨b4, 1, none⟩ = some (.int .i64 d.y) ∧ X.cell? ⟨b4, 2, none⟩ = some (.int .i64 d.z) ∧ X.cell? ⟨b5, 0, none⟩ = some (.int .i64 e.x) ∧ X.cell? ⟨b5, 1, none⟩ = some (.int .i64 e.y) ∧ X.cell? ⟨b5, 2, none⟩ = some (.int .i64 e.z) ∧ b4 < X.heap.size ∧ b5 < X.heap.size) (exact SS.out _ (by (repeat (with_reducible first | exact grow_refl _ | exact B12.out | exact B11.out | exact B10.out | exact B9.out | exact B8.out | exact B7.out | exact B6.out | exact B5.out | exact B4.out | exact B3.out | exact B2.out | exact B1.out | refine Grow.grow_drewN ?_ _ | refine Grow.grow_drew ?_ | refine Grow.grow_alloc ?_ _))))
    (first
    | (go_at_call 50; (with_reducible refine (SN.out _).mono ?_); rintro e5 w5 ⟨r5, k5, rfl, h5, hb⟩; have B5 := Lib.hid (grow_trans (by (repeat (with_reducible first | exact grow_refl _ | exact B12.out | exact B11.out | exact B10.out | exact B9.out | exact B8.out | exact B7.out | exact B6.out | exact B5.out | exact B4.out | exact B3.out | exact B2.out | exact B1.out | refine Grow.grow_drewN ?_ _ | refine Grow.grow_drew ?_ | refine Grow.grow_alloc ?_ _))) hb : Below W.heap.size W w5); have E5 := Lib.hid (D4.out.below (grow_trans (by (repeat (with_reducible first | exact grow_refl _ | refine Grow.grow_drewN ?_ _ | refine Grow.grow_drew ?_))) hb)); have D5 := Lib.hid h5; clear h5 hb)
    | (go_at_call 48; (with_reducible refine (DD.out _).mono ?_); rintro e6 w6 ⟨rfl, hb⟩; have B6 := Lib.hid (grow_trans (by (repeat (with_reducible first | exact grow_refl _ | exact B12.out | exact B11.out | exact B10.out | exact B9.out | exact B8.out | exact B7.out | exact B6.out | exact B5.out | exact B4.out | exact B3.out | exact B2.out | exact B1.out | refine Grow.grow_drewN ?_ _ | refine Grow.grow_drew ?_ | refine Grow.grow_alloc ?_ _))) hb : Below W.heap.size W w6); have E6 := Lib.hid (E5.out.below hb); have D6 := Lib.hid (D5.out.below hb); clear hb)
    | (go_at_call 51; (with_reducible refine (OD.out _).mono ?_); rintro e7 w7 ⟨r7, k7, rfl, h7, hb⟩; have B7 := Lib.hid (grow_trans (by (repeat (with_reducible first | exact grow_refl _ | exact B12.out | exact B11.out | exact B10.out | exact B9.out | exact B8.out | exact B7.out | exact B6.out | exact B5.out | exact B4.out | exact B3.out | exact B2.out | exact B1.out | refine Grow.grow_drewN ?_ _ | refine Grow.grow_drew ?_ | refine Grow.grow_alloc ?_ _))) hb : Below W.heap.size W w7); have E7 := Lib.hid (E6.out.below hb); have D7 := Lib.hid (D6.out.below hb); have F7 := Lib.hid h7; clear h7 hb)
    | (go_at_call 48; (with_reducible refine (EE.out _).mono ?_); rintro e8 w8 ⟨rfl, hb⟩; have B8 := Lib.hid (grow_trans (by (repeat (with_reducible first | exact grow_refl _ | exact B12.out | exact B11.out | exact B10.out | exact B9.out | exact B8.out | exact B7.out | exact B6.out | exact B5.out | exact B4.out | exact B3.out | exact B2.out | exact B1.out | refine Grow.grow_drewN ?_ _ | refine Grow.grow_drew ?_ | refine Grow.grow_alloc ?_ _))) hb : Below W.heap.size W w8); have E8 := Lib.hid (E7.out.below hb); have D8 := Lib.hid (D7.out.below hb); have F8 := Lib.hid (F7.out.below hb); clear hb)
    | (go_at_call 51; (with_reducible refine (OE.out _).mono ?_); rintro e9 w9 ⟨r9, k9, rfl, h9, hb⟩; have B9 := Lib.hid (grow_trans (by (repeat (with_reducible first | exact grow_refl _ | exact B12.out | exact B11.out | exact B10.out | exact B9.out | exact B8.out | exact B7.out | exact B6.out | exact B5.out | exact B4.out | exact B3.out | exact B2.out | exact B1.out | refine Grow.grow_drewN ?_ _ | refine Grow.grow_drew ?_ | refine Grow.grow_alloc ?_ _))) hb : Below W.heap.size W w9); have E9 := Lib.hid (E8.out.below hb); have D9 := Lib.hid (D8.out.below hb); have F9 := Lib.hid (F8.out.below hb); have G9 := Lib.hid h9; clear h9 hb)
    | (go_at_call 49; (with_reducible refine (MM.out _ _ _ _ _ F9.out G9.out).mono ?_); rintro e10 w10 ⟨r10, k10, rfl, h10, hb⟩; have B10 := Lib.hid (grow_trans (by (repeat (with_reducible first | exact grow_refl _ | exact B12.out | exact B11.out | exact B10.out | exact B9.out | exact B8.out | exact B7.out | exact B6.out | exact B5.out | exact B4.out | exact B3.out | exact B2.out | exact B1.out | refine Grow.grow_drewN ?_ _ | refine Grow.grow_drew ?_ | refine Grow.grow_alloc ?_ _))) hb : Below W.heap.size W w10); have E10 := Lib.hid (E9.out.below hb); have D10 := Lib.hid (D9.out.below hb); have F10 := Lib.hid h10; clear h10 hb)
    | (go_at_call 49; (with_reducible refine (MR.out _ _ _ _ _ D10.out F10.out).mono ?_); rintro e11 w11 ⟨r11, k11, rfl, h11, hb⟩; have B11 := Lib.hid (grow_trans (by (repeat (with_reducible first | exact grow_refl _ | exact B12.out | exact B11.out | exact B10.out | exact B9.out | exact B8.out | exact B7.out | exact B6.out | exact B5.out | exact B4.out | exact B3.out | exact B2.out | exact B1.out | refine Grow.grow_drewN ?_ _ | refine Grow.grow_drew ?_ | refine Grow.grow_alloc ?_ _))) hb : Below W.heap.size W w11); have E11 := Lib.hid (E10.out.below hb); have D11 := Lib.hid h11; clear h11 hb))
  go_wp2_with (go_at_call 52; (with_reducible refine (CM.out _ _ _ _ _ E11.out D11.out).mono ?_); rintro e12 w12 ⟨rfl, hb⟩; have B12 := Lib.hid (grow_trans B11.out hb); clear hb)
  go_ret
  exact ⟨rfl, grow_trans BW.out B12.out⟩
set_option maxRecDepth 100000 in
set_option maxHeartbeats 16000000 in
theorem cosine_np (d e : Dr) (num den : Int) (hd : Sm d) (he : Sm e) (hnum : -1048576 ≤ num ∧ num ≤ 1048576) (hden : -1048576 ≤ den ∧ den ≤ 1048576) (hp : dotZ d e < 0) (hn : 0 ≤ num) (w : World) :
    Calls Tryz.prog 20 #[drV d, drV e, .int .i64 num, .int .i64 den] w fun e' w' => e' = .returned (.bool (false)) ∧ Below w.heap.size w w' := by
  have DE := Lib.hid (fun X => rdot_walk d e hd he X)
  have DD := Lib.hid (fun X => selfdot_walk d hd X)
  have EE := Lib.hid (fun X => selfdot_walk e he X)
  have i1 := dot_small hd he
  have i3 := dot_small hd hd
  have i4 := dot_small he he
  obtain ⟨z1, z2, z3, z4, z5, z6⟩ := cos_bounds (dd := (dotZ d d).natAbs) (ee := (dotZ e e).natAbs) i1 hnum hden (by omega) (by omega)
  have SP := Lib.hid (fun X => square_walk (dotZ d e) (by omega) X)
  have SD := Lib.hid (fun X => square_walk den (by omega) X)
  have SN := Lib.hid (fun X => square_walk num (by omega) X)
  have OD := Lib.hid (fun X => bigOf_walk (dotZ d d).natAbs (by omega) X)
  have OE := Lib.hid (fun X => bigOf_walk (dotZ e e).natAbs (by omega) X)
  have ML := Lib.hid (fun r1 r2 c1 c2 X h1 h2 => dgMul_walk r1 r2 ((dotZ d e).natAbs * (dotZ d e).natAbs) (den.natAbs * den.natAbs) c1 c2 X z1 z2 h1 h2)
  have MM := Lib.hid (fun r1 r2 c1 c2 X h1 h2 => dgMul_walk r1 r2 (dotZ d d).natAbs (dotZ e e).natAbs c1 c2 X (by omega) (by omega) h1 h2)
  have MR := Lib.hid (fun r1 r2 c1 c2 X h1 h2 => dgMul_walk r1 r2 (num.natAbs * num.natAbs) ((dotZ d d).natAbs * (dotZ e e).natAbs) c1 c2 X z4 z5 h1 h2)
  have CM := Lib.hid (fun r1 r2 c1 c2 X h1 h2 => dgCmp_walk r1 r2 ((dotZ d e).natAbs * (dotZ d e).natAbs * (den.natAbs * den.natAbs)) (num.natAbs * num.natAbs * ((dotZ d d).natAbs * (dotZ e e).natAbs)) c1 c2 X z3 z6 h1 h2)
  try unfold cosC
  clear i1 i3 i4 z1 z2 z3 z4 z5 z6 hd he hnum hden
  generalize cmpN ((dotZ d e).natAbs * (dotZ d e).natAbs * (den.natAbs * den.natAbs)) (num.natAbs * num.natAbs * ((dotZ d d).natAbs * (dotZ e e).natAbs)) = c at *
  generalize (dotZ d e).natAbs * (dotZ d e).natAbs * (den.natAbs * den.natAbs) = lh at *
  generalize num.natAbs * num.natAbs * ((dotZ d d).natAbs * (dotZ e e).natAbs) = rh at *
  generalize (dotZ d d).natAbs * (dotZ e e).natAbs = de at *
  generalize (dotZ d e).natAbs * (dotZ d e).natAbs = pp at *
  generalize num.natAbs * num.natAbs = nn at *
  generalize den.natAbs * den.natAbs = mm at *
  generalize dotZ d e = p at *
  generalize (dotZ d d).natAbs = dd at *
  generalize (dotZ e e).natAbs = ee at *
  have u1 : decide (0 ≤ p) = false := decide_eq_false (by omega)
  have u2 : decide (p < 0) = true := decide_eq_true hp
  have u3 : decide (0 ≤ num) = true := decide_eq_true hn
  have u4 : decide (num < 0) = false := decide_eq_false (by omega)
  unfold drV at *
  go_enter Tryz.func20, Tryz.ntmps20
  go_upto_region 1 with (fail)
  refine seal_wp fun W hW => ?_
  have K4 := Lib.hid (show Known W w.heap.size #[.int .i64 d.x, .int .i64 d.y, .int .i64 d.z] by rw [hW.out]; exact (Known.new w _ _).alloc _)
  have K5 := Lib.hid (show Known W (w.heap.size + 1) #[.int .i64 e.x, .int .i64 e.y, .int .i64 e.z] by rw [hW.out]; exact Known.new' (by simp))
  have BW := Lib.hid (show Below w.heap.size w W by rw [hW.out]; exact grow_alloc (grow_alloc (grow_refl w) _) _)
  clear hW
  generalize w.heap.size + 1 = b5 at *
  generalize hb4 : w.heap.size = b4 at K4 ⊢
  have c40 := K4.out.cell 0
  have c41 := K4.out.cell 1
  have c42 := K4.out.cell 2
  have l4 := K4.out.lt
  have c50 := K5.out.cell 0
  have c51 := K5.out.cell 1
  have c52 := K5.out.cell 2
  have l5 := K5.out.lt
  simp only [List.getElem?_toArray, List.getElem?_cons_zero, List.getElem?_cons_succ] at c40 c41 c42 c50 c51 c52
  have SS := Lib.hid (fun X (hX : Below W.heap.size W X) => (show X.cell? ⟨b4, 0, none⟩ = some (.int .i64 d.x) ∧ X.cell? ⟨b4, 1, none⟩ = some (.int .i64 d.y) ∧ X.cell? ⟨b4, 2, none⟩ = some (.int .i64 d.z) ∧ X.cell? ⟨b5, 0, none⟩ = some (.int .i64 e.x) ∧ X.cell? ⟨b5, 1, none⟩ = some (.int .i64 e.y) ∧ X.cell? ⟨b5, 2, none⟩ = some (.int .i64 e.z) ∧ b4 < X.heap.size ∧ b5 < X.heap.size from ⟨(K4.out.below hX).cell 0, (K4.out.below hX).cell 1, (K4.out.below hX).cell 2, (K5.out.below hX).cell 0, (K5.out.below hX).cell 1, (K5.out.below hX).cell 2, (K4.out.below hX).lt, (K5.out.below hX).lt⟩))
  go_upto_region 3 with (first
    | (go_at_call 48; (with_reducible refine (DE.out _).mono ?_); rintro e1 w1 ⟨rfl, hb⟩; have B1 := Lib.hid (grow_trans (by (repeat (with_reducible first | exact grow_refl _ | exact B12.out | exact B11.out | exact B10.out | exact B9.out | exact B8.out | exact B7.out | exact B6.out | exact B5.out | exact B4.out | exact B3.out | exact B2.out | exact B1.out | refine Grow.grow_drewN ?_ _ | refine Grow.grow_drew ?_ | refine Grow.grow_alloc ?_ _))) hb : Below W.heap.size W w1); clear hb)
    | (go_at_call 50; (with_reducible refine (SP.out _).mono ?_); rintro e2 w2 ⟨r2, k2, rfl, h2, hb⟩; have B2 := Lib.hid (grow_trans (by (repeat (with_reducible first | exact grow_refl _ | exact B12.out | exact B11.out | exact B10.out | exact B9.out | exact B8.out | exact B7.out | exact B6.out | exact B5.out | exact B4.out | exact B3.out | exact B2.out | exact B1.out | refine Grow.grow_drewN ?_ _ | refine Grow.grow_drew ?_ | refine Grow.grow_alloc ?_ _))) hb : Below W.heap.size W w2); have D2 := Lib.hid h2; clear h2 hb)
    | (go_at_call 50; (with_reducible refine (SD.out _).mono ?_); rintro e3 w3 ⟨r3, k3, rfl, h3, hb⟩; have B3 := Lib.hid (grow_trans (by (repeat (with_reducible first | exact grow_refl _ | exact B12.out | exact B11.out | exact B10.out | exact B9.out | exact B8.out | exact B7.out | exact B6.out | exact B5.out | exact B4.out | exact B3.out | exact B2.out | exact B1.out | refine Grow.grow_drewN ?_ _ | refine Grow.grow_drew ?_ | refine Grow.grow_alloc ?_ _))) hb : Below W.heap.size W w3); have D3 := Lib.hid (D2.out.below hb); have F3 := Lib.hid h3; clear h3 hb)
    | (go_at_call 49; (with_reducible refine (ML.out _ _ _ _ _ D3.out F3.out).mono ?_); rintro e4 w4 ⟨r4, k4, rfl, h4, hb⟩; have B4 := Lib.hid (grow_trans (by (repeat (with_reducible first | exact grow_refl _ | exact B12.out | exact B11.out | exact B10.out | exact B9.out | exact B8.out | exact B7.out | exact B6.out | exact B5.out | exact B4.out | exact B3.out | exact B2.out | exact B1.out | refine Grow.grow_drewN ?_ _ | refine Grow.grow_drew ?_ | refine Grow.grow_alloc ?_ _))) hb : Below W.heap.size W w4); have D4 := Lib.hid h4; clear h4 hb))
  clear c40 c41 c42 c50 c51 c52 l4 l5
  obtain ⟨c40, c41, c42, c50, c51, c52, l4, l5⟩ := SS.out w4 B4.out
  go_region_held3 (fun X => X.cell? ⟨b4, 0, none⟩ = some (.int .i64 d.x) ∧ X.cell? ⟨b4, 1, none⟩ = some (.int .i64 d.y) ∧ X.cell? ⟨b4, 2, none⟩ = some (.int .i64 d.z) ∧ X.cell? ⟨b5, 0, none⟩ = some (.int .i64 e.x) ∧ X.cell? ⟨b5, 1, none⟩ = some (.int .i64 e.y) ∧ X.cell? ⟨b5, 2, none⟩ = some (.int .i64 e.z) ∧ b4 < X.heap.size ∧ b5 < X.heap.size) (exact SS.out _ (by (repeat (with_reducible first | exact grow_refl _ | exact B12.out | exact B11.out | exact B10.out | exact B9.out | exact B8.out | exact B7.out | exact B6.out | exact B5.out | exact B4.out | exact B3.out | exact B2.out | exact B1.out | refine Grow.grow_drewN ?_ _ | refine Grow.grow_drew ?_ | refine Grow.grow_alloc ?_ _))))
    (first
    | (go_at_call 50; (with_reducible refine (SN.out _).mono ?_); rintro e5 w5 ⟨r5, k5, rfl, h5, hb⟩; have B5 := Lib.hid (grow_trans (by (repeat (with_reducible first | exact grow_refl _ | exact B12.out | exact B11.out | exact B10.out | exact B9.out | exact B8.out | exact B7.out | exact B6.out | exact B5.out | exact B4.out | exact B3.out | exact B2.out | exact B1.out | refine Grow.grow_drewN ?_ _ | refine Grow.grow_drew ?_ | refine Grow.grow_alloc ?_ _))) hb : Below W.heap.size W w5); have E5 := Lib.hid (D4.out.below (grow_trans (by (repeat (with_reducible first | exact grow_refl _ | refine Grow.grow_drewN ?_ _ | refine Grow.grow_drew ?_))) hb)); have D5 := Lib.hid h5; clear h5 hb)
    | (go_at_call 48; (with_reducible refine (DD.out _).mono ?_); rintro e6 w6 ⟨rfl, hb⟩; have B6 := Lib.hid (grow_trans (by (repeat (with_reducible first | exact grow_refl _ | exact B12.out | exact B11.out | exact B10.out | exact B9.out | exact B8.out | exact B7.out | exact B6.out | exact B5.out | exact B4.out | exact B3.out | exact B2.out | exact B1.out | refine Grow.grow_drewN ?_ _ | refine Grow.grow_drew ?_ | refine Grow.grow_alloc ?_ _))) hb : Below W.heap.size W w6); have E6 := Lib.hid (E5.out.below hb); have D6 := Lib.hid (D5.out.below hb); clear hb)
    | (go_at_call 51; (with_reducible refine (OD.out _).mono ?_); rintro e7 w7 ⟨r7, k7, rfl, h7, hb⟩; have B7 := Lib.hid (grow_trans (by (repeat (with_reducible first | exact grow_refl _ | exact B12.out | exact B11.out | exact B10.out | exact B9.out | exact B8.out | exact B7.out | exact B6.out | exact B5.out | exact B4.out | exact B3.out | exact B2.out | exact B1.out | refine Grow.grow_drewN ?_ _ | refine Grow.grow_drew ?_ | refine Grow.grow_alloc ?_ _))) hb : Below W.heap.size W w7); have E7 := Lib.hid (E6.out.below hb); have D7 := Lib.hid (D6.out.below hb); have F7 := Lib.hid h7; clear h7 hb)
    | (go_at_call 48; (with_reducible refine (EE.out _).mono ?_); rintro e8 w8 ⟨rfl, hb⟩; have B8 := Lib.hid (grow_trans (by (repeat (with_reducible first | exact grow_refl _ | exact B12.out | exact B11.out | exact B10.out | exact B9.out | exact B8.out | exact B7.out | exact B6.out | exact B5.out | exact B4.out | exact B3.out | exact B2.out | exact B1.out | refine Grow.grow_drewN ?_ _ | refine Grow.grow_drew ?_ | refine Grow.grow_alloc ?_ _))) hb : Below W.heap.size W w8); have E8 := Lib.hid (E7.out.below hb); have D8 := Lib.hid (D7.out.below hb); have F8 := Lib.hid (F7.out.below hb); clear hb)
    | (go_at_call 51; (with_reducible refine (OE.out _).mono ?_); rintro e9 w9 ⟨r9, k9, rfl, h9, hb⟩; have B9 := Lib.hid (grow_trans (by (repeat (with_reducible first | exact grow_refl _ | exact B12.out | exact B11.out | exact B10.out | exact B9.out | exact B8.out | exact B7.out | exact B6.out | exact B5.out | exact B4.out | exact B3.out | exact B2.out | exact B1.out | refine Grow.grow_drewN ?_ _ | refine Grow.grow_drew ?_ | refine Grow.grow_alloc ?_ _))) hb : Below W.heap.size W w9); have E9 := Lib.hid (E8.out.below hb); have D9 := Lib.hid (D8.out.below hb); have F9 := Lib.hid (F8.out.below hb); have G9 := Lib.hid h9; clear h9 hb)
    | (go_at_call 49; (with_reducible refine (MM.out _ _ _ _ _ F9.out G9.out).mono ?_); rintro e10 w10 ⟨r10, k10, rfl, h10, hb⟩; have B10 := Lib.hid (grow_trans (by (repeat (with_reducible first | exact grow_refl _ | exact B12.out | exact B11.out | exact B10.out | exact B9.out | exact B8.out | exact B7.out | exact B6.out | exact B5.out | exact B4.out | exact B3.out | exact B2.out | exact B1.out | refine Grow.grow_drewN ?_ _ | refine Grow.grow_drew ?_ | refine Grow.grow_alloc ?_ _))) hb : Below W.heap.size W w10); have E10 := Lib.hid (E9.out.below hb); have D10 := Lib.hid (D9.out.below hb); have F10 := Lib.hid h10; clear h10 hb)
    | (go_at_call 49; (with_reducible refine (MR.out _ _ _ _ _ D10.out F10.out).mono ?_); rintro e11 w11 ⟨r11, k11, rfl, h11, hb⟩; have B11 := Lib.hid (grow_trans (by (repeat (with_reducible first | exact grow_refl _ | exact B12.out | exact B11.out | exact B10.out | exact B9.out | exact B8.out | exact B7.out | exact B6.out | exact B5.out | exact B4.out | exact B3.out | exact B2.out | exact B1.out | refine Grow.grow_drewN ?_ _ | refine Grow.grow_drew ?_ | refine Grow.grow_alloc ?_ _))) hb : Below W.heap.size W w11); have E11 := Lib.hid (E10.out.below hb); have D11 := Lib.hid h11; clear h11 hb))
  go_wp2_with (go_at_call 52; (with_reducible refine (CM.out _ _ _ _ _ E11.out D11.out).mono ?_); rintro e12 w12 ⟨rfl, hb⟩; have B12 := Lib.hid (grow_trans B11.out hb); clear hb)
  go_ret
  exact ⟨rfl, grow_trans BW.out B12.out⟩
set_option maxRecDepth 100000 in
set_option maxHeartbeats 16000000 in
theorem cosine_nn (d e : Dr) (num den : Int) (hd : Sm d) (he : Sm e) (hnum : -1048576 ≤ num ∧ num ≤ 1048576) (hden : -1048576 ≤ den ∧ den ≤ 1048576) (hp : dotZ d e < 0) (hn : num < 0) (w : World) :
    Calls Tryz.prog 20 #[drV d, drV e, .int .i64 num, .int .i64 den] w fun e' w' => e' = .returned (.bool (decide (cosC d e num den ≤ 0))) ∧ Below w.heap.size w w' := by
  have DE := Lib.hid (fun X => rdot_walk d e hd he X)
  have DD := Lib.hid (fun X => selfdot_walk d hd X)
  have EE := Lib.hid (fun X => selfdot_walk e he X)
  have i1 := dot_small hd he
  have i3 := dot_small hd hd
  have i4 := dot_small he he
  obtain ⟨z1, z2, z3, z4, z5, z6⟩ := cos_bounds (dd := (dotZ d d).natAbs) (ee := (dotZ e e).natAbs) i1 hnum hden (by omega) (by omega)
  have SP := Lib.hid (fun X => square_walk (dotZ d e) (by omega) X)
  have SD := Lib.hid (fun X => square_walk den (by omega) X)
  have SN := Lib.hid (fun X => square_walk num (by omega) X)
  have OD := Lib.hid (fun X => bigOf_walk (dotZ d d).natAbs (by omega) X)
  have OE := Lib.hid (fun X => bigOf_walk (dotZ e e).natAbs (by omega) X)
  have ML := Lib.hid (fun r1 r2 c1 c2 X h1 h2 => dgMul_walk r1 r2 ((dotZ d e).natAbs * (dotZ d e).natAbs) (den.natAbs * den.natAbs) c1 c2 X z1 z2 h1 h2)
  have MM := Lib.hid (fun r1 r2 c1 c2 X h1 h2 => dgMul_walk r1 r2 (dotZ d d).natAbs (dotZ e e).natAbs c1 c2 X (by omega) (by omega) h1 h2)
  have MR := Lib.hid (fun r1 r2 c1 c2 X h1 h2 => dgMul_walk r1 r2 (num.natAbs * num.natAbs) ((dotZ d d).natAbs * (dotZ e e).natAbs) c1 c2 X z4 z5 h1 h2)
  have CM := Lib.hid (fun r1 r2 c1 c2 X h1 h2 => dgCmp_walk r1 r2 ((dotZ d e).natAbs * (dotZ d e).natAbs * (den.natAbs * den.natAbs)) (num.natAbs * num.natAbs * ((dotZ d d).natAbs * (dotZ e e).natAbs)) c1 c2 X z3 z6 h1 h2)
  try unfold cosC
  clear i1 i3 i4 z1 z2 z3 z4 z5 z6 hd he hnum hden
  generalize cmpN ((dotZ d e).natAbs * (dotZ d e).natAbs * (den.natAbs * den.natAbs)) (num.natAbs * num.natAbs * ((dotZ d d).natAbs * (dotZ e e).natAbs)) = c at *
  generalize (dotZ d e).natAbs * (dotZ d e).natAbs * (den.natAbs * den.natAbs) = lh at *
  generalize num.natAbs * num.natAbs * ((dotZ d d).natAbs * (dotZ e e).natAbs) = rh at *
  generalize (dotZ d d).natAbs * (dotZ e e).natAbs = de at *
  generalize (dotZ d e).natAbs * (dotZ d e).natAbs = pp at *
  generalize num.natAbs * num.natAbs = nn at *
  generalize den.natAbs * den.natAbs = mm at *
  generalize dotZ d e = p at *
  generalize (dotZ d d).natAbs = dd at *
  generalize (dotZ e e).natAbs = ee at *
  have u1 : decide (0 ≤ p) = false := decide_eq_false (by omega)
  have u2 : decide (p < 0) = true := decide_eq_true hp
  have u3 : decide (0 ≤ num) = false := decide_eq_false (by omega)
  have u4 : decide (num < 0) = true := decide_eq_true hn
  unfold drV at *
  go_enter Tryz.func20, Tryz.ntmps20
  go_upto_region 1 with (fail)
  refine seal_wp fun W hW => ?_
  have K4 := Lib.hid (show Known W w.heap.size #[.int .i64 d.x, .int .i64 d.y, .int .i64 d.z] by rw [hW.out]; exact (Known.new w _ _).alloc _)
  have K5 := Lib.hid (show Known W (w.heap.size + 1) #[.int .i64 e.x, .int .i64 e.y, .int .i64 e.z] by rw [hW.out]; exact Known.new' (by simp))
  have BW := Lib.hid (show Below w.heap.size w W by rw [hW.out]; exact grow_alloc (grow_alloc (grow_refl w) _) _)
  clear hW
  generalize w.heap.size + 1 = b5 at *
  generalize hb4 : w.heap.size = b4 at K4 ⊢
  have c40 := K4.out.cell 0
  have c41 := K4.out.cell 1
  have c42 := K4.out.cell 2
  have l4 := K4.out.lt
  have c50 := K5.out.cell 0
  have c51 := K5.out.cell 1
  have c52 := K5.out.cell 2
  have l5 := K5.out.lt
  simp only [List.getElem?_toArray, List.getElem?_cons_zero, List.getElem?_cons_succ] at c40 c41 c42 c50 c51 c52
  have SS := Lib.hid (fun X (hX : Below W.heap.size W X) => (show X.cell? ⟨b4, 0, none⟩ = some (.int .i64 d.x) ∧ X.cell? ⟨b4, 1, none⟩ = some (.int .i64 d.y) ∧ X.cell? ⟨b4, 2, none⟩ = some (.int .i64 d.z) ∧ X.cell? ⟨b5, 0, none⟩ = some (.int .i64 e.x) ∧ X.cell? ⟨b5, 1, none⟩ = some (.int .i64 e.y) ∧ X.cell? ⟨b5, 2, none⟩ = some (.int .i64 e.z) ∧ b4 < X.heap.size ∧ b5 < X.heap.size from ⟨(K4.out.below hX).cell 0, (K4.out.below hX).cell 1, (K4.out.below hX).cell 2, (K5.out.below hX).cell 0, (K5.out.below hX).cell 1, (K5.out.below hX).cell 2, (K4.out.below hX).lt, (K5.out.below hX).lt⟩))
  go_upto_region 3 with (first
    | (go_at_call 48; (with_reducible refine (DE.out _).mono ?_); rintro e1 w1 ⟨rfl, hb⟩; have B1 := Lib.hid (grow_trans (by (repeat (with_reducible first | exact grow_refl _ | exact B12.out | exact B11.out | exact B10.out | exact B9.out | exact B8.out | exact B7.out | exact B6.out | exact B5.out | exact B4.out | exact B3.out | exact B2.out | exact B1.out | refine Grow.grow_drewN ?_ _ | refine Grow.grow_drew ?_ | refine Grow.grow_alloc ?_ _))) hb : Below W.heap.size W w1); clear hb)
    | (go_at_call 50; (with_reducible refine (SP.out _).mono ?_); rintro e2 w2 ⟨r2, k2, rfl, h2, hb⟩; have B2 := Lib.hid (grow_trans (by (repeat (with_reducible first | exact grow_refl _ | exact B12.out | exact B11.out | exact B10.out | exact B9.out | exact B8.out | exact B7.out | exact B6.out | exact B5.out | exact B4.out | exact B3.out | exact B2.out | exact B1.out | refine Grow.grow_drewN ?_ _ | refine Grow.grow_drew ?_ | refine Grow.grow_alloc ?_ _))) hb : Below W.heap.size W w2); have D2 := Lib.hid h2; clear h2 hb)
    | (go_at_call 50; (with_reducible refine (SD.out _).mono ?_); rintro e3 w3 ⟨r3, k3, rfl, h3, hb⟩; have B3 := Lib.hid (grow_trans (by (repeat (with_reducible first | exact grow_refl _ | exact B12.out | exact B11.out | exact B10.out | exact B9.out | exact B8.out | exact B7.out | exact B6.out | exact B5.out | exact B4.out | exact B3.out | exact B2.out | exact B1.out | refine Grow.grow_drewN ?_ _ | refine Grow.grow_drew ?_ | refine Grow.grow_alloc ?_ _))) hb : Below W.heap.size W w3); have D3 := Lib.hid (D2.out.below hb); have F3 := Lib.hid h3; clear h3 hb)
    | (go_at_call 49; (with_reducible refine (ML.out _ _ _ _ _ D3.out F3.out).mono ?_); rintro e4 w4 ⟨r4, k4, rfl, h4, hb⟩; have B4 := Lib.hid (grow_trans (by (repeat (with_reducible first | exact grow_refl _ | exact B12.out | exact B11.out | exact B10.out | exact B9.out | exact B8.out | exact B7.out | exact B6.out | exact B5.out | exact B4.out | exact B3.out | exact B2.out | exact B1.out | refine Grow.grow_drewN ?_ _ | refine Grow.grow_drew ?_ | refine Grow.grow_alloc ?_ _))) hb : Below W.heap.size W w4); have D4 := Lib.hid h4; clear h4 hb))
  clear c40 c41 c42 c50 c51 c52 l4 l5
  obtain ⟨c40, c41, c42, c50, c51, c52, l4, l5⟩ := SS.out w4 B4.out
  go_region_held3 (fun X => X.cell? ⟨b4, 0, none⟩ = some (.int .i64 d.x) ∧ X.cell? ⟨b4, 1, none⟩ = some (.int .i64 d.y) ∧ X.cell? ⟨b4, 2, none⟩ = some (.int .i64 d.z) ∧ X.cell? ⟨b5, 0, none⟩ = some (.int .i64 e.x) ∧ X.cell? ⟨b5, 1, none⟩ = some (.int .i64 e.y) ∧ X.cell? ⟨b5, 2, none⟩ = some (.int .i64 e.z) ∧ b4 < X.heap.size ∧ b5 < X.heap.size) (exact SS.out _ (by (repeat (with_reducible first | exact grow_refl _ | exact B12.out | exact B11.out | exact B10.out | exact B9.out | exact B8.out | exact B7.out | exact B6.out | exact B5.out | exact B4.out | exact B3.out | exact B2.out | exact B1.out | refine Grow.grow_drewN ?_ _ | refine Grow.grow_drew ?_ | refine Grow.grow_alloc ?_ _))))
    (first
    | (go_at_call 50; (with_reducible refine (SN.out _).mono ?_); rintro e5 w5 ⟨r5, k5, rfl, h5, hb⟩; have B5 := Lib.hid (grow_trans (by (repeat (with_reducible first | exact grow_refl _ | exact B12.out | exact B11.out | exact B10.out | exact B9.out | exact B8.out | exact B7.out | exact B6.out | exact B5.out | exact B4.out | exact B3.out | exact B2.out | exact B1.out | refine Grow.grow_drewN ?_ _ | refine Grow.grow_drew ?_ | refine Grow.grow_alloc ?_ _))) hb : Below W.heap.size W w5); have E5 := Lib.hid (D4.out.below (grow_trans (by (repeat (with_reducible first | exact grow_refl _ | refine Grow.grow_drewN ?_ _ | refine Grow.grow_drew ?_))) hb)); have D5 := Lib.hid h5; clear h5 hb)
    | (go_at_call 48; (with_reducible refine (DD.out _).mono ?_); rintro e6 w6 ⟨rfl, hb⟩; have B6 := Lib.hid (grow_trans (by (repeat (with_reducible first | exact grow_refl _ | exact B12.out | exact B11.out | exact B10.out | exact B9.out | exact B8.out | exact B7.out | exact B6.out | exact B5.out | exact B4.out | exact B3.out | exact B2.out | exact B1.out | refine Grow.grow_drewN ?_ _ | refine Grow.grow_drew ?_ | refine Grow.grow_alloc ?_ _))) hb : Below W.heap.size W w6); have E6 := Lib.hid (E5.out.below hb); have D6 := Lib.hid (D5.out.below hb); clear hb)
    | (go_at_call 51; (with_reducible refine (OD.out _).mono ?_); rintro e7 w7 ⟨r7, k7, rfl, h7, hb⟩; have B7 := Lib.hid (grow_trans (by (repeat (with_reducible first | exact grow_refl _ | exact B12.out | exact B11.out | exact B10.out | exact B9.out | exact B8.out | exact B7.out | exact B6.out | exact B5.out | exact B4.out | exact B3.out | exact B2.out | exact B1.out | refine Grow.grow_drewN ?_ _ | refine Grow.grow_drew ?_ | refine Grow.grow_alloc ?_ _))) hb : Below W.heap.size W w7); have E7 := Lib.hid (E6.out.below hb); have D7 := Lib.hid (D6.out.below hb); have F7 := Lib.hid h7; clear h7 hb)
    | (go_at_call 48; (with_reducible refine (EE.out _).mono ?_); rintro e8 w8 ⟨rfl, hb⟩; have B8 := Lib.hid (grow_trans (by (repeat (with_reducible first | exact grow_refl _ | exact B12.out | exact B11.out | exact B10.out | exact B9.out | exact B8.out | exact B7.out | exact B6.out | exact B5.out | exact B4.out | exact B3.out | exact B2.out | exact B1.out | refine Grow.grow_drewN ?_ _ | refine Grow.grow_drew ?_ | refine Grow.grow_alloc ?_ _))) hb : Below W.heap.size W w8); have E8 := Lib.hid (E7.out.below hb); have D8 := Lib.hid (D7.out.below hb); have F8 := Lib.hid (F7.out.below hb); clear hb)
    | (go_at_call 51; (with_reducible refine (OE.out _).mono ?_); rintro e9 w9 ⟨r9, k9, rfl, h9, hb⟩; have B9 := Lib.hid (grow_trans (by (repeat (with_reducible first | exact grow_refl _ | exact B12.out | exact B11.out | exact B10.out | exact B9.out | exact B8.out | exact B7.out | exact B6.out | exact B5.out | exact B4.out | exact B3.out | exact B2.out | exact B1.out | refine Grow.grow_drewN ?_ _ | refine Grow.grow_drew ?_ | refine Grow.grow_alloc ?_ _))) hb : Below W.heap.size W w9); have E9 := Lib.hid (E8.out.below hb); have D9 := Lib.hid (D8.out.below hb); have F9 := Lib.hid (F8.out.below hb); have G9 := Lib.hid h9; clear h9 hb)
    | (go_at_call 49; (with_reducible refine (MM.out _ _ _ _ _ F9.out G9.out).mono ?_); rintro e10 w10 ⟨r10, k10, rfl, h10, hb⟩; have B10 := Lib.hid (grow_trans (by (repeat (with_reducible first | exact grow_refl _ | exact B12.out | exact B11.out | exact B10.out | exact B9.out | exact B8.out | exact B7.out | exact B6.out | exact B5.out | exact B4.out | exact B3.out | exact B2.out | exact B1.out | refine Grow.grow_drewN ?_ _ | refine Grow.grow_drew ?_ | refine Grow.grow_alloc ?_ _))) hb : Below W.heap.size W w10); have E10 := Lib.hid (E9.out.below hb); have D10 := Lib.hid (D9.out.below hb); have F10 := Lib.hid h10; clear h10 hb)
    | (go_at_call 49; (with_reducible refine (MR.out _ _ _ _ _ D10.out F10.out).mono ?_); rintro e11 w11 ⟨r11, k11, rfl, h11, hb⟩; have B11 := Lib.hid (grow_trans (by (repeat (with_reducible first | exact grow_refl _ | exact B12.out | exact B11.out | exact B10.out | exact B9.out | exact B8.out | exact B7.out | exact B6.out | exact B5.out | exact B4.out | exact B3.out | exact B2.out | exact B1.out | refine Grow.grow_drewN ?_ _ | refine Grow.grow_drew ?_ | refine Grow.grow_alloc ?_ _))) hb : Below W.heap.size W w11); have E11 := Lib.hid (E10.out.below hb); have D11 := Lib.hid h11; clear h11 hb))
  go_wp2_with (go_at_call 52; (with_reducible refine (CM.out _ _ _ _ _ E11.out D11.out).mono ?_); rintro e12 w12 ⟨rfl, hb⟩; have B12 := Lib.hid (grow_trans B11.out hb); clear hb)
  go_ret
  exact ⟨rfl, grow_trans BW.out B12.out⟩
theorem cosine_walk (d e : Dr) (num den : Int) (hd : Sm d) (he : Sm e) (hnum : -1048576 ≤ num ∧ num ≤ 1048576) (hden : -1048576 ≤ den ∧ den ≤ 1048576) (w : World) :
    Calls Tryz.prog 20 #[drV d, drV e, .int .i64 num, .int .i64 den] w fun e' w' => e' = .returned (.bool (cosR d e num den)) ∧ Below w.heap.size w w' := by
  unfold cosR
  by_cases h1 : 0 ≤ dotZ d e <;> by_cases h2 : 0 ≤ num
  · rw [if_pos ⟨h1, h2⟩]; exact cosine_pp d e num den hd he hnum hden h1 h2 w
  · rw [if_neg (by omega), if_neg (by omega), decide_eq_true h1]; exact cosine_pn d e num den hd he hnum hden h1 (by omega) w
  · rw [if_neg (by omega), if_neg (by omega), decide_eq_false h1]; exact cosine_np d e num den hd he hnum hden (by omega) h2 w
  · rw [if_neg (by omega), if_pos ⟨by omega, by omega⟩]; exact cosine_nn d e num den hd he hnum hden (by omega) (by omega) w
set_option maxRecDepth 100000 in
set_option maxHeartbeats 16000000 in
theorem coneR_bad (d : Dr) (num den : Int) (hd : isDir d = true) (hden : -9223372036854775808 ≤ den ∧ den ≤ 9223372036854775807) (w : World) (hb : badCone num den = true) :
    Calls Tryz.prog 18 #[drV d, .int .i64 num, .int .i64 den] w fun e' w' => e' = .returned (.int .i64 5) ∧ Below w.heap.size w w' := by
  have DW := Lib.hid (fun X => isDirection_walk d X)
  rw [hd] at DW
  clear hd
  unfold badCone at hb
  unfold drV at *
  obtain ⟨hm1, hm2⟩ := hden
  cases h1 : decide (den < 1)
  · cases h2 : decide (1048576 < den)
    · have hw : wrap64 (-den) = -den := wrap64_mid (by have := of_decide_eq_false h1; have := of_decide_eq_false h2; omega)
      cases h3 : decide (den < num)
      · cases h4 : decide (num < -den)
        · rw [h1, h2, h3, h4] at hb; cases hb
        · clear hb
          go_enter Tryz.func18, Tryz.ntmps18
          go_wp2_with (go_at_call 46; (with_reducible refine (DW.out _).mono ?_); rintro e w1 ⟨rfl, hb⟩; have B1 := Lib.hid (grow_trans (grow_alloc (grow_refl w) _) hb); clear hb)
          go_ret
          exact ⟨rfl, B1.out⟩
      · clear hb
        go_enter Tryz.func18, Tryz.ntmps18
        go_wp2_with (go_at_call 46; (with_reducible refine (DW.out _).mono ?_); rintro e w1 ⟨rfl, hb⟩; have B1 := Lib.hid (grow_trans (grow_alloc (grow_refl w) _) hb); clear hb)
        go_ret
        exact ⟨rfl, B1.out⟩
    · clear hb
      go_enter Tryz.func18, Tryz.ntmps18
      go_wp2_with (go_at_call 46; (with_reducible refine (DW.out _).mono ?_); rintro e w1 ⟨rfl, hb⟩; have B1 := Lib.hid (grow_trans (grow_alloc (grow_refl w) _) hb); clear hb)
      go_ret
      exact ⟨rfl, B1.out⟩
  · clear hb
    go_enter Tryz.func18, Tryz.ntmps18
    go_wp2_with (go_at_call 46; (with_reducible refine (DW.out _).mono ?_); rintro e w1 ⟨rfl, hb⟩; have B1 := Lib.hid (grow_trans (grow_alloc (grow_refl w) _) hb); clear hb)
    go_ret
    exact ⟨rfl, B1.out⟩
set_option maxRecDepth 100000 in
set_option maxHeartbeats 16000000 in
theorem coneR_good (d : Dr) (num den : Int) (hd : isDir d = true) (w : World) (hb : badCone num den = false) :
    Calls Tryz.prog 18 #[drV d, .int .i64 num, .int .i64 den] w fun e' w' => e' = .returned (.int .i64 0) ∧ Below w.heap.size w w' := by
  have DW := Lib.hid (fun X => isDirection_walk d X)
  rw [hd] at DW
  clear hd
  unfold badCone at hb
  unfold drV at *
  simp only [Bool.or_eq_false_iff] at hb
  obtain ⟨⟨⟨h1, h2⟩, h3⟩, h4⟩ := hb
  have hr : 1 ≤ den ∧ den ≤ 1048576 := by
    have := of_decide_eq_false h1
    have := of_decide_eq_false h2
    omega
  obtain ⟨hr3, hr4⟩ := hr
  have hw : wrap64 (-den) = -den := wrap64_mid (by omega)
  go_enter Tryz.func18, Tryz.ntmps18
  go_wp2_with (go_at_call 46; (with_reducible refine (DW.out _).mono ?_); rintro e w1 ⟨rfl, hb⟩; have B1 := Lib.hid (grow_trans (grow_alloc (grow_refl w) _) hb); clear hb)
  go_ret
  exact ⟨rfl, B1.out⟩
end Go.Proofs.YtlnbeildplafbaaGreatDoor
