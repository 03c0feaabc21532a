/- Pairs of stars: the document's answers on two directions. -/
import Derived.Test.YtlnbeildplafbaaGreatDoorAp3
import Derived.Test.YtlnbeildplafbaaGreatDoorEb3
set_option linter.unusedSimpArgs false
set_option linter.unusedVariables false
namespace Go.Proofs.YtlnbeildplafbaaGreatDoor
open Go.RowKit Go.Grow Go.Bg Go.Atl

theorem dotZ_self (d : Dr) : 0 ≤ dotZ d d := by
  unfold dotZ
  have h1 : 0 ≤ d.x * d.x := by rw [← Int.natAbs_mul_self' d.x]; exact Int.mul_nonneg (by omega) (by omega)
  have h2 : 0 ≤ d.y * d.y := by rw [← Int.natAbs_mul_self' d.y]; exact Int.mul_nonneg (by omega) (by omega)
  have h3 : 0 ≤ d.z * d.z := by rw [← Int.natAbs_mul_self' d.z]; exact Int.mul_nonneg (by omega) (by omega)
  omega
theorem selfdot_walk (d : Dr) (hd : Sm d) (w : World) : Calls Tryz.prog 48 #[drV d, drV d] w fun e' w' => e' = .returned (.int .i64 ((dotZ d d).natAbs : Nat)) ∧ Below w.heap.size w w' := by
  rw [show (((dotZ d d).natAbs : Nat) : Int) = dotZ d d by have := dotZ_self d; omega]
  exact rdot_walk d d hd hd w
set_option maxRecDepth 100000 in
set_option maxHeartbeats 16000000 in
theorem square_walk (n : Int) (h : -9223372036854775807 ≤ n ∧ n ≤ 9223372036854775807) (w : World) :
    Calls Tryz.prog 50 #[.int .i64 n] w (DgPost (dig (n.natAbs * n.natAbs)) w) := by
  have SZ := Lib.hid (fun X => rsz_walk n h X)
  have hm : n.natAbs ≤ 9223372036854775807 := by omega
  have BO := Lib.hid (fun X => bigOf_walk n.natAbs hm X)
  have BM := Lib.hid (fun r1 r2 c1 c2 X h1 h2 => dgMul_walk r1 r2 n.natAbs n.natAbs c1 c2 X (by omega) (by omega) h1 h2)
  generalize n.natAbs = m at *
  go_enter Tryz.func50, Tryz.ntmps50
  go_wp2_with (first
    | (go_at_call 84; (with_reducible refine (SZ.out _).mono ?_); rintro e1 w1 ⟨rfl, rfl⟩)
    | (go_at_call 51; (with_reducible refine (BO.out _).mono ?_); rintro e2 w2 ⟨r2, c2, rfl, h2, hb⟩; have D2 := Lib.hid h2; have B2 := Lib.hid hb; clear h2 hb)
    | (go_at_call 49; (with_reducible refine (BM.out _ _ _ _ _ D2.out D2.out).mono ?_); rintro e3 w3 ⟨r3, c3, rfl, h3, hb⟩; have D3 := Lib.hid h3; have B3 := Lib.hid (grow_trans B2.out hb); clear h3 hb))
  go_ret
  exact ⟨r3, c3, rfl, D3.out, B3.out⟩
theorem size_bound {p : Int} (h : -3298534883328 ≤ p ∧ p ≤ 3298534883328) : p.natAbs * p.natAbs < 1000000 ^ 30 := by
  have : p.natAbs * p.natAbs ≤ 3298534883328 * 3298534883328 := Nat.mul_le_mul (by omega) (by omega)
  omega
theorem prod_bound {p q : Int} (h : -3298534883328 ≤ p ∧ p ≤ 3298534883328) (hq : -3298534883328 ≤ q ∧ q ≤ 3298534883328) : p.natAbs * p.natAbs * q.natAbs < 1000000 ^ 100 := by
  have h1 : p.natAbs * p.natAbs ≤ 3298534883328 * 3298534883328 := Nat.mul_le_mul (by omega) (by omega)
  have : p.natAbs * p.natAbs * q.natAbs ≤ 3298534883328 * 3298534883328 * 3298534883328 := Nat.mul_le_mul h1 (by omega)
  omega
theorem cmpN_range3 (a b : Nat) : cmpN a b = -1 ∨ cmpN a b = 0 ∨ cmpN a b = 1 := by unfold cmpN; split <;> (try split) <;> simp
/-- The document's answer: which is nearer. -/
def nearR (d a b : Dr) : Int := if 0 ≤ dotZ d a ∧ dotZ d b < 0 then 1 else if dotZ d a < 0 ∧ 0 ≤ dotZ d b then -1 else if dotZ d a < 0 then -(cmpN ((dotZ d a).natAbs * (dotZ d a).natAbs * (dotZ b b).natAbs) ((dotZ d b).natAbs * (dotZ d b).natAbs * (dotZ a a).natAbs)) else cmpN ((dotZ d a).natAbs * (dotZ d a).natAbs * (dotZ b b).natAbs) ((dotZ d b).natAbs * (dotZ d b).natAbs * (dotZ a a).natAbs)
set_option maxRecDepth 100000 in
set_option maxHeartbeats 16000000 in
theorem nearerR_pn (d a b : Dr) (hd : Sm d) (ha : Sm a) (hb : Sm b) (hp : 0 ≤ dotZ d a) (hq : dotZ d b < 0) (w : World) :
    Calls Tryz.prog 47 #[drV d, drV a, drV b] w fun e' w' => e' = .returned (.int .i64 (1)) ∧ Below w.heap.size w w' := by
  have DA := Lib.hid (fun X => rdot_walk d a hd ha X)
  have DB := Lib.hid (fun X => rdot_walk d b hd hb X)
  have BB := Lib.hid (fun X => selfdot_walk b hb X)
  have AA := Lib.hid (fun X => selfdot_walk a ha X)
  have i1 := dot_small hd ha
  have i2 := dot_small hd hb
  have i3 := dot_small hb hb
  have i4 := dot_small ha ha
  have SA := Lib.hid (fun X => square_walk (dotZ d a) (by omega) X)
  have SB := Lib.hid (fun X => square_walk (dotZ d b) (by omega) X)
  have OB := Lib.hid (fun X => bigOf_walk (dotZ b b).natAbs (by omega) X)
  have OA := Lib.hid (fun X => bigOf_walk (dotZ a a).natAbs (by omega) X)
  have MA := Lib.hid (fun r1 r2 c1 c2 X h1 h2 => dgMul_walk r1 r2 ((dotZ d a).natAbs * (dotZ d a).natAbs) (dotZ b b).natAbs c1 c2 X (by have := size_bound i1; omega) (by omega) h1 h2)
  have MB := Lib.hid (fun r1 r2 c1 c2 X h1 h2 => dgMul_walk r1 r2 ((dotZ d b).natAbs * (dotZ d b).natAbs) (dotZ a a).natAbs c1 c2 X (by have := size_bound i2; omega) (by omega) h1 h2)
  have CM := Lib.hid (fun r1 r2 c1 c2 X h1 h2 => dgCmp_walk r1 r2 ((dotZ d a).natAbs * (dotZ d a).natAbs * (dotZ b b).natAbs) ((dotZ d b).natAbs * (dotZ d b).natAbs * (dotZ a a).natAbs) c1 c2 X (prod_bound i1 i3) (prod_bound i2 i4) h1 h2)
  have HR := Lib.hid (cmpN_range3 ((dotZ d a).natAbs * (dotZ d a).natAbs * (dotZ b b).natAbs) ((dotZ d b).natAbs * (dotZ d b).natAbs * (dotZ a a).natAbs))
  clear i1 i2 i3 i4 hd ha hb
  generalize cmpN ((dotZ d a).natAbs * (dotZ d a).natAbs * (dotZ b b).natAbs) ((dotZ d b).natAbs * (dotZ d b).natAbs * (dotZ a a).natAbs) = c at *
  generalize (dotZ d a).natAbs * (dotZ d a).natAbs * (dotZ b b).natAbs = pb at *
  generalize (dotZ d b).natAbs * (dotZ d b).natAbs * (dotZ a a).natAbs = qa at *
  generalize (dotZ d a).natAbs * (dotZ d a).natAbs = pp at *
  generalize (dotZ d b).natAbs * (dotZ d b).natAbs = qq at *
  generalize dotZ d a = p at *
  generalize dotZ d b = q at *
  generalize (dotZ b b).natAbs = bb at *
  generalize (dotZ a a).natAbs = aa at *
  have u1 : decide (0 ≤ p) = true := decide_eq_true hp
  have u2 : decide (p < 0) = false := decide_eq_false (by omega)
  have u3 : decide (0 ≤ q) = false := decide_eq_false (by omega)
  have u4 : decide (q < 0) = true := decide_eq_true hq
  unfold drV at *
  go_enter Tryz.func47, Tryz.ntmps47
  go_upto_region 1 with (fail)
  refine seal_wp fun W hW => ?_
  have K3 := Lib.hid (show Known W w.heap.size #[.int .i64 d.x, .int .i64 d.y, .int .i64 d.z] by rw [hW.out]; exact ((Known.new w _ _).alloc _).alloc _)
  have K4 := Lib.hid (show Known W (w.heap.size + 1) #[.int .i64 a.x, .int .i64 a.y, .int .i64 a.z] by rw [hW.out]; exact (Known.new' (by simp)).alloc _)
  have K5 := Lib.hid (show Known W (w.heap.size + 1 + 1) #[.int .i64 b.x, .int .i64 b.y, .int .i64 b.z] by rw [hW.out]; exact Known.new' (by simp))
  have BW := Lib.hid (show Below w.heap.size w W by rw [hW.out]; exact grow_alloc (grow_alloc (grow_alloc (grow_refl w) _) _) _)
  clear hW
  generalize w.heap.size + 1 + 1 = b5 at *
  generalize w.heap.size + 1 = b4 at *
  generalize hb3 : w.heap.size = b3 at K3 ⊢
  have c30 := K3.out.cell 0
  have c31 := K3.out.cell 1
  have c32 := K3.out.cell 2
  have l3 := K3.out.lt
  have c40 := K4.out.cell 0
  have c41 := K4.out.cell 1
  have c42 := K4.out.cell 2
  have l4 := K4.out.lt
  have c50 := K5.out.cell 0
  have c51 := K5.out.cell 1
  have c52 := K5.out.cell 2
  have l5 := K5.out.lt
  simp only [List.getElem?_toArray, List.getElem?_cons_zero, List.getElem?_cons_succ] at c30 c31 c32 c40 c41 c42 c50 c51 c52
  have SS := Lib.hid (fun X (hX : Below W.heap.size W X) => (show X.cell? ⟨b3, 0, none⟩ = some (.int .i64 d.x) ∧ X.cell? ⟨b3, 1, none⟩ = some (.int .i64 d.y) ∧ X.cell? ⟨b3, 2, none⟩ = some (.int .i64 d.z) ∧ X.cell? ⟨b4, 0, none⟩ = some (.int .i64 a.x) ∧ X.cell? ⟨b4, 1, none⟩ = some (.int .i64 a.y) ∧ X.cell? ⟨b4, 2, none⟩ = some (.int .i64 a.z) ∧ X.cell? ⟨b5, 0, none⟩ = some (.int .i64 b.x) ∧ X.cell? ⟨b5, 1, none⟩ = some (.int .i64 b.y) ∧ X.cell? ⟨b5, 2, none⟩ = some (.int .i64 b.z) ∧ b3 < X.heap.size ∧ b4 < X.heap.size ∧ b5 < X.heap.size from ⟨(K3.out.below hX).cell 0, (K3.out.below hX).cell 1, (K3.out.below hX).cell 2, (K4.out.below hX).cell 0, (K4.out.below hX).cell 1, (K4.out.below hX).cell 2, (K5.out.below hX).cell 0, (K5.out.below hX).cell 1, (K5.out.below hX).cell 2, (K3.out.below hX).lt, (K4.out.below hX).lt, (K5.out.below hX).lt⟩))
  go_upto_region 2 with (go_at_call 48; (with_reducible refine (DA.out _).mono ?_); rintro e1 w1 ⟨rfl, hb⟩; have B1 := Lib.hid (grow_trans (by (repeat (with_reducible first | exact grow_refl _ | exact B12.out | exact B11.out | exact B10.out | exact B9.out | exact B8.out | exact B7.out | exact B6.out | exact B5.out | exact B4.out | exact B3.out | exact B2.out | exact B1.out | refine Grow.grow_drewN ?_ _ | refine Grow.grow_drew ?_ | refine Grow.grow_alloc ?_ _))) hb : Below W.heap.size W w1); clear hb)
  clear c30 c31 c32 c40 c41 c42 c50 c51 c52 l3 l4 l5
  obtain ⟨c30, c31, c32, c40, c41, c42, c50, c51, c52, l3, l4, l5⟩ := SS.out w1 B1.out
  go_upto_region 3 with (go_at_call 48; (with_reducible refine (DB.out _).mono ?_); rintro e2 w2 ⟨rfl, hb⟩; have B2 := Lib.hid (grow_trans B1.out hb); clear hb)
  go_wp2
  go_ret
  exact ⟨rfl, grow_trans BW.out B2.out⟩
set_option maxRecDepth 100000 in
set_option maxHeartbeats 16000000 in
theorem nearerR_np (d a b : Dr) (hd : Sm d) (ha : Sm a) (hb : Sm b) (hp : dotZ d a < 0) (hq : 0 ≤ dotZ d b) (w : World) :
    Calls Tryz.prog 47 #[drV d, drV a, drV b] w fun e' w' => e' = .returned (.int .i64 ((-1))) ∧ Below w.heap.size w w' := by
  have DA := Lib.hid (fun X => rdot_walk d a hd ha X)
  have DB := Lib.hid (fun X => rdot_walk d b hd hb X)
  have BB := Lib.hid (fun X => selfdot_walk b hb X)
  have AA := Lib.hid (fun X => selfdot_walk a ha X)
  have i1 := dot_small hd ha
  have i2 := dot_small hd hb
  have i3 := dot_small hb hb
  have i4 := dot_small ha ha
  have SA := Lib.hid (fun X => square_walk (dotZ d a) (by omega) X)
  have SB := Lib.hid (fun X => square_walk (dotZ d b) (by omega) X)
  have OB := Lib.hid (fun X => bigOf_walk (dotZ b b).natAbs (by omega) X)
  have OA := Lib.hid (fun X => bigOf_walk (dotZ a a).natAbs (by omega) X)
  have MA := Lib.hid (fun r1 r2 c1 c2 X h1 h2 => dgMul_walk r1 r2 ((dotZ d a).natAbs * (dotZ d a).natAbs) (dotZ b b).natAbs c1 c2 X (by have := size_bound i1; omega) (by omega) h1 h2)
  have MB := Lib.hid (fun r1 r2 c1 c2 X h1 h2 => dgMul_walk r1 r2 ((dotZ d b).natAbs * (dotZ d b).natAbs) (dotZ a a).natAbs c1 c2 X (by have := size_bound i2; omega) (by omega) h1 h2)
  have CM := Lib.hid (fun r1 r2 c1 c2 X h1 h2 => dgCmp_walk r1 r2 ((dotZ d a).natAbs * (dotZ d a).natAbs * (dotZ b b).natAbs) ((dotZ d b).natAbs * (dotZ d b).natAbs * (dotZ a a).natAbs) c1 c2 X (prod_bound i1 i3) (prod_bound i2 i4) h1 h2)
  have HR := Lib.hid (cmpN_range3 ((dotZ d a).natAbs * (dotZ d a).natAbs * (dotZ b b).natAbs) ((dotZ d b).natAbs * (dotZ d b).natAbs * (dotZ a a).natAbs))
  clear i1 i2 i3 i4 hd ha hb
  generalize cmpN ((dotZ d a).natAbs * (dotZ d a).natAbs * (dotZ b b).natAbs) ((dotZ d b).natAbs * (dotZ d b).natAbs * (dotZ a a).natAbs) = c at *
  generalize (dotZ d a).natAbs * (dotZ d a).natAbs * (dotZ b b).natAbs = pb at *
  generalize (dotZ d b).natAbs * (dotZ d b).natAbs * (dotZ a a).natAbs = qa at *
  generalize (dotZ d a).natAbs * (dotZ d a).natAbs = pp at *
  generalize (dotZ d b).natAbs * (dotZ d b).natAbs = qq at *
  generalize dotZ d a = p at *
  generalize dotZ d b = q at *
  generalize (dotZ b b).natAbs = bb at *
  generalize (dotZ a a).natAbs = aa at *
  have u1 : decide (0 ≤ p) = false := decide_eq_false (by omega)
  have u2 : decide (p < 0) = true := decide_eq_true hp
  have u3 : decide (0 ≤ q) = true := decide_eq_true hq
  have u4 : decide (q < 0) = false := decide_eq_false (by omega)
  unfold drV at *
  go_enter Tryz.func47, Tryz.ntmps47
  go_upto_region 1 with (fail)
  refine seal_wp fun W hW => ?_
  have K3 := Lib.hid (show Known W w.heap.size #[.int .i64 d.x, .int .i64 d.y, .int .i64 d.z] by rw [hW.out]; exact ((Known.new w _ _).alloc _).alloc _)
  have K4 := Lib.hid (show Known W (w.heap.size + 1) #[.int .i64 a.x, .int .i64 a.y, .int .i64 a.z] by rw [hW.out]; exact (Known.new' (by simp)).alloc _)
  have K5 := Lib.hid (show Known W (w.heap.size + 1 + 1) #[.int .i64 b.x, .int .i64 b.y, .int .i64 b.z] by rw [hW.out]; exact Known.new' (by simp))
  have BW := Lib.hid (show Below w.heap.size w W by rw [hW.out]; exact grow_alloc (grow_alloc (grow_alloc (grow_refl w) _) _) _)
  clear hW
  generalize w.heap.size + 1 + 1 = b5 at *
  generalize w.heap.size + 1 = b4 at *
  generalize hb3 : w.heap.size = b3 at K3 ⊢
  have c30 := K3.out.cell 0
  have c31 := K3.out.cell 1
  have c32 := K3.out.cell 2
  have l3 := K3.out.lt
  have c40 := K4.out.cell 0
  have c41 := K4.out.cell 1
  have c42 := K4.out.cell 2
  have l4 := K4.out.lt
  have c50 := K5.out.cell 0
  have c51 := K5.out.cell 1
  have c52 := K5.out.cell 2
  have l5 := K5.out.lt
  simp only [List.getElem?_toArray, List.getElem?_cons_zero, List.getElem?_cons_succ] at c30 c31 c32 c40 c41 c42 c50 c51 c52
  have SS := Lib.hid (fun X (hX : Below W.heap.size W X) => (show X.cell? ⟨b3, 0, none⟩ = some (.int .i64 d.x) ∧ X.cell? ⟨b3, 1, none⟩ = some (.int .i64 d.y) ∧ X.cell? ⟨b3, 2, none⟩ = some (.int .i64 d.z) ∧ X.cell? ⟨b4, 0, none⟩ = some (.int .i64 a.x) ∧ X.cell? ⟨b4, 1, none⟩ = some (.int .i64 a.y) ∧ X.cell? ⟨b4, 2, none⟩ = some (.int .i64 a.z) ∧ X.cell? ⟨b5, 0, none⟩ = some (.int .i64 b.x) ∧ X.cell? ⟨b5, 1, none⟩ = some (.int .i64 b.y) ∧ X.cell? ⟨b5, 2, none⟩ = some (.int .i64 b.z) ∧ b3 < X.heap.size ∧ b4 < X.heap.size ∧ b5 < X.heap.size from ⟨(K3.out.below hX).cell 0, (K3.out.below hX).cell 1, (K3.out.below hX).cell 2, (K4.out.below hX).cell 0, (K4.out.below hX).cell 1, (K4.out.below hX).cell 2, (K5.out.below hX).cell 0, (K5.out.below hX).cell 1, (K5.out.below hX).cell 2, (K3.out.below hX).lt, (K4.out.below hX).lt, (K5.out.below hX).lt⟩))
  go_upto_region 2 with (go_at_call 48; (with_reducible refine (DA.out _).mono ?_); rintro e1 w1 ⟨rfl, hb⟩; have B1 := Lib.hid (grow_trans (by (repeat (with_reducible first | exact grow_refl _ | exact B12.out | exact B11.out | exact B10.out | exact B9.out | exact B8.out | exact B7.out | exact B6.out | exact B5.out | exact B4.out | exact B3.out | exact B2.out | exact B1.out | refine Grow.grow_drewN ?_ _ | refine Grow.grow_drew ?_ | refine Grow.grow_alloc ?_ _))) hb : Below W.heap.size W w1); clear hb)
  clear c30 c31 c32 c40 c41 c42 c50 c51 c52 l3 l4 l5
  obtain ⟨c30, c31, c32, c40, c41, c42, c50, c51, c52, l3, l4, l5⟩ := SS.out w1 B1.out
  go_upto_region 3 with (go_at_call 48; (with_reducible refine (DB.out _).mono ?_); rintro e2 w2 ⟨rfl, hb⟩; have B2 := Lib.hid (grow_trans B1.out hb); clear hb)
  go_wp2
  go_ret
  exact ⟨rfl, grow_trans BW.out B2.out⟩
set_option maxRecDepth 100000 in
set_option maxHeartbeats 16000000 in
theorem nearerR_pp (d a b : Dr) (hd : Sm d) (ha : Sm a) (hb : Sm b) (hp : 0 ≤ dotZ d a) (hq : 0 ≤ dotZ d b) (w : World) :
    Calls Tryz.prog 47 #[drV d, drV a, drV b] w fun e' w' => e' = .returned (.int .i64 (cmpN ((dotZ d a).natAbs * (dotZ d a).natAbs * (dotZ b b).natAbs) ((dotZ d b).natAbs * (dotZ d b).natAbs * (dotZ a a).natAbs))) ∧ Below w.heap.size w w' := by
  have DA := Lib.hid (fun X => rdot_walk d a hd ha X)
  have DB := Lib.hid (fun X => rdot_walk d b hd hb X)
  have BB := Lib.hid (fun X => selfdot_walk b hb X)
  have AA := Lib.hid (fun X => selfdot_walk a ha X)
  have i1 := dot_small hd ha
  have i2 := dot_small hd hb
  have i3 := dot_small hb hb
  have i4 := dot_small ha ha
  have SA := Lib.hid (fun X => square_walk (dotZ d a) (by omega) X)
  have SB := Lib.hid (fun X => square_walk (dotZ d b) (by omega) X)
  have OB := Lib.hid (fun X => bigOf_walk (dotZ b b).natAbs (by omega) X)
  have OA := Lib.hid (fun X => bigOf_walk (dotZ a a).natAbs (by omega) X)
  have MA := Lib.hid (fun r1 r2 c1 c2 X h1 h2 => dgMul_walk r1 r2 ((dotZ d a).natAbs * (dotZ d a).natAbs) (dotZ b b).natAbs c1 c2 X (by have := size_bound i1; omega) (by omega) h1 h2)
  have MB := Lib.hid (fun r1 r2 c1 c2 X h1 h2 => dgMul_walk r1 r2 ((dotZ d b).natAbs * (dotZ d b).natAbs) (dotZ a a).natAbs c1 c2 X (by have := size_bound i2; omega) (by omega) h1 h2)
  have CM := Lib.hid (fun r1 r2 c1 c2 X h1 h2 => dgCmp_walk r1 r2 ((dotZ d a).natAbs * (dotZ d a).natAbs * (dotZ b b).natAbs) ((dotZ d b).natAbs * (dotZ d b).natAbs * (dotZ a a).natAbs) c1 c2 X (prod_bound i1 i3) (prod_bound i2 i4) h1 h2)
  have HR := Lib.hid (cmpN_range3 ((dotZ d a).natAbs * (dotZ d a).natAbs * (dotZ b b).natAbs) ((dotZ d b).natAbs * (dotZ d b).natAbs * (dotZ a a).natAbs))
  clear i1 i2 i3 i4 hd ha hb
  generalize cmpN ((dotZ d a).natAbs * (dotZ d a).natAbs * (dotZ b b).natAbs) ((dotZ d b).natAbs * (dotZ d b).natAbs * (dotZ a a).natAbs) = c at *
  generalize (dotZ d a).natAbs * (dotZ d a).natAbs * (dotZ b b).natAbs = pb at *
  generalize (dotZ d b).natAbs * (dotZ d b).natAbs * (dotZ a a).natAbs = qa at *
  generalize (dotZ d a).natAbs * (dotZ d a).natAbs = pp at *
  generalize (dotZ d b).natAbs * (dotZ d b).natAbs = qq at *
  generalize dotZ d a = p at *
  generalize dotZ d b = q at *
  generalize (dotZ b b).natAbs = bb at *
  generalize (dotZ a a).natAbs = aa at *
  have u1 : decide (0 ≤ p) = true := decide_eq_true hp
  have u2 : decide (p < 0) = false := decide_eq_false (by omega)
  have u3 : decide (0 ≤ q) = true := decide_eq_true hq
  have u4 : decide (q < 0) = false := decide_eq_false (by omega)
  unfold drV at *
  go_enter Tryz.func47, Tryz.ntmps47
  go_upto_region 1 with (fail)
  refine seal_wp fun W hW => ?_
  have K3 := Lib.hid (show Known W w.heap.size #[.int .i64 d.x, .int .i64 d.y, .int .i64 d.z] by rw [hW.out]; exact ((Known.new w _ _).alloc _).alloc _)
  have K4 := Lib.hid (show Known W (w.heap.size + 1) #[.int .i64 a.x, .int .i64 a.y, .int .i64 a.z] by rw [hW.out]; exact (Known.new' (by simp)).alloc _)
  have K5 := Lib.hid (show Known W (w.heap.size + 1 + 1) #[.int .i64 b.x, .int .i64 b.y, .int .i64 b.z] by rw [hW.out]; exact Known.new' (by simp))
  have BW := Lib.hid (show Below w.heap.size w W by rw [hW.out]; exact grow_alloc (grow_alloc (grow_alloc (grow_refl w) _) _) _)
  clear hW
  generalize w.heap.size + 1 + 1 = b5 at *
  generalize w.heap.size + 1 = b4 at *
  generalize hb3 : w.heap.size = b3 at K3 ⊢
  have c30 := K3.out.cell 0
  have c31 := K3.out.cell 1
  have c32 := K3.out.cell 2
  have l3 := K3.out.lt
  have c40 := K4.out.cell 0
  have c41 := K4.out.cell 1
  have c42 := K4.out.cell 2
  have l4 := K4.out.lt
  have c50 := K5.out.cell 0
  have c51 := K5.out.cell 1
  have c52 := K5.out.cell 2
  have l5 := K5.out.lt
  simp only [List.getElem?_toArray, List.getElem?_cons_zero, List.getElem?_cons_succ] at c30 c31 c32 c40 c41 c42 c50 c51 c52
  have SS := Lib.hid (fun X (hX : Below W.heap.size W X) => (show X.cell? ⟨b3, 0, none⟩ = some (.int .i64 d.x) ∧ X.cell? ⟨b3, 1, none⟩ = some (.int .i64 d.y) ∧ X.cell? ⟨b3, 2, none⟩ = some (.int .i64 d.z) ∧ X.cell? ⟨b4, 0, none⟩ = some (.int .i64 a.x) ∧ X.cell? ⟨b4, 1, none⟩ = some (.int .i64 a.y) ∧ X.cell? ⟨b4, 2, none⟩ = some (.int .i64 a.z) ∧ X.cell? ⟨b5, 0, none⟩ = some (.int .i64 b.x) ∧ X.cell? ⟨b5, 1, none⟩ = some (.int .i64 b.y) ∧ X.cell? ⟨b5, 2, none⟩ = some (.int .i64 b.z) ∧ b3 < X.heap.size ∧ b4 < X.heap.size ∧ b5 < X.heap.size from ⟨(K3.out.below hX).cell 0, (K3.out.below hX).cell 1, (K3.out.below hX).cell 2, (K4.out.below hX).cell 0, (K4.out.below hX).cell 1, (K4.out.below hX).cell 2, (K5.out.below hX).cell 0, (K5.out.below hX).cell 1, (K5.out.below hX).cell 2, (K3.out.below hX).lt, (K4.out.below hX).lt, (K5.out.below hX).lt⟩))
  go_upto_region 2 with (go_at_call 48; (with_reducible refine (DA.out _).mono ?_); rintro e1 w1 ⟨rfl, hb⟩; have B1 := Lib.hid (grow_trans (by (repeat (with_reducible first | exact grow_refl _ | exact B12.out | exact B11.out | exact B10.out | exact B9.out | exact B8.out | exact B7.out | exact B6.out | exact B5.out | exact B4.out | exact B3.out | exact B2.out | exact B1.out | refine Grow.grow_drewN ?_ _ | refine Grow.grow_drew ?_ | refine Grow.grow_alloc ?_ _))) hb : Below W.heap.size W w1); clear hb)
  clear c30 c31 c32 c40 c41 c42 c50 c51 c52 l3 l4 l5
  obtain ⟨c30, c31, c32, c40, c41, c42, c50, c51, c52, l3, l4, l5⟩ := SS.out w1 B1.out
  go_upto_region 3 with (go_at_call 48; (with_reducible refine (DB.out _).mono ?_); rintro e2 w2 ⟨rfl, hb⟩; have B2 := Lib.hid (grow_trans B1.out hb); clear hb)
  clear c30 c31 c32 c40 c41 c42 c50 c51 c52 l3 l4 l5
  obtain ⟨c30, c31, c32, c40, c41, c42, c50, c51, c52, l3, l4, l5⟩ := SS.out w2 B2.out
  go_upto_region 7 with (fail)
  go_region_held3 (fun X => X.cell? ⟨b3, 0, none⟩ = some (.int .i64 d.x) ∧ X.cell? ⟨b3, 1, none⟩ = some (.int .i64 d.y) ∧ X.cell? ⟨b3, 2, none⟩ = some (.int .i64 d.z) ∧ X.cell? ⟨b4, 0, none⟩ = some (.int .i64 a.x) ∧ X.cell? ⟨b4, 1, none⟩ = some (.int .i64 a.y) ∧ X.cell? ⟨b4, 2, none⟩ = some (.int .i64 a.z) ∧ X.cell? ⟨b5, 0, none⟩ = some (.int .i64 b.x) ∧ X.cell? ⟨b5, 1, none⟩ = some (.int .i64 b.y) ∧ X.cell? ⟨b5, 2, none⟩ = some (.int .i64 b.z) ∧ b3 < X.heap.size ∧ b4 < X.heap.size ∧ b5 < X.heap.size) (exact SS.out _ (by (repeat (with_reducible first | exact grow_refl _ | exact B12.out | exact B11.out | exact B10.out | exact B9.out | exact B8.out | exact B7.out | exact B6.out | exact B5.out | exact B4.out | exact B3.out | exact B2.out | exact B1.out | refine Grow.grow_drewN ?_ _ | refine Grow.grow_drew ?_ | refine Grow.grow_alloc ?_ _))))
    (first
    | (go_at_call 50; (with_reducible refine (SA.out _).mono ?_); rintro e3 w3 ⟨r3, k3, rfl, h3, hb⟩; have B3 := Lib.hid (grow_trans (by (repeat (with_reducible first | exact grow_refl _ | exact B12.out | exact B11.out | exact B10.out | exact B9.out | exact B8.out | exact B7.out | exact B6.out | exact B5.out | exact B4.out | exact B3.out | exact B2.out | exact B1.out | refine Grow.grow_drewN ?_ _ | refine Grow.grow_drew ?_ | refine Grow.grow_alloc ?_ _))) hb : Below W.heap.size W w3); have D3 := Lib.hid h3; clear h3 hb)
    | (go_at_call 48; (with_reducible refine (BB.out _).mono ?_); rintro e4 w4 ⟨rfl, hb⟩; have B4 := Lib.hid (grow_trans (by (repeat (with_reducible first | exact grow_refl _ | exact B12.out | exact B11.out | exact B10.out | exact B9.out | exact B8.out | exact B7.out | exact B6.out | exact B5.out | exact B4.out | exact B3.out | exact B2.out | exact B1.out | refine Grow.grow_drewN ?_ _ | refine Grow.grow_drew ?_ | refine Grow.grow_alloc ?_ _))) hb : Below W.heap.size W w4); have D4 := Lib.hid (D3.out.below hb); clear hb)
    | (go_at_call 51; (with_reducible refine (OB.out _).mono ?_); rintro e5 w5 ⟨r5, k5, rfl, h5, hb⟩; have B5 := Lib.hid (grow_trans (by (repeat (with_reducible first | exact grow_refl _ | exact B12.out | exact B11.out | exact B10.out | exact B9.out | exact B8.out | exact B7.out | exact B6.out | exact B5.out | exact B4.out | exact B3.out | exact B2.out | exact B1.out | refine Grow.grow_drewN ?_ _ | refine Grow.grow_drew ?_ | refine Grow.grow_alloc ?_ _))) hb : Below W.heap.size W w5); have D5 := Lib.hid (D4.out.below hb); have F5 := Lib.hid h5; clear h5 hb)
    | (go_at_call 49; (with_reducible refine (MA.out _ _ _ _ _ D5.out F5.out).mono ?_); rintro e6 w6 ⟨r6, k6, rfl, h6, hb⟩; have B6 := Lib.hid (grow_trans (by (repeat (with_reducible first | exact grow_refl _ | exact B12.out | exact B11.out | exact B10.out | exact B9.out | exact B8.out | exact B7.out | exact B6.out | exact B5.out | exact B4.out | exact B3.out | exact B2.out | exact B1.out | refine Grow.grow_drewN ?_ _ | refine Grow.grow_drew ?_ | refine Grow.grow_alloc ?_ _))) hb : Below W.heap.size W w6); have D6 := Lib.hid h6; clear h6 hb))
  go_upto_region 8 with (fail)
  clear c30 c31 c32 c40 c41 c42 c50 c51 c52 l3 l4 l5
  obtain ⟨c30, c31, c32, c40, c41, c42, c50, c51, c52, l3, l4, l5⟩ := SS.out w6 B6.out
  go_region_held3 (fun X => X.cell? ⟨b3, 0, none⟩ = some (.int .i64 d.x) ∧ X.cell? ⟨b3, 1, none⟩ = some (.int .i64 d.y) ∧ X.cell? ⟨b3, 2, none⟩ = some (.int .i64 d.z) ∧ X.cell? ⟨b4, 0, none⟩ = some (.int .i64 a.x) ∧ X.cell? ⟨b4, 1, none⟩ = some (.int .i64 a.y) ∧ X.cell? ⟨b4, 2, none⟩ = some (.int .i64 a.z) ∧ X.cell? ⟨b5, 0, none⟩ = some (.int .i64 b.x) ∧ X.cell? ⟨b5, 1, none⟩ = some (.int .i64 b.y) ∧ X.cell? ⟨b5, 2, none⟩ = some (.int .i64 b.z) ∧ b3 < X.heap.size ∧ b4 < X.heap.size ∧ b5 < X.heap.size) (exact SS.out _ (by (repeat (with_reducible first | exact grow_refl _ | exact B12.out | exact B11.out | exact B10.out | exact B9.out | exact B8.out | exact B7.out | exact B6.out | exact B5.out | exact B4.out | exact B3.out | exact B2.out | exact B1.out | refine Grow.grow_drewN ?_ _ | refine Grow.grow_drew ?_ | refine Grow.grow_alloc ?_ _))))
    (first
    | (go_at_call 50; (with_reducible refine (SB.out _).mono ?_); rintro e7 w7 ⟨r7, k7, rfl, h7, hb⟩; have B7 := Lib.hid (grow_trans (by (repeat (with_reducible first | exact grow_refl _ | exact B12.out | exact B11.out | exact B10.out | exact B9.out | exact B8.out | exact B7.out | exact B6.out | exact B5.out | exact B4.out | exact B3.out | exact B2.out | exact B1.out | refine Grow.grow_drewN ?_ _ | refine Grow.grow_drew ?_ | refine Grow.grow_alloc ?_ _))) hb : Below W.heap.size W w7); have D7 := Lib.hid h7; have E7 := Lib.hid (D6.out.below (grow_trans (by (repeat (with_reducible first | exact grow_refl _ | refine Grow.grow_drewN ?_ _ | refine Grow.grow_drew ?_))) hb)); clear h7 hb)
    | (go_at_call 48; (with_reducible refine (AA.out _).mono ?_); rintro e8 w8 ⟨rfl, hb⟩; have B8 := Lib.hid (grow_trans (by (repeat (with_reducible first | exact grow_refl _ | exact B12.out | exact B11.out | exact B10.out | exact B9.out | exact B8.out | exact B7.out | exact B6.out | exact B5.out | exact B4.out | exact B3.out | exact B2.out | exact B1.out | refine Grow.grow_drewN ?_ _ | refine Grow.grow_drew ?_ | refine Grow.grow_alloc ?_ _))) hb : Below W.heap.size W w8); have D8 := Lib.hid (D7.out.below hb); have E8 := Lib.hid (E7.out.below hb); clear hb)
    | (go_at_call 51; (with_reducible refine (OA.out _).mono ?_); rintro e9 w9 ⟨r9, k9, rfl, h9, hb⟩; have B9 := Lib.hid (grow_trans (by (repeat (with_reducible first | exact grow_refl _ | exact B12.out | exact B11.out | exact B10.out | exact B9.out | exact B8.out | exact B7.out | exact B6.out | exact B5.out | exact B4.out | exact B3.out | exact B2.out | exact B1.out | refine Grow.grow_drewN ?_ _ | refine Grow.grow_drew ?_ | refine Grow.grow_alloc ?_ _))) hb : Below W.heap.size W w9); have D9 := Lib.hid (D8.out.below hb); have E9 := Lib.hid (E8.out.below hb); have F9 := Lib.hid h9; clear h9 hb)
    | (go_at_call 49; (with_reducible refine (MB.out _ _ _ _ _ D9.out F9.out).mono ?_); rintro e10 w10 ⟨r10, k10, rfl, h10, hb⟩; have B10 := Lib.hid (grow_trans (by (repeat (with_reducible first | exact grow_refl _ | exact B12.out | exact B11.out | exact B10.out | exact B9.out | exact B8.out | exact B7.out | exact B6.out | exact B5.out | exact B4.out | exact B3.out | exact B2.out | exact B1.out | refine Grow.grow_drewN ?_ _ | refine Grow.grow_drew ?_ | refine Grow.grow_alloc ?_ _))) hb : Below W.heap.size W w10); have D10 := Lib.hid h10; have E10 := Lib.hid (E9.out.below hb); clear h10 hb))
  have hw : wrap64 (-c) = -c := by have := HR.out; simp only [wrap64]; omega
  go_wp2_with (go_at_call 52; (with_reducible refine (CM.out _ _ _ _ _ E10.out D10.out).mono ?_); rintro e11 w11 ⟨rfl, hb⟩; have B11 := Lib.hid (grow_trans B10.out hb); clear hb)
  go_ret
  exact ⟨rfl, grow_trans BW.out B11.out⟩
set_option maxRecDepth 100000 in
set_option maxHeartbeats 16000000 in
theorem nearerR_nn (d a b : Dr) (hd : Sm d) (ha : Sm a) (hb : Sm b) (hp : dotZ d a < 0) (hq : dotZ d b < 0) (w : World) :
    Calls Tryz.prog 47 #[drV d, drV a, drV b] w fun e' w' => e' = .returned (.int .i64 (-(cmpN ((dotZ d a).natAbs * (dotZ d a).natAbs * (dotZ b b).natAbs) ((dotZ d b).natAbs * (dotZ d b).natAbs * (dotZ a a).natAbs)))) ∧ Below w.heap.size w w' := by
  have DA := Lib.hid (fun X => rdot_walk d a hd ha X)
  have DB := Lib.hid (fun X => rdot_walk d b hd hb X)
  have BB := Lib.hid (fun X => selfdot_walk b hb X)
  have AA := Lib.hid (fun X => selfdot_walk a ha X)
  have i1 := dot_small hd ha
  have i2 := dot_small hd hb
  have i3 := dot_small hb hb
  have i4 := dot_small ha ha
  have SA := Lib.hid (fun X => square_walk (dotZ d a) (by omega) X)
  have SB := Lib.hid (fun X => square_walk (dotZ d b) (by omega) X)
  have OB := Lib.hid (fun X => bigOf_walk (dotZ b b).natAbs (by omega) X)
  have OA := Lib.hid (fun X => bigOf_walk (dotZ a a).natAbs (by omega) X)
  have MA := Lib.hid (fun r1 r2 c1 c2 X h1 h2 => dgMul_walk r1 r2 ((dotZ d a).natAbs * (dotZ d a).natAbs) (dotZ b b).natAbs c1 c2 X (by have := size_bound i1; omega) (by omega) h1 h2)
  have MB := Lib.hid (fun r1 r2 c1 c2 X h1 h2 => dgMul_walk r1 r2 ((dotZ d b).natAbs * (dotZ d b).natAbs) (dotZ a a).natAbs c1 c2 X (by have := size_bound i2; omega) (by omega) h1 h2)
  have CM := Lib.hid (fun r1 r2 c1 c2 X h1 h2 => dgCmp_walk r1 r2 ((dotZ d a).natAbs * (dotZ d a).natAbs * (dotZ b b).natAbs) ((dotZ d b).natAbs * (dotZ d b).natAbs * (dotZ a a).natAbs) c1 c2 X (prod_bound i1 i3) (prod_bound i2 i4) h1 h2)
  have HR := Lib.hid (cmpN_range3 ((dotZ d a).natAbs * (dotZ d a).natAbs * (dotZ b b).natAbs) ((dotZ d b).natAbs * (dotZ d b).natAbs * (dotZ a a).natAbs))
  clear i1 i2 i3 i4 hd ha hb
  generalize cmpN ((dotZ d a).natAbs * (dotZ d a).natAbs * (dotZ b b).natAbs) ((dotZ d b).natAbs * (dotZ d b).natAbs * (dotZ a a).natAbs) = c at *
  generalize (dotZ d a).natAbs * (dotZ d a).natAbs * (dotZ b b).natAbs = pb at *
  generalize (dotZ d b).natAbs * (dotZ d b).natAbs * (dotZ a a).natAbs = qa at *
  generalize (dotZ d a).natAbs * (dotZ d a).natAbs = pp at *
  generalize (dotZ d b).natAbs * (dotZ d b).natAbs = qq at *
  generalize dotZ d a = p at *
  generalize dotZ d b = q at *
  generalize (dotZ b b).natAbs = bb at *
  generalize (dotZ a a).natAbs = aa at *
  have u1 : decide (0 ≤ p) = false := decide_eq_false (by omega)
  have u2 : decide (p < 0) = true := decide_eq_true hp
  have u3 : decide (0 ≤ q) = false := decide_eq_false (by omega)
  have u4 : decide (q < 0) = true := decide_eq_true hq
  unfold drV at *
  go_enter Tryz.func47, Tryz.ntmps47
  go_upto_region 1 with (fail)
  refine seal_wp fun W hW => ?_
  have K3 := Lib.hid (show Known W w.heap.size #[.int .i64 d.x, .int .i64 d.y, .int .i64 d.z] by rw [hW.out]; exact ((Known.new w _ _).alloc _).alloc _)
  have K4 := Lib.hid (show Known W (w.heap.size + 1) #[.int .i64 a.x, .int .i64 a.y, .int .i64 a.z] by rw [hW.out]; exact (Known.new' (by simp)).alloc _)
  have K5 := Lib.hid (show Known W (w.heap.size + 1 + 1) #[.int .i64 b.x, .int .i64 b.y, .int .i64 b.z] by rw [hW.out]; exact Known.new' (by simp))
  have BW := Lib.hid (show Below w.heap.size w W by rw [hW.out]; exact grow_alloc (grow_alloc (grow_alloc (grow_refl w) _) _) _)
  clear hW
  generalize w.heap.size + 1 + 1 = b5 at *
  generalize w.heap.size + 1 = b4 at *
  generalize hb3 : w.heap.size = b3 at K3 ⊢
  have c30 := K3.out.cell 0
  have c31 := K3.out.cell 1
  have c32 := K3.out.cell 2
  have l3 := K3.out.lt
  have c40 := K4.out.cell 0
  have c41 := K4.out.cell 1
  have c42 := K4.out.cell 2
  have l4 := K4.out.lt
  have c50 := K5.out.cell 0
  have c51 := K5.out.cell 1
  have c52 := K5.out.cell 2
  have l5 := K5.out.lt
  simp only [List.getElem?_toArray, List.getElem?_cons_zero, List.getElem?_cons_succ] at c30 c31 c32 c40 c41 c42 c50 c51 c52
  have SS := Lib.hid (fun X (hX : Below W.heap.size W X) => (show X.cell? ⟨b3, 0, none⟩ = some (.int .i64 d.x) ∧ X.cell? ⟨b3, 1, none⟩ = some (.int .i64 d.y) ∧ X.cell? ⟨b3, 2, none⟩ = some (.int .i64 d.z) ∧ X.cell? ⟨b4, 0, none⟩ = some (.int .i64 a.x) ∧ X.cell? ⟨b4, 1, none⟩ = some (.int .i64 a.y) ∧ X.cell? ⟨b4, 2, none⟩ = some (.int .i64 a.z) ∧ X.cell? ⟨b5, 0, none⟩ = some (.int .i64 b.x) ∧ X.cell? ⟨b5, 1, none⟩ = some (.int .i64 b.y) ∧ X.cell? ⟨b5, 2, none⟩ = some (.int .i64 b.z) ∧ b3 < X.heap.size ∧ b4 < X.heap.size ∧ b5 < X.heap.size from ⟨(K3.out.below hX).cell 0, (K3.out.below hX).cell 1, (K3.out.below hX).cell 2, (K4.out.below hX).cell 0, (K4.out.below hX).cell 1, (K4.out.below hX).cell 2, (K5.out.below hX).cell 0, (K5.out.below hX).cell 1, (K5.out.below hX).cell 2, (K3.out.below hX).lt, (K4.out.below hX).lt, (K5.out.below hX).lt⟩))
  go_upto_region 2 with (go_at_call 48; (with_reducible refine (DA.out _).mono ?_); rintro e1 w1 ⟨rfl, hb⟩; have B1 := Lib.hid (grow_trans (by (repeat (with_reducible first | exact grow_refl _ | exact B12.out | exact B11.out | exact B10.out | exact B9.out | exact B8.out | exact B7.out | exact B6.out | exact B5.out | exact B4.out | exact B3.out | exact B2.out | exact B1.out | refine Grow.grow_drewN ?_ _ | refine Grow.grow_drew ?_ | refine Grow.grow_alloc ?_ _))) hb : Below W.heap.size W w1); clear hb)
  clear c30 c31 c32 c40 c41 c42 c50 c51 c52 l3 l4 l5
  obtain ⟨c30, c31, c32, c40, c41, c42, c50, c51, c52, l3, l4, l5⟩ := SS.out w1 B1.out
  go_upto_region 3 with (go_at_call 48; (with_reducible refine (DB.out _).mono ?_); rintro e2 w2 ⟨rfl, hb⟩; have B2 := Lib.hid (grow_trans B1.out hb); clear hb)
  clear c30 c31 c32 c40 c41 c42 c50 c51 c52 l3 l4 l5
  obtain ⟨c30, c31, c32, c40, c41, c42, c50, c51, c52, l3, l4, l5⟩ := SS.out w2 B2.out
  go_upto_region 7 with (fail)
  go_region_held3 (fun X => X.cell? ⟨b3, 0, none⟩ = some (.int .i64 d.x) ∧ X.cell? ⟨b3, 1, none⟩ = some (.int .i64 d.y) ∧ X.cell? ⟨b3, 2, none⟩ = some (.int .i64 d.z) ∧ X.cell? ⟨b4, 0, none⟩ = some (.int .i64 a.x) ∧ X.cell? ⟨b4, 1, none⟩ = some (.int .i64 a.y) ∧ X.cell? ⟨b4, 2, none⟩ = some (.int .i64 a.z) ∧ X.cell? ⟨b5, 0, none⟩ = some (.int .i64 b.x) ∧ X.cell? ⟨b5, 1, none⟩ = some (.int .i64 b.y) ∧ X.cell? ⟨b5, 2, none⟩ = some (.int .i64 b.z) ∧ b3 < X.heap.size ∧ b4 < X.heap.size ∧ b5 < X.heap.size) (exact SS.out _ (by (repeat (with_reducible first | exact grow_refl _ | exact B12.out | exact B11.out | exact B10.out | exact B9.out | exact B8.out | exact B7.out | exact B6.out | exact B5.out | exact B4.out | exact B3.out | exact B2.out | exact B1.out | refine Grow.grow_drewN ?_ _ | refine Grow.grow_drew ?_ | refine Grow.grow_alloc ?_ _))))
    (first
    | (go_at_call 50; (with_reducible refine (SA.out _).mono ?_); rintro e3 w3 ⟨r3, k3, rfl, h3, hb⟩; have B3 := Lib.hid (grow_trans (by (repeat (with_reducible first | exact grow_refl _ | exact B12.out | exact B11.out | exact B10.out | exact B9.out | exact B8.out | exact B7.out | exact B6.out | exact B5.out | exact B4.out | exact B3.out | exact B2.out | exact B1.out | refine Grow.grow_drewN ?_ _ | refine Grow.grow_drew ?_ | refine Grow.grow_alloc ?_ _))) hb : Below W.heap.size W w3); have D3 := Lib.hid h3; clear h3 hb)
    | (go_at_call 48; (with_reducible refine (BB.out _).mono ?_); rintro e4 w4 ⟨rfl, hb⟩; have B4 := Lib.hid (grow_trans (by (repeat (with_reducible first | exact grow_refl _ | exact B12.out | exact B11.out | exact B10.out | exact B9.out | exact B8.out | exact B7.out | exact B6.out | exact B5.out | exact B4.out | exact B3.out | exact B2.out | exact B1.out | refine Grow.grow_drewN ?_ _ | refine Grow.grow_drew ?_ | refine Grow.grow_alloc ?_ _))) hb : Below W.heap.size W w4); have D4 := Lib.hid (D3.out.below hb); clear hb)
    | (go_at_call 51; (with_reducible refine (OB.out _).mono ?_); rintro e5 w5 ⟨r5, k5, rfl, h5, hb⟩; have B5 := Lib.hid (grow_trans (by (repeat (with_reducible first | exact grow_refl _ | exact B12.out | exact B11.out | exact B10.out | exact B9.out | exact B8.out | exact B7.out | exact B6.out | exact B5.out | exact B4.out | exact B3.out | exact B2.out | exact B1.out | refine Grow.grow_drewN ?_ _ | refine Grow.grow_drew ?_ | refine Grow.grow_alloc ?_ _))) hb : Below W.heap.size W w5); have D5 := Lib.hid (D4.out.below hb); have F5 := Lib.hid h5; clear h5 hb)
    | (go_at_call 49; (with_reducible refine (MA.out _ _ _ _ _ D5.out F5.out).mono ?_); rintro e6 w6 ⟨r6, k6, rfl, h6, hb⟩; have B6 := Lib.hid (grow_trans (by (repeat (with_reducible first | exact grow_refl _ | exact B12.out | exact B11.out | exact B10.out | exact B9.out | exact B8.out | exact B7.out | exact B6.out | exact B5.out | exact B4.out | exact B3.out | exact B2.out | exact B1.out | refine Grow.grow_drewN ?_ _ | refine Grow.grow_drew ?_ | refine Grow.grow_alloc ?_ _))) hb : Below W.heap.size W w6); have D6 := Lib.hid h6; clear h6 hb))
  go_upto_region 8 with (fail)
  clear c30 c31 c32 c40 c41 c42 c50 c51 c52 l3 l4 l5
  obtain ⟨c30, c31, c32, c40, c41, c42, c50, c51, c52, l3, l4, l5⟩ := SS.out w6 B6.out
  go_region_held3 (fun X => X.cell? ⟨b3, 0, none⟩ = some (.int .i64 d.x) ∧ X.cell? ⟨b3, 1, none⟩ = some (.int .i64 d.y) ∧ X.cell? ⟨b3, 2, none⟩ = some (.int .i64 d.z) ∧ X.cell? ⟨b4, 0, none⟩ = some (.int .i64 a.x) ∧ X.cell? ⟨b4, 1, none⟩ = some (.int .i64 a.y) ∧ X.cell? ⟨b4, 2, none⟩ = some (.int .i64 a.z) ∧ X.cell? ⟨b5, 0, none⟩ = some (.int .i64 b.x) ∧ X.cell? ⟨b5, 1, none⟩ = some (.int .i64 b.y) ∧ X.cell? ⟨b5, 2, none⟩ = some (.int .i64 b.z) ∧ b3 < X.heap.size ∧ b4 < X.heap.size ∧ b5 < X.heap.size) (exact SS.out _ (by (repeat (with_reducible first | exact grow_refl _ | exact B12.out | exact B11.out | exact B10.out | exact B9.out | exact B8.out | exact B7.out | exact B6.out | exact B5.out | exact B4.out | exact B3.out | exact B2.out | exact B1.out | refine Grow.grow_drewN ?_ _ | refine Grow.grow_drew ?_ | refine Grow.grow_alloc ?_ _))))
    (first
    | (go_at_call 50; (with_reducible refine (SB.out _).mono ?_); rintro e7 w7 ⟨r7, k7, rfl, h7, hb⟩; have B7 := Lib.hid (grow_trans (by (repeat (with_reducible first | exact grow_refl _ | exact B12.out | exact B11.out | exact B10.out | exact B9.out | exact B8.out | exact B7.out | exact B6.out | exact B5.out | exact B4.out | exact B3.out | exact B2.out | exact B1.out | refine Grow.grow_drewN ?_ _ | refine Grow.grow_drew ?_ | refine Grow.grow_alloc ?_ _))) hb : Below W.heap.size W w7); have D7 := Lib.hid h7; have E7 := Lib.hid (D6.out.below (grow_trans (by (repeat (with_reducible first | exact grow_refl _ | refine Grow.grow_drewN ?_ _ | refine Grow.grow_drew ?_))) hb)); clear h7 hb)
    | (go_at_call 48; (with_reducible refine (AA.out _).mono ?_); rintro e8 w8 ⟨rfl, hb⟩; have B8 := Lib.hid (grow_trans (by (repeat (with_reducible first | exact grow_refl _ | exact B12.out | exact B11.out | exact B10.out | exact B9.out | exact B8.out | exact B7.out | exact B6.out | exact B5.out | exact B4.out | exact B3.out | exact B2.out | exact B1.out | refine Grow.grow_drewN ?_ _ | refine Grow.grow_drew ?_ | refine Grow.grow_alloc ?_ _))) hb : Below W.heap.size W w8); have D8 := Lib.hid (D7.out.below hb); have E8 := Lib.hid (E7.out.below hb); clear hb)
    | (go_at_call 51; (with_reducible refine (OA.out _).mono ?_); rintro e9 w9 ⟨r9, k9, rfl, h9, hb⟩; have B9 := Lib.hid (grow_trans (by (repeat (with_reducible first | exact grow_refl _ | exact B12.out | exact B11.out | exact B10.out | exact B9.out | exact B8.out | exact B7.out | exact B6.out | exact B5.out | exact B4.out | exact B3.out | exact B2.out | exact B1.out | refine Grow.grow_drewN ?_ _ | refine Grow.grow_drew ?_ | refine Grow.grow_alloc ?_ _))) hb : Below W.heap.size W w9); have D9 := Lib.hid (D8.out.below hb); have E9 := Lib.hid (E8.out.below hb); have F9 := Lib.hid h9; clear h9 hb)
    | (go_at_call 49; (with_reducible refine (MB.out _ _ _ _ _ D9.out F9.out).mono ?_); rintro e10 w10 ⟨r10, k10, rfl, h10, hb⟩; have B10 := Lib.hid (grow_trans (by (repeat (with_reducible first | exact grow_refl _ | exact B12.out | exact B11.out | exact B10.out | exact B9.out | exact B8.out | exact B7.out | exact B6.out | exact B5.out | exact B4.out | exact B3.out | exact B2.out | exact B1.out | refine Grow.grow_drewN ?_ _ | refine Grow.grow_drew ?_ | refine Grow.grow_alloc ?_ _))) hb : Below W.heap.size W w10); have D10 := Lib.hid h10; have E10 := Lib.hid (E9.out.below hb); clear h10 hb))
  have hw : wrap64 (-c) = -c := by have := HR.out; simp only [wrap64]; omega
  go_wp2_with (go_at_call 52; (with_reducible refine (CM.out _ _ _ _ _ E10.out D10.out).mono ?_); rintro e11 w11 ⟨rfl, hb⟩; have B11 := Lib.hid (grow_trans B10.out hb); clear hb)
  go_ret
  refine ⟨?_, grow_trans BW.out B11.out⟩
  first
    | rfl
    | (show Ending.returned (.int .i64 (wrap64 (-c))) = _
       rw [hw])
theorem nearerR_walk (d a b : Dr) (hd : Sm d) (ha : Sm a) (hb : Sm b) (w : World) :
    Calls Tryz.prog 47 #[drV d, drV a, drV b] w fun e' w' => e' = .returned (.int .i64 (nearR d a b)) ∧ Below w.heap.size w w' := by
  unfold nearR
  by_cases h1 : 0 ≤ dotZ d a <;> by_cases h2 : 0 ≤ dotZ d b
  · rw [if_neg (by omega), if_neg (by omega), if_neg (by omega)]; exact nearerR_pp d a b hd ha hb h1 h2 w
  · rw [if_pos ⟨h1, by omega⟩]; exact nearerR_pn d a b hd ha hb h1 (by omega) w
  · rw [if_neg (by omega), if_pos ⟨by omega, h2⟩]; exact nearerR_np d a b hd ha hb (by omega) h2 w
  · rw [if_neg (by omega), if_neg (by omega), if_pos (by omega)]; exact nearerR_nn d a b hd ha hb (by omega) (by omega) w
end Go.Proofs.YtlnbeildplafbaaGreatDoor
