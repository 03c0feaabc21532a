/- Pairs of stars: which is nearer; whether two are within an angle. -/
import Derived.Test.YtlnbeildplafbaaGreatDoorAp1
import Derived.Deep.RegionHeld3
set_option linter.unusedSimpArgs false
set_option linter.unusedVariables false
namespace Go.Proofs.YtlnbeildplafbaaGreatDoor
open Go.RowKit Go.Grow Go.Wd Go.Atl

theorem IntAt.mono {B B' : Nat} {w : World} {p : Nat} {n : Int} (h : IntAt B w p n) (hb : B' ≤ B) : IntAt B' w p n := by
  obtain ⟨h0, v, h1, h2, h3⟩ := h
  exact ⟨by omega, v, h1, h2, fun k hk => ⟨by have := h3 k hk; omega, (h3 k hk).2⟩⟩
def I64 (x : Int) : Prop := -9223372036854775808 ≤ x ∧ x ≤ 9223372036854775807
theorem prod3_new (x y z : Int) (hx : I64 x) (hy : I64 y) (hz : I64 z) (W : World) :
    Calls Tryz.prog 79 #[.slice (some ⟨W.heap.size, 0, none⟩) 3 3] (W.alloc (.cells #[.int .i64 x, .int .i64 y, .int .i64 z] 3)) fun e w' => ∃ p, e = .returned (.pointer (some ⟨p, 0, none⟩)) ∧ IntAt W.heap.size w' p (x * y * z) ∧ Below W.heap.size W w' := by
  have K := Known.new W #[.int .i64 x, .int .i64 y, .int .i64 z] 3
  have h := atlasProd_walk (some ⟨W.heap.size, 0, none⟩) [x, y, z] 3 (W.alloc (.cells #[.int .i64 x, .int .i64 y, .int .i64 z] 3)) (by simp) (fun k hk => by
    match k, hk with
    | 0, _ => exact hx
    | 1, _ => exact hy
    | 2, _ => exact hz) (.inr ⟨W.heap.size, 0, rfl, fun k hk => by
    match k, hk with
    | 0, _ => exact K.cell 0
    | 1, _ => exact K.cell 1
    | 2, _ => exact K.cell 2⟩)
  rw [show prodI [x, y, z] = x * y * z by simp [prodI]] at h
  refine h.mono ?_
  rintro e w' ⟨p, he, hi, hb⟩
  exact ⟨p, he, hi.mono (by simp), grow_trans (grow_alloc (grow_refl W) _) hb⟩
theorem prod4_new (x y z u : Int) (hx : I64 x) (hy : I64 y) (hz : I64 z) (hu : I64 u) (W : World) :
    Calls Tryz.prog 79 #[.slice (some ⟨W.heap.size, 0, none⟩) 4 4] (W.alloc (.cells #[.int .i64 x, .int .i64 y, .int .i64 z, .int .i64 u] 3)) fun e w' => ∃ p, e = .returned (.pointer (some ⟨p, 0, none⟩)) ∧ IntAt W.heap.size w' p (x * y * z * u) ∧ Below W.heap.size W w' := by
  have K := Known.new W #[.int .i64 x, .int .i64 y, .int .i64 z, .int .i64 u] 3
  have h := atlasProd_walk (some ⟨W.heap.size, 0, none⟩) [x, y, z, u] 4 (W.alloc (.cells #[.int .i64 x, .int .i64 y, .int .i64 z, .int .i64 u] 3)) (by simp) (fun k hk => by
    match k, hk with
    | 0, _ => exact hx
    | 1, _ => exact hy
    | 2, _ => exact hz
    | 3, _ => exact hu) (.inr ⟨W.heap.size, 0, rfl, fun k hk => by
    match k, hk with
    | 0, _ => exact K.cell 0
    | 1, _ => exact K.cell 1
    | 2, _ => exact K.cell 2
    | 3, _ => exact K.cell 3⟩)
  rw [show prodI [x, y, z, u] = x * y * z * u by simp [prodI]] at h
  refine h.mono ?_
  rintro e w' ⟨p, he, hi, hb⟩
  exact ⟨p, he, hi.mono (by simp), grow_trans (grow_alloc (grow_refl W) _) hb⟩
theorem prod4_drew (x y z u : Int) (hx : I64 x) (hy : I64 y) (hz : I64 z) (hu : I64 u) (W : World) :
    Calls Tryz.prog 79 #[.slice (some ⟨W.heap.size, 0, none⟩) 4 4] (W.alloc (.cells #[.int .i64 x, .int .i64 y, .int .i64 z, .int .i64 u] 3)).drew fun e w' => ∃ p, e = .returned (.pointer (some ⟨p, 0, none⟩)) ∧ IntAt W.heap.size w' p (x * y * z * u) ∧ Below W.heap.size W w' :=
  (prod4_new x y z u hx hy hz hu W.drew).mono fun e w' ⟨p, h1, h2, h3⟩ => ⟨p, h1, h2, grow_trans (grow_drew (grow_refl W)) h3⟩
theorem dot_i64 {d e : Dr} (hd : Sm d) (he : Sm e) : I64 (dotZ d e) ∧ I64 ((dotZ d e).natAbs : Nat) := by
  have := dot_small hd he
  exact ⟨⟨by omega, by omega⟩, ⟨by omega, by omega⟩⟩
theorem words_small {x : Int} (h : x.natAbs < 18446744073709551616 ^ 4) : (dig x.natAbs).length ≤ 100000 := by
  have := dig_length_le _ 4 h
  omega
theorem mul3_words {x y z : Int} (hx : I64 x) (hy : I64 y) (hz : I64 z) : (dig (x * y * z).natAbs).length ≤ 100000 := by
  refine words_small ?_
  rw [Int.natAbs_mul, Int.natAbs_mul]
  obtain ⟨_, _⟩ := hx
  obtain ⟨_, _⟩ := hy
  obtain ⟨_, _⟩ := hz
  have h1 : x.natAbs * y.natAbs ≤ 9223372036854775808 * 9223372036854775808 := Nat.mul_le_mul (by omega) (by omega)
  have h2 : x.natAbs * y.natAbs * z.natAbs ≤ 9223372036854775808 * 9223372036854775808 * 9223372036854775808 := Nat.mul_le_mul h1 (by omega)
  omega
theorem mul4_words {x y z u : Int} (hx : I64 x) (hy : I64 y) (hz : I64 z) (hu : I64 u) : (dig (x * y * z * u).natAbs).length ≤ 100000 := by
  refine words_small ?_
  rw [Int.natAbs_mul, Int.natAbs_mul, Int.natAbs_mul]
  obtain ⟨_, _⟩ := hx
  obtain ⟨_, _⟩ := hy
  obtain ⟨_, _⟩ := hz
  obtain ⟨_, _⟩ := hu
  have h1 : x.natAbs * y.natAbs ≤ 9223372036854775808 * 9223372036854775808 := Nat.mul_le_mul (by omega) (by omega)
  have h2 : x.natAbs * y.natAbs * z.natAbs ≤ 9223372036854775808 * 9223372036854775808 * 9223372036854775808 := Nat.mul_le_mul h1 (by omega)
  have h3 : x.natAbs * y.natAbs * z.natAbs * u.natAbs ≤ 9223372036854775808 * 9223372036854775808 * 9223372036854775808 * 9223372036854775808 := Nat.mul_le_mul h2 (by omega)
  omega
/-- -1, 0, 1: the nearer of two, by the program. -/
def nearZ (d a b : Dr) : Int := cmpI (dotZ d a * (dotZ d a).natAbs * dotZ b b) (dotZ d b * (dotZ d b).natAbs * dotZ a a)
set_option maxRecDepth 100000 in
set_option maxHeartbeats 16000000 in
theorem nearer_walk (d a b : Dr) (hd : Sm d) (ha : Sm a) (hb : Sm b) (w : World) :
    Calls Tryz.prog 77 #[drV d, drV a, drV b] w fun e' w' => e' = .returned (.int .i64 (nearZ d a b)) ∧ Below w.heap.size w w' := by
  have DA := Lib.hid (fun X => adot_walk d a hd ha X)
  have DB := Lib.hid (fun X => adot_walk d b hd hb X)
  have BB := Lib.hid (fun X => adot_walk b b hb hb X)
  have AA := Lib.hid (fun X => adot_walk a a ha ha X)
  obtain ⟨i1, i2⟩ := dot_i64 hd ha
  obtain ⟨j1, j2⟩ := dot_i64 hd hb
  have hbb := (dot_i64 hb hb).1
  have haa := (dot_i64 ha ha).1
  have SA := Lib.hid (fun X => asz_walk (dotZ d a) ⟨by have := dot_small hd ha; omega, i1.2⟩ X)
  have SB := Lib.hid (fun X => asz_walk (dotZ d b) ⟨by have := dot_small hd hb; omega, j1.2⟩ X)
  have PA := Lib.hid (fun X => prod3_new (dotZ d a) ((dotZ d a).natAbs : Nat) (dotZ b b) i1 i2 hbb X)
  have PB := Lib.hid (fun X => prod3_new (dotZ d b) ((dotZ d b).natAbs : Nat) (dotZ a a) j1 j2 haa X)
  have CM := Lib.hid (fun B1 B2 X p q => Cmp_walk B1 B2 X p q (dotZ d a * (dotZ d a).natAbs * dotZ b b) (dotZ d b * (dotZ d b).natAbs * dotZ a a) (mul3_words i1 i2 hbb))
  unfold nearZ
  generalize dotZ d a = p at *
  generalize dotZ d b = q at *
  generalize dotZ b b = bb at *
  generalize dotZ a a = aa at *
  generalize ((p.natAbs : Nat) : Int) = ap at *
  generalize ((q.natAbs : Nat) : Int) = aq at *
  clear i1 i2 j1 j2 hbb haa hd ha hb
  unfold drV at *
  go_enter Tryz.func77, Tryz.ntmps77
  go_upto_region 1 with (fail)
  refine seal_wp fun W hW => ?_
  have K3 := Lib.hid (show Known W w.heap.size #[.int .i64 d.x, .int .i64 d.y, .int .i64 d.z] by rw [hW.out]; exact ((Known.new w _ _).alloc _).alloc _)
  have K4 := Lib.hid (show Known W (w.heap.size + 1) #[.int .i64 a.x, .int .i64 a.y, .int .i64 a.z] by rw [hW.out]; exact (Known.new' (by simp)).alloc _)
  have K5 := Lib.hid (show Known W (w.heap.size + 1 + 1) #[.int .i64 b.x, .int .i64 b.y, .int .i64 b.z] by rw [hW.out]; exact Known.new' (by simp))
  have BW := Lib.hid (show Below w.heap.size w W by rw [hW.out]; exact grow_alloc (grow_alloc (grow_alloc (grow_refl w) _) _) _)
  clear hW
  generalize w.heap.size + 1 + 1 = b5 at *
  generalize w.heap.size + 1 = b4 at *
  generalize hb3 : w.heap.size = b3 at K3 ⊢
  have c30 := K3.out.cell 0
  have c31 := K3.out.cell 1
  have c32 := K3.out.cell 2
  have l3 := K3.out.lt
  have c40 := K4.out.cell 0
  have c41 := K4.out.cell 1
  have c42 := K4.out.cell 2
  have l4 := K4.out.lt
  have c50 := K5.out.cell 0
  have c51 := K5.out.cell 1
  have c52 := K5.out.cell 2
  have l5 := K5.out.lt
  simp only [List.getElem?_toArray, List.getElem?_cons_zero, List.getElem?_cons_succ] at c30 c31 c32 c40 c41 c42 c50 c51 c52
  have SS := Lib.hid (fun X (hX : Below W.heap.size W X) => (show X.cell? ⟨b3, 0, none⟩ = some (.int .i64 d.x) ∧ X.cell? ⟨b3, 1, none⟩ = some (.int .i64 d.y) ∧ X.cell? ⟨b3, 2, none⟩ = some (.int .i64 d.z) ∧ X.cell? ⟨b4, 0, none⟩ = some (.int .i64 a.x) ∧ X.cell? ⟨b4, 1, none⟩ = some (.int .i64 a.y) ∧ X.cell? ⟨b4, 2, none⟩ = some (.int .i64 a.z) ∧ X.cell? ⟨b5, 0, none⟩ = some (.int .i64 b.x) ∧ X.cell? ⟨b5, 1, none⟩ = some (.int .i64 b.y) ∧ X.cell? ⟨b5, 2, none⟩ = some (.int .i64 b.z) ∧ b3 < X.heap.size ∧ b4 < X.heap.size ∧ b5 < X.heap.size from ⟨(K3.out.below hX).cell 0, (K3.out.below hX).cell 1, (K3.out.below hX).cell 2, (K4.out.below hX).cell 0, (K4.out.below hX).cell 1, (K4.out.below hX).cell 2, (K5.out.below hX).cell 0, (K5.out.below hX).cell 1, (K5.out.below hX).cell 2, (K3.out.below hX).lt, (K4.out.below hX).lt, (K5.out.below hX).lt⟩))
  go_region_held3 (fun X => X.cell? ⟨b3, 0, none⟩ = some (.int .i64 d.x) ∧ X.cell? ⟨b3, 1, none⟩ = some (.int .i64 d.y) ∧ X.cell? ⟨b3, 2, none⟩ = some (.int .i64 d.z) ∧ X.cell? ⟨b4, 0, none⟩ = some (.int .i64 a.x) ∧ X.cell? ⟨b4, 1, none⟩ = some (.int .i64 a.y) ∧ X.cell? ⟨b4, 2, none⟩ = some (.int .i64 a.z) ∧ X.cell? ⟨b5, 0, none⟩ = some (.int .i64 b.x) ∧ X.cell? ⟨b5, 1, none⟩ = some (.int .i64 b.y) ∧ X.cell? ⟨b5, 2, none⟩ = some (.int .i64 b.z) ∧ b3 < X.heap.size ∧ b4 < X.heap.size ∧ b5 < X.heap.size) (exact SS.out _ (by (repeat (with_reducible first | exact grow_refl _ | exact B9.out | exact B8.out | exact B7.out | exact B6.out | exact B5.out | exact B4.out | exact B3.out | exact B2.out | exact B1.out | refine Grow.grow_drewN ?_ _ | refine Grow.grow_drew ?_ | refine Grow.grow_alloc ?_ _))))
    (first
    | (go_at_call 78; (with_reducible refine (DA.out _).mono ?_); rintro e1 w1 ⟨rfl, hb⟩; have B1 := Lib.hid (grow_trans (by (repeat (with_reducible first | exact grow_refl _ | exact B9.out | exact B8.out | exact B7.out | exact B6.out | exact B5.out | exact B4.out | exact B3.out | exact B2.out | exact B1.out | refine Grow.grow_drewN ?_ _ | refine Grow.grow_drew ?_ | refine Grow.grow_alloc ?_ _))) hb : Below W.heap.size W w1); clear hb)
    | (go_at_call 78; (with_reducible refine (DB.out _).mono ?_); rintro e2 w2 ⟨rfl, hb⟩; have B2 := Lib.hid (grow_trans B1.out hb); clear hb))
  go_upto_region 2 with (fail)
  go_region_held3 (fun X => X.cell? ⟨b3, 0, none⟩ = some (.int .i64 d.x) ∧ X.cell? ⟨b3, 1, none⟩ = some (.int .i64 d.y) ∧ X.cell? ⟨b3, 2, none⟩ = some (.int .i64 d.z) ∧ X.cell? ⟨b4, 0, none⟩ = some (.int .i64 a.x) ∧ X.cell? ⟨b4, 1, none⟩ = some (.int .i64 a.y) ∧ X.cell? ⟨b4, 2, none⟩ = some (.int .i64 a.z) ∧ X.cell? ⟨b5, 0, none⟩ = some (.int .i64 b.x) ∧ X.cell? ⟨b5, 1, none⟩ = some (.int .i64 b.y) ∧ X.cell? ⟨b5, 2, none⟩ = some (.int .i64 b.z) ∧ b3 < X.heap.size ∧ b4 < X.heap.size ∧ b5 < X.heap.size) (exact SS.out _ (by (repeat (with_reducible first | exact grow_refl _ | exact B9.out | exact B8.out | exact B7.out | exact B6.out | exact B5.out | exact B4.out | exact B3.out | exact B2.out | exact B1.out | refine Grow.grow_drewN ?_ _ | refine Grow.grow_drew ?_ | refine Grow.grow_alloc ?_ _))))
    (first
    | (go_at_call 103; (with_reducible refine (SA.out _).mono ?_); rintro e3 w3 ⟨rfl, rfl⟩)
    | (go_at_call 103; (with_reducible refine (SB.out _).mono ?_); rintro e3 w3 ⟨rfl, rfl⟩)
    | (go_at_call 78; (with_reducible refine (BB.out _).mono ?_); rintro e4 w4 ⟨rfl, hb⟩; have B4 := Lib.hid (grow_trans (by (repeat (with_reducible first | exact grow_refl _ | exact B9.out | exact B8.out | exact B7.out | exact B6.out | exact B5.out | exact B4.out | exact B3.out | exact B2.out | exact B1.out | refine Grow.grow_drewN ?_ _ | refine Grow.grow_drew ?_ | refine Grow.grow_alloc ?_ _))) hb : Below W.heap.size W w4); clear hb)
    | (go_at_call 79; (with_reducible refine (PA.out _).mono ?_); rintro e5 w5 ⟨p1, rfl, hi, hb⟩; have B5 := Lib.hid (grow_trans (by (repeat (with_reducible first | exact grow_refl _ | exact B9.out | exact B8.out | exact B7.out | exact B6.out | exact B5.out | exact B4.out | exact B3.out | exact B2.out | exact B1.out | refine Grow.grow_drewN ?_ _ | refine Grow.grow_drew ?_ | refine Grow.grow_alloc ?_ _))) hb : Below W.heap.size W w5); have I5 := Lib.hid hi; clear hi hb)
    | (go_at_call 78; (with_reducible refine (AA.out _).mono ?_); rintro e7 w7 ⟨rfl, hb⟩; have B7 := Lib.hid (grow_trans (by (repeat (with_reducible first | exact grow_refl _ | exact B9.out | exact B8.out | exact B7.out | exact B6.out | exact B5.out | exact B4.out | exact B3.out | exact B2.out | exact B1.out | refine Grow.grow_drewN ?_ _ | refine Grow.grow_drew ?_ | refine Grow.grow_alloc ?_ _))) hb : Below W.heap.size W w7); have I7 := Lib.hid (I5.out.below hb); clear hb)
    | (go_at_call 79; (with_reducible refine (PB.out _).mono ?_); rintro e8 w8 ⟨q1, rfl, hi, hb⟩; have B8 := Lib.hid (grow_trans (by (repeat (with_reducible first | exact grow_refl _ | exact B9.out | exact B8.out | exact B7.out | exact B6.out | exact B5.out | exact B4.out | exact B3.out | exact B2.out | exact B1.out | refine Grow.grow_drewN ?_ _ | refine Grow.grow_drew ?_ | refine Grow.grow_alloc ?_ _))) hb : Below W.heap.size W w8); have I8 := Lib.hid (I7.out.below hb); have J8 := Lib.hid hi; have hne8 : ¬ p1 = q1 := (fun e => by have h1 := I7.out.lt; have h2 := hi.1; omega); clear hi hb))
  go_wp2_with (go_at_call 32; (with_reducible refine (CM.out _ _ _ _ _ I8.out J8.out hne8).mono ?_); rintro e9 w9 ⟨rfl, hb⟩; have B9 := Lib.hid (grow_trans B8.out hb); clear hb)
  go_ret
  exact ⟨rfl, grow_trans BW.out B9.out⟩
set_option maxRecDepth 100000 in
set_option maxHeartbeats 16000000 in
theorem within_pp (d e : Dr) (num den : Int) (hd : Sm d) (he : Sm e) (hnum : I64 num) (hden : I64 den) (hn0 : 0 ≤ num) (hp0 : 0 ≤ dotZ d e) (w : World) :
    Calls Tryz.prog 42 #[drV d, drV e, .int .i64 num, .int .i64 den] w fun e' w' => e' = .returned (.bool (decide (0 ≤ cmpI (dotZ d e * dotZ d e * den * den) (num * num * dotZ d d * dotZ e e)))) ∧ Below w.heap.size w w' := by
  have DE := Lib.hid (fun X => adot_walk d e hd he X)
  have DD := Lib.hid (fun X => adot_walk d d hd hd X)
  have EE := Lib.hid (fun X => adot_walk e e he he X)
  have i1 := (dot_i64 hd he).1
  have hdd := (dot_i64 hd hd).1
  have hee := (dot_i64 he he).1
  have PA := Lib.hid (fun X => prod4_new (dotZ d e) (dotZ d e) den den i1 i1 hden hden X)
  have PD := Lib.hid (fun X => prod4_drew (dotZ d e) (dotZ d e) den den i1 i1 hden hden X)
  have PB := Lib.hid (fun X => prod4_new num num (dotZ d d) (dotZ e e) hnum hnum hdd hee X)
  have CM := Lib.hid (fun B1 B2 X p q => Cmp_walk B1 B2 X p q (dotZ d e * dotZ d e * den * den) (num * num * dotZ d d * dotZ e e) (mul4_words i1 i1 hden hden))
  generalize dotZ d e = p at *
  generalize dotZ d d = dd at *
  generalize dotZ e e = ee at *
  have u0 : decide (0 ≤ num) = true := decide_eq_true hn0
  have u1 : decide (0 ≤ p) = true := decide_eq_true hp0
  clear i1 hdd hee hd he hnum hden
  unfold drV at *
  go_enter Tryz.func42, Tryz.ntmps42
  go_upto_region 1 with (fail)
  refine seal_wp fun W hW => ?_
  have K4 := Lib.hid (show Known W w.heap.size #[.int .i64 d.x, .int .i64 d.y, .int .i64 d.z] by rw [hW.out]; exact (Known.new w _ _).alloc _)
  have K5 := Lib.hid (show Known W (w.heap.size + 1) #[.int .i64 e.x, .int .i64 e.y, .int .i64 e.z] by rw [hW.out]; exact Known.new' (by simp))
  have BW := Lib.hid (show Below w.heap.size w W by rw [hW.out]; exact grow_alloc (grow_alloc (grow_refl w) _) _)
  clear hW
  generalize w.heap.size + 1 = b5 at *
  generalize hb4 : w.heap.size = b4 at K4 ⊢
  have c40 := K4.out.cell 0
  have c41 := K4.out.cell 1
  have c42 := K4.out.cell 2
  have l4 := K4.out.lt
  have c50 := K5.out.cell 0
  have c51 := K5.out.cell 1
  have c52 := K5.out.cell 2
  have l5 := K5.out.lt
  simp only [List.getElem?_toArray, List.getElem?_cons_zero, List.getElem?_cons_succ] at c40 c41 c42 c50 c51 c52
  have SS := Lib.hid (fun X (hX : Below W.heap.size W X) => (show X.cell? ⟨b4, 0, none⟩ = some (.int .i64 d.x) ∧ X.cell? ⟨b4, 1, none⟩ = some (.int .i64 d.y) ∧ X.cell? ⟨b4, 2, none⟩ = some (.int .i64 d.z) ∧ X.cell? ⟨b5, 0, none⟩ = some (.int .i64 e.x) ∧ X.cell? ⟨b5, 1, none⟩ = some (.int .i64 e.y) ∧ X.cell? ⟨b5, 2, none⟩ = some (.int .i64 e.z) ∧ b4 < X.heap.size ∧ b5 < X.heap.size from ⟨(K4.out.below hX).cell 0, (K4.out.below hX).cell 1, (K4.out.below hX).cell 2, (K5.out.below hX).cell 0, (K5.out.below hX).cell 1, (K5.out.below hX).cell 2, (K4.out.below hX).lt, (K5.out.below hX).lt⟩))
  go_upto_region 2 with (go_at_call 78; (with_reducible refine (DE.out _).mono ?_); rintro e1 w1 ⟨rfl, hb⟩; have B1 := Lib.hid (grow_trans (by (repeat (with_reducible first | exact grow_refl _ | exact B9.out | exact B8.out | exact B7.out | exact B6.out | exact B5.out | exact B4.out | exact B3.out | exact B2.out | exact B1.out | refine Grow.grow_drewN ?_ _ | refine Grow.grow_drew ?_ | refine Grow.grow_alloc ?_ _))) hb : Below W.heap.size W w1); clear hb)
  go_region_held3 (fun X => X.cell? ⟨b4, 0, none⟩ = some (.int .i64 d.x) ∧ X.cell? ⟨b4, 1, none⟩ = some (.int .i64 d.y) ∧ X.cell? ⟨b4, 2, none⟩ = some (.int .i64 d.z) ∧ X.cell? ⟨b5, 0, none⟩ = some (.int .i64 e.x) ∧ X.cell? ⟨b5, 1, none⟩ = some (.int .i64 e.y) ∧ X.cell? ⟨b5, 2, none⟩ = some (.int .i64 e.z) ∧ b4 < X.heap.size ∧ b5 < X.heap.size) (exact SS.out _ (by (repeat (with_reducible first | exact grow_refl _ | exact B9.out | exact B8.out | exact B7.out | exact B6.out | exact B5.out | exact B4.out | exact B3.out | exact B2.out | exact B1.out | refine Grow.grow_drewN ?_ _ | refine Grow.grow_drew ?_ | refine Grow.grow_alloc ?_ _))))
    (first
    | (go_at_call 79; (with_reducible refine (PD.out _).mono ?_); rintro e5 w5 ⟨p1, rfl, hi, hb⟩; have B5 := Lib.hid (grow_trans (by (repeat (with_reducible first | exact grow_refl _ | exact B9.out | exact B8.out | exact B7.out | exact B6.out | exact B5.out | exact B4.out | exact B3.out | exact B2.out | exact B1.out | refine Grow.grow_drewN ?_ _ | refine Grow.grow_drew ?_ | refine Grow.grow_alloc ?_ _))) hb : Below W.heap.size W w5); have I5 := Lib.hid hi; clear hi hb)
    | (go_at_call 78; (with_reducible refine (DD.out _).mono ?_); rintro e6 w6 ⟨rfl, hb⟩; have B6 := Lib.hid (grow_trans (by (repeat (with_reducible first | exact grow_refl _ | exact B9.out | exact B8.out | exact B7.out | exact B6.out | exact B5.out | exact B4.out | exact B3.out | exact B2.out | exact B1.out | refine Grow.grow_drewN ?_ _ | refine Grow.grow_drew ?_ | refine Grow.grow_alloc ?_ _))) hb : Below W.heap.size W w6); have I6 := Lib.hid (I5.out.below hb); clear hb)
    | (go_at_call 78; (with_reducible refine (EE.out _).mono ?_); rintro e7 w7 ⟨rfl, hb⟩; have B7 := Lib.hid (grow_trans (by (repeat (with_reducible first | exact grow_refl _ | exact B9.out | exact B8.out | exact B7.out | exact B6.out | exact B5.out | exact B4.out | exact B3.out | exact B2.out | exact B1.out | refine Grow.grow_drewN ?_ _ | refine Grow.grow_drew ?_ | refine Grow.grow_alloc ?_ _))) hb : Below W.heap.size W w7); have I7 := Lib.hid (I6.out.below hb); clear hb)
    | (go_at_call 79; (with_reducible refine (PB.out _).mono ?_); rintro e8 w8 ⟨q1, rfl, hi, hb⟩; have B8 := Lib.hid (grow_trans (by (repeat (with_reducible first | exact grow_refl _ | exact B9.out | exact B8.out | exact B7.out | exact B6.out | exact B5.out | exact B4.out | exact B3.out | exact B2.out | exact B1.out | refine Grow.grow_drewN ?_ _ | refine Grow.grow_drew ?_ | refine Grow.grow_alloc ?_ _))) hb : Below W.heap.size W w8); have I8 := Lib.hid (I7.out.below hb); have J8 := Lib.hid hi; have hne8 : ¬ p1 = q1 := (fun e => by have h1 := I7.out.lt; have h2 := hi.1; omega); clear hi hb))
  go_wp2_with (go_at_call 32; (with_reducible refine (CM.out _ _ _ _ _ I8.out J8.out hne8).mono ?_); rintro e9 w9 ⟨rfl, hb⟩; have B9 := Lib.hid (grow_trans B8.out hb); clear hb)
  go_ret
  exact ⟨rfl, grow_trans BW.out B9.out⟩
set_option maxRecDepth 100000 in
set_option maxHeartbeats 16000000 in
theorem within_pn (d e : Dr) (num den : Int) (hd : Sm d) (he : Sm e) (hnum : I64 num) (hden : I64 den) (hn0 : 0 ≤ num) (hp0 : ¬ 0 ≤ dotZ d e) (w : World) :
    Calls Tryz.prog 42 #[drV d, drV e, .int .i64 num, .int .i64 den] w fun e' w' => e' = .returned (.bool (false)) ∧ Below w.heap.size w w' := by
  have DE := Lib.hid (fun X => adot_walk d e hd he X)
  have DD := Lib.hid (fun X => adot_walk d d hd hd X)
  have EE := Lib.hid (fun X => adot_walk e e he he X)
  have i1 := (dot_i64 hd he).1
  have hdd := (dot_i64 hd hd).1
  have hee := (dot_i64 he he).1
  have PA := Lib.hid (fun X => prod4_new (dotZ d e) (dotZ d e) den den i1 i1 hden hden X)
  have PD := Lib.hid (fun X => prod4_drew (dotZ d e) (dotZ d e) den den i1 i1 hden hden X)
  have PB := Lib.hid (fun X => prod4_new num num (dotZ d d) (dotZ e e) hnum hnum hdd hee X)
  have CM := Lib.hid (fun B1 B2 X p q => Cmp_walk B1 B2 X p q (dotZ d e * dotZ d e * den * den) (num * num * dotZ d d * dotZ e e) (mul4_words i1 i1 hden hden))
  generalize dotZ d e = p at *
  generalize dotZ d d = dd at *
  generalize dotZ e e = ee at *
  have u0 : decide (0 ≤ num) = true := decide_eq_true hn0
  have u1 : decide (0 ≤ p) = false := decide_eq_false hp0
  clear i1 hdd hee hd he hnum hden
  unfold drV at *
  go_enter Tryz.func42, Tryz.ntmps42
  go_upto_region 1 with (fail)
  refine seal_wp fun W hW => ?_
  have K4 := Lib.hid (show Known W w.heap.size #[.int .i64 d.x, .int .i64 d.y, .int .i64 d.z] by rw [hW.out]; exact (Known.new w _ _).alloc _)
  have K5 := Lib.hid (show Known W (w.heap.size + 1) #[.int .i64 e.x, .int .i64 e.y, .int .i64 e.z] by rw [hW.out]; exact Known.new' (by simp))
  have BW := Lib.hid (show Below w.heap.size w W by rw [hW.out]; exact grow_alloc (grow_alloc (grow_refl w) _) _)
  clear hW
  generalize w.heap.size + 1 = b5 at *
  generalize hb4 : w.heap.size = b4 at K4 ⊢
  have c40 := K4.out.cell 0
  have c41 := K4.out.cell 1
  have c42 := K4.out.cell 2
  have l4 := K4.out.lt
  have c50 := K5.out.cell 0
  have c51 := K5.out.cell 1
  have c52 := K5.out.cell 2
  have l5 := K5.out.lt
  simp only [List.getElem?_toArray, List.getElem?_cons_zero, List.getElem?_cons_succ] at c40 c41 c42 c50 c51 c52
  have SS := Lib.hid (fun X (hX : Below W.heap.size W X) => (show X.cell? ⟨b4, 0, none⟩ = some (.int .i64 d.x) ∧ X.cell? ⟨b4, 1, none⟩ = some (.int .i64 d.y) ∧ X.cell? ⟨b4, 2, none⟩ = some (.int .i64 d.z) ∧ X.cell? ⟨b5, 0, none⟩ = some (.int .i64 e.x) ∧ X.cell? ⟨b5, 1, none⟩ = some (.int .i64 e.y) ∧ X.cell? ⟨b5, 2, none⟩ = some (.int .i64 e.z) ∧ b4 < X.heap.size ∧ b5 < X.heap.size from ⟨(K4.out.below hX).cell 0, (K4.out.below hX).cell 1, (K4.out.below hX).cell 2, (K5.out.below hX).cell 0, (K5.out.below hX).cell 1, (K5.out.below hX).cell 2, (K4.out.below hX).lt, (K5.out.below hX).lt⟩))
  go_upto_region 2 with (go_at_call 78; (with_reducible refine (DE.out _).mono ?_); rintro e1 w1 ⟨rfl, hb⟩; have B1 := Lib.hid (grow_trans (by (repeat (with_reducible first | exact grow_refl _ | exact B9.out | exact B8.out | exact B7.out | exact B6.out | exact B5.out | exact B4.out | exact B3.out | exact B2.out | exact B1.out | refine Grow.grow_drewN ?_ _ | refine Grow.grow_drew ?_ | refine Grow.grow_alloc ?_ _))) hb : Below W.heap.size W w1); clear hb)
  go_region_held3 (fun X => X.cell? ⟨b4, 0, none⟩ = some (.int .i64 d.x) ∧ X.cell? ⟨b4, 1, none⟩ = some (.int .i64 d.y) ∧ X.cell? ⟨b4, 2, none⟩ = some (.int .i64 d.z) ∧ X.cell? ⟨b5, 0, none⟩ = some (.int .i64 e.x) ∧ X.cell? ⟨b5, 1, none⟩ = some (.int .i64 e.y) ∧ X.cell? ⟨b5, 2, none⟩ = some (.int .i64 e.z) ∧ b4 < X.heap.size ∧ b5 < X.heap.size) (exact SS.out _ (by (repeat (with_reducible first | exact grow_refl _ | exact B9.out | exact B8.out | exact B7.out | exact B6.out | exact B5.out | exact B4.out | exact B3.out | exact B2.out | exact B1.out | refine Grow.grow_drewN ?_ _ | refine Grow.grow_drew ?_ | refine Grow.grow_alloc ?_ _))))
    (first
    | (go_at_call 79; (with_reducible refine (PD.out _).mono ?_); rintro e5 w5 ⟨p1, rfl, hi, hb⟩; have B5 := Lib.hid (grow_trans (by (repeat (with_reducible first | exact grow_refl _ | exact B9.out | exact B8.out | exact B7.out | exact B6.out | exact B5.out | exact B4.out | exact B3.out | exact B2.out | exact B1.out | refine Grow.grow_drewN ?_ _ | refine Grow.grow_drew ?_ | refine Grow.grow_alloc ?_ _))) hb : Below W.heap.size W w5); have I5 := Lib.hid hi; clear hi hb)
    | (go_at_call 78; (with_reducible refine (DD.out _).mono ?_); rintro e6 w6 ⟨rfl, hb⟩; have B6 := Lib.hid (grow_trans (by (repeat (with_reducible first | exact grow_refl _ | exact B9.out | exact B8.out | exact B7.out | exact B6.out | exact B5.out | exact B4.out | exact B3.out | exact B2.out | exact B1.out | refine Grow.grow_drewN ?_ _ | refine Grow.grow_drew ?_ | refine Grow.grow_alloc ?_ _))) hb : Below W.heap.size W w6); have I6 := Lib.hid (I5.out.below hb); clear hb)
    | (go_at_call 78; (with_reducible refine (EE.out _).mono ?_); rintro e7 w7 ⟨rfl, hb⟩; have B7 := Lib.hid (grow_trans (by (repeat (with_reducible first | exact grow_refl _ | exact B9.out | exact B8.out | exact B7.out | exact B6.out | exact B5.out | exact B4.out | exact B3.out | exact B2.out | exact B1.out | refine Grow.grow_drewN ?_ _ | refine Grow.grow_drew ?_ | refine Grow.grow_alloc ?_ _))) hb : Below W.heap.size W w7); have I7 := Lib.hid (I6.out.below hb); clear hb)
    | (go_at_call 79; (with_reducible refine (PB.out _).mono ?_); rintro e8 w8 ⟨q1, rfl, hi, hb⟩; have B8 := Lib.hid (grow_trans (by (repeat (with_reducible first | exact grow_refl _ | exact B9.out | exact B8.out | exact B7.out | exact B6.out | exact B5.out | exact B4.out | exact B3.out | exact B2.out | exact B1.out | refine Grow.grow_drewN ?_ _ | refine Grow.grow_drew ?_ | refine Grow.grow_alloc ?_ _))) hb : Below W.heap.size W w8); have I8 := Lib.hid (I7.out.below hb); have J8 := Lib.hid hi; have hne8 : ¬ p1 = q1 := (fun e => by have h1 := I7.out.lt; have h2 := hi.1; omega); clear hi hb))
  go_wp2
  go_ret
  exact ⟨rfl, grow_trans BW.out (by (repeat (with_reducible first | exact grow_refl _ | exact B9.out | exact B8.out | exact B7.out | exact B6.out | exact B5.out | exact B4.out | exact B3.out | exact B2.out | exact B1.out | refine Grow.grow_drewN ?_ _ | refine Grow.grow_drew ?_ | refine Grow.grow_alloc ?_ _)))⟩
set_option maxRecDepth 100000 in
set_option maxHeartbeats 16000000 in
theorem within_np (d e : Dr) (num den : Int) (hd : Sm d) (he : Sm e) (hnum : I64 num) (hden : I64 den) (hn0 : ¬ 0 ≤ num) (hp0 : 0 ≤ dotZ d e) (w : World) :
    Calls Tryz.prog 42 #[drV d, drV e, .int .i64 num, .int .i64 den] w fun e' w' => e' = .returned (.bool (true)) ∧ Below w.heap.size w w' := by
  have DE := Lib.hid (fun X => adot_walk d e hd he X)
  have DD := Lib.hid (fun X => adot_walk d d hd hd X)
  have EE := Lib.hid (fun X => adot_walk e e he he X)
  have i1 := (dot_i64 hd he).1
  have hdd := (dot_i64 hd hd).1
  have hee := (dot_i64 he he).1
  have PA := Lib.hid (fun X => prod4_new (dotZ d e) (dotZ d e) den den i1 i1 hden hden X)
  have PD := Lib.hid (fun X => prod4_drew (dotZ d e) (dotZ d e) den den i1 i1 hden hden X)
  have PB := Lib.hid (fun X => prod4_new num num (dotZ d d) (dotZ e e) hnum hnum hdd hee X)
  have CM := Lib.hid (fun B1 B2 X p q => Cmp_walk B1 B2 X p q (dotZ d e * dotZ d e * den * den) (num * num * dotZ d d * dotZ e e) (mul4_words i1 i1 hden hden))
  generalize dotZ d e = p at *
  generalize dotZ d d = dd at *
  generalize dotZ e e = ee at *
  have u0 : decide (0 ≤ num) = false := decide_eq_false hn0
  have u1 : decide (0 ≤ p) = true := decide_eq_true hp0
  clear i1 hdd hee hd he hnum hden
  unfold drV at *
  go_enter Tryz.func42, Tryz.ntmps42
  go_upto_region 1 with (fail)
  refine seal_wp fun W hW => ?_
  have K4 := Lib.hid (show Known W w.heap.size #[.int .i64 d.x, .int .i64 d.y, .int .i64 d.z] by rw [hW.out]; exact (Known.new w _ _).alloc _)
  have K5 := Lib.hid (show Known W (w.heap.size + 1) #[.int .i64 e.x, .int .i64 e.y, .int .i64 e.z] by rw [hW.out]; exact Known.new' (by simp))
  have BW := Lib.hid (show Below w.heap.size w W by rw [hW.out]; exact grow_alloc (grow_alloc (grow_refl w) _) _)
  clear hW
  generalize w.heap.size + 1 = b5 at *
  generalize hb4 : w.heap.size = b4 at K4 ⊢
  have c40 := K4.out.cell 0
  have c41 := K4.out.cell 1
  have c42 := K4.out.cell 2
  have l4 := K4.out.lt
  have c50 := K5.out.cell 0
  have c51 := K5.out.cell 1
  have c52 := K5.out.cell 2
  have l5 := K5.out.lt
  simp only [List.getElem?_toArray, List.getElem?_cons_zero, List.getElem?_cons_succ] at c40 c41 c42 c50 c51 c52
  have SS := Lib.hid (fun X (hX : Below W.heap.size W X) => (show X.cell? ⟨b4, 0, none⟩ = some (.int .i64 d.x) ∧ X.cell? ⟨b4, 1, none⟩ = some (.int .i64 d.y) ∧ X.cell? ⟨b4, 2, none⟩ = some (.int .i64 d.z) ∧ X.cell? ⟨b5, 0, none⟩ = some (.int .i64 e.x) ∧ X.cell? ⟨b5, 1, none⟩ = some (.int .i64 e.y) ∧ X.cell? ⟨b5, 2, none⟩ = some (.int .i64 e.z) ∧ b4 < X.heap.size ∧ b5 < X.heap.size from ⟨(K4.out.below hX).cell 0, (K4.out.below hX).cell 1, (K4.out.below hX).cell 2, (K5.out.below hX).cell 0, (K5.out.below hX).cell 1, (K5.out.below hX).cell 2, (K4.out.below hX).lt, (K5.out.below hX).lt⟩))
  go_upto_region 2 with (go_at_call 78; (with_reducible refine (DE.out _).mono ?_); rintro e1 w1 ⟨rfl, hb⟩; have B1 := Lib.hid (grow_trans (by (repeat (with_reducible first | exact grow_refl _ | exact B9.out | exact B8.out | exact B7.out | exact B6.out | exact B5.out | exact B4.out | exact B3.out | exact B2.out | exact B1.out | refine Grow.grow_drewN ?_ _ | refine Grow.grow_drew ?_ | refine Grow.grow_alloc ?_ _))) hb : Below W.heap.size W w1); clear hb)
  go_region_held3 (fun X => X.cell? ⟨b4, 0, none⟩ = some (.int .i64 d.x) ∧ X.cell? ⟨b4, 1, none⟩ = some (.int .i64 d.y) ∧ X.cell? ⟨b4, 2, none⟩ = some (.int .i64 d.z) ∧ X.cell? ⟨b5, 0, none⟩ = some (.int .i64 e.x) ∧ X.cell? ⟨b5, 1, none⟩ = some (.int .i64 e.y) ∧ X.cell? ⟨b5, 2, none⟩ = some (.int .i64 e.z) ∧ b4 < X.heap.size ∧ b5 < X.heap.size) (exact SS.out _ (by (repeat (with_reducible first | exact grow_refl _ | exact B9.out | exact B8.out | exact B7.out | exact B6.out | exact B5.out | exact B4.out | exact B3.out | exact B2.out | exact B1.out | refine Grow.grow_drewN ?_ _ | refine Grow.grow_drew ?_ | refine Grow.grow_alloc ?_ _))))
    (first
    | (go_at_call 79; (with_reducible refine (PD.out _).mono ?_); rintro e5 w5 ⟨p1, rfl, hi, hb⟩; have B5 := Lib.hid (grow_trans (by (repeat (with_reducible first | exact grow_refl _ | exact B9.out | exact B8.out | exact B7.out | exact B6.out | exact B5.out | exact B4.out | exact B3.out | exact B2.out | exact B1.out | refine Grow.grow_drewN ?_ _ | refine Grow.grow_drew ?_ | refine Grow.grow_alloc ?_ _))) hb : Below W.heap.size W w5); have I5 := Lib.hid hi; clear hi hb)
    | (go_at_call 78; (with_reducible refine (DD.out _).mono ?_); rintro e6 w6 ⟨rfl, hb⟩; have B6 := Lib.hid (grow_trans (by (repeat (with_reducible first | exact grow_refl _ | exact B9.out | exact B8.out | exact B7.out | exact B6.out | exact B5.out | exact B4.out | exact B3.out | exact B2.out | exact B1.out | refine Grow.grow_drewN ?_ _ | refine Grow.grow_drew ?_ | refine Grow.grow_alloc ?_ _))) hb : Below W.heap.size W w6); have I6 := Lib.hid (I5.out.below hb); clear hb)
    | (go_at_call 78; (with_reducible refine (EE.out _).mono ?_); rintro e7 w7 ⟨rfl, hb⟩; have B7 := Lib.hid (grow_trans (by (repeat (with_reducible first | exact grow_refl _ | exact B9.out | exact B8.out | exact B7.out | exact B6.out | exact B5.out | exact B4.out | exact B3.out | exact B2.out | exact B1.out | refine Grow.grow_drewN ?_ _ | refine Grow.grow_drew ?_ | refine Grow.grow_alloc ?_ _))) hb : Below W.heap.size W w7); have I7 := Lib.hid (I6.out.below hb); clear hb)
    | (go_at_call 79; (with_reducible refine (PB.out _).mono ?_); rintro e8 w8 ⟨q1, rfl, hi, hb⟩; have B8 := Lib.hid (grow_trans (by (repeat (with_reducible first | exact grow_refl _ | exact B9.out | exact B8.out | exact B7.out | exact B6.out | exact B5.out | exact B4.out | exact B3.out | exact B2.out | exact B1.out | refine Grow.grow_drewN ?_ _ | refine Grow.grow_drew ?_ | refine Grow.grow_alloc ?_ _))) hb : Below W.heap.size W w8); have I8 := Lib.hid (I7.out.below hb); have J8 := Lib.hid hi; have hne8 : ¬ p1 = q1 := (fun e => by have h1 := I7.out.lt; have h2 := hi.1; omega); clear hi hb))
  go_wp2
  go_ret
  exact ⟨rfl, grow_trans BW.out (by (repeat (with_reducible first | exact grow_refl _ | exact B9.out | exact B8.out | exact B7.out | exact B6.out | exact B5.out | exact B4.out | exact B3.out | exact B2.out | exact B1.out | refine Grow.grow_drewN ?_ _ | refine Grow.grow_drew ?_ | refine Grow.grow_alloc ?_ _)))⟩
set_option maxRecDepth 100000 in
set_option maxHeartbeats 16000000 in
theorem within_nn (d e : Dr) (num den : Int) (hd : Sm d) (he : Sm e) (hnum : I64 num) (hden : I64 den) (hn0 : ¬ 0 ≤ num) (hp0 : ¬ 0 ≤ dotZ d e) (w : World) :
    Calls Tryz.prog 42 #[drV d, drV e, .int .i64 num, .int .i64 den] w fun e' w' => e' = .returned (.bool (decide (cmpI (dotZ d e * dotZ d e * den * den) (num * num * dotZ d d * dotZ e e) ≤ 0))) ∧ Below w.heap.size w w' := by
  have DE := Lib.hid (fun X => adot_walk d e hd he X)
  have DD := Lib.hid (fun X => adot_walk d d hd hd X)
  have EE := Lib.hid (fun X => adot_walk e e he he X)
  have i1 := (dot_i64 hd he).1
  have hdd := (dot_i64 hd hd).1
  have hee := (dot_i64 he he).1
  have PA := Lib.hid (fun X => prod4_new (dotZ d e) (dotZ d e) den den i1 i1 hden hden X)
  have PD := Lib.hid (fun X => prod4_drew (dotZ d e) (dotZ d e) den den i1 i1 hden hden X)
  have PB := Lib.hid (fun X => prod4_new num num (dotZ d d) (dotZ e e) hnum hnum hdd hee X)
  have CM := Lib.hid (fun B1 B2 X p q => Cmp_walk B1 B2 X p q (dotZ d e * dotZ d e * den * den) (num * num * dotZ d d * dotZ e e) (mul4_words i1 i1 hden hden))
  generalize dotZ d e = p at *
  generalize dotZ d d = dd at *
  generalize dotZ e e = ee at *
  have u0 : decide (0 ≤ num) = false := decide_eq_false hn0
  have u1 : decide (0 ≤ p) = false := decide_eq_false hp0
  clear i1 hdd hee hd he hnum hden
  unfold drV at *
  go_enter Tryz.func42, Tryz.ntmps42
  go_upto_region 1 with (fail)
  refine seal_wp fun W hW => ?_
  have K4 := Lib.hid (show Known W w.heap.size #[.int .i64 d.x, .int .i64 d.y, .int .i64 d.z] by rw [hW.out]; exact (Known.new w _ _).alloc _)
  have K5 := Lib.hid (show Known W (w.heap.size + 1) #[.int .i64 e.x, .int .i64 e.y, .int .i64 e.z] by rw [hW.out]; exact Known.new' (by simp))
  have BW := Lib.hid (show Below w.heap.size w W by rw [hW.out]; exact grow_alloc (grow_alloc (grow_refl w) _) _)
  clear hW
  generalize w.heap.size + 1 = b5 at *
  generalize hb4 : w.heap.size = b4 at K4 ⊢
  have c40 := K4.out.cell 0
  have c41 := K4.out.cell 1
  have c42 := K4.out.cell 2
  have l4 := K4.out.lt
  have c50 := K5.out.cell 0
  have c51 := K5.out.cell 1
  have c52 := K5.out.cell 2
  have l5 := K5.out.lt
  simp only [List.getElem?_toArray, List.getElem?_cons_zero, List.getElem?_cons_succ] at c40 c41 c42 c50 c51 c52
  have SS := Lib.hid (fun X (hX : Below W.heap.size W X) => (show X.cell? ⟨b4, 0, none⟩ = some (.int .i64 d.x) ∧ X.cell? ⟨b4, 1, none⟩ = some (.int .i64 d.y) ∧ X.cell? ⟨b4, 2, none⟩ = some (.int .i64 d.z) ∧ X.cell? ⟨b5, 0, none⟩ = some (.int .i64 e.x) ∧ X.cell? ⟨b5, 1, none⟩ = some (.int .i64 e.y) ∧ X.cell? ⟨b5, 2, none⟩ = some (.int .i64 e.z) ∧ b4 < X.heap.size ∧ b5 < X.heap.size from ⟨(K4.out.below hX).cell 0, (K4.out.below hX).cell 1, (K4.out.below hX).cell 2, (K5.out.below hX).cell 0, (K5.out.below hX).cell 1, (K5.out.below hX).cell 2, (K4.out.below hX).lt, (K5.out.below hX).lt⟩))
  go_upto_region 2 with (go_at_call 78; (with_reducible refine (DE.out _).mono ?_); rintro e1 w1 ⟨rfl, hb⟩; have B1 := Lib.hid (grow_trans (by (repeat (with_reducible first | exact grow_refl _ | exact B9.out | exact B8.out | exact B7.out | exact B6.out | exact B5.out | exact B4.out | exact B3.out | exact B2.out | exact B1.out | refine Grow.grow_drewN ?_ _ | refine Grow.grow_drew ?_ | refine Grow.grow_alloc ?_ _))) hb : Below W.heap.size W w1); clear hb)
  go_region_held3 (fun X => X.cell? ⟨b4, 0, none⟩ = some (.int .i64 d.x) ∧ X.cell? ⟨b4, 1, none⟩ = some (.int .i64 d.y) ∧ X.cell? ⟨b4, 2, none⟩ = some (.int .i64 d.z) ∧ X.cell? ⟨b5, 0, none⟩ = some (.int .i64 e.x) ∧ X.cell? ⟨b5, 1, none⟩ = some (.int .i64 e.y) ∧ X.cell? ⟨b5, 2, none⟩ = some (.int .i64 e.z) ∧ b4 < X.heap.size ∧ b5 < X.heap.size) (exact SS.out _ (by (repeat (with_reducible first | exact grow_refl _ | exact B9.out | exact B8.out | exact B7.out | exact B6.out | exact B5.out | exact B4.out | exact B3.out | exact B2.out | exact B1.out | refine Grow.grow_drewN ?_ _ | refine Grow.grow_drew ?_ | refine Grow.grow_alloc ?_ _))))
    (first
    | (go_at_call 79; (with_reducible refine (PD.out _).mono ?_); rintro e5 w5 ⟨p1, rfl, hi, hb⟩; have B5 := Lib.hid (grow_trans (by (repeat (with_reducible first | exact grow_refl _ | exact B9.out | exact B8.out | exact B7.out | exact B6.out | exact B5.out | exact B4.out | exact B3.out | exact B2.out | exact B1.out | refine Grow.grow_drewN ?_ _ | refine Grow.grow_drew ?_ | refine Grow.grow_alloc ?_ _))) hb : Below W.heap.size W w5); have I5 := Lib.hid hi; clear hi hb)
    | (go_at_call 78; (with_reducible refine (DD.out _).mono ?_); rintro e6 w6 ⟨rfl, hb⟩; have B6 := Lib.hid (grow_trans (by (repeat (with_reducible first | exact grow_refl _ | exact B9.out | exact B8.out | exact B7.out | exact B6.out | exact B5.out | exact B4.out | exact B3.out | exact B2.out | exact B1.out | refine Grow.grow_drewN ?_ _ | refine Grow.grow_drew ?_ | refine Grow.grow_alloc ?_ _))) hb : Below W.heap.size W w6); have I6 := Lib.hid (I5.out.below hb); clear hb)
    | (go_at_call 78; (with_reducible refine (EE.out _).mono ?_); rintro e7 w7 ⟨rfl, hb⟩; have B7 := Lib.hid (grow_trans (by (repeat (with_reducible first | exact grow_refl _ | exact B9.out | exact B8.out | exact B7.out | exact B6.out | exact B5.out | exact B4.out | exact B3.out | exact B2.out | exact B1.out | refine Grow.grow_drewN ?_ _ | refine Grow.grow_drew ?_ | refine Grow.grow_alloc ?_ _))) hb : Below W.heap.size W w7); have I7 := Lib.hid (I6.out.below hb); clear hb)
    | (go_at_call 79; (with_reducible refine (PB.out _).mono ?_); rintro e8 w8 ⟨q1, rfl, hi, hb⟩; have B8 := Lib.hid (grow_trans (by (repeat (with_reducible first | exact grow_refl _ | exact B9.out | exact B8.out | exact B7.out | exact B6.out | exact B5.out | exact B4.out | exact B3.out | exact B2.out | exact B1.out | refine Grow.grow_drewN ?_ _ | refine Grow.grow_drew ?_ | refine Grow.grow_alloc ?_ _))) hb : Below W.heap.size W w8); have I8 := Lib.hid (I7.out.below hb); have J8 := Lib.hid hi; have hne8 : ¬ p1 = q1 := (fun e => by have h1 := I7.out.lt; have h2 := hi.1; omega); clear hi hb))
  go_wp2_with (go_at_call 32; (with_reducible refine (CM.out _ _ _ _ _ I8.out J8.out hne8).mono ?_); rintro e9 w9 ⟨rfl, hb⟩; have B9 := Lib.hid (grow_trans B8.out hb); clear hb)
  go_ret
  exact ⟨rfl, grow_trans BW.out B9.out⟩
/-- Whether two are within an angle, by the program. -/
def withZ (d e : Dr) (num den : Int) : Bool := if 0 ≤ num then decide (0 ≤ dotZ d e) && decide (0 ≤ cmpI (dotZ d e * dotZ d e * den * den) (num * num * dotZ d d * dotZ e e)) else if 0 ≤ dotZ d e then true else decide (cmpI (dotZ d e * dotZ d e * den * den) (num * num * dotZ d d * dotZ e e) ≤ 0)
theorem within_walk (d e : Dr) (num den : Int) (hd : Sm d) (he : Sm e) (hnum : I64 num) (hden : I64 den) (w : World) :
    Calls Tryz.prog 42 #[drV d, drV e, .int .i64 num, .int .i64 den] w fun e' w' => e' = .returned (.bool (withZ d e num den)) ∧ Below w.heap.size w w' := by
  unfold withZ
  by_cases h1 : 0 ≤ num <;> by_cases h2 : 0 ≤ dotZ d e
  · rw [if_pos h1, decide_eq_true h2, Bool.true_and]; exact within_pp d e num den hd he hnum hden h1 h2 w
  · rw [if_pos h1, decide_eq_false h2, Bool.false_and]; exact within_pn d e num den hd he hnum hden h1 h2 w
  · rw [if_neg h1, if_pos h2]; exact within_np d e num den hd he hnum hden h1 h2 w
  · rw [if_neg h1, if_neg h2]; exact within_nn d e num den hd he hnum hden h1 h2 w
def badCone (num den : Int) : Bool := decide (den < 1) || decide (1048576 < den) || decide (den < num) || decide (num < -den)
set_option maxRecDepth 100000 in
set_option maxHeartbeats 16000000 in
theorem cone_bad (a : Nat → Addr) (d : Dr) (num den : Int) (hd : isDir d = true) (hnum : I64 num) (hden : I64 den) (w : World) (hs : Sen a [5] w) (hb : badCone num den = true) :
    Calls Tryz.prog 40 #[drV d, .int .i64 num, .int .i64 den] w fun e' w' => e' = .returned (errV a 5) ∧ Below w.heap.size w w' := by
  have HE := Lib.hid (errV_pos a (show 5 ≠ 0 by decide))
  have DW := Lib.hid (fun X => direction_walk d X)
  rw [hd] at DW
  have g5 := (hs 5 (by decide)).1
  simp only [gOf] at g5
  have G5 := Lib.hid g5
  clear hs g5 hd
  unfold badCone at hb
  unfold drV at *
  obtain ⟨hn1, hn2⟩ := hnum
  obtain ⟨hm1, hm2⟩ := hden
  cases h1 : decide (den < 1)
  · cases h2 : decide (1048576 < den)
    · cases h3 : decide (den < num)
      · cases h4 : decide (num < -den)
        · rw [h1, h2, h3, h4] at hb; cases hb
        · clear hb
          have hw : wrap64 (-den) = -den := wrap64_mid (by have := of_decide_eq_false h1; have := of_decide_eq_false h2; omega)
          go_enter Tryz.func40, Tryz.ntmps40
          go_wp2_with (go_at_call 73; (with_reducible refine (DW.out _).mono ?_); rintro e w1 ⟨rfl, hb⟩; have B1 := Lib.hid (grow_trans (grow_alloc (grow_refl w) _) hb); have g6 := (B1.out.cell (lt_of_cell G5.out)).trans G5.out; have l6 := lt_of_cell g6; simp only at l6; clear hb)
          go_ret
          exact ⟨by rw [HE.out]; rfl, B1.out⟩
      · clear hb
        go_enter Tryz.func40, Tryz.ntmps40
        go_wp2_with (go_at_call 73; (with_reducible refine (DW.out _).mono ?_); rintro e w1 ⟨rfl, hb⟩; have B1 := Lib.hid (grow_trans (grow_alloc (grow_refl w) _) hb); have g6 := (B1.out.cell (lt_of_cell G5.out)).trans G5.out; have l6 := lt_of_cell g6; simp only at l6; clear hb)
        go_ret
        exact ⟨by rw [HE.out]; rfl, B1.out⟩
    · clear hb
      go_enter Tryz.func40, Tryz.ntmps40
      go_wp2_with (go_at_call 73; (with_reducible refine (DW.out _).mono ?_); rintro e w1 ⟨rfl, hb⟩; have B1 := Lib.hid (grow_trans (grow_alloc (grow_refl w) _) hb); have g6 := (B1.out.cell (lt_of_cell G5.out)).trans G5.out; have l6 := lt_of_cell g6; simp only at l6; clear hb)
      go_ret
      exact ⟨by rw [HE.out]; rfl, B1.out⟩
  · clear hb
    go_enter Tryz.func40, Tryz.ntmps40
    go_wp2_with (go_at_call 73; (with_reducible refine (DW.out _).mono ?_); rintro e w1 ⟨rfl, hb⟩; have B1 := Lib.hid (grow_trans (grow_alloc (grow_refl w) _) hb); have g6 := (B1.out.cell (lt_of_cell G5.out)).trans G5.out; have l6 := lt_of_cell g6; simp only at l6; clear hb)
    go_ret
    exact ⟨by rw [HE.out]; rfl, B1.out⟩
set_option maxRecDepth 100000 in
set_option maxHeartbeats 16000000 in
theorem cone_good (d : Dr) (num den : Int) (hd : isDir d = true) (w : World) (hb : badCone num den = false) :
    Calls Tryz.prog 40 #[drV d, .int .i64 num, .int .i64 den] w fun e' w' => e' = .returned .nilIface ∧ Below w.heap.size w w' := by
  have DW := Lib.hid (fun X => direction_walk d X)
  rw [hd] at DW
  clear hd
  unfold badCone at hb
  unfold drV at *
  simp only [Bool.or_eq_false_iff] at hb
  obtain ⟨⟨⟨h1, h2⟩, h3⟩, h4⟩ := hb
  have hr : -9223372036854775808 ≤ num ∧ num ≤ 9223372036854775807 ∧ 1 ≤ den ∧ den ≤ 1048576 := by
    have := of_decide_eq_false h1
    have := of_decide_eq_false h2
    have := of_decide_eq_false h3
    have := of_decide_eq_false h4
    omega
  obtain ⟨hr1, hr2, hr3, hr4⟩ := hr
  go_enter Tryz.func40, Tryz.ntmps40
  go_wp2_with (go_at_call 73; (with_reducible refine (DW.out _).mono ?_); rintro e w1 ⟨rfl, hb⟩; have B1 := Lib.hid (grow_trans (grow_alloc (grow_refl w) _) hb); clear hb)
  go_ret
  exact ⟨rfl, B1.out⟩
end Go.Proofs.YtlnbeildplafbaaGreatDoor
