/- Shapes of three points: Alike. -/
import Derived.Test.YtlnbeildplafbaaGreatDoorPs10
import Derived.Test.YtlnbeildplafbaaGreatDoorSen
set_option linter.unusedSimpArgs false
set_option linter.unusedVariables false
namespace Go.Proofs.YtlnbeildplafbaaGreatDoor
open Go.RowKit Go.Grow Go.Wd Go.Atl Go.Pl

def alikeB (l m s h l2 m2 s2 h2 k : Int) : Bool := decide (h = h2) && (nearB m m2 l2 l k && nearB s s2 l2 l k)
set_option maxRecDepth 100000 in
set_option maxHeartbeats 16000000 in
theorem alike_neg (a : Nat → Addr) (l m s h l2 m2 s2 h2 k : Int) (w : World) (hk : k < 0) (hs : Sen a [5] w) :
    Calls Tryz.prog 10 #[shV l m s h, shV l2 m2 s2 h2, .int .i64 k] w fun e w' => e = .returned (.tuple #[.bool false, errV a 5]) ∧ Below w.heap.size w w' := by
  have VA := Lib.hid (fun X => valid_walk l m s h X)
  have VB := Lib.hid (fun X => valid_walk l2 m2 s2 h2 X)
  have HE5 := Lib.hid (errV_pos a (show 5 ≠ 0 by decide))
  have G5 := Lib.hid (hs 5 (by decide)).1
  have d0 : decide (k < 0) = true := decide_eq_true hk
  unfold shV at VA VB
  unfold shV
  go_enter Tryz.func10, Tryz.ntmps10
  go_upto_region 1 with (fail)
  refine seal_wp fun X hX => ?_
  have ZA := Lib.hid (show Known X w.heap.size #[.int .i64 l, .int .i64 m, .int .i64 s, .int .i64 h] by rw [hX.out]; exact ((Known.new w _ _).alloc _).alloc _)
  have ZB := Lib.hid (show Known X (w.heap.size + 1) #[.int .i64 l2, .int .i64 m2, .int .i64 s2, .int .i64 h2] by rw [hX.out]; exact (Known.new' (by simp)).alloc _)
  have ZK := Lib.hid (show Known X (w.heap.size + 1 + 1) #[.int .i64 k] by rw [hX.out]; exact Known.new' (by simp))
  have BX := Lib.hid (show Below w.heap.size w X by rw [hX.out]; exact grow_alloc (grow_alloc (grow_alloc (grow_refl w) _) _) _)
  clear hX
  have BS := Lib.hid BX.out.size
  generalize hbp : w.heap.size = bp at *
  have HBP := Lib.hid hbp
  clear hbp
  have g := (trivial)
  have ZAX := ZA.out.below (grow_refl X)
  have a0 := ZAX.cell 0
  have a1 := ZAX.cell 1
  have a2 := ZAX.cell 2
  have a3 := ZAX.cell 3
  have al := ZAX.lt
  clear ZAX
  have ZBX := ZB.out.below (grow_refl X)
  have b0 := ZBX.cell 0
  have b1 := ZBX.cell 1
  have b2 := ZBX.cell 2
  have b3 := ZBX.cell 3
  have bl := ZBX.lt
  clear ZBX
  have ZKX := ZK.out.below (grow_refl X)
  have k0 := ZKX.cell 0
  have kl := ZKX.lt
  clear ZKX
  simp only [List.getElem?_toArray, List.getElem?_cons_zero, List.getElem?_cons_succ] at a0 a1 a2 a3 b0 b1 b2 b3 k0
  clear g
  go_upto_region 2 with (fail)
  have BY := Lib.hid (show Below bp w X from BX.out)
  clear a0 a1 a2 a3 al b0 b1 b2 b3 bl k0 kl
  have g5 : X.cell? ⟨gOf 5, 0, none⟩ = some (errV a 5) := by
    have h0 := G5.out
    have BW : Below w.heap.size w X := by rw [HBP.out]; exact BY.out
    exact (BW.cell (lt_of_cell h0)).trans h0
  simp only [gOf] at g5
  have l5 := lt_of_cell g5
  simp only at l5
  rw [HE5.out] at g5
  go_quiet (fail)
  go_wp2
  go_ret2
  refine ⟨by rw [HE5.out]; rfl, ?_⟩
  rw [HBP.out]
  exact BY.out.trans ((grow_drewN (grow_refl _) _).mono (by have := BY.out.size; have := HBP.out; omega))
set_option maxRecDepth 100000 in
set_option maxHeartbeats 16000000 in
theorem alike_much (a : Nat → Addr) (l m s h l2 m2 s2 h2 k : Int) (w : World) (hk : 1000 < k) (hs : Sen a [5] w) :
    Calls Tryz.prog 10 #[shV l m s h, shV l2 m2 s2 h2, .int .i64 k] w fun e w' => e = .returned (.tuple #[.bool false, errV a 5]) ∧ Below w.heap.size w w' := by
  have VA := Lib.hid (fun X => valid_walk l m s h X)
  have VB := Lib.hid (fun X => valid_walk l2 m2 s2 h2 X)
  have HE5 := Lib.hid (errV_pos a (show 5 ≠ 0 by decide))
  have G5 := Lib.hid (hs 5 (by decide)).1
  have d0 : decide (k < 0) = false := decide_eq_false (by omega)
  have d1 : decide (1000 < k) = true := decide_eq_true hk
  unfold shV at VA VB
  unfold shV
  go_enter Tryz.func10, Tryz.ntmps10
  go_upto_region 1 with (fail)
  refine seal_wp fun X hX => ?_
  have ZA := Lib.hid (show Known X w.heap.size #[.int .i64 l, .int .i64 m, .int .i64 s, .int .i64 h] by rw [hX.out]; exact ((Known.new w _ _).alloc _).alloc _)
  have ZB := Lib.hid (show Known X (w.heap.size + 1) #[.int .i64 l2, .int .i64 m2, .int .i64 s2, .int .i64 h2] by rw [hX.out]; exact (Known.new' (by simp)).alloc _)
  have ZK := Lib.hid (show Known X (w.heap.size + 1 + 1) #[.int .i64 k] by rw [hX.out]; exact Known.new' (by simp))
  have BX := Lib.hid (show Below w.heap.size w X by rw [hX.out]; exact grow_alloc (grow_alloc (grow_alloc (grow_refl w) _) _) _)
  clear hX
  have BS := Lib.hid BX.out.size
  generalize hbp : w.heap.size = bp at *
  have HBP := Lib.hid hbp
  clear hbp
  have g := (trivial)
  have ZAX := ZA.out.below (grow_refl X)
  have a0 := ZAX.cell 0
  have a1 := ZAX.cell 1
  have a2 := ZAX.cell 2
  have a3 := ZAX.cell 3
  have al := ZAX.lt
  clear ZAX
  have ZBX := ZB.out.below (grow_refl X)
  have b0 := ZBX.cell 0
  have b1 := ZBX.cell 1
  have b2 := ZBX.cell 2
  have b3 := ZBX.cell 3
  have bl := ZBX.lt
  clear ZBX
  have ZKX := ZK.out.below (grow_refl X)
  have k0 := ZKX.cell 0
  have kl := ZKX.lt
  clear ZKX
  simp only [List.getElem?_toArray, List.getElem?_cons_zero, List.getElem?_cons_succ] at a0 a1 a2 a3 b0 b1 b2 b3 k0
  clear g
  go_upto_region 2 with (fail)
  have BY := Lib.hid (show Below bp w X from BX.out)
  clear a0 a1 a2 a3 al b0 b1 b2 b3 bl k0 kl
  have g5 : X.cell? ⟨gOf 5, 0, none⟩ = some (errV a 5) := by
    have h0 := G5.out
    have BW : Below w.heap.size w X := by rw [HBP.out]; exact BY.out
    exact (BW.cell (lt_of_cell h0)).trans h0
  simp only [gOf] at g5
  have l5 := lt_of_cell g5
  simp only at l5
  rw [HE5.out] at g5
  go_quiet (fail)
  go_wp2
  go_ret2
  refine ⟨by rw [HE5.out]; rfl, ?_⟩
  rw [HBP.out]
  exact BY.out.trans ((grow_drewN (grow_refl _) _).mono (by have := BY.out.size; have := HBP.out; omega))
set_option maxRecDepth 100000 in
set_option maxHeartbeats 16000000 in
theorem alike_one (a : Nat → Addr) (l m s h l2 m2 s2 h2 k : Int) (w : World) (hk : 0 ≤ k ∧ k ≤ 1000) (hv : validB l m s h = false) (hs : Sen a [5] w) :
    Calls Tryz.prog 10 #[shV l m s h, shV l2 m2 s2 h2, .int .i64 k] w fun e w' => e = .returned (.tuple #[.bool false, errV a 5]) ∧ Below w.heap.size w w' := by
  have VA := Lib.hid (fun X => valid_walk l m s h X)
  have VB := Lib.hid (fun X => valid_walk l2 m2 s2 h2 X)
  have HE5 := Lib.hid (errV_pos a (show 5 ≠ 0 by decide))
  have G5 := Lib.hid (hs 5 (by decide)).1
  have d0 : decide (k < 0) = false := decide_eq_false (by omega)
  have d1 : decide (1000 < k) = false := decide_eq_false (by omega)
  rw [hv] at VA
  unfold shV at VA VB
  unfold shV
  go_enter Tryz.func10, Tryz.ntmps10
  go_upto_region 1 with (fail)
  refine seal_wp fun X hX => ?_
  have ZA := Lib.hid (show Known X w.heap.size #[.int .i64 l, .int .i64 m, .int .i64 s, .int .i64 h] by rw [hX.out]; exact ((Known.new w _ _).alloc _).alloc _)
  have ZB := Lib.hid (show Known X (w.heap.size + 1) #[.int .i64 l2, .int .i64 m2, .int .i64 s2, .int .i64 h2] by rw [hX.out]; exact (Known.new' (by simp)).alloc _)
  have ZK := Lib.hid (show Known X (w.heap.size + 1 + 1) #[.int .i64 k] by rw [hX.out]; exact Known.new' (by simp))
  have BX := Lib.hid (show Below w.heap.size w X by rw [hX.out]; exact grow_alloc (grow_alloc (grow_alloc (grow_refl w) _) _) _)
  clear hX
  have BS := Lib.hid BX.out.size
  generalize hbp : w.heap.size = bp at *
  have HBP := Lib.hid hbp
  clear hbp
  have g := (trivial)
  have ZAX := ZA.out.below (grow_refl X)
  have a0 := ZAX.cell 0
  have a1 := ZAX.cell 1
  have a2 := ZAX.cell 2
  have a3 := ZAX.cell 3
  have al := ZAX.lt
  clear ZAX
  have ZBX := ZB.out.below (grow_refl X)
  have b0 := ZBX.cell 0
  have b1 := ZBX.cell 1
  have b2 := ZBX.cell 2
  have b3 := ZBX.cell 3
  have bl := ZBX.lt
  clear ZBX
  have ZKX := ZK.out.below (grow_refl X)
  have k0 := ZKX.cell 0
  have kl := ZKX.lt
  clear ZKX
  simp only [List.getElem?_toArray, List.getElem?_cons_zero, List.getElem?_cons_succ] at a0 a1 a2 a3 b0 b1 b2 b3 k0
  clear g
  go_upto_region 2 with (first
    | (go_at_call 25; go_loud ((with_reducible refine (VA.out _).mono ?_); rintro e w1 ⟨rfl, hb⟩; have B1 := Lib.hid (hb : Below X.heap.size X w1); clear hb VA a0 a1 a2 a3 al b0 b1 b2 b3 bl k0 kl; have ZAX := ZA.out.below B1.out; have a0 := ZAX.cell 0; have a1 := ZAX.cell 1; have a2 := ZAX.cell 2; have a3 := ZAX.cell 3; have al := ZAX.lt; clear ZAX; have ZBX := ZB.out.below B1.out; have b0 := ZBX.cell 0; have b1 := ZBX.cell 1; have b2 := ZBX.cell 2; have b3 := ZBX.cell 3; have bl := ZBX.lt; clear ZBX; have ZKX := ZK.out.below B1.out; have k0 := ZKX.cell 0; have kl := ZKX.lt; clear ZKX; simp only [List.getElem?_toArray, List.getElem?_cons_zero, List.getElem?_cons_succ] at a0 a1 a2 a3 b0 b1 b2 b3 k0)))
  have BY := Lib.hid (show Below bp w w1 from BX.out.trans (B1.out.mono (Nat.le_trans (Nat.le_of_eq rfl) BS.out)))
  clear a0 a1 a2 a3 al b0 b1 b2 b3 bl k0 kl
  have g5 : w1.cell? ⟨gOf 5, 0, none⟩ = some (errV a 5) := by
    have h0 := G5.out
    have BW : Below w.heap.size w w1 := by rw [HBP.out]; exact BY.out
    exact (BW.cell (lt_of_cell h0)).trans h0
  simp only [gOf] at g5
  have l5 := lt_of_cell g5
  simp only at l5
  rw [HE5.out] at g5
  go_quiet (fail)
  go_wp2
  go_ret2
  refine ⟨by rw [HE5.out]; rfl, ?_⟩
  rw [HBP.out]
  exact BY.out.trans ((grow_drewN (grow_refl _) _).mono (by have := BY.out.size; have := HBP.out; omega))
set_option maxRecDepth 100000 in
set_option maxHeartbeats 16000000 in
theorem alike_two (a : Nat → Addr) (l m s h l2 m2 s2 h2 k : Int) (w : World) (hk : 0 ≤ k ∧ k ≤ 1000) (hv : validB l m s h = true) (hv2 : validB l2 m2 s2 h2 = false) (hs : Sen a [5] w) :
    Calls Tryz.prog 10 #[shV l m s h, shV l2 m2 s2 h2, .int .i64 k] w fun e w' => e = .returned (.tuple #[.bool false, errV a 5]) ∧ Below w.heap.size w w' := by
  have VA := Lib.hid (fun X => valid_walk l m s h X)
  have VB := Lib.hid (fun X => valid_walk l2 m2 s2 h2 X)
  have HE5 := Lib.hid (errV_pos a (show 5 ≠ 0 by decide))
  have G5 := Lib.hid (hs 5 (by decide)).1
  have d0 : decide (k < 0) = false := decide_eq_false (by omega)
  have d1 : decide (1000 < k) = false := decide_eq_false (by omega)
  rw [hv] at VA
  rw [hv2] at VB
  unfold shV at VA VB
  unfold shV
  go_enter Tryz.func10, Tryz.ntmps10
  go_upto_region 1 with (fail)
  refine seal_wp fun X hX => ?_
  have ZA := Lib.hid (show Known X w.heap.size #[.int .i64 l, .int .i64 m, .int .i64 s, .int .i64 h] by rw [hX.out]; exact ((Known.new w _ _).alloc _).alloc _)
  have ZB := Lib.hid (show Known X (w.heap.size + 1) #[.int .i64 l2, .int .i64 m2, .int .i64 s2, .int .i64 h2] by rw [hX.out]; exact (Known.new' (by simp)).alloc _)
  have ZK := Lib.hid (show Known X (w.heap.size + 1 + 1) #[.int .i64 k] by rw [hX.out]; exact Known.new' (by simp))
  have BX := Lib.hid (show Below w.heap.size w X by rw [hX.out]; exact grow_alloc (grow_alloc (grow_alloc (grow_refl w) _) _) _)
  clear hX
  have BS := Lib.hid BX.out.size
  generalize hbp : w.heap.size = bp at *
  have HBP := Lib.hid hbp
  clear hbp
  have g := (trivial)
  have ZAX := ZA.out.below (grow_refl X)
  have a0 := ZAX.cell 0
  have a1 := ZAX.cell 1
  have a2 := ZAX.cell 2
  have a3 := ZAX.cell 3
  have al := ZAX.lt
  clear ZAX
  have ZBX := ZB.out.below (grow_refl X)
  have b0 := ZBX.cell 0
  have b1 := ZBX.cell 1
  have b2 := ZBX.cell 2
  have b3 := ZBX.cell 3
  have bl := ZBX.lt
  clear ZBX
  have ZKX := ZK.out.below (grow_refl X)
  have k0 := ZKX.cell 0
  have kl := ZKX.lt
  clear ZKX
  simp only [List.getElem?_toArray, List.getElem?_cons_zero, List.getElem?_cons_succ] at a0 a1 a2 a3 b0 b1 b2 b3 k0
  clear g
  go_upto_region 2 with (first
    | (go_at_call 25; go_loud ((with_reducible refine (VA.out _).mono ?_); rintro e w1 ⟨rfl, hb⟩; have B1 := Lib.hid (hb : Below X.heap.size X w1); clear hb VA a0 a1 a2 a3 al b0 b1 b2 b3 bl k0 kl; have ZAX := ZA.out.below B1.out; have a0 := ZAX.cell 0; have a1 := ZAX.cell 1; have a2 := ZAX.cell 2; have a3 := ZAX.cell 3; have al := ZAX.lt; clear ZAX; have ZBX := ZB.out.below B1.out; have b0 := ZBX.cell 0; have b1 := ZBX.cell 1; have b2 := ZBX.cell 2; have b3 := ZBX.cell 3; have bl := ZBX.lt; clear ZBX; have ZKX := ZK.out.below B1.out; have k0 := ZKX.cell 0; have kl := ZKX.lt; clear ZKX; simp only [List.getElem?_toArray, List.getElem?_cons_zero, List.getElem?_cons_succ] at a0 a1 a2 a3 b0 b1 b2 b3 k0))
    | (go_at_call 25; go_loud ((with_reducible refine (VB.out _).mono ?_); rintro e w2 ⟨rfl, hb⟩; have B2 := Lib.hid (grow_trans B1.out hb : Below X.heap.size X w2); clear hb VB a0 a1 a2 a3 al b0 b1 b2 b3 bl k0 kl; have ZAX := ZA.out.below B2.out; have a0 := ZAX.cell 0; have a1 := ZAX.cell 1; have a2 := ZAX.cell 2; have a3 := ZAX.cell 3; have al := ZAX.lt; clear ZAX; have ZBX := ZB.out.below B2.out; have b0 := ZBX.cell 0; have b1 := ZBX.cell 1; have b2 := ZBX.cell 2; have b3 := ZBX.cell 3; have bl := ZBX.lt; clear ZBX; have ZKX := ZK.out.below B2.out; have k0 := ZKX.cell 0; have kl := ZKX.lt; clear ZKX; simp only [List.getElem?_toArray, List.getElem?_cons_zero, List.getElem?_cons_succ] at a0 a1 a2 a3 b0 b1 b2 b3 k0)))
  have BY := Lib.hid (show Below bp w w2 from BX.out.trans (B2.out.mono (Nat.le_trans (Nat.le_of_eq rfl) BS.out)))
  clear a0 a1 a2 a3 al b0 b1 b2 b3 bl k0 kl
  have g5 : w2.cell? ⟨gOf 5, 0, none⟩ = some (errV a 5) := by
    have h0 := G5.out
    have BW : Below w.heap.size w w2 := by rw [HBP.out]; exact BY.out
    exact (BW.cell (lt_of_cell h0)).trans h0
  simp only [gOf] at g5
  have l5 := lt_of_cell g5
  simp only at l5
  rw [HE5.out] at g5
  go_quiet (fail)
  go_wp2
  go_ret2
  refine ⟨by rw [HE5.out]; rfl, ?_⟩
  rw [HBP.out]
  exact BY.out.trans ((grow_drewN (grow_refl _) _).mono (by have := BY.out.size; have := HBP.out; omega))
set_option maxRecDepth 100000 in
set_option maxHeartbeats 16000000 in
theorem alike_hand (a : Nat → Addr) (l m s h l2 m2 s2 h2 k : Int) (w : World) (hk : 0 ≤ k ∧ k ≤ 1000) (hv : validB l m s h = true) (hv2 : validB l2 m2 s2 h2 = true) (hh : ¬ h = h2) :
    Calls Tryz.prog 10 #[shV l m s h, shV l2 m2 s2 h2, .int .i64 k] w fun e w' => e = .returned (.tuple #[.bool (alikeB l m s h l2 m2 s2 h2 k), .nilIface]) ∧ Below w.heap.size w w' := by
  have VA := Lib.hid (fun X => valid_walk l m s h X)
  have VB := Lib.hid (fun X => valid_walk l2 m2 s2 h2 X)
  have d0 : decide (k < 0) = false := decide_eq_false (by omega)
  have d1 : decide (1000 < k) = false := decide_eq_false (by omega)
  rw [hv] at VA
  rw [hv2] at VB
  have dh : (h == h2) = false := beq_eq_false_iff_ne.2 hh
  have HH := Lib.hid hh
  clear hh
  unfold shV at VA VB
  unfold shV
  go_enter Tryz.func10, Tryz.ntmps10
  go_upto_region 1 with (fail)
  refine seal_wp fun X hX => ?_
  have ZA := Lib.hid (show Known X w.heap.size #[.int .i64 l, .int .i64 m, .int .i64 s, .int .i64 h] by rw [hX.out]; exact ((Known.new w _ _).alloc _).alloc _)
  have ZB := Lib.hid (show Known X (w.heap.size + 1) #[.int .i64 l2, .int .i64 m2, .int .i64 s2, .int .i64 h2] by rw [hX.out]; exact (Known.new' (by simp)).alloc _)
  have ZK := Lib.hid (show Known X (w.heap.size + 1 + 1) #[.int .i64 k] by rw [hX.out]; exact Known.new' (by simp))
  have BX := Lib.hid (show Below w.heap.size w X by rw [hX.out]; exact grow_alloc (grow_alloc (grow_alloc (grow_refl w) _) _) _)
  clear hX
  have BS := Lib.hid BX.out.size
  generalize hbp : w.heap.size = bp at *
  have HBP := Lib.hid hbp
  clear hbp
  have N1 := Lib.hid (fun Y (hY : Below X.heap.size X Y) => near_walk m m2 l2 l k (by have := validB_iff.1 hv; omega) (by have := validB_iff.1 hv2; omega) (by have := validB_iff.1 hv2; omega) (by have := validB_iff.1 hv; omega) hk m2 s2 h2 m s h (bp + 1) bp (bp + 1 + 1) Y (ZB.out.below hY) (ZA.out.below hY) (ZK.out.below hY))
  have N2 := Lib.hid (fun Y (hY : Below X.heap.size X Y) => near_walk s s2 l2 l k (by have := validB_iff.1 hv; omega) (by have := validB_iff.1 hv2; omega) (by have := validB_iff.1 hv2; omega) (by have := validB_iff.1 hv; omega) hk m2 s2 h2 m s h (bp + 1) bp (bp + 1 + 1) Y (ZB.out.below hY) (ZA.out.below hY) (ZK.out.below hY))
  have HAL := Lib.hid (show alikeB l m s h l2 m2 s2 h2 k = false by unfold alikeB; rw [decide_eq_false HH.out]; rfl)
  have g := (trivial)
  have ZAX := ZA.out.below (grow_refl X)
  have a0 := ZAX.cell 0
  have a1 := ZAX.cell 1
  have a2 := ZAX.cell 2
  have a3 := ZAX.cell 3
  have al := ZAX.lt
  clear ZAX
  have ZBX := ZB.out.below (grow_refl X)
  have b0 := ZBX.cell 0
  have b1 := ZBX.cell 1
  have b2 := ZBX.cell 2
  have b3 := ZBX.cell 3
  have bl := ZBX.lt
  clear ZBX
  have ZKX := ZK.out.below (grow_refl X)
  have k0 := ZKX.cell 0
  have kl := ZKX.lt
  clear ZKX
  simp only [List.getElem?_toArray, List.getElem?_cons_zero, List.getElem?_cons_succ] at a0 a1 a2 a3 b0 b1 b2 b3 k0
  clear g
  go_wp2_with (first
    | (go_at_call 25; go_loud ((with_reducible refine (VA.out _).mono ?_); rintro e w1 ⟨rfl, hb⟩; have B1 := Lib.hid (hb : Below X.heap.size X w1); clear hb VA a0 a1 a2 a3 al b0 b1 b2 b3 bl k0 kl; have ZAX := ZA.out.below B1.out; have a0 := ZAX.cell 0; have a1 := ZAX.cell 1; have a2 := ZAX.cell 2; have a3 := ZAX.cell 3; have al := ZAX.lt; clear ZAX; have ZBX := ZB.out.below B1.out; have b0 := ZBX.cell 0; have b1 := ZBX.cell 1; have b2 := ZBX.cell 2; have b3 := ZBX.cell 3; have bl := ZBX.lt; clear ZBX; have ZKX := ZK.out.below B1.out; have k0 := ZKX.cell 0; have kl := ZKX.lt; clear ZKX; simp only [List.getElem?_toArray, List.getElem?_cons_zero, List.getElem?_cons_succ] at a0 a1 a2 a3 b0 b1 b2 b3 k0))
    | (go_at_call 25; go_loud ((with_reducible refine (VB.out _).mono ?_); rintro e w2 ⟨rfl, hb⟩; have B2 := Lib.hid (grow_trans B1.out hb : Below X.heap.size X w2); clear hb VB a0 a1 a2 a3 al b0 b1 b2 b3 bl k0 kl; have ZAX := ZA.out.below B2.out; have a0 := ZAX.cell 0; have a1 := ZAX.cell 1; have a2 := ZAX.cell 2; have a3 := ZAX.cell 3; have al := ZAX.lt; clear ZAX; have ZBX := ZB.out.below B2.out; have b0 := ZBX.cell 0; have b1 := ZBX.cell 1; have b2 := ZBX.cell 2; have b3 := ZBX.cell 3; have bl := ZBX.lt; clear ZBX; have ZKX := ZK.out.below B2.out; have k0 := ZKX.cell 0; have kl := ZKX.lt; clear ZKX; simp only [List.getElem?_toArray, List.getElem?_cons_zero, List.getElem?_cons_succ] at a0 a1 a2 a3 b0 b1 b2 b3 k0)))
  go_ret2
  refine ⟨by rw [HAL.out]; rfl, ?_⟩
  rw [HBP.out]
  exact BX.out.trans (B2.out.mono (by have := BX.out.size; have := HBP.out; omega))
set_option maxRecDepth 100000 in
set_option maxHeartbeats 16000000 in
theorem alike_far1 (a : Nat → Addr) (l m s h l2 m2 s2 h2 k : Int) (w : World) (hk : 0 ≤ k ∧ k ≤ 1000) (hv : validB l m s h = true) (hv2 : validB l2 m2 s2 h2 = true) (hh : h = h2) (q1 : nearB m m2 l2 l k = false) :
    Calls Tryz.prog 10 #[shV l m s h, shV l2 m2 s2 h2, .int .i64 k] w fun e w' => e = .returned (.tuple #[.bool (alikeB l m s h l2 m2 s2 h2 k), .nilIface]) ∧ Below w.heap.size w w' := by
  have VA := Lib.hid (fun X => valid_walk l m s h X)
  have VB := Lib.hid (fun X => valid_walk l2 m2 s2 h2 X)
  have d0 : decide (k < 0) = false := decide_eq_false (by omega)
  have d1 : decide (1000 < k) = false := decide_eq_false (by omega)
  rw [hv] at VA
  rw [hv2] at VB
  have dh : (h == h2) = true := by rw [hh]; simp
  have HH := Lib.hid hh
  clear hh
  unfold shV at VA VB
  unfold shV
  go_enter Tryz.func10, Tryz.ntmps10
  go_upto_region 1 with (fail)
  refine seal_wp fun X hX => ?_
  have ZA := Lib.hid (show Known X w.heap.size #[.int .i64 l, .int .i64 m, .int .i64 s, .int .i64 h] by rw [hX.out]; exact ((Known.new w _ _).alloc _).alloc _)
  have ZB := Lib.hid (show Known X (w.heap.size + 1) #[.int .i64 l2, .int .i64 m2, .int .i64 s2, .int .i64 h2] by rw [hX.out]; exact (Known.new' (by simp)).alloc _)
  have ZK := Lib.hid (show Known X (w.heap.size + 1 + 1) #[.int .i64 k] by rw [hX.out]; exact Known.new' (by simp))
  have BX := Lib.hid (show Below w.heap.size w X by rw [hX.out]; exact grow_alloc (grow_alloc (grow_alloc (grow_refl w) _) _) _)
  clear hX
  have BS := Lib.hid BX.out.size
  generalize hbp : w.heap.size = bp at *
  have HBP := Lib.hid hbp
  clear hbp
  have N1 := Lib.hid (fun Y (hY : Below X.heap.size X Y) => near_walk m m2 l2 l k (by have := validB_iff.1 hv; omega) (by have := validB_iff.1 hv2; omega) (by have := validB_iff.1 hv2; omega) (by have := validB_iff.1 hv; omega) hk m2 s2 h2 m s h (bp + 1) bp (bp + 1 + 1) Y (ZB.out.below hY) (ZA.out.below hY) (ZK.out.below hY))
  have N2 := Lib.hid (fun Y (hY : Below X.heap.size X Y) => near_walk s s2 l2 l k (by have := validB_iff.1 hv; omega) (by have := validB_iff.1 hv2; omega) (by have := validB_iff.1 hv2; omega) (by have := validB_iff.1 hv; omega) hk m2 s2 h2 m s h (bp + 1) bp (bp + 1 + 1) Y (ZB.out.below hY) (ZA.out.below hY) (ZK.out.below hY))
  have HAL := Lib.hid (show alikeB l m s h l2 m2 s2 h2 k = false by unfold alikeB; rw [decide_eq_true HH.out, q1]; rfl)
  rw [q1] at N1
  have g := (trivial)
  have ZAX := ZA.out.below (grow_refl X)
  have a0 := ZAX.cell 0
  have a1 := ZAX.cell 1
  have a2 := ZAX.cell 2
  have a3 := ZAX.cell 3
  have al := ZAX.lt
  clear ZAX
  have ZBX := ZB.out.below (grow_refl X)
  have b0 := ZBX.cell 0
  have b1 := ZBX.cell 1
  have b2 := ZBX.cell 2
  have b3 := ZBX.cell 3
  have bl := ZBX.lt
  clear ZBX
  have ZKX := ZK.out.below (grow_refl X)
  have k0 := ZKX.cell 0
  have kl := ZKX.lt
  clear ZKX
  simp only [List.getElem?_toArray, List.getElem?_cons_zero, List.getElem?_cons_succ] at a0 a1 a2 a3 b0 b1 b2 b3 k0
  clear g
  go_wp2_with (first
    | (go_at_call 25; go_loud ((with_reducible refine (VA.out _).mono ?_); rintro e w1 ⟨rfl, hb⟩; have B1 := Lib.hid (hb : Below X.heap.size X w1); clear hb VA a0 a1 a2 a3 al b0 b1 b2 b3 bl k0 kl; have ZAX := ZA.out.below B1.out; have a0 := ZAX.cell 0; have a1 := ZAX.cell 1; have a2 := ZAX.cell 2; have a3 := ZAX.cell 3; have al := ZAX.lt; clear ZAX; have ZBX := ZB.out.below B1.out; have b0 := ZBX.cell 0; have b1 := ZBX.cell 1; have b2 := ZBX.cell 2; have b3 := ZBX.cell 3; have bl := ZBX.lt; clear ZBX; have ZKX := ZK.out.below B1.out; have k0 := ZKX.cell 0; have kl := ZKX.lt; clear ZKX; simp only [List.getElem?_toArray, List.getElem?_cons_zero, List.getElem?_cons_succ] at a0 a1 a2 a3 b0 b1 b2 b3 k0))
    | (go_at_call 25; go_loud ((with_reducible refine (VB.out _).mono ?_); rintro e w2 ⟨rfl, hb⟩; have B2 := Lib.hid (grow_trans B1.out hb : Below X.heap.size X w2); clear hb VB a0 a1 a2 a3 al b0 b1 b2 b3 bl k0 kl; have ZAX := ZA.out.below B2.out; have a0 := ZAX.cell 0; have a1 := ZAX.cell 1; have a2 := ZAX.cell 2; have a3 := ZAX.cell 3; have al := ZAX.lt; clear ZAX; have ZBX := ZB.out.below B2.out; have b0 := ZBX.cell 0; have b1 := ZBX.cell 1; have b2 := ZBX.cell 2; have b3 := ZBX.cell 3; have bl := ZBX.lt; clear ZBX; have ZKX := ZK.out.below B2.out; have k0 := ZKX.cell 0; have kl := ZKX.lt; clear ZKX; simp only [List.getElem?_toArray, List.getElem?_cons_zero, List.getElem?_cons_succ] at a0 a1 a2 a3 b0 b1 b2 b3 k0))
    | (go_at_call 26; go_loud ((with_reducible refine (N1.out _ (grow_trans B2.out (grow_refl _))).mono ?_); rintro e w3 ⟨rfl, hb⟩; have B3 := Lib.hid (grow_trans B2.out hb : Below X.heap.size X w3); clear hb N1 a0 a1 a2 a3 al b0 b1 b2 b3 bl k0 kl; have ZAX := ZA.out.below B3.out; have a0 := ZAX.cell 0; have a1 := ZAX.cell 1; have a2 := ZAX.cell 2; have a3 := ZAX.cell 3; have al := ZAX.lt; clear ZAX; have ZBX := ZB.out.below B3.out; have b0 := ZBX.cell 0; have b1 := ZBX.cell 1; have b2 := ZBX.cell 2; have b3 := ZBX.cell 3; have bl := ZBX.lt; clear ZBX; have ZKX := ZK.out.below B3.out; have k0 := ZKX.cell 0; have kl := ZKX.lt; clear ZKX; simp only [List.getElem?_toArray, List.getElem?_cons_zero, List.getElem?_cons_succ] at a0 a1 a2 a3 b0 b1 b2 b3 k0)))
  go_ret2
  refine ⟨by rw [HAL.out]; rfl, ?_⟩
  rw [HBP.out]
  exact BX.out.trans (B3.out.mono (by have := BX.out.size; have := HBP.out; omega))
set_option maxRecDepth 100000 in
set_option maxHeartbeats 16000000 in
theorem alike_far2 (a : Nat → Addr) (l m s h l2 m2 s2 h2 k : Int) (w : World) (hk : 0 ≤ k ∧ k ≤ 1000) (hv : validB l m s h = true) (hv2 : validB l2 m2 s2 h2 = true) (hh : h = h2) (q1 : nearB m m2 l2 l k = true) (q2 : nearB s s2 l2 l k = false) :
    Calls Tryz.prog 10 #[shV l m s h, shV l2 m2 s2 h2, .int .i64 k] w fun e w' => e = .returned (.tuple #[.bool (alikeB l m s h l2 m2 s2 h2 k), .nilIface]) ∧ Below w.heap.size w w' := by
  have VA := Lib.hid (fun X => valid_walk l m s h X)
  have VB := Lib.hid (fun X => valid_walk l2 m2 s2 h2 X)
  have d0 : decide (k < 0) = false := decide_eq_false (by omega)
  have d1 : decide (1000 < k) = false := decide_eq_false (by omega)
  rw [hv] at VA
  rw [hv2] at VB
  have dh : (h == h2) = true := by rw [hh]; simp
  have HH := Lib.hid hh
  clear hh
  unfold shV at VA VB
  unfold shV
  go_enter Tryz.func10, Tryz.ntmps10
  go_upto_region 1 with (fail)
  refine seal_wp fun X hX => ?_
  have ZA := Lib.hid (show Known X w.heap.size #[.int .i64 l, .int .i64 m, .int .i64 s, .int .i64 h] by rw [hX.out]; exact ((Known.new w _ _).alloc _).alloc _)
  have ZB := Lib.hid (show Known X (w.heap.size + 1) #[.int .i64 l2, .int .i64 m2, .int .i64 s2, .int .i64 h2] by rw [hX.out]; exact (Known.new' (by simp)).alloc _)
  have ZK := Lib.hid (show Known X (w.heap.size + 1 + 1) #[.int .i64 k] by rw [hX.out]; exact Known.new' (by simp))
  have BX := Lib.hid (show Below w.heap.size w X by rw [hX.out]; exact grow_alloc (grow_alloc (grow_alloc (grow_refl w) _) _) _)
  clear hX
  have BS := Lib.hid BX.out.size
  generalize hbp : w.heap.size = bp at *
  have HBP := Lib.hid hbp
  clear hbp
  have N1 := Lib.hid (fun Y (hY : Below X.heap.size X Y) => near_walk m m2 l2 l k (by have := validB_iff.1 hv; omega) (by have := validB_iff.1 hv2; omega) (by have := validB_iff.1 hv2; omega) (by have := validB_iff.1 hv; omega) hk m2 s2 h2 m s h (bp + 1) bp (bp + 1 + 1) Y (ZB.out.below hY) (ZA.out.below hY) (ZK.out.below hY))
  have N2 := Lib.hid (fun Y (hY : Below X.heap.size X Y) => near_walk s s2 l2 l k (by have := validB_iff.1 hv; omega) (by have := validB_iff.1 hv2; omega) (by have := validB_iff.1 hv2; omega) (by have := validB_iff.1 hv; omega) hk m2 s2 h2 m s h (bp + 1) bp (bp + 1 + 1) Y (ZB.out.below hY) (ZA.out.below hY) (ZK.out.below hY))
  have HAL := Lib.hid (show alikeB l m s h l2 m2 s2 h2 k = false by unfold alikeB; rw [decide_eq_true HH.out, q1, q2]; rfl)
  rw [q1] at N1
  rw [q2] at N2
  have g := (trivial)
  have ZAX := ZA.out.below (grow_refl X)
  have a0 := ZAX.cell 0
  have a1 := ZAX.cell 1
  have a2 := ZAX.cell 2
  have a3 := ZAX.cell 3
  have al := ZAX.lt
  clear ZAX
  have ZBX := ZB.out.below (grow_refl X)
  have b0 := ZBX.cell 0
  have b1 := ZBX.cell 1
  have b2 := ZBX.cell 2
  have b3 := ZBX.cell 3
  have bl := ZBX.lt
  clear ZBX
  have ZKX := ZK.out.below (grow_refl X)
  have k0 := ZKX.cell 0
  have kl := ZKX.lt
  clear ZKX
  simp only [List.getElem?_toArray, List.getElem?_cons_zero, List.getElem?_cons_succ] at a0 a1 a2 a3 b0 b1 b2 b3 k0
  clear g
  go_wp2_with (first
    | (go_at_call 25; go_loud ((with_reducible refine (VA.out _).mono ?_); rintro e w1 ⟨rfl, hb⟩; have B1 := Lib.hid (hb : Below X.heap.size X w1); clear hb VA a0 a1 a2 a3 al b0 b1 b2 b3 bl k0 kl; have ZAX := ZA.out.below B1.out; have a0 := ZAX.cell 0; have a1 := ZAX.cell 1; have a2 := ZAX.cell 2; have a3 := ZAX.cell 3; have al := ZAX.lt; clear ZAX; have ZBX := ZB.out.below B1.out; have b0 := ZBX.cell 0; have b1 := ZBX.cell 1; have b2 := ZBX.cell 2; have b3 := ZBX.cell 3; have bl := ZBX.lt; clear ZBX; have ZKX := ZK.out.below B1.out; have k0 := ZKX.cell 0; have kl := ZKX.lt; clear ZKX; simp only [List.getElem?_toArray, List.getElem?_cons_zero, List.getElem?_cons_succ] at a0 a1 a2 a3 b0 b1 b2 b3 k0))
    | (go_at_call 25; go_loud ((with_reducible refine (VB.out _).mono ?_); rintro e w2 ⟨rfl, hb⟩; have B2 := Lib.hid (grow_trans B1.out hb : Below X.heap.size X w2); clear hb VB a0 a1 a2 a3 al b0 b1 b2 b3 bl k0 kl; have ZAX := ZA.out.below B2.out; have a0 := ZAX.cell 0; have a1 := ZAX.cell 1; have a2 := ZAX.cell 2; have a3 := ZAX.cell 3; have al := ZAX.lt; clear ZAX; have ZBX := ZB.out.below B2.out; have b0 := ZBX.cell 0; have b1 := ZBX.cell 1; have b2 := ZBX.cell 2; have b3 := ZBX.cell 3; have bl := ZBX.lt; clear ZBX; have ZKX := ZK.out.below B2.out; have k0 := ZKX.cell 0; have kl := ZKX.lt; clear ZKX; simp only [List.getElem?_toArray, List.getElem?_cons_zero, List.getElem?_cons_succ] at a0 a1 a2 a3 b0 b1 b2 b3 k0))
    | (go_at_call 26; go_loud ((with_reducible refine (N1.out _ (grow_trans B2.out (grow_refl _))).mono ?_); rintro e w3 ⟨rfl, hb⟩; have B3 := Lib.hid (grow_trans B2.out hb : Below X.heap.size X w3); clear hb N1 a0 a1 a2 a3 al b0 b1 b2 b3 bl k0 kl; have ZAX := ZA.out.below B3.out; have a0 := ZAX.cell 0; have a1 := ZAX.cell 1; have a2 := ZAX.cell 2; have a3 := ZAX.cell 3; have al := ZAX.lt; clear ZAX; have ZBX := ZB.out.below B3.out; have b0 := ZBX.cell 0; have b1 := ZBX.cell 1; have b2 := ZBX.cell 2; have b3 := ZBX.cell 3; have bl := ZBX.lt; clear ZBX; have ZKX := ZK.out.below B3.out; have k0 := ZKX.cell 0; have kl := ZKX.lt; clear ZKX; simp only [List.getElem?_toArray, List.getElem?_cons_zero, List.getElem?_cons_succ] at a0 a1 a2 a3 b0 b1 b2 b3 k0))
    | (go_at_call 26; go_loud ((with_reducible refine (N2.out _ (grow_trans B3.out (grow_refl _))).mono ?_); rintro e w4 ⟨rfl, hb⟩; have B4 := Lib.hid (grow_trans B3.out hb : Below X.heap.size X w4); clear hb N2 a0 a1 a2 a3 al b0 b1 b2 b3 bl k0 kl; have ZAX := ZA.out.below B4.out; have a0 := ZAX.cell 0; have a1 := ZAX.cell 1; have a2 := ZAX.cell 2; have a3 := ZAX.cell 3; have al := ZAX.lt; clear ZAX; have ZBX := ZB.out.below B4.out; have b0 := ZBX.cell 0; have b1 := ZBX.cell 1; have b2 := ZBX.cell 2; have b3 := ZBX.cell 3; have bl := ZBX.lt; clear ZBX; have ZKX := ZK.out.below B4.out; have k0 := ZKX.cell 0; have kl := ZKX.lt; clear ZKX; simp only [List.getElem?_toArray, List.getElem?_cons_zero, List.getElem?_cons_succ] at a0 a1 a2 a3 b0 b1 b2 b3 k0)))
  go_ret2
  refine ⟨by rw [HAL.out]; rfl, ?_⟩
  rw [HBP.out]
  exact BX.out.trans (B4.out.mono (by have := BX.out.size; have := HBP.out; omega))
set_option maxRecDepth 100000 in
set_option maxHeartbeats 16000000 in
theorem alike_near (a : Nat → Addr) (l m s h l2 m2 s2 h2 k : Int) (w : World) (hk : 0 ≤ k ∧ k ≤ 1000) (hv : validB l m s h = true) (hv2 : validB l2 m2 s2 h2 = true) (hh : h = h2) (q1 : nearB m m2 l2 l k = true) (q2 : nearB s s2 l2 l k = true) :
    Calls Tryz.prog 10 #[shV l m s h, shV l2 m2 s2 h2, .int .i64 k] w fun e w' => e = .returned (.tuple #[.bool (alikeB l m s h l2 m2 s2 h2 k), .nilIface]) ∧ Below w.heap.size w w' := by
  have VA := Lib.hid (fun X => valid_walk l m s h X)
  have VB := Lib.hid (fun X => valid_walk l2 m2 s2 h2 X)
  have d0 : decide (k < 0) = false := decide_eq_false (by omega)
  have d1 : decide (1000 < k) = false := decide_eq_false (by omega)
  rw [hv] at VA
  rw [hv2] at VB
  have dh : (h == h2) = true := by rw [hh]; simp
  have HH := Lib.hid hh
  clear hh
  unfold shV at VA VB
  unfold shV
  go_enter Tryz.func10, Tryz.ntmps10
  go_upto_region 1 with (fail)
  refine seal_wp fun X hX => ?_
  have ZA := Lib.hid (show Known X w.heap.size #[.int .i64 l, .int .i64 m, .int .i64 s, .int .i64 h] by rw [hX.out]; exact ((Known.new w _ _).alloc _).alloc _)
  have ZB := Lib.hid (show Known X (w.heap.size + 1) #[.int .i64 l2, .int .i64 m2, .int .i64 s2, .int .i64 h2] by rw [hX.out]; exact (Known.new' (by simp)).alloc _)
  have ZK := Lib.hid (show Known X (w.heap.size + 1 + 1) #[.int .i64 k] by rw [hX.out]; exact Known.new' (by simp))
  have BX := Lib.hid (show Below w.heap.size w X by rw [hX.out]; exact grow_alloc (grow_alloc (grow_alloc (grow_refl w) _) _) _)
  clear hX
  have BS := Lib.hid BX.out.size
  generalize hbp : w.heap.size = bp at *
  have HBP := Lib.hid hbp
  clear hbp
  have N1 := Lib.hid (fun Y (hY : Below X.heap.size X Y) => near_walk m m2 l2 l k (by have := validB_iff.1 hv; omega) (by have := validB_iff.1 hv2; omega) (by have := validB_iff.1 hv2; omega) (by have := validB_iff.1 hv; omega) hk m2 s2 h2 m s h (bp + 1) bp (bp + 1 + 1) Y (ZB.out.below hY) (ZA.out.below hY) (ZK.out.below hY))
  have N2 := Lib.hid (fun Y (hY : Below X.heap.size X Y) => near_walk s s2 l2 l k (by have := validB_iff.1 hv; omega) (by have := validB_iff.1 hv2; omega) (by have := validB_iff.1 hv2; omega) (by have := validB_iff.1 hv; omega) hk m2 s2 h2 m s h (bp + 1) bp (bp + 1 + 1) Y (ZB.out.below hY) (ZA.out.below hY) (ZK.out.below hY))
  have HAL := Lib.hid (show alikeB l m s h l2 m2 s2 h2 k = true by unfold alikeB; rw [decide_eq_true HH.out, q1, q2]; rfl)
  rw [q1] at N1
  rw [q2] at N2
  have g := (trivial)
  have ZAX := ZA.out.below (grow_refl X)
  have a0 := ZAX.cell 0
  have a1 := ZAX.cell 1
  have a2 := ZAX.cell 2
  have a3 := ZAX.cell 3
  have al := ZAX.lt
  clear ZAX
  have ZBX := ZB.out.below (grow_refl X)
  have b0 := ZBX.cell 0
  have b1 := ZBX.cell 1
  have b2 := ZBX.cell 2
  have b3 := ZBX.cell 3
  have bl := ZBX.lt
  clear ZBX
  have ZKX := ZK.out.below (grow_refl X)
  have k0 := ZKX.cell 0
  have kl := ZKX.lt
  clear ZKX
  simp only [List.getElem?_toArray, List.getElem?_cons_zero, List.getElem?_cons_succ] at a0 a1 a2 a3 b0 b1 b2 b3 k0
  clear g
  go_wp2_with (first
    | (go_at_call 25; go_loud ((with_reducible refine (VA.out _).mono ?_); rintro e w1 ⟨rfl, hb⟩; have B1 := Lib.hid (hb : Below X.heap.size X w1); clear hb VA a0 a1 a2 a3 al b0 b1 b2 b3 bl k0 kl; have ZAX := ZA.out.below B1.out; have a0 := ZAX.cell 0; have a1 := ZAX.cell 1; have a2 := ZAX.cell 2; have a3 := ZAX.cell 3; have al := ZAX.lt; clear ZAX; have ZBX := ZB.out.below B1.out; have b0 := ZBX.cell 0; have b1 := ZBX.cell 1; have b2 := ZBX.cell 2; have b3 := ZBX.cell 3; have bl := ZBX.lt; clear ZBX; have ZKX := ZK.out.below B1.out; have k0 := ZKX.cell 0; have kl := ZKX.lt; clear ZKX; simp only [List.getElem?_toArray, List.getElem?_cons_zero, List.getElem?_cons_succ] at a0 a1 a2 a3 b0 b1 b2 b3 k0))
    | (go_at_call 25; go_loud ((with_reducible refine (VB.out _).mono ?_); rintro e w2 ⟨rfl, hb⟩; have B2 := Lib.hid (grow_trans B1.out hb : Below X.heap.size X w2); clear hb VB a0 a1 a2 a3 al b0 b1 b2 b3 bl k0 kl; have ZAX := ZA.out.below B2.out; have a0 := ZAX.cell 0; have a1 := ZAX.cell 1; have a2 := ZAX.cell 2; have a3 := ZAX.cell 3; have al := ZAX.lt; clear ZAX; have ZBX := ZB.out.below B2.out; have b0 := ZBX.cell 0; have b1 := ZBX.cell 1; have b2 := ZBX.cell 2; have b3 := ZBX.cell 3; have bl := ZBX.lt; clear ZBX; have ZKX := ZK.out.below B2.out; have k0 := ZKX.cell 0; have kl := ZKX.lt; clear ZKX; simp only [List.getElem?_toArray, List.getElem?_cons_zero, List.getElem?_cons_succ] at a0 a1 a2 a3 b0 b1 b2 b3 k0))
    | (go_at_call 26; go_loud ((with_reducible refine (N1.out _ (grow_trans B2.out (grow_refl _))).mono ?_); rintro e w3 ⟨rfl, hb⟩; have B3 := Lib.hid (grow_trans B2.out hb : Below X.heap.size X w3); clear hb N1 a0 a1 a2 a3 al b0 b1 b2 b3 bl k0 kl; have ZAX := ZA.out.below B3.out; have a0 := ZAX.cell 0; have a1 := ZAX.cell 1; have a2 := ZAX.cell 2; have a3 := ZAX.cell 3; have al := ZAX.lt; clear ZAX; have ZBX := ZB.out.below B3.out; have b0 := ZBX.cell 0; have b1 := ZBX.cell 1; have b2 := ZBX.cell 2; have b3 := ZBX.cell 3; have bl := ZBX.lt; clear ZBX; have ZKX := ZK.out.below B3.out; have k0 := ZKX.cell 0; have kl := ZKX.lt; clear ZKX; simp only [List.getElem?_toArray, List.getElem?_cons_zero, List.getElem?_cons_succ] at a0 a1 a2 a3 b0 b1 b2 b3 k0))
    | (go_at_call 26; go_loud ((with_reducible refine (N2.out _ (grow_trans B3.out (grow_refl _))).mono ?_); rintro e w4 ⟨rfl, hb⟩; have B4 := Lib.hid (grow_trans B3.out hb : Below X.heap.size X w4); clear hb N2 a0 a1 a2 a3 al b0 b1 b2 b3 bl k0 kl; have ZAX := ZA.out.below B4.out; have a0 := ZAX.cell 0; have a1 := ZAX.cell 1; have a2 := ZAX.cell 2; have a3 := ZAX.cell 3; have al := ZAX.lt; clear ZAX; have ZBX := ZB.out.below B4.out; have b0 := ZBX.cell 0; have b1 := ZBX.cell 1; have b2 := ZBX.cell 2; have b3 := ZBX.cell 3; have bl := ZBX.lt; clear ZBX; have ZKX := ZK.out.below B4.out; have k0 := ZKX.cell 0; have kl := ZKX.lt; clear ZKX; simp only [List.getElem?_toArray, List.getElem?_cons_zero, List.getElem?_cons_succ] at a0 a1 a2 a3 b0 b1 b2 b3 k0)))
  go_ret2
  refine ⟨by rw [HAL.out]; rfl, ?_⟩
  rw [HBP.out]
  exact BX.out.trans (B4.out.mono (by have := BX.out.size; have := HBP.out; omega))
end Go.Proofs.YtlnbeildplafbaaGreatDoor
