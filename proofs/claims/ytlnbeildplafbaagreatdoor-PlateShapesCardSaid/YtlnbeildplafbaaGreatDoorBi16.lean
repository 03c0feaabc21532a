/- Whole numbers of any size in memory: Abs in place. -/
import Derived.Test.YtlnbeildplafbaaGreatDoorBi14
set_option linter.unusedSimpArgs false
set_option linter.unusedVariables false
namespace Go.Proofs.YtlnbeildplafbaaGreatDoor
open Go.RowKit Go.Grow Go.Wd

theorem int_same (w : World) (p : Nat) : (binOp .neq 72 (.pointer (some ⟨p, 0, none⟩)) (.pointer (some ⟨p, 0, none⟩))).run Tryz.prog w = .ok (.bool false) w := by
  obtain ⟨j, hj, hs⟩ := info_Int
  exact run_neq_ptr_same _ Tryz.underlying72 hj
set_option maxRecDepth 100000 in
set_option maxHeartbeats 16000000 in
theorem setSame_walk (p : Nat) (w : World) :
    Calls Tryz.prog 69 #[.pointer (some ⟨p, 0, none⟩), .pointer (some ⟨p, 0, none⟩)] w fun e w' => e = .returned (.pointer (some ⟨p, 0, none⟩)) ∧ w' = w := by
  have np := fun X => int_same X p
  go_enter Tryz.func69, Tryz.ntmps69
  go_wp2
  go_ret
  exact ⟨rfl, rfl⟩
set_option maxRecDepth 100000 in
set_option maxHeartbeats 16000000 in
theorem Abs_walk (B : Nat) (w : World) (p : Nat) (A : Int) (h : IntAt B w p A) :
    Calls Tryz.prog 30 #[.pointer (some ⟨p, 0, none⟩), .pointer (some ⟨p, 0, none⟩)] w fun e w' => e = .returned (.pointer (some ⟨p, 0, none⟩)) ∧ IntAt B w' p (A.natAbs : Nat) ∧ Below B w w' := by
  have SS := Lib.hid (fun X => setSame_walk p X)
  obtain ⟨h0, v, h1, h2, h3⟩ := h
  have H1 := Lib.hid h1
  have H2 := Lib.hid h2
  have p0 := h1.cell 0
  have pf := h1.frozen 0
  have pl := h1.lt
  simp only [List.getElem?_toArray, List.getElem?_cons_zero] at p0
  clear h1 h2
  go_enter Tryz.func30, Tryz.ntmps30
  go_wp2_with (go_at_call 69; (with_reducible refine (SS.out _).mono ?_); rintro e w1 ⟨rfl, rfl⟩)
  go_ret
  refine ⟨rfl, ⟨h0, v, ?_, ?_, h3⟩, (Below.refl B _).setCell h0 _⟩
  · have := H1.out.set 0 (.bool false)
    rw [decide_eq_false (by omega)]
    exact this
  · rw [Int.natAbs_natCast]
    exact H2.out.other (fun k hk => (h3 k hk).2) 0 _
end Go.Proofs.YtlnbeildplafbaaGreatDoor
/- Whole numbers of any size in memory: Mul and Abs over the first: what they leave as it was. -/
set_option linter.unusedSimpArgs false
set_option linter.unusedVariables false
namespace Go.Proofs.YtlnbeildplafbaaGreatDoor
open Go.RowKit Go.Grow Go.Wd

theorem keep_sets {w w1 : World} {p : Nat} {v v1 b : Value} (hg1 : w.drew.grownBy w1 v.ownBlock) (k : Nat) (hk : k < w.heap.size) (hp : k ≠ p) (hv : v.ownBlock ≠ some k) : ((w1.setCell ⟨p, 1, none⟩ v1).setCell ⟨p, 0, none⟩ b).drew.heap[k]? = w.heap[k]? := by
  have h := hg1.block k hk (fun e => hv e.symm)
  rw [← show w.drew.heap[k]? = w.heap[k]? from rfl, ← h]
  show ((w1.setCell ⟨p, 1, none⟩ v1).setCell ⟨p, 0, none⟩ b).heap[k]? = w1.heap[k]?
  unfold World.setCell
  simp only [Array.getElem?_modify]
  rw [if_neg (fun e => hp e.symm), if_neg (fun e => hp e.symm)]
theorem keep_set0 {w : World} {p : Nat} {b : Value} (k : Nat) (hp : k ≠ p) : (w.setCell ⟨p, 0, none⟩ b).heap[k]? = w.heap[k]? := by
  unfold World.setCell
  simp only [Array.getElem?_modify]
  rw [if_neg (fun e => hp e.symm)]
set_option maxRecDepth 100000 in
set_option maxHeartbeats 16000000 in
theorem mulK_walk (B : Nat) (w0 w : World) (p q : Nat) (A d : Int) (hA : (dig A.natAbs).length ≤ 100000) (hd : d.natAbs < 18446744073709551616) (h1 : IntAt B w0 p A) (hb : Below w0.heap.size w0 w) (h2 : IntAt w0.heap.size w q d) :
    Calls Tryz.prog 68 #[.pointer (some ⟨p, 0, none⟩), .pointer none, .pointer (some ⟨p, 0, none⟩), .pointer (some ⟨q, 0, none⟩)] w fun e w' => e = .returned (.tuple #[]) ∧ IntAt B w' p (A * d) ∧ Below B w w' ∧ (∀ k, k < w.heap.size → k ≠ p → (∀ v, Rd w p A v → v.ownBlock ≠ some k) → w'.heap[k]? = w.heap[k]?) := by
  have hp := h1.lt
  obtain ⟨hB, v, kp, wp, op⟩ := h1
  obtain ⟨hq, u, kq, wq, oq⟩ := h2
  have vlt := wp.blk_lt
  have kp := kp.below hb
  have wp := wp.below hb
  have RR := Lib.hid (show Rd w p A v from ⟨kp, wp⟩)
  have MN := Lib.hid (mulN_walk w.drew v u A.natAbs d.natAbs hA hd (wp.below (grow_drew (grow_refl w))) (wq.below (grow_drew (grow_refl w))))
  have KP := Lib.hid kp
  have KQ := Lib.hid kq
  have hne : ¬ p = q := by omega
  have p0 := KP.out.cell 0
  have p1 := KP.out.cell 1
  have pl := KP.out.lt
  have q0 := KQ.out.cell 0
  have q1 := KQ.out.cell 1
  have ql := KQ.out.lt
  have pf := KP.out.frozen 1
  simp only [List.getElem?_toArray, List.getElem?_cons_zero, List.getElem?_cons_succ] at p0 p1 q0 q1
  have heq := ptr_other kp kq hne
  clear wp wq kp kq
  go_enter Tryz.func68, Tryz.ntmps68
  go_upto_region 3 with (fail)
  refine Grow.wp_region_plan (.quiet [0, 1, 2, 3, 5, 6, 7, 8, 10, 11, 12] (.reads [4, 9, 13] (.tail [14, 15, 16, 17]))) (by kernel_rfl) (by kernel_rfl) (by kernel_rfl) (by kernel_rfl) ?_ ?_
  · intro c aa d v ww h
    first
      | exact Grow.bodyPost_blind h
      | (simp (config := {zetaDelta := true}) only [Exit.then, Exit.inBlock] at h ⊢; first | exact Grow.bodyPost_blind h | exact h)
  simp only [Grow.Plan.wp, Grow.pick, List.getElem?_cons_zero, List.getElem?_cons_succ, List.cons_append, List.nil_append]
  repeat (go_big_quiet_step (fail))
  refine wpQuiet_nil ?_
  repeat (go_big_quiet_step (fail))
  refine wpQuiet_nil ?_
  go_upto_region 4 with (go_at_call 96; go_loud ((with_reducible refine (MN.out).mono ?_); rintro e w1 ⟨v1, rfl, hw1, hg1, ho1⟩; obtain ⟨r1, c1, rfl⟩ := hw1.slice; have HW1 := Lib.hid hw1; have HO1 := Lib.hid ho1; have KP1 := Lib.hid ((KP.out.below (grow_drew (grow_refl w))).grown hg1 (fun e => (op p e.symm).2 rfl)); have KQ1 := Lib.hid ((KQ.out.below (grow_drew (grow_refl w))).grown hg1 (fun e => absurd (vlt q e.symm) (by omega))); have HG1 := Lib.hid hg1; clear hw1 hg1 ho1 p0 p1 pl q0 q1 ql pf; have p1 := KP1.out.cell 1; have pl := KP1.out.lt; have pf := KP1.out.frozen 1; simp only [List.getElem?_toArray, List.getElem?_cons_zero, List.getElem?_cons_succ] at p1))
  refine seal_wp fun W2 hW2 => ?_
  have KP2 : Bx W2 p #[.bool (decide (A < 0)), .slice r1 (dig (A.natAbs * d.natAbs)).length c1] := by rw [hW2.out]; exact KP1.out.set 1 _
  have KQ2 : Bx W2 q #[.bool (decide (d < 0)), u] := by rw [hW2.out]; exact KQ1.out.other hne 1 _
  have HP2 := Lib.hid KP2
  have HQ2 := Lib.hid KQ2
  have HW2 := Lib.hid hW2.out
  clear hW2 p1 pl pf
  have p0 := KP2.cell 0
  have p1 := KP2.cell 1
  have pl := KP2.lt
  have pf := KP2.frozen 0
  have q0 := KQ2.cell 0
  have ql := KQ2.lt
  simp only [List.getElem?_toArray, List.getElem?_cons_zero, List.getElem?_cons_succ] at p0 p1 q0
  clear KP2 KQ2 heq MN KP KQ KQ1
  by_cases hz : (A * d).natAbs = 0
  · have hz' : A.natAbs * d.natAbs = 0 := by rw [← Int.natAbs_mul]; exact hz
    rw [hz', dig_zero] at HW1 HP2 HW2 p1 HO1
    rw [hz', dig_zero]
    refine Grow.wp_region_plan (.quiet [0, 1, 2, 3] (.reads [4, 5] (.quiet [6, 7, 8, 9, 10, 12, 13, 14] (.reads [11, 15] (.quiet [16, 17] (.tail [18, 19, 20])))))) (by kernel_rfl) (by kernel_rfl) (by kernel_rfl) (by kernel_rfl) ?_ ?_
    · intro c aa d v ww h
      first
        | exact Grow.bodyPost_blind h
        | (simp (config := {zetaDelta := true}) only [Exit.then, Exit.inBlock] at h ⊢; first | exact Grow.bodyPost_blind h | exact h)
    simp only [Grow.Plan.wp, Grow.pick, List.getElem?_cons_zero, List.getElem?_cons_succ, List.cons_append, List.nil_append]
    repeat (go_big_quiet_step (fail))
    refine wpQuiet_nil ?_
    repeat (go_big_quiet_step (fail))
    refine wpQuiet_nil ?_
    repeat (go_big_quiet_step (fail))
    refine wpQuiet_nil ?_
    repeat (go_big_quiet_step (fail))
    refine wpQuiet_nil ?_
    repeat (go_big_quiet_step (fail))
    refine wpQuiet_nil ?_
    go_wp2
    go_end0
    rw [HW2.out]
    have hme := mul_end hB hp hb op HG1.out KP1.out (by rw [hz, dig_zero]; exact HW1.out) HO1.out (decide_eq_false (by have : A * d = 0 := Int.natAbs_eq_zero.1 hz; omega)).symm
    exact ⟨rfl, hme.1, hme.2, fun k hk hkp hkv => keep_sets HG1.out k hk hkp (hkv v RR.out)⟩
  · have hz' : 0 < A.natAbs * d.natAbs := by rw [← Int.natAbs_mul]; omega
    have hl : decide (0 < (dig (A.natAbs * d.natAbs)).length) = true := decide_eq_true (by rw [dig_pos hz']; simp)
    refine Grow.wp_region_plan (.quiet [0, 1, 2, 3] (.reads [4, 5] (.quiet [6, 7, 8, 9, 10, 12, 13, 14] (.reads [11, 15] (.quiet [16, 17] (.tail [18, 19, 20])))))) (by kernel_rfl) (by kernel_rfl) (by kernel_rfl) (by kernel_rfl) ?_ ?_
    · intro c aa d v ww h
      first
        | exact Grow.bodyPost_blind h
        | (simp (config := {zetaDelta := true}) only [Exit.then, Exit.inBlock] at h ⊢; first | exact Grow.bodyPost_blind h | exact h)
    simp only [Grow.Plan.wp, Grow.pick, List.getElem?_cons_zero, List.getElem?_cons_succ, List.cons_append, List.nil_append]
    repeat (go_big_quiet_step (fail))
    refine wpQuiet_nil ?_
    repeat (go_big_quiet_step (fail))
    refine wpQuiet_nil ?_
    repeat (go_big_quiet_step (fail))
    refine wpQuiet_nil ?_
    repeat (go_big_quiet_step (fail))
    refine wpQuiet_nil ?_
    repeat (go_big_quiet_step (fail))
    refine wpQuiet_nil ?_
    go_wp2
    go_end0
    rw [HW2.out]
    have hme := mul_end hB hp hb op HG1.out KP1.out (by rw [Int.natAbs_mul]; exact HW1.out) HO1.out (show _ = decide (A * d < 0) by rw [← neg_mul A d (by omega)])
    exact ⟨rfl, hme.1, hme.2, fun k hk hkp hkv => keep_sets HG1.out k hk hkp (hkv v RR.out)⟩
set_option maxRecDepth 100000 in
set_option maxHeartbeats 16000000 in
theorem MulK_walk (B : Nat) (w0 w : World) (p q : Nat) (A d : Int) (hA : (dig A.natAbs).length ≤ 100000) (hd : d.natAbs < 18446744073709551616) (h1 : IntAt B w0 p A) (hb : Below w0.heap.size w0 w) (h2 : IntAt w0.heap.size w q d) :
    Calls Tryz.prog 29 #[.pointer (some ⟨p, 0, none⟩), .pointer (some ⟨p, 0, none⟩), .pointer (some ⟨q, 0, none⟩)] w fun e w' => e = .returned (.pointer (some ⟨p, 0, none⟩)) ∧ IntAt B w' p (A * d) ∧ Below B w w' ∧ (∀ k, k < w.heap.size → k ≠ p → (∀ v, Rd w p A v → v.ownBlock ≠ some k) → w'.heap[k]? = w.heap[k]?) := by
  have M := Lib.hid (mulK_walk B w0 w p q A d hA hd h1 hb h2)
  clear h1 h2 hb
  go_enter Tryz.func29, Tryz.ntmps29
  go_wp2_with (go_at_call 68; (with_reducible refine (M.out).mono ?_); rintro e w1 ⟨rfl, hi, hb, hkeep⟩; have HI := Lib.hid hi; have HB := Lib.hid hb; have HKP := Lib.hid hkeep; clear hi hb hkeep)
  go_ret
  exact ⟨rfl, HI.out, HB.out, HKP.out⟩
set_option maxRecDepth 100000 in
set_option maxHeartbeats 16000000 in
theorem AbsK_walk (B : Nat) (w : World) (p : Nat) (A : Int) (h : IntAt B w p A) :
    Calls Tryz.prog 30 #[.pointer (some ⟨p, 0, none⟩), .pointer (some ⟨p, 0, none⟩)] w fun e w' => e = .returned (.pointer (some ⟨p, 0, none⟩)) ∧ IntAt B w' p (A.natAbs : Nat) ∧ Below B w w' ∧ (∀ k, k ≠ p → w'.heap[k]? = w.heap[k]?) := by
  have SS := Lib.hid (fun X => setSame_walk p X)
  obtain ⟨h0, v, h1, h2, h3⟩ := h
  have H1 := Lib.hid h1
  have H2 := Lib.hid h2
  have p0 := h1.cell 0
  have pf := h1.frozen 0
  have pl := h1.lt
  simp only [List.getElem?_toArray, List.getElem?_cons_zero] at p0
  clear h1 h2
  go_enter Tryz.func30, Tryz.ntmps30
  go_wp2_with (go_at_call 69; (with_reducible refine (SS.out _).mono ?_); rintro e w1 ⟨rfl, rfl⟩)
  go_ret
  refine ⟨rfl, ⟨h0, v, ?_, ?_, h3⟩, (Below.refl B _).setCell h0 _, fun k hkp => keep_set0 k hkp⟩
  · have := H1.out.set 0 (.bool false)
    rw [decide_eq_false (by omega)]
    exact this
  · rw [Int.natAbs_natCast]
    exact H2.out.other (fun k hk => (h3 k hk).2) 0 _
end Go.Proofs.YtlnbeildplafbaaGreatDoor
