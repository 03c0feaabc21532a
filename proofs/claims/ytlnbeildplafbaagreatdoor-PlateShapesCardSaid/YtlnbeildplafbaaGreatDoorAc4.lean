/- Cells of directions: the program's faces and cells. -/
import Derived.Test.YtlnbeildplafbaaGreatDoorAc3
set_option linter.unusedSimpArgs false
set_option linter.unusedVariables false
namespace Go.Proofs.YtlnbeildplafbaaGreatDoor
open Go.RowKit Go.Grow Go.Atl

theorem results_tmp4A {fn : Func} {t u v x : Tmp} (h : fn.results = #[.tmp t, .tmp u, .tmp v, .tmp x]) (tmps : Array Value) (P : Program) (w : World) :
    (results fn tmps).run P w = .ok (.tuple #[tmps.getD t undef, tmps.getD u undef, tmps.getD v undef, tmps.getD x undef]) w := by
  simp [results, h]
theorem axis0 {d : Dr} (h1 : sz d.y ≤ sz d.x) (h2 : sz d.z ≤ sz d.x) : axis d = 0 := by unfold axis; rw [if_neg (by omega), if_neg (by omega)]
theorem axis1 {d : Dr} (h1 : ¬ (sz d.y ≤ sz d.x ∧ sz d.z ≤ sz d.x)) (h2 : sz d.z ≤ sz d.y) : axis d = 1 := by unfold axis; rw [if_pos (by omega), if_neg (by omega)]
theorem axis2 {d : Dr} (h1 : ¬ (sz d.y ≤ sz d.x ∧ sz d.z ≤ sz d.x)) (h2 : ¬ sz d.z ≤ sz d.y) : axis d = 2 := by
  unfold axis
  split <;> rw [if_pos (by omega)]
def faceV (d : Dr) : Value := .tuple #[.int .i64 (faceOf d), .int .i64 (fU d), .int .i64 (fV d), .int .i64 (sz (fM d))]
theorem face0 {d : Dr} (h : axis d = 0) : faceV d = .tuple #[.int .i64 (0 + if d.x < 0 then 1 else 0), .int .i64 d.y, .int .i64 d.z, .int .i64 (sz d.x)] := by unfold faceV faceOf fU fV fM; rw [h]; rfl
theorem face1 {d : Dr} (h : axis d = 1) : faceV d = .tuple #[.int .i64 (2 + if d.y < 0 then 1 else 0), .int .i64 d.x, .int .i64 d.z, .int .i64 (sz d.y)] := by unfold faceV faceOf fU fV fM; rw [h]; rfl
theorem face2 {d : Dr} (h : axis d = 2) : faceV d = .tuple #[.int .i64 (4 + if d.z < 0 then 1 else 0), .int .i64 d.x, .int .i64 d.y, .int .i64 (sz d.z)] := by unfold faceV faceOf fU fV fM; rw [h]; rfl
set_option maxRecDepth 100000 in
set_option maxHeartbeats 16000000 in
theorem face_walk (d : Dr) (w : World) (hd : isDir d = true) :
    Calls Tryz.prog 74 #[drV d] w fun e w' => e = .returned (faceV d) ∧ Below w.heap.size w w' := by
  obtain ⟨h1, h2, h3, _⟩ := isDir_spec hd
  have S := Lib.hid (fun (n : Int) (X : World) (hn : -4611686018427387904 ≤ n ∧ n ≤ 4611686018427387904) => size_walk n X hn)
  have A0 := Lib.hid (fun a b => face0 (axis0 (d := d) a b))
  have A1 := Lib.hid (fun a b => face1 (axis1 (d := d) a b))
  have A2 := Lib.hid (fun a b => face2 (axis2 (d := d) a b))
  clear hd
  generalize faceV d = fv at A0 A1 A2 ⊢
  obtain ⟨x, y, z⟩ := d
  unfold drV
  simp only at h1 h2 h3 A0 A1 A2 ⊢
  have Sx := Lib.hid (fun X => S.out x X (by omega))
  have Sy := Lib.hid (fun X => S.out y X (by omega))
  have Sz := Lib.hid (fun X => S.out z X (by omega))
  have zx := Lib.hid (fun h => sz_neg (n := x) h)
  have zy := Lib.hid (fun h => sz_neg (n := y) h)
  have zz := Lib.hid (fun h => sz_neg (n := z) h)
  have px := Lib.hid (fun h => sz_pos (n := x) h)
  have py := Lib.hid (fun h => sz_pos (n := y) h)
  have pz := Lib.hid (fun h => sz_pos (n := z) h)
  generalize sz x = sx at *
  generalize sz y = sy at *
  generalize sz z = sz' at *
  by_cases c1 : sy ≤ sx
  · have u1 : decide (sy ≤ sx) = true := decide_eq_true c1
    by_cases c2 : sz' ≤ sx
    · have u2 : decide (sz' ≤ sx) = true := decide_eq_true c2
      by_cases cm : x < 0
      · have um : decide (x < 0) = true := decide_eq_true cm
        have HZ := Lib.hid (A0.out c1 c2)
        have HV := Lib.hid (zx.out cm)
        rw [if_pos cm] at HZ
        clear A0 A1 A2 zx zy zz px py pz S
        go_enter Tryz.func74, Tryz.ntmps74
        go_wp2
        go_quiet (first | (go_at_call 103; with_reducible exact Calls.quiet_of_same ((Sx.out _).mono fun e w2 h => ⟨h.1, h.2.symm⟩)) | (go_at_call 103; with_reducible exact Calls.quiet_of_same ((Sy.out _).mono fun e w2 h => ⟨h.1, h.2.symm⟩)) | (go_at_call 103; with_reducible exact Calls.quiet_of_same ((Sz.out _).mono fun e w2 h => ⟨h.1, h.2.symm⟩)))
        go_wp2
        go_quiet (fail)
        go_wp2
        (try simp only [Exit.inBlock, Exit.then])
        refine bodyPost_ret (results_tmp4A rfl _ _ _) rfl ?_
        exact ⟨by rw [HZ.out, HV.out]; rfl, (by (repeat (with_reducible first | exact grow_refl _ | refine Grow.grow_drewN ?_ _ | refine Grow.grow_drew ?_ | refine Grow.grow_alloc ?_ _)))⟩
      · have um : decide (x < 0) = false := decide_eq_false cm
        have HZ := Lib.hid (A0.out c1 c2)
        have HV := Lib.hid (px.out cm)
        rw [if_neg cm] at HZ
        clear A0 A1 A2 zx zy zz px py pz S
        go_enter Tryz.func74, Tryz.ntmps74
        go_wp2
        go_quiet (first | (go_at_call 103; with_reducible exact Calls.quiet_of_same ((Sx.out _).mono fun e w2 h => ⟨h.1, h.2.symm⟩)) | (go_at_call 103; with_reducible exact Calls.quiet_of_same ((Sy.out _).mono fun e w2 h => ⟨h.1, h.2.symm⟩)) | (go_at_call 103; with_reducible exact Calls.quiet_of_same ((Sz.out _).mono fun e w2 h => ⟨h.1, h.2.symm⟩)))
        go_wp2
        go_quiet (fail)
        go_wp2
        (try simp only [Exit.inBlock, Exit.then])
        refine bodyPost_ret (results_tmp4A rfl _ _ _) rfl ?_
        exact ⟨by rw [HZ.out, HV.out]; rfl, (by (repeat (with_reducible first | exact grow_refl _ | refine Grow.grow_drewN ?_ _ | refine Grow.grow_drew ?_ | refine Grow.grow_alloc ?_ _)))⟩
    · have u2 : decide (sz' ≤ sx) = false := decide_eq_false c2
      have hn : ¬ (sy ≤ sx ∧ sz' ≤ sx) := by omega
      have u3 : decide (sz' ≤ sy) = false := decide_eq_false (by omega)
      by_cases cm : z < 0
      · have um : decide (z < 0) = true := decide_eq_true cm
        have HZ := Lib.hid (A2.out hn (by omega))
        have HV := Lib.hid (zz.out cm)
        rw [if_pos cm] at HZ
        clear A0 A1 A2 zx zy zz px py pz S
        go_enter Tryz.func74, Tryz.ntmps74
        go_wp2
        go_quiet (first | (go_at_call 103; with_reducible exact Calls.quiet_of_same ((Sx.out _).mono fun e w2 h => ⟨h.1, h.2.symm⟩)) | (go_at_call 103; with_reducible exact Calls.quiet_of_same ((Sy.out _).mono fun e w2 h => ⟨h.1, h.2.symm⟩)) | (go_at_call 103; with_reducible exact Calls.quiet_of_same ((Sz.out _).mono fun e w2 h => ⟨h.1, h.2.symm⟩)))
        go_wp2
        go_quiet (fail)
        go_wp2
        (try simp only [Exit.inBlock, Exit.then])
        refine bodyPost_ret (results_tmp4A rfl _ _ _) rfl ?_
        exact ⟨by rw [HZ.out, HV.out]; rfl, (by (repeat (with_reducible first | exact grow_refl _ | refine Grow.grow_drewN ?_ _ | refine Grow.grow_drew ?_ | refine Grow.grow_alloc ?_ _)))⟩
      · have um : decide (z < 0) = false := decide_eq_false cm
        have HZ := Lib.hid (A2.out hn (by omega))
        have HV := Lib.hid (pz.out cm)
        rw [if_neg cm] at HZ
        clear A0 A1 A2 zx zy zz px py pz S
        go_enter Tryz.func74, Tryz.ntmps74
        go_wp2
        go_quiet (first | (go_at_call 103; with_reducible exact Calls.quiet_of_same ((Sx.out _).mono fun e w2 h => ⟨h.1, h.2.symm⟩)) | (go_at_call 103; with_reducible exact Calls.quiet_of_same ((Sy.out _).mono fun e w2 h => ⟨h.1, h.2.symm⟩)) | (go_at_call 103; with_reducible exact Calls.quiet_of_same ((Sz.out _).mono fun e w2 h => ⟨h.1, h.2.symm⟩)))
        go_wp2
        go_quiet (fail)
        go_wp2
        (try simp only [Exit.inBlock, Exit.then])
        refine bodyPost_ret (results_tmp4A rfl _ _ _) rfl ?_
        exact ⟨by rw [HZ.out, HV.out]; rfl, (by (repeat (with_reducible first | exact grow_refl _ | refine Grow.grow_drewN ?_ _ | refine Grow.grow_drew ?_ | refine Grow.grow_alloc ?_ _)))⟩
  · have u1 : decide (sy ≤ sx) = false := decide_eq_false c1
    have hn : ¬ (sy ≤ sx ∧ sz' ≤ sx) := by omega
    by_cases c2 : sz' ≤ sy
    · have u2 : decide (sz' ≤ sy) = true := decide_eq_true c2
      by_cases cm : y < 0
      · have um : decide (y < 0) = true := decide_eq_true cm
        have HZ := Lib.hid (A1.out hn c2)
        have HV := Lib.hid (zy.out cm)
        rw [if_pos cm] at HZ
        clear A0 A1 A2 zx zy zz px py pz S
        go_enter Tryz.func74, Tryz.ntmps74
        go_wp2
        go_quiet (first | (go_at_call 103; with_reducible exact Calls.quiet_of_same ((Sx.out _).mono fun e w2 h => ⟨h.1, h.2.symm⟩)) | (go_at_call 103; with_reducible exact Calls.quiet_of_same ((Sy.out _).mono fun e w2 h => ⟨h.1, h.2.symm⟩)) | (go_at_call 103; with_reducible exact Calls.quiet_of_same ((Sz.out _).mono fun e w2 h => ⟨h.1, h.2.symm⟩)))
        go_wp2
        go_quiet (fail)
        go_wp2
        (try simp only [Exit.inBlock, Exit.then])
        refine bodyPost_ret (results_tmp4A rfl _ _ _) rfl ?_
        exact ⟨by rw [HZ.out, HV.out]; rfl, (by (repeat (with_reducible first | exact grow_refl _ | refine Grow.grow_drewN ?_ _ | refine Grow.grow_drew ?_ | refine Grow.grow_alloc ?_ _)))⟩
      · have um : decide (y < 0) = false := decide_eq_false cm
        have HZ := Lib.hid (A1.out hn c2)
        have HV := Lib.hid (py.out cm)
        rw [if_neg cm] at HZ
        clear A0 A1 A2 zx zy zz px py pz S
        go_enter Tryz.func74, Tryz.ntmps74
        go_wp2
        go_quiet (first | (go_at_call 103; with_reducible exact Calls.quiet_of_same ((Sx.out _).mono fun e w2 h => ⟨h.1, h.2.symm⟩)) | (go_at_call 103; with_reducible exact Calls.quiet_of_same ((Sy.out _).mono fun e w2 h => ⟨h.1, h.2.symm⟩)) | (go_at_call 103; with_reducible exact Calls.quiet_of_same ((Sz.out _).mono fun e w2 h => ⟨h.1, h.2.symm⟩)))
        go_wp2
        go_quiet (fail)
        go_wp2
        (try simp only [Exit.inBlock, Exit.then])
        refine bodyPost_ret (results_tmp4A rfl _ _ _) rfl ?_
        exact ⟨by rw [HZ.out, HV.out]; rfl, (by (repeat (with_reducible first | exact grow_refl _ | refine Grow.grow_drewN ?_ _ | refine Grow.grow_drew ?_ | refine Grow.grow_alloc ?_ _)))⟩
    · have u2 : decide (sz' ≤ sy) = false := decide_eq_false c2
      by_cases cm : z < 0
      · have um : decide (z < 0) = true := decide_eq_true cm
        have HZ := Lib.hid (A2.out hn c2)
        have HV := Lib.hid (zz.out cm)
        rw [if_pos cm] at HZ
        clear A0 A1 A2 zx zy zz px py pz S
        go_enter Tryz.func74, Tryz.ntmps74
        go_wp2
        go_quiet (first | (go_at_call 103; with_reducible exact Calls.quiet_of_same ((Sx.out _).mono fun e w2 h => ⟨h.1, h.2.symm⟩)) | (go_at_call 103; with_reducible exact Calls.quiet_of_same ((Sy.out _).mono fun e w2 h => ⟨h.1, h.2.symm⟩)) | (go_at_call 103; with_reducible exact Calls.quiet_of_same ((Sz.out _).mono fun e w2 h => ⟨h.1, h.2.symm⟩)))
        go_wp2
        go_quiet (fail)
        go_wp2
        (try simp only [Exit.inBlock, Exit.then])
        refine bodyPost_ret (results_tmp4A rfl _ _ _) rfl ?_
        exact ⟨by rw [HZ.out, HV.out]; rfl, (by (repeat (with_reducible first | exact grow_refl _ | refine Grow.grow_drewN ?_ _ | refine Grow.grow_drew ?_ | refine Grow.grow_alloc ?_ _)))⟩
      · have um : decide (z < 0) = false := decide_eq_false cm
        have HZ := Lib.hid (A2.out hn c2)
        have HV := Lib.hid (pz.out cm)
        rw [if_neg cm] at HZ
        clear A0 A1 A2 zx zy zz px py pz S
        go_enter Tryz.func74, Tryz.ntmps74
        go_wp2
        go_quiet (first | (go_at_call 103; with_reducible exact Calls.quiet_of_same ((Sx.out _).mono fun e w2 h => ⟨h.1, h.2.symm⟩)) | (go_at_call 103; with_reducible exact Calls.quiet_of_same ((Sy.out _).mono fun e w2 h => ⟨h.1, h.2.symm⟩)) | (go_at_call 103; with_reducible exact Calls.quiet_of_same ((Sz.out _).mono fun e w2 h => ⟨h.1, h.2.symm⟩)))
        go_wp2
        go_quiet (fail)
        go_wp2
        (try simp only [Exit.inBlock, Exit.then])
        refine bodyPost_ret (results_tmp4A rfl _ _ _) rfl ?_
        exact ⟨by rw [HZ.out, HV.out]; rfl, (by (repeat (with_reducible first | exact grow_refl _ | refine Grow.grow_drewN ?_ _ | refine Grow.grow_drew ?_ | refine Grow.grow_alloc ?_ _)))⟩
end Go.Proofs.YtlnbeildplafbaaGreatDoor
