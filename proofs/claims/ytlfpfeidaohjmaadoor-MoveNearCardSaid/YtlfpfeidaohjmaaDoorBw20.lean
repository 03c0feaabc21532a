/- The document's kick, walked. -/
import Derived.Test.YtlfpfeidaohjmaaDoorBw19
import Derived.Deep.DeepCutAuto
import Derived.Deep.CutBlock
import Derived.StillTailTactics
import Derived.Deep.RegionWith
import Derived.RegionTactic
import Derived.Deep.LoopGhost
import Derived.Outline
set_option linter.unusedSimpArgs false
set_option linter.unusedVariables false
namespace Go.Proofs.YtlfpfeidaohjmaaDoor
open Go.RowKit Go.Grow Go.Bo

theorem pullOfC_walk (d : C3) (w : World) :
    Calls Tryd.prog 125 #[vec d] w fun e w' => e = .returned (vec (pullC d)) ∧ Below w.heap.size w w' := pullOf_walk d.x d.y d.z w
theorem infoM : (Tryd.prog.info? 39).map (fun i => (i.zero, i.size, i.bytes)) = some (some (.agg #[.int .i64 0, .int .i64 0, .int .i64 0, .int .i64 0, .int .i64 0, .int .i64 0, .int .i64 0]), 7, 56) := by kernel_rfl
theorem Mild.fitk {n : Nat} {s : Int} {B : Nat → Bd} (h : Mild n s B) {i k : Nat} (hi : i < n) (hk : k < n) (hik : i < k) : Fits (kv s B k i) (-s * (B i).m) (pv B i k) := by
  have h1 := h.fits hk hi (by omega : k ≠ i)
  rw [pv_neg B i k] at h1
  have := h1.neg
  rwa [← Int.neg_mul] at this
theorem Mild.les {n : Nat} {s : Int} {B : Nat → Bd} (h : Mild n s B) {i k : Nat} (hi : i < n) (hk : k < n) : ((B k).p.less (B i).p).le 4611686018427387904 := by
  obtain ⟨⟨p1, p2⟩, ⟨p3, p4⟩, ⟨p5, p6⟩⟩ := h.p i hi
  obtain ⟨⟨q1, q2⟩, ⟨q3, q4⟩, ⟨q5, q6⟩⟩ := h.p k hk
  unfold C3.le C3.less
  simp only
  omega
theorem body_but {w w' : World} {g b o : Nat} {d : Bd} (h : BodyAt w b o d) (hb : But g w w') (hl : b < w.heap.size) (hne : b ≠ g) : BodyAt w' b o d := by
  have e : ∀ i, w'.cell? ⟨b, i, none⟩ = w.cell? ⟨b, i, none⟩ := fun i => cell?_but hb (p := ⟨b, i, none⟩) hl hne
  exact ⟨(e _).trans h.c0, (e _).trans h.c1, (e _).trans h.c2, (e _).trans h.c3, (e _).trans h.c4, (e _).trans h.c5, (e _).trans h.c6⟩

theorem known_eq {w : World} {b : Nat} {c c' : Array Value} (h : Known w b c') (e : c' = c) : Known w b c := e ▸ h

set_option maxRecDepth 100000 in
set_option maxHeartbeats 16000000 in
theorem kicked_walk (r : Option Addr) (n cap : Nat) (s : Int) (B : Nat → Bd) (w : World) (hn0 : 0 < n) (hr : BodsAt w r n B) (hm : Mild n s B) :
    Calls Tryd.prog 88 #[.slice r n cap, .int .i64 s] w (CloneB w n (kick n s B)) := by
  obtain ⟨b, o, rfl, hb, hc⟩ := hr.resolve_left (by omega)
  have hn := hm.hn
  have HM := Lib.hid hm
  obtain ⟨i0, hi, hz0, hz1, hz2⟩ := info_partsB infoM
  have HI := Lib.hid hi
  have HZ0 := Lib.hid hz0
  have HZ1 := Lib.hid hz1
  have HZ2 := Lib.hid hz2
  have HCC := Lib.hid hc
  have HN := Lib.hid (bods_cells hc)
  have C3 := Lib.hid (show 0 + n ≤ maxLen by unfold maxLen; omega)
  have C4 := Lib.hid (show (0 + n) * 56 ≤ 140737488355328 by omega)
  have HO := Lib.hid (World.ownsRow_nil w w.heap.size 39 7)
  clear hi hz0 hz1 hz2 hr hc hm
  go_enter Tryd.func88, Tryd.ntmps88
  go_wp2_with (at_builtin; refine wpList_append_own _ rfl _ _ 22 rfl w.heap.size 39 i0 (.agg #[.int .i64 0, .int .i64 0, .int .i64 0, .int .i64 0, .int .i64 0, .int .i64 0, .int .i64 0]) 7 56 Tryd.underlying22 HI.out HZ0.out HZ1.out HZ2.out rfl (by decide) _ _ _ rfl HO.out ⟨b, o, none⟩ n cap (cellsB n B) rfl (cellsB_length n B) HN.out (cellsB_one n B) C3.out C4.out (by simp) ?_)
  intro v' w1 hown hg' _
  have hown' : w1.ownsRow w.heap.size 39 7 v' n (cellsB n B) := by simpa using hown
  have HG := Lib.hid (show Below w.heap.size w w1 from Below.grown (grow_refl w) hg' (Nat.le_refl _) (fun k hk => by simp [Value.ownBlock] at hk))
  obtain ⟨g, c, rfl, hg, _⟩ := hown'.form hn0
  have HR := Lib.hid (row_of hown')
  clear hown hown' hg' HO HN HI HZ0 HZ1 HZ2 C3 C4
  have HBS := Lib.hid (fun k hk => (HCC.out k hk).below HG.out hb)
  have hb1 : b < w1.heap.size := Nat.lt_of_lt_of_le hb HG.out.size
  have hne : b ≠ g := by omega
  go_wp2
  go_loopw [6] (fun v6 wr => ∃ i : Nat, i ≤ n ∧ v6 = .int .i64 i ∧ Row wr g 0 n (oB n s B i) ∧ But g w1 wr) (fun i _ => n - (intOf i).toNat)
  case atStart => exact ⟨0, Nat.zero_le _, rfl, by rw [oB_zero]; exact HR.out, But.refl _ _⟩
  case round =>
    clear HR
    obtain ⟨i, hi, rfl, hrow, hbut⟩ := hrel
    have R := Lib.hid hrow
    have BT := Lib.hid hbut
    clear hrow hbut
    by_cases hlt : i < n
    · go_wp2
      go_loopw [7] (fun v7 wq => ∃ k : Nat, i < k ∧ k ≤ n ∧ v7 = .int .i64 k ∧ Row wq g 0 n (pB n s B i k) ∧ But g w1 wq) (fun i _ => n - (intOf i).toNat)
      case atStart => exact ⟨i + 1, by omega, by omega, by go_num, by rw [pB_start n s B hlt]; exact R.out, BT.out⟩
      case round =>
        clear R BT
        obtain ⟨k, hik, hk, rfl, hrow, hbut⟩ := hrel
        have R := Lib.hid hrow
        have BT := Lib.hid hbut
        by_cases hkn : k < n
        · obtain ⟨s0, s1, s2, s3, s4, s5, s6⟩ := body_but (HBS.out i hlt) hbut hb1 hne
          obtain ⟨t0, t1, t2, t3, t4, t5, t6⟩ := body_but (HBS.out k hkn) hbut hb1 hne
          have lb : b < wr.heap.size := Nat.lt_of_lt_of_le hb1 hbut.size
          clear s3 s4 s5 t3 t4 t5
          clear hrow hbut
          have A1 := Lib.hid (fun x => less_walk (B k).p (B i).p x (HM.out.les hlt hkn))
          have P1 := Lib.hid (fun x => pullOfC_walk ((B k).p.less (B i).p) x)
          have A2 := Lib.hid (fun x => more_walk (kv s B i k) (pv B i k) (s * (B k).m) x (HM.out.fits hlt hkn (by omega)))
          have A3 := Lib.hid (fun x => more_walk (kv s B k i) (pv B i k) (-s * (B i).m) x (HM.out.fitk hlt hkn hik))
          have N1 := Lib.hid (pB_i n s B i k)
          have N2 := Lib.hid (kv_v n s B hik)
          have N3 := Lib.hid (pB_set n s B hik)
          obtain ⟨m1, m2⟩ := HM.out.sm hkn
          obtain ⟨m3, m4⟩ := HM.out.sm hlt
          unfold pv at A2 A3 N2 N3
          generalize hnv : ((kv s B i k).more (s * (B k).m) (pullC ((B k).p.less (B i).p))) = nv at A2 N2 N3
          generalize hnu : ((kv s B k i).more (-s * (B i).m) (pullC ((B k).p.less (B i).p))) = nu at A3 N3
          clear hnv hnu
          generalize pullC ((B k).p.less (B i).p) = pl at P1 A2 A3
          generalize (B k).p.less (B i).p = df at A1 P1
          generalize (B k).p = pk at t0 t1 t2 A1
          generalize (B i).p = pi at s0 s1 s2 A1
          generalize kv s B i k = vi at A2 N1
          generalize kv s B k i = vk at A3 N2
          generalize (B k).m = mk at t6 A2 m1 m2
          generalize (B i).m = mi at s6 A3 m3 m4
          unfold vec at A1 P1 A2 A3
          obtain ⟨dx, dy, dz⟩ := df
          obtain ⟨px, py, pz⟩ := pl
          obtain ⟨kx, ky, kz⟩ := pk
          obtain ⟨ix, iy, iz⟩ := pi
          simp only at s0 s1 s2 t0 t1 t2 A1 P1 A2 A3
          have ew : IntKind.i64.wrap (s * mk) = s * mk := IntWalk.i64_in _ (by omega)
          have es : IntKind.i64.wrap (-s) = -s := IntWalk.i64_in _ (by rcases HM.out.hs with h | h <;> subst h <;> omega)
          have ey : -s * mi = -(s * mi) := Int.neg_mul ..
          have ex : IntKind.i64.wrap (-s * mi) = -s * mi := IntWalk.i64_in _ (by omega)
          clear ey
          go_upto_region 9 with (fail)
          go_cut [8] (fun s8 wx => ∃ p, wr.heap.size ≤ p ∧ s8 = .pointer (some ⟨p, 0, none⟩) ∧ Known wx p #[.int .i64 px, .int .i64 py, .int .i64 pz] ∧ Below wr.heap.size wr wx)
          case first =>
            have g : Hid (Below wr.heap.size wr wr) := Lib.hid (grow_refl _)
            go_region_with (first
              | (go_at_call 41; (with_reducible refine (A1.out _).mono ?_); rintro e w2 ⟨rfl, hL⟩; (with_reducible first | (have K8 := (Known.drew (Known.new _ _ _)).below hL; have c8 := K8.cell; have f8 := K8.frozen; have l8 := K8.lt; have G2 := Lib.hid (grow_trans (grow_drew (grow_alloc (grow_refl wr) _)) hL)) | (have G2 := Lib.hid (grow_trans (grow_drew (grow_refl wr)) hL))); clear hL s0 s1 s2 t0 t1 t2 g)
              | (go_at_call 125; (with_reducible refine (P1.out _).mono ?_); rintro e w3 ⟨rfl, hL⟩; (with_reducible first | (have K9 := K8.below hL; have c9 := K9.cell; have f9 := K9.frozen; have l9 := K9.lt; have G3 := Lib.hid (grow_trans G2.out hL); clear K8 c8 f8 l8) | (have K9 := (Known.new _ _ _).below hL; have c9 := K9.cell; have f9 := K9.frozen; have l9 := K9.lt; have G3 := Lib.hid (grow_trans (grow_alloc G2.out _) hL)) | (have G3 := Lib.hid (grow_trans G2.out hL))); clear hL))
            all_goals
              go_wp2_with fail
              go_meet
              refine ⟨_, ?_, rfl, ?_, ?_⟩
              · (first | exact Nat.le_refl _ | exact G2.out.size | exact G3.out.size)
              · apply known_eq
                · (repeat (with_reducible first | exact K9 | exact Known.new _ _ _ | apply Known.same))
                · simp
              · (repeat (with_reducible first | exact G3.out | refine Grow.grow_setCell ?_ ?_ _ | refine Grow.grow_alloc ?_ _ | refine Grow.grow_drew ?_)) <;> (first | omega | exact Nat.le_refl _ | exact G2.out.size | exact G3.out.size)
          case rest =>
            obtain ⟨p, hp, rfl, k8, hbw⟩ := hcut
            have R10 := Lib.hid (R.out.below hbw)
            have B10 := Lib.hid (BT.out.trans (But.of_below hbw))
            have s6' := (hbw.cell (p := ⟨b, o + i * 7 + 6, none⟩) lb).trans s6
            have t6' := (hbw.cell (p := ⟨b, o + k * 7 + 6, none⟩) lb).trans t6
            have lb' : b < wc.heap.size := Nat.lt_of_lt_of_le lb hbw.size
            have hpg : p ≠ g := by have := R.out.lt; omega
            have K8 := Lib.hid k8
            have S6 := Lib.hid s6'
            clear R BT s0 s1 s2 s6 t0 t1 t2 t6 lb hbw A1 P1
            go_upto_region 10 with (fail)
            go_cut [] (fun wx => Row wx g 0 n (updV (pB n s B i k) i nv) ∧ But g w1 wx ∧ Known wx p #[.int .i64 px, .int .i64 py, .int .i64 pz] ∧ wx.cell? ⟨b, o + i * 7 + 6, none⟩ = some (.int .i64 mi))
            case first =>
              obtain ⟨_, _, _, d3, d4, d5, _⟩ := R10.out.body i hlt
              rw [N1.out] at d3 d4 d5
              have fz := R10.out.frozen
              have hl := R10.out.lt
              have e8 := k8.cell
              have l8 := k8.lt
              obtain ⟨vx, vy, vz⟩ := vi
              simp only [Nat.zero_add] at d3 d4 d5 A2
              clear s6' A3 N1 N2 N3 k8
              refine Grow.wp_region_over_tail 18 (by kernel_rfl) (by kernel_rfl) ?_
              simp only [List.take_succ_cons, List.take_zero, List.drop_succ_cons, List.drop_zero]
              repeat (go_big_quiet_step (first | (go_at_call 21; with_reducible exact Calls.over_of (A2.out _))))
              refine wpQuiet_nil ?_
              intro x9 hz9
              have RX := Lib.hid (R10.out.below (below_over wc x9))
              have BX := Lib.hid (B10.out.trans (But.of_below (below_over wc x9)))
              have KX := Lib.hid (K8.out.below (below_over wc x9))
              have SX := Lib.hid (((below_over wc x9).cell (p := ⟨b, o + i * 7 + 6, none⟩) lb').trans S6.out)
              have fx := RX.out.frozen
              have hlx := RX.out.lt
              obtain ⟨_, _, _, y3, y4, y5, _⟩ := RX.out.body i hlt
              simp only [Nat.zero_add] at y3 y4 y5
              clear d3 d4 d5 fz hl e8 l8
              have lbx : b < (over wc x9).heap.size := Nat.lt_of_lt_of_le lb' (size_over _ _)
              generalize over wc x9 = w4 at *
              go_wp2
              go_meet
              have hB := but_set3 (But.refl g w4) (i * 7 + 3) nv
              have hR := RX.out.setV hlt nv
              simp only [Nat.zero_add] at hR
              exact ⟨hR, but_set3 BX.out (i * 7 + 3) nv, KX.out.but hB hpg, (cell?_but hB (p := ⟨b, o + i * 7 + 6, none⟩) lbx hne).trans SX.out⟩
            case rest =>
              clear R10 B10 K8 S6 k8 s6' t6' lb' A2 N1
              obtain ⟨r11, b11, k11, c6⟩ := hcut
              have R11 := Lib.hid r11
              have B11 := Lib.hid b11
              go_upto_region 11 with (fail)
              obtain ⟨_, _, _, d3, d4, d5, _⟩ := R11.out.body k hkn
              rw [N2.out] at d3 d4 d5
              have fz := R11.out.frozen
              have hl := R11.out.lt
              have e8 := k11.cell
              have l8 := k11.lt
              obtain ⟨vx, vy, vz⟩ := vk
              simp only [Nat.zero_add] at d3 d4 d5 A3
              have lbw : b < wc.heap.size := Nat.lt_of_lt_of_le hb1 b11.size
              clear N2 k11 r11 b11
              refine Grow.wp_region_over_tail 19 (by kernel_rfl) (by kernel_rfl) ?_
              simp only [List.take_succ_cons, List.take_zero, List.drop_succ_cons, List.drop_zero]
              repeat (go_big_quiet_step (first | (go_at_call 21; with_reducible exact Calls.over_of (A3.out _))))
              refine wpQuiet_nil ?_
              intro x9 hz9
              have RX := Lib.hid (R11.out.below (below_over wc x9))
              have BX := Lib.hid (B11.out.trans (But.of_below (below_over wc x9)))
              have fx := RX.out.frozen
              have hlx := RX.out.lt
              obtain ⟨_, _, _, y3, y4, y5, _⟩ := RX.out.body k hkn
              simp only [Nat.zero_add] at y3 y4 y5
              clear d3 d4 d5 fz hl e8 l8 c6 lbw R11 B11
              generalize over wc x9 = w4 at *
              go_wp2
              go_roundw
              case rel =>
                refine ⟨k + 1, by omega, by omega, by go_num, ?_, but_set3 BX.out (k * 7 + 3) nu⟩
                have hR := RX.out.setV hkn nu
                rw [N3.out] at hR
                simp only [Nat.zero_add] at hR
                exact hR
              case measure => simp [intOf]; omega
        · obtain rfl : k = n := by omega
          clear hrow hbut
          go_wp2
          go_roundw
          case rel => exact ⟨i + 1, by omega, by go_num, R.out.at (fun j hj => pB_end k s B i j hj), BT.out⟩
          case measure => simp [intOf]; omega
    · obtain rfl : i = n := by omega
      go_wp2
      go_ret
      exact ⟨g, c, rfl, hg, R.out.at (fun j hj => oB_end i s B j hj), but_new HG.out BT.out hg⟩
end Go.Proofs.YtlfpfeidaohjmaaDoor
