/- What all bodies push; their middle. -/
import Derived.Test.YtlfpfeidaohjmaaDoorBw15
import Derived.Test.YtlfpfeidaohjmaaDoorBm
set_option linter.unusedSimpArgs false
set_option linter.unusedVariables false
namespace Go.Proofs.YtlfpfeidaohjmaaDoor
open Go.RowKit Go.Grow Go.Bo

/-- A local place, kept in a block of the call's own. -/
structure CellAt (w : World) (b : Nat) (c : C3) : Prop where
  c0 : w.cell? ⟨b, 0, none⟩ = some (.int .i64 c.x)
  c1 : w.cell? ⟨b, 1, none⟩ = some (.int .i64 c.y)
  c2 : w.cell? ⟨b, 2, none⟩ = some (.int .i64 c.z)
  frozen : ∀ i, w.frozen? ⟨b, i, none⟩ = false
  lt : b < w.heap.size
theorem fits_push {n k : Nat} {B : Nat → Bd} (hn : n ≤ 12) (h : Ok n B) (hk : k < n) : Fits (push k B) (B k).m (B k).v := by
  have h1 := push_bd (V := 1048576) (by omega) h.m h.v (k + 1) (by omega)
  refine ⟨?_, h1.mono (by omega)⟩
  obtain ⟨m1, m2⟩ := h.m k hk
  obtain ⟨⟨p1, p2⟩, ⟨p3, p4⟩, ⟨p5, p6⟩⟩ := h.v k hk
  have hx := mul_bd m1 m2 p1 p2 (by omega)
  have hy := mul_bd m1 m2 p3 p4 (by omega)
  have hz := mul_bd m1 m2 p5 p6 (by omega)
  unfold C3.le
  simp only
  omega
theorem fits_mid {n k : Nat} {B : Nat → Bd} (hn : n ≤ 12) (h : Ok n B) (hk : k < n) : Fits (mid k B) (B k).m (B k).p := by
  have h1 := mid_bd (V := 1048576) (by omega) h.m h.p (k + 1) (by omega)
  refine ⟨?_, h1.mono (by omega)⟩
  obtain ⟨m1, m2⟩ := h.m k hk
  obtain ⟨⟨p1, p2⟩, ⟨p3, p4⟩, ⟨p5, p6⟩⟩ := h.p k hk
  have hx := mul_bd m1 m2 p1 p2 (by omega)
  have hy := mul_bd m1 m2 p3 p4 (by omega)
  have hz := mul_bd m1 m2 p5 p6 (by omega)
  unfold C3.le
  simp only
  omega

set_option maxRecDepth 100000 in
set_option maxHeartbeats 16000000 in
theorem push_walk (a : Nat → Addr) (r : Option Addr) (n cap : Nat) (B : Nat → Bd) (w : World) (hr : BodsAt w r n B) (hs : Sen a [2, 5, 6] w) (h0 : validE n B = 0) :
    Calls Tryd.prog 19 #[.slice r n cap] w fun e w' => e = .returned (vec (push n B)) ∧ Below w.heap.size w w' := by
  obtain ⟨hn12, hok⟩ := validE_ok.1 h0
  have V := Lib.hid (fun x (hx : Below w.heap.size w x) => valid_walk a r n cap B x (by omega) (hr.below hx) (hs.below hx))
  rw [h0, errV_zero] at V
  have HR := Lib.hid hr
  have HOK := Lib.hid hok
  clear hr hs h0 hok
  go_enter Tryd.func19, Tryd.ntmps19
  go_wp2_with (go_at_call 34; (with_reducible refine (V.out _ (grow_alloc (grow_alloc (grow_refl w) _) _)).mono ?_); rintro e w1 ⟨rfl, hb⟩; have HB := Lib.hid (grow_trans (grow_alloc (grow_alloc (grow_refl w) _) _) hb); have HB0 := Lib.hid hb; clear hb)
  have k2 : Known w1 w.heap.size _ := ((Known.new w _ _).alloc _).below HB0.out
  have k3 : Known w1 (w.heap.size + 1) _ := (Known.new' (by simp)).below HB0.out
  go_loopw [11] (fun v11 wr => ∃ k : Nat, k ≤ n ∧ v11 = .int .i64 k ∧ Known wr (w.heap.size + 1) #[.int .i64 (push k B).x, .int .i64 (push k B).y, .int .i64 (push k B).z] ∧ Known wr w.heap.size #[.int .i64 0, .int .i64 0, .int .i64 0] ∧ Below w.heap.size w wr) (fun i _ => n - (intOf i).toNat)
  case atStart => exact ⟨0, Nat.zero_le _, rfl, k3, k2, HB.out⟩
  case round =>
    clear k2 k3 HB HB0
    obtain ⟨k, hk, rfl, h3, h2, hg⟩ := hrel
    have g := Lib.hid hg
    have H2 := Lib.hid h2
    have H3 := Lib.hid h3
    clear hg
    by_cases hlt : k < n
    · obtain ⟨b1, o1, rfl, hl1, hc⟩ := HR.out.resolve_left (by omega)
      obtain ⟨c0, c1, c2, c3, c4, c5, c6⟩ := (hc k hlt).below g.out hl1
      have hl2 : b1 < wr.heap.size := Nat.lt_of_lt_of_le hl1 g.out.size
      have A := Lib.hid (fun x => add_walk (push k B) (B k).v (B k).m x (fits_push hn12 HOK.out hlt))
      have NX := Lib.hid (show push (k + 1) B = (push k B).more (B k).m (B k).v from rfl)
      have e3 := h3.cell
      have f3 := h3.frozen
      have l3 := h3.lt
      clear hc h2 h3
      unfold vec at A
      generalize (push k B).more (B k).m (B k).v = np at A NX
      generalize push k B = pc at A e3 H3
      generalize B k = d at *
      obtain ⟨⟨x, y, z⟩, ⟨u, v, q⟩, m⟩ := d
      obtain ⟨px, py, pz⟩ := pc
      simp only at c0 c1 c2 c3 c4 c5 c6 A e3 H3
      go_wp2_with (go_at_call 70; (with_reducible refine (A.out _).mono ?_); rintro e w5 ⟨rfl, hb⟩; have G5 := Lib.hid (grow_trans (grow_alloc g.out _) hb); have K3 := Lib.hid ((H3.out.alloc _).below hb); have K2 := Lib.hid ((H2.out.alloc _).below hb); clear hb e3 f3 l3 H3 H2 g c0 c1 c2 c3 c4 c5 c6 hl2; have e5 := K3.out.cell; have f5 := K3.out.frozen; have l5 := K3.out.lt)
      go_roundw
      case rel =>
        refine ⟨k + 1, by omega, by go_num, ?_, ?_, ?_⟩
        · rw [NX.out]
          have h := ((K3.out.same 0 (.int .i64 np.x)).same 1 (.int .i64 np.y)).same 2 (.int .i64 np.z)
          simpa using h
        · exact ((K2.out.other (by omega) 0 _).other (by omega) 1 _).other (by omega) 2 _
        · exact grow_setCell (grow_setCell (grow_setCell G5.out (by omega) _) (by omega) _) (by omega) _
      case measure => simp [intOf]; omega
    · obtain rfl : k = n := by omega
      have e3 := h3.cell
      have e2 := h2.cell
      have f2 := h2.frozen
      have l2 := h2.lt
      clear h2 h3
      go_wp2
      refine bodyPost_ret (v := vec (push k B)) (by unfold vec; simp [results, Tryd.results19, go_sem, ↓IntWalk.iteOmega, e2]) rfl ⟨rfl, ?_⟩
      exact grow_setCell (grow_setCell (grow_setCell g.out (by omega) _) (by omega) _) (by omega) _

set_option maxRecDepth 100000 in
set_option maxHeartbeats 16000000 in
theorem middle_walk (a : Nat → Addr) (r : Option Addr) (n cap : Nat) (B : Nat → Bd) (w : World) (hr : BodsAt w r n B) (hs : Sen a [2, 5, 6] w) (h0 : validE n B = 0) :
    Calls Tryd.prog 20 #[.slice r n cap] w fun e w' => e = .returned (vec (mid n B)) ∧ Below w.heap.size w w' := by
  obtain ⟨hn12, hok⟩ := validE_ok.1 h0
  have V := Lib.hid (fun x (hx : Below w.heap.size w x) => valid_walk a r n cap B x (by omega) (hr.below hx) (hs.below hx))
  rw [h0, errV_zero] at V
  have HR := Lib.hid hr
  have HOK := Lib.hid hok
  clear hr hs h0 hok
  go_enter Tryd.func20, Tryd.ntmps20
  go_wp2_with (go_at_call 34; (with_reducible refine (V.out _ (grow_alloc (grow_alloc (grow_refl w) _) _)).mono ?_); rintro e w1 ⟨rfl, hb⟩; have HB := Lib.hid (grow_trans (grow_alloc (grow_alloc (grow_refl w) _) _) hb); have HB0 := Lib.hid hb; clear hb)
  have k2 : Known w1 w.heap.size _ := ((Known.new w _ _).alloc _).below HB0.out
  have k3 : Known w1 (w.heap.size + 1) _ := (Known.new' (by simp)).below HB0.out
  go_loopw [11] (fun v11 wr => ∃ k : Nat, k ≤ n ∧ v11 = .int .i64 k ∧ Known wr (w.heap.size + 1) #[.int .i64 (mid k B).x, .int .i64 (mid k B).y, .int .i64 (mid k B).z] ∧ Known wr w.heap.size #[.int .i64 0, .int .i64 0, .int .i64 0] ∧ Below w.heap.size w wr) (fun i _ => n - (intOf i).toNat)
  case atStart => exact ⟨0, Nat.zero_le _, rfl, k3, k2, HB.out⟩
  case round =>
    clear k2 k3 HB HB0
    obtain ⟨k, hk, rfl, h3, h2, hg⟩ := hrel
    have g := Lib.hid hg
    have H2 := Lib.hid h2
    have H3 := Lib.hid h3
    clear hg
    by_cases hlt : k < n
    · obtain ⟨b1, o1, rfl, hl1, hc⟩ := HR.out.resolve_left (by omega)
      obtain ⟨c0, c1, c2, c3, c4, c5, c6⟩ := (hc k hlt).below g.out hl1
      have hl2 : b1 < wr.heap.size := Nat.lt_of_lt_of_le hl1 g.out.size
      have A := Lib.hid (fun x => add_walk (mid k B) (B k).p (B k).m x (fits_mid hn12 HOK.out hlt))
      have NX := Lib.hid (show mid (k + 1) B = (mid k B).more (B k).m (B k).p from rfl)
      have e3 := h3.cell
      have f3 := h3.frozen
      have l3 := h3.lt
      clear hc h2 h3
      unfold vec at A
      generalize (mid k B).more (B k).m (B k).p = np at A NX
      generalize mid k B = pc at A e3 H3
      generalize B k = d at *
      obtain ⟨⟨x, y, z⟩, ⟨u, v, q⟩, m⟩ := d
      obtain ⟨px, py, pz⟩ := pc
      simp only at c0 c1 c2 c3 c4 c5 c6 A e3 H3
      go_wp2_with (go_at_call 70; (with_reducible refine (A.out _).mono ?_); rintro e w5 ⟨rfl, hb⟩; have G5 := Lib.hid (grow_trans (grow_alloc g.out _) hb); have K3 := Lib.hid ((H3.out.alloc _).below hb); have K2 := Lib.hid ((H2.out.alloc _).below hb); clear hb e3 f3 l3 H3 H2 g c0 c1 c2 c3 c4 c5 c6 hl2; have e5 := K3.out.cell; have f5 := K3.out.frozen; have l5 := K3.out.lt)
      go_roundw
      case rel =>
        refine ⟨k + 1, by omega, by go_num, ?_, ?_, ?_⟩
        · rw [NX.out]
          have h := ((K3.out.same 0 (.int .i64 np.x)).same 1 (.int .i64 np.y)).same 2 (.int .i64 np.z)
          simpa using h
        · exact ((K2.out.other (by omega) 0 _).other (by omega) 1 _).other (by omega) 2 _
        · exact grow_setCell (grow_setCell (grow_setCell G5.out (by omega) _) (by omega) _) (by omega) _
      case measure => simp [intOf]; omega
    · obtain rfl : k = n := by omega
      have e3 := h3.cell
      have e2 := h2.cell
      have f2 := h2.frozen
      have l2 := h2.lt
      clear h2 h3
      go_wp2
      refine bodyPost_ret (v := vec (mid k B)) (by unfold vec; simp [results, Tryd.results20, go_sem, ↓IntWalk.iteOmega, e2]) rfl ⟨rfl, ?_⟩
      exact grow_setCell (grow_setCell (grow_setCell g.out (by omega) _) (by omega) _) (by omega) _
end Go.Proofs.YtlfpfeidaohjmaaDoor
