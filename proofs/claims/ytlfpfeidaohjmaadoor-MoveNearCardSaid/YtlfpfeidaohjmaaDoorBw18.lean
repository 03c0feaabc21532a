/- MovePush: the law's walk. -/
import Derived.Test.YtlfpfeidaohjmaaDoorBw17
set_option linter.unusedSimpArgs false
set_option linter.unusedVariables false
namespace Go.Proofs.YtlfpfeidaohjmaaDoor
open Go.RowKit Go.Grow Go.Bo

theorem runZ_ok2 {n : Nat} {k : Int} {B E : Nat → Bd} (hB : Ok n B) (h : runZ n k B = some E) : Ok n E := Bo.run_ok hB h
theorem runZ_push {n : Nat} {k : Int} {B E : Nat → Bd} (h : runZ n k B = some E) : push n E = push n B ∧ mid n E = (mid n B).more k (push n B) := by
  obtain ⟨h1, h2⟩ := run_push h
  refine ⟨h1, ?_⟩
  rw [h2]
  congr 1
  unfold sgn
  split <;> omega
theorem fits_end {n : Nat} {k : Int} {B : Nat → Bd} (hn : n ≤ 12) (h : Ok n B) (hk : -120 ≤ k ∧ k ≤ 120) : Fits (mid n B) k (push n B) := by
  obtain ⟨⟨m1, m2⟩, ⟨m3, m4⟩, ⟨m5, m6⟩⟩ := mid_bd (V := 1048576) (by omega) h.m h.p n (Nat.le_refl _)
  obtain ⟨⟨p1, p2⟩, ⟨p3, p4⟩, ⟨p5, p6⟩⟩ := push_bd (V := 1048576) (by omega) h.m h.v n (Nat.le_refl _)
  have key : ∀ p : Int, -824633720832 ≤ p → p ≤ 824633720832 → -98956046499840 ≤ k * p ∧ k * p ≤ 98956046499840 := fun p h1 h2 => by
    rcases Int.le_total 0 k with h0 | h0
    · have := mul_bd h0 hk.2 h1 h2 (by decide); omega
    · have := mul_bd (m := -k) (by omega) (show -k ≤ 120 by omega) h1 h2 (by decide)
      rw [Int.neg_mul] at this; omega
  have hx := key _ (show -824633720832 ≤ (push n B).x by omega) (by omega)
  have hy := key _ (show -824633720832 ≤ (push n B).y by omega) (by omega)
  have hz := key _ (show -824633720832 ≤ (push n B).z by omega) (by omega)
  unfold Fits C3.le C3.more
  simp only
  omega
set_option maxRecDepth 100000 in
set_option maxHeartbeats 16000000 in
theorem push_long (a : Nat → Addr) (r : Option Addr) (n cap : Nat) (st : Int) (B : Nat → Bd) (w : World) (hs : Sen a [2, 5, 6] w) (hsh : ¬ shortB n st) :
    Calls Tryd.prog 4 #[.slice r n cap, .int .i64 st] w fun e w' => e = .returned (.bool true) ∧ Below w.heap.size w w' := by
  have MV := Lib.hid (fun x (hx : Below w.heap.size w x) => moves_walk a x (hs.below hx))
  have HS := Lib.hid hs
  have g : Hid (Below w.heap.size w w) := Lib.hid (grow_refl w)
  clear hs
  have SH := Lib.hid (short_no r n cap st · hsh)
  clear hsh
  go_enter Tryd.func4, Tryd.ntmps4
  go_wp2_with (first
    | (go_at_call 14; (with_reducible refine (MV.out _ g.out).mono ?_); rintro e w1 ⟨rfl, hb⟩; replace g := Lib.hid (grow_trans g.out hb); clear hb)
    | (go_at_call 15; (with_reducible refine (SH.out _).mono ?_); rintro e w2 ⟨rfl, rfl⟩))
  go_ret
  exact ⟨rfl, g.out⟩
set_option maxRecDepth 100000 in
set_option maxHeartbeats 16000000 in
theorem push_bad (a : Nat → Addr) (r : Option Addr) (n cap : Nat) (st : Int) (B : Nat → Bd) (w : World) (hs : Sen a [2, 5, 6] w) (hr : BodsAt w r n B) (hsh : shortB n st) (x : Nat) (hx0 : x ≠ 0) (R : ∀ x' r' c, Below w.heap.size w x' → (r' = none → c = 0) → BodsAt x' r' n B → Calls Tryd.prog 16 #[.slice r' n c, .int .i64 st] x' (RunOut a x' x)) :
    Calls Tryd.prog 4 #[.slice r n cap, .int .i64 st] w fun e w' => e = .returned (.bool true) ∧ Below w.heap.size w w' := by
  have MV := Lib.hid (fun x (hx : Below w.heap.size w x) => moves_walk a x (hs.below hx))
  have HS := Lib.hid hs
  have g : Hid (Below w.heap.size w w) := Lib.hid (grow_refl w)
  clear hs
  have hn14 := hsh.1
  have SH := Lib.hid (short_yes r n cap st · hsh)
  have BD := Lib.hid (fun x (hx : Below w.heap.size w x) => bodies_walk r n cap B x (by omega) (hr.below hx))
  have s0 := trivial
  have RN := Lib.hid R
  have HE := Lib.hid (errV_pos a hx0)
  clear hsh R hr
  go_enter Tryd.func4, Tryd.ntmps4
  go_wp2_with (first
    | (go_at_call 14; (with_reducible refine (MV.out _ g.out).mono ?_); rintro e w1 ⟨rfl, hb⟩; replace g := Lib.hid (grow_trans g.out hb); clear hb)
    | (go_at_call 15; (with_reducible refine (SH.out _).mono ?_); rintro e w2 ⟨rfl, rfl⟩)
    | (clear s0; go_at_call 17; (with_reducible refine (BD.out _ g.out).mono ?_); rintro e w3 ⟨r3, c3, rfl, hrc3, hb3, hb⟩; replace g := Lib.hid (grow_trans g.out hb); have HB3 := Lib.hid hb3; have HC3 := Lib.hid hrc3; clear hb hb3 hrc3; have s1 := trivial)
    | (go_at_call 16; (with_reducible refine (RN.out _ _ _ g.out HC3.out HB3.out).mono ?_); rintro e w4 ⟨rfl, hb⟩; rw [HE.out]; replace g := Lib.hid (grow_trans g.out hb); clear hb))
  go_ret
  exact ⟨rfl, g.out⟩
set_option maxRecDepth 100000 in
set_option maxHeartbeats 16000000 in
theorem push_all (a : Nat → Addr) (r : Option Addr) (n cap : Nat) (st : Int) (B : Nat → Bd) (w : World) (hs : Sen a [2, 5, 6] w) (hr : BodsAt w r n B) (hsh : shortB n st) (h0 : validE n B = 0) (hst : -2000 ≤ st ∧ st ≤ 2000) (E : Nat → Bd) (hX : runZ n st B = some E) :
    Calls Tryd.prog 4 #[.slice r n cap, .int .i64 st] w fun e w' => e = .returned (.bool true) ∧ Below w.heap.size w w' := by
  have MV := Lib.hid (fun x (hx : Below w.heap.size w x) => moves_walk a x (hs.below hx))
  have HS := Lib.hid hs
  have g : Hid (Below w.heap.size w w) := Lib.hid (grow_refl w)
  clear hs
  have hn14 := hsh.1
  have SH := Lib.hid (short_yes r n cap st · hsh)
  have BD := Lib.hid (fun x (hx : Below w.heap.size w x) => bodies_walk r n cap B x (by omega) (hr.below hx))
  have s0 := trivial
  have hnm : n ≤ 9223372036854775807 := by omega
  have hkm : -120 ≤ st ∧ st ≤ 120 := by rcases hsh.2 with h | h; exact ⟨h.2, h.1⟩; omega
  obtain ⟨hn12, hok⟩ := validE_ok.1 h0
  have hokE := runZ_ok2 hok hX
  have h0E : validE n E = 0 := validE_ok.2 ⟨hn12, hokE⟩
  obtain ⟨hp1, hp2⟩ := runZ_push hX
  have RX := Lib.hid (fun x' r' c (hx : Below w.heap.size w x') (hc : r' = none → c = 0) (hb : BodsAt x' r' n B) => run_some a r' n c st B E x' hnm hb hc (HS.out.below hx) h0 (by omega) hX)
  have P1 := Lib.hid (fun x' r' c (hx : Below w.heap.size w x') (hb : BodsAt x' r' n B) => push_walk a r' n c B x' hb (HS.out.below hx) h0)
  have P2 := Lib.hid (fun x' r' c (hx : Below w.heap.size w x') (hb : BodsAt x' r' n E) => push_walk a r' n c E x' hb (HS.out.below hx) h0E)
  have M1 := Lib.hid (fun x' r' c (hx : Below w.heap.size w x') (hb : BodsAt x' r' n B) => middle_walk a r' n c B x' hb (HS.out.below hx) h0)
  have M2 := Lib.hid (fun x' r' c (hx : Below w.heap.size w x') (hb : BodsAt x' r' n E) => middle_walk a r' n c E x' hb (HS.out.below hx) h0E)
  rw [hp1] at P2
  rw [hp2] at M2
  have ME := Lib.hid (fun x => more_walk (mid n B) (push n B) st x (fits_end hn12 hok hkm))
  have HOK := Lib.hid hok
  have HR := Lib.hid hr
  clear hsh hX h0 h0E hokE hr hp1 hp2 hok
  generalize (mid n B).more st (push n B) = ec at M2 ME
  generalize hpp : push n B = pc at P1 P2 ME
  generalize mid n B = mc at M1 ME
  have HPP := Lib.hid hpp
  clear hpp
  unfold vec at P1 P2 M1 M2 ME
  obtain ⟨px, py, pz⟩ := pc
  obtain ⟨mx, my, mz⟩ := mc
  obtain ⟨ex, ey, ez⟩ := ec
  simp only at P1 P2 M1 M2 ME
  have t0 := trivial
  go_enter Tryd.func4, Tryd.ntmps4
  go_wp2_with (first
    | (go_at_call 14; (with_reducible refine (MV.out _ g.out).mono ?_); rintro e w1 ⟨rfl, hb⟩; replace g := Lib.hid (grow_trans g.out hb); clear hb)
    | (go_at_call 15; (with_reducible refine (SH.out _).mono ?_); rintro e w2 ⟨rfl, rfl⟩)
    | (clear s0; go_at_call 17; (with_reducible refine (BD.out _ g.out).mono ?_); rintro e w3 ⟨r3, c3, rfl, hrc3, hb3, hb⟩; replace g := Lib.hid (grow_trans g.out hb); have HB3 := Lib.hid hb3; have HC3 := Lib.hid hrc3; clear hb hb3 hrc3; have s1 := trivial)
    | (clear t0; go_at_call 16; (with_reducible refine (RX.out _ _ _ g.out HC3.out HB3.out).mono ?_); rintro e w4 ⟨r4, c4, rfl, hrc4, hb4, hb⟩; replace g := Lib.hid (grow_trans g.out hb); have HB4 := Lib.hid hb4; clear hb hb4 hrc4; have t1 := trivial)
    | (clear s1; go_at_call 17; (with_reducible refine (BD.out _ g.out).mono ?_); rintro e w5 ⟨r5, c5, rfl, _, hb5, hb⟩; replace g := Lib.hid (grow_trans g.out hb); have HB5 := Lib.hid hb5; replace HB4 := Lib.hid (HB4.out.below hb); clear hb hb5; have s2 := trivial)
    | (clear t1; go_at_call 19; (with_reducible refine (P1.out _ _ _ g.out HB5.out).mono ?_); rintro e w6 ⟨rfl, hb⟩; replace g := Lib.hid (grow_trans g.out hb); replace HB4 := Lib.hid (HB4.out.below hb); clear hb; have t2 := trivial)
    | (clear t2; go_at_call 19; (with_reducible refine (P2.out _ _ _ (grow_alloc g.out _) (HB4.out.below (grow_alloc (grow_refl _) _))).mono ?_); rintro e w7 ⟨rfl, hb⟩; have K9 := Lib.hid ((Known.new w6 _ _).below hb); replace HB4 := Lib.hid ((HB4.out.below (grow_alloc (grow_refl _) _)).below hb); replace g := Lib.hid (grow_trans (grow_alloc g.out _) hb); clear hb; have t3 := trivial)
    | (clear s2; go_at_call 17; (with_reducible refine (BD.out _ (grow_alloc g.out _)).mono ?_); rintro e w8 ⟨r8, c8, rfl, _, hb8, hb⟩; have HB8 := Lib.hid hb8; have K10 := Lib.hid ((Known.new w7 _ _).below hb); replace K9 := Lib.hid ((K9.out.alloc _).below hb); replace HB4 := Lib.hid ((HB4.out.below (grow_alloc (grow_refl _) _)).below hb); replace g := Lib.hid (grow_trans (grow_alloc g.out _) hb); clear hb hb8)
    | (clear t3; go_at_call 20; (with_reducible refine (M1.out _ _ _ g.out HB8.out).mono ?_); rintro e w9 ⟨rfl, hb⟩; replace K10 := Lib.hid (K10.out.below hb); replace K9 := Lib.hid (K9.out.below hb); replace HB4 := Lib.hid (HB4.out.below hb); replace g := Lib.hid (grow_trans g.out hb); clear hb; have t4 := trivial)
    | (clear t4; go_at_call 20; (with_reducible refine (M2.out _ _ _ (grow_alloc g.out _) (HB4.out.below (grow_alloc (grow_refl _) _))).mono ?_); rintro e w10 ⟨rfl, hb⟩; have K11 := Lib.hid ((Known.new w9 _ _).below hb); replace K10 := Lib.hid ((K10.out.alloc _).below hb); replace K9 := Lib.hid ((K9.out.alloc _).below hb); replace g := Lib.hid (grow_trans (grow_alloc g.out _) hb); clear hb))
  have l9 := K9.out.lt
  have l10 := K10.out.lt
  have l11 := K11.out.lt
  have hz := g.out.size
  have X9 := (K9.out.alloc (.cells #[.int .i64 ex, .int .i64 ey, .int .i64 ez] 33)).alloc (.cells #[.int .i64 0, .int .i64 0, .int .i64 0] 33)
  have X10 := (K10.out.alloc (.cells #[.int .i64 ex, .int .i64 ey, .int .i64 ez] 33)).alloc (.cells #[.int .i64 0, .int .i64 0, .int .i64 0] 33)
  have X11 := (K11.out.alloc (.cells #[.int .i64 ex, .int .i64 ey, .int .i64 ez] 33)).alloc (.cells #[.int .i64 0, .int .i64 0, .int .i64 0] 33)
  have X12 := (Known.new w10 #[.int .i64 ex, .int .i64 ey, .int .i64 ez] 33).alloc (.cells #[.int .i64 0, .int .i64 0, .int .i64 0] 33)
  have X13 := Known.new (w10.alloc (.cells #[.int .i64 ex, .int .i64 ey, .int .i64 ez] 33)) #[.int .i64 0, .int .i64 0, .int .i64 0] 33
  rw [World.size_alloc] at X13
  have GX := Lib.hid (grow_alloc (grow_alloc g.out (.cells #[.int .i64 ex, .int .i64 ey, .int .i64 ez] 33)) (.cells #[.int .i64 0, .int .i64 0, .int .i64 0] 33))
  clear K9 K10 K11 g MV SH BD RX P1 P2 M1 M2 HB3 HC3 HB5 HB8
  go_loopw [14] (fun v14 wr => ∃ k : Nat, k ≤ n ∧ v14 = .int .i64 k ∧ Known wr w6.heap.size #[.int .i64 px, .int .i64 py, .int .i64 pz] ∧ Known wr w7.heap.size #[.int .i64 px, .int .i64 py, .int .i64 pz] ∧ Known wr w9.heap.size #[.int .i64 mx, .int .i64 my, .int .i64 mz] ∧ Known wr w10.heap.size #[.int .i64 ex, .int .i64 ey, .int .i64 ez] ∧
      Known wr (w10.heap.size + 1) #[.int .i64 (push k B).x, .int .i64 (push k B).y, .int .i64 (push k B).z] ∧ Below w.heap.size w wr) (fun i _ => n - (intOf i).toNat)
  case atStart => exact ⟨0, Nat.zero_le _, rfl, X9, X10, X11, X12, X13, GX.out⟩
  case round =>
    clear X9 X10 X11 X12 X13 GX
    obtain ⟨k, hk, rfl, x9, x10, x11, x12, x13, hg⟩ := hrel
    have g := Lib.hid hg
    have X9 := Lib.hid x9
    have X10 := Lib.hid x10
    have X11 := Lib.hid x11
    have X12 := Lib.hid x12
    have X13 := Lib.hid x13
    clear hg
    by_cases hlt : k < n
    · obtain ⟨b1, o1, rfl, hl1, hc⟩ := HR.out.resolve_left (by omega)
      obtain ⟨c0, c1, c2, c3, c4, c5, c6⟩ := (hc k hlt).below g.out hl1
      have hl2 : b1 < wr.heap.size := Nat.lt_of_lt_of_le hl1 g.out.size
      have A := Lib.hid (fun x => more_walk (push k B) (B k).v (B k).m x (fits_push hn12 HOK.out hlt))
      have NX := Lib.hid (show push (k + 1) B = (push k B).more (B k).m (B k).v from rfl)
      have e3 := x13.cell
      have l3 := x13.lt
      clear hc x9 x10 x11 x12 x13
      unfold vec at A
      generalize (push k B).more (B k).m (B k).v = np at A NX
      generalize push k B = pk at A e3 X13
      generalize B k = d at *
      obtain ⟨⟨x, y, z⟩, ⟨u, v, q⟩, m⟩ := d
      obtain ⟨sx, sy, sz⟩ := pk
      simp only at c0 c1 c2 c3 c4 c5 c6 A e3 X13
      go_wp2
      refine Grow.wp_region_over_tail 12 (by kernel_rfl) (by kernel_rfl) ?_
      simp only [List.take_succ_cons, List.take_zero, List.drop_succ_cons, List.drop_zero]
      repeat (go_big_quiet_step ((go_at_call 21; with_reducible exact Calls.over_of (A.out _))))
      refine wpQuiet_nil ?_
      intro xx hzz
      have bo := below_over wr xx
      have Y9 := Lib.hid (X9.out.below bo)
      have Y10 := Lib.hid (X10.out.below bo)
      have Y11 := Lib.hid (X11.out.below bo)
      have Y12 := Lib.hid (X12.out.below bo)
      have Y13 := Lib.hid (X13.out.below bo)
      have G5 := Lib.hid (grow_trans g.out bo)
      clear X9 X10 X11 X12 X13 g bo e3 l3 c0 c1 c2 c3 c4 c5 c6 hl2
      generalize over wr xx = w5 at *
      have e5 := Y13.out.cell
      have f5 := Y13.out.frozen
      have l5 := Y13.out.lt
      go_wp2
      go_roundw
      case rel =>
        refine ⟨k + 1, by omega, by go_num, ?_, ?_, ?_, ?_, ?_, ?_⟩
        · exact ((Y9.out.other (by omega) 0 _).other (by omega) 1 _).other (by omega) 2 _
        · exact ((Y10.out.other (by omega) 0 _).other (by omega) 1 _).other (by omega) 2 _
        · exact ((Y11.out.other (by omega) 0 _).other (by omega) 1 _).other (by omega) 2 _
        · exact ((Y12.out.other (by omega) 0 _).other (by omega) 1 _).other (by omega) 2 _
        · rw [NX.out]
          have h := ((Y13.out.same 0 (.int .i64 np.x)).same 1 (.int .i64 np.y)).same 2 (.int .i64 np.z)
          simpa using h
        · exact grow_setCell (grow_setCell (grow_setCell G5.out (by omega) _) (by omega) _) (by omega) _
      case measure => simp [intOf]; omega
    · obtain rfl : k = n := by omega
      have e9 := x9.cell
      have e10 := x10.cell
      have e11 := x11.cell
      have e12 := x12.cell
      have e13 := x13.cell
      rw [HPP.out] at e13
      have l9' := x9.lt
      have l10' := x10.lt
      have l11' := x11.lt
      have l12' := x12.lt
      have l13' := x13.lt
      simp only at e13
      clear x9 x10 x11 x12 x13 X9 X10 X11 X12 X13
      go_wp2
      refine Grow.wp_region_over (by kernel_rfl) (by kernel_rfl) ?_
      repeat (go_big_quiet_step ((go_at_call 21; with_reducible exact Calls.over_of (ME.out _))))
      refine wpQuiet_nil ?_
      intro xx hzz
      have G5 := Lib.hid (grow_trans g.out (below_over wr xx))
      clear g
      generalize over wr xx = w5 at *
      go_wp2
      go_ret
      exact ⟨by first | rfl | simp, G5.out⟩

theorem movePush_walk (a : Nat → Addr) (r : Option Addr) (n cap : Nat) (st : Int) (B : Nat → Bd) (w : World) (hs : Sen a [2, 5, 6] w) (hr : BodsAt w r n B) (hn : n ≤ 9223372036854775807) :
    Calls Tryd.prog 4 #[.slice r n cap, .int .i64 st] w fun e w' => e = .returned (.bool true) ∧ Below w.heap.size w w' := by
  by_cases hsh : shortB n st
  · by_cases h0 : validE n B = 0
    · by_cases hst : -2000 ≤ st ∧ st ≤ 2000
      · cases hX : runZ n st B with
        | none => exact push_bad a r n cap st B w hs hr hsh 6 (by decide) fun x' r' c hx hc hb => run_none a r' n c st B x' hn hb hc (hs.below hx) h0 hst hX
        | some E => exact push_all a r n cap st B w hs hr hsh h0 hst E hX
      · exact push_bad a r n cap st B w hs hr hsh 2 (by decide) fun x' r' c hx hc hb => run_far a r' n c st B x' hn hb (hs.below hx) h0 (by omega)
    · exact push_bad a r n cap st B w hs hr hsh (validE n B) h0 fun x' r' c hx hc hb => run_bad a r' n c st B x' hn hb (hs.below hx) h0
  · exact push_long a r n cap st B w hs hsh
end Go.Proofs.YtlfpfeidaohjmaaDoor
