/- Spans that are joined: the walk. -/
import Derived.Test.YtlfpfeidaohjmaaDoorEs19
set_option linter.unusedSimpArgs false
set_option linter.unusedVariables false
namespace Go.Proofs.YtlfpfeidaohjmaaDoor
open Go.RowKit Go.Grow Go.Fl

set_option maxRecDepth 100000 in
set_option maxHeartbeats 8000000 in
theorem joined_yesc (a : Nat → Addr) (r1 r2 : Option Addr) (l1 l2 : List (Int × Int)) (c1 c2 : Nat) (w : World) (hs : Sen a [2, 5] w) (h1 : SpAt w r1 l1) (h2 : SpAt w r2 l2) (hE : lsE [⟨r1, l1, c1⟩, ⟨r2, l2, c2⟩] = 0) :
    Calls Tryd.prog 89 #[.slice r1 l1.length c1, .slice r2 l2.length c2, .func (.func 92) #[] #[]] w (JPost (fun x y => x && !y) l1 l2 w) := by
  obtain ⟨hl1, hl2, hf1, hf2⟩ := lsE_two hE
  have R1 := Lib.hid (rise_of_fine hf1)
  have R2 := Lib.hid (rise_of_fine hf2)
  have BD := Lib.hid (at_bound hf1 hf2)
  obtain ⟨i1, hi, hz0, hz1, hz2⟩ := info_parts info_spans
  have HIS := Lib.hid hi
  have HIS0 := Lib.hid hz0
  have HIS1 := Lib.hid hz1
  have HIS2 := Lib.hid hz2
  clear hi hz0 hz1 hz2
  have HCW := Lib.hid (fun x y X => but_walk x y X)
  obtain ⟨op, hop⟩ : ∃ op : Bool → Bool → Bool, (fun x y => x && !y) = op := ⟨_, rfl⟩
  have OP := Lib.hid hop
  rw [hop]
  clear hop hf1 hf2
  obtain ⟨i0, hi, hz0, hz1, hz2⟩ := info_parts info_in
  have HI := Lib.hid hi
  have HZ0 := Lib.hid hz0
  have HZ1 := Lib.hid hz1
  have HZ2 := Lib.hid hz2
  clear hi hz0 hz1 hz2
  have SP := Lib.hid (two_walk a r1 r2 l1 l2 c1 c2 w w (Below.refl _ _) hs h1 h2 (by omega) (by omega))
  rw [hE, errV_zero] at SP
  clear hs hE
  go_enter Tryd.func89, Tryd.ntmps89
  go_wp2_with (go_at_call 93; (with_reducible refine SP.out.mono ?_); rintro e w1 ⟨rfl, hb⟩; have HB := Lib.hid hb; clear hb)
  refine seal_wp ?_
  intro W hW
  have KW : Known W w1.heap.size #[.slice r1 l1.length c1, .slice r2 l2.length c2] := by rw [hW.out]; exact Known.new _ _ _
  have GW := Lib.hid (show Below w.heap.size w W by rw [hW.out]; exact grow_alloc HB.out _)
  obtain ⟨B, hB⟩ : ∃ B, w1.heap.size = B := ⟨_, rfl⟩
  rw [hB] at KW ⊢
  have HK := Lib.hid KW
  have S1 := Lib.hid (h1.below GW.out)
  have S2 := Lib.hid (h2.below GW.out)
  clear hW KW HB h1 h2 hB
  go_loopw [9, 29] (fun v9 v29 wr => AtRel W.heap.size W (fun i => if i = 0 then l1 else l2) v9 v29 wr) (fun _ i _ => 2 - (intOf i).toNat)
  case atStart => exact ⟨0, by omega, rfl, ⟨0, World.ownsRow_nil _ _ _ _, rfl⟩, Below.refl _ _⟩
  case round =>
    obtain ⟨k, hk, rfl, ⟨n, hown, hn⟩, hg⟩ := hrel
    have O := Lib.hid hown
    have G := Lib.hid hg
    clear hown hg
    by_cases hlt : k < 2
    · obtain ⟨rk, lk, ck, hlk, hcell, hsp, hle⟩ : ∃ (r : Option Addr) (l : List (Int × Int)) (c : Nat), (if k = 0 then l1 else l2) = l ∧ wr.cell? ⟨B, k, none⟩ = some (.slice r l.length c) ∧ SpAt W r l ∧ l.length ≤ 4000 := by
        have K := HK.out.below G.out
        have : k = 0 ∨ k = 1 := by omega
        rcases this with rfl | rfl
        · exact ⟨r1, l1, c1, rfl, K.cell 0, S1.out, hl1⟩
        · exact ⟨r2, l2, c2, rfl, K.cell 1, S2.out, hl2⟩
      obtain ⟨pre, hpre⟩ : ∃ pre, ((List.range k).flatMap fun i => endsOf ((fun i => if i = 0 then l1 else l2) i)) = pre := ⟨_, rfl⟩
      have HP := Lib.hid (show ((List.range (k + 1)).flatMap fun i => endsOf ((fun i => if i = 0 then l1 else l2) i)) = pre ++ endsOf lk by
        rw [List.range_succ, List.flatMap_append, hpre]; simp [hlk])
      have HPB := Lib.hid (show pre.length ≤ 8000 by
        rw [← hpre]
        have : k = 0 ∨ k = 1 := by omega
        rcases this with rfl | rfl
        · simp
        · have := endsOf_length l1
          simp [this]; omega)
      rw [hpre] at O hn
      have HS := Lib.hid hsp
      have GO := G
      have OO := O
      clear hpre hsp hlk G O
      have hi0 : (0 : Int) ≤ (k : Int) := by omega
      have hi1 : (k : Int) < 2 := by omega
      go_wp2
      go_loopw [9, 35] (fun v9 v35 wr' => ∃ (j : Nat) (n : Nat), j ≤ lk.length ∧ v35 = .int .i64 j ∧ n = (pre ++ endsOf (lk.take j)).length ∧ wr'.ownsRow W.heap.size 3 1 v9 n (ivL (pre ++ endsOf (lk.take j))) ∧ Below W.heap.size W wr') (fun _ i _ => lk.length - (intOf i).toNat)
      case atStart => exact ⟨0, n, Nat.zero_le _, rfl, by simpa [endsOf] using hn, by simpa [endsOf] using OO.out, GO.out⟩
      case round =>
        clear GO OO hn hcell
        obtain ⟨j, q, hj, rfl, hq, hown, hg⟩ := hrel
        have O := Lib.hid hown
        have G := Lib.hid hg
        have SS := Lib.hid (HS.out.below G.out)
        clear hown hg
        have hz := G.out.size
        by_cases hlt2 : j < lk.length
        · obtain ⟨b1, o1, rfl, hc⟩ := SS.out.resolve_left (by intro h; rw [h] at hlt2; exact absurd hlt2 (by simp))
          obtain ⟨d0, d1⟩ := hc j hlt2
          have hb1 : b1 < wr.heap.size := lt_of_cellS d0
          have TS := Lib.hid (take_snocS lk j hlt2)
          clear hc
          generalize lk[j] = x at d0 d1 TS
          obtain ⟨xa, xb⟩ := x
          simp only at d0 d1
          have HPL := Lib.hid (show pre ++ endsOf (lk.take (j + 1)) = (pre ++ endsOf (lk.take j)) ++ [xa, xb] by
            rw [TS.out]; simp [endsOf])
          have hj0 : (0 : Int) ≤ (j : Int) := by omega
          have hj1 : (j : Int) < (lk.length : Int) := by omega
          have hqb : q ≤ 16000 := by
            have e1 := endsOf_length (lk.take j)
            have e2 : (lk.take j).length ≤ 4000 := by rw [List.length_take]; omega
            have e3 := HPB.out
            rw [List.length_append] at hq
            omega
          have C3 := Lib.hid (show q + 2 ≤ maxLen by unfold maxLen; omega)
          have C4 := Lib.hid (show (q + 2) * 8 ≤ 140737488355328 by omega)
          have C5 := Lib.hid (show W.heap.size ≤ ((wr.alloc (.cells #[Value.int .i64 xa, Value.int .i64 xb] 96)).alloc (.cells #[Value.int .i64 xa, Value.int .i64 xb] 3)).heap.size by simp; omega)
          have HQ := Lib.hid hq
          clear hq hqb
          go_wp2_with (at_builtin; refine wpList_append_own _ rfl _ _ 82 rfl W.heap.size 3 i0 (.int .i64 0) 1 8 Tryd.underlying82 HI.out HZ0.out HZ1.out HZ2.out rfl (by decide) _ _ _ rfl ((O.out.alloc _).alloc _) ⟨wr.heap.size + 1, 0, none⟩ 2 2 [.int .i64 xa, .int .i64 xb] rfl rfl (by have := news_sp (wr.alloc (.cells #[Value.int .i64 xa, Value.int .i64 xb] 96)) [.int .i64 xa, .int .i64 xb] 3; simpa using this) (sp_cell _ _) C3.out C4.out C5.out ?_)
          intro v' w1' hown' hg' _
          have HO2 := Lib.hid hown'
          have HG2 := Lib.hid hg'
          clear hown' hg'
          go_wp2
          go_roundw
          case rel =>
            refine ⟨j + 1, q + 2, by omega, by go_num, by rw [HPL.out, List.length_append, ← HQ.out]; rfl, ?_, below_grownS ((G.out.alloc hz _).alloc (by simp; omega) _) (by simp; omega) HG2.out (fun k hk => (O.out.lt k hk).1)⟩
            rw [HPL.out]
            have e : ivL ((pre ++ endsOf (lk.take j)) ++ [xa, xb]) = ivL (pre ++ endsOf (lk.take j)) ++ [.int .i64 xa, .int .i64 xb] := by simp [ivL]
            rw [e]
            exact HO2.out
          case measure => simp [intOf]; omega
        · obtain rfl : j = lk.length := by omega
          rw [List.take_length] at O hq
          go_wp2
          go_roundw
          case rel => exact ⟨k + 1, by omega, by go_num, ⟨q, by rw [HP.out]; exact O.out, by rw [HP.out]; exact hq⟩, G.out⟩
          case measure => simp [intOf]; omega
    · obtain rfl : k = 2 := by omega
      obtain ⟨zs, hzs⟩ : ∃ zs, ((List.range 2).flatMap fun i => endsOf ((fun i => if i = 0 then l1 else l2) i)) = zs := ⟨_, rfl⟩
      have HZS := Lib.hid (show zs = endsOf l1 ++ endsOf l2 by rw [← hzs]; simp [List.range_succ])
      rw [hzs] at O hn
      subst hn
      have hzl : zs.length ≤ 16000 := by
        have e1 := endsOf_length l1
        have e2 := endsOf_length l2
        rw [HZS.out, List.length_append]; omega
      have SW := Lib.hid (sortOwn_walk W.heap.size u9 zs wr (by omega) O.out)
      have CW := Lib.hid (fun X (hX : X.ownsRow W.heap.size 3 1 u9 zs.length (ivL (srt zs))) => compactOwn_walk W.heap.size u9 (srt zs) X (by simp [srt]; omega) (by simpa [srt] using hX))
      unfold CompPost at CW
      clear hzs O
      go_wp2_with (first
        | (go_at_call 126; (with_reducible refine SW.out.mono ?_); rintro e w2 ⟨rfl, ho, hb⟩; have O2 := Lib.hid ho; have G2 := Lib.hid (G.out.trans hb); clear ho hb)
        | (go_at_call 130; (with_reducible refine (CW.out _ O2.out).mono ?_); rintro e w3 ⟨r9, c9, rfl, hi9, hb⟩; have I9 := Lib.hid hi9; have G3 := Lib.hid (G2.out.trans hb); clear hi9 hb))
      refine seal_wp ?_
      intro V hV
      have GV := Lib.hid (show Below w.heap.size w V by rw [hV.out]; exact grow_trans GW.out G3.out)
      have IV := Lib.hid (show InAt V r9 (Lib.compact (srt zs)) by rw [hV.out]; exact I9.out)
      have SV1 := Lib.hid (show SpAt V r1 l1 by rw [hV.out]; exact S1.out.below G3.out)
      have SV2 := Lib.hid (show SpAt V r2 l2 by rw [hV.out]; exact S2.out.below G3.out)
      clear hV G3 G2 I9 O2 G CW SW HK S1 S2 GW
      obtain ⟨T, hT⟩ : ∃ T, Lib.compact (srt zs) = T := ⟨_, rfl⟩
      have HT := Lib.hid hT
      have BT := Lib.hid (show ∀ k (hk : k < T.length), -1152921504606846976 ≤ T[k] ∧ T[k] ≤ 1152921504606846976 by rw [← hT, HZS.out]; exact BD.out)
      rw [hT] at IV ⊢
      have htl : T.length ≤ 16000 := by rw [← hT]; exact Nat.le_trans (compact_len _) (by simpa [srt] using hzl)
      clear hT
      obtain ⟨f, hfz⟩ : ∃ f : Int → Bool, (fun z => op (inSp l1 z) (inSp l2 z)) = f := ⟨_, rfl⟩
      have HFZ := Lib.hid hfz
      clear hfz
      go_loopw [15, 56] (fun v15 v56 wr => JRel f T V v15 v56 wr) (fun _ i _ => T.length - 1 - (intOf i).toNat)
      case atStart => exact ⟨0, Nat.zero_le _, rfl, World.ownsRow_nil _ _ _ _, Below.refl _ _⟩
      case round =>
        obtain ⟨i, hi, rfl, hown, hg⟩ := hrel
        have O := Lib.hid hown
        have G := Lib.hid hg
        clear hown hg
        have hwr : wrap64 ((T.length : Int) - 1) = (T.length : Int) - 1 := by unfold wrap64; omega
        by_cases hlt : i < T.length - 1
        · obtain ⟨b9, o9, rfl, hc9⟩ := IV.out.resolve_left (by intro h; rw [h] at hlt; exact absurd hlt (by simp))
          have d0 := hc9 i (by omega)
          have d1 := hc9 (i + 1) (by omega)
          have hb9 : b9 < V.heap.size := lt_of_cellS d0
          rw [← G.out.cell (p := ⟨b9, _, none⟩) hb9] at d0 d1
          have EJ := Lib.hid (join_step f T i (by omega))
          have bx := BT.out i (by omega)
          have LE := Lib.hid (joinUp_le f T i)
          clear hc9
          generalize T[i] = x at d0 EJ bx
          generalize T[i + 1] = y at d1 EJ
          have hz := G.out.size
          have hb9' : b9 < wr.heap.size := Nat.lt_of_lt_of_le hb9 hz
          have hi0 : (0 : Int) ≤ (i : Int) := by omega
          have hi1 : (i : Int) < (T.length : Int) := by omega
          have hi2 : (i : Int) + 1 < (T.length : Int) := by omega
          have hi3 : (i : Int) < max 0 (wrap64 ((T.length : Int) - 1)) := by rw [hwr]; omega
          clear hwr
          have HW1 := Lib.hid (fun X h => has_walk r1 l1 c1 x X (by omega) (by omega) (by omega) (SV1.out.below h) R1.out)
          have HW2 := Lib.hid (fun X h => has_walk r2 l2 c2 x X (by omega) (by omega) (by omega) (SV2.out.below h) R2.out)
          have HC := Lib.hid (fun X => show Calls Tryd.prog 92 #[.bool (inSp l1 x), .bool (inSp l2 x)] X fun e w' => e = .returned (.bool (f x)) ∧ X = w' by rw [show f x = (fun x y => x && !y) (inSp l1 x) (inSp l2 x) by rw [← HFZ.out, ← OP.out]]; exact but_walk _ _ X)
          clear bx
          generalize inSp l1 x = p1 at HW1 HC
          generalize inSp l2 x = p2 at HW2 HC
          generalize joinUp f T i = J at O LE EJ
          obtain ⟨r15, c15, rfl, hsp⟩ := sp_of_owns O.out
          clear hsp
          have e0 := Lib.hid (show V.cell? ⟨b9, o9 + i, none⟩ = some (.int .i64 x) by rw [← d0]; exact (G.out.cell (p := ⟨b9, _, none⟩) hb9).symm)
          have e1 := Lib.hid (show V.cell? ⟨b9, o9 + (i + 1), none⟩ = some (.int .i64 y) by rw [← d1]; exact (G.out.cell (p := ⟨b9, _, none⟩) hb9).symm)
          obtain ⟨bb, hbb⟩ : ∃ bb, f x = bb := ⟨_, rfl⟩
          rw [hbb] at HC EJ
          clear hbb
          cases bb
          · rw [if_neg (by simp)] at EJ
            go_upto_region 21 with (fail)
            refine Grow.wp_region_reads2 [0, 1, 2, 3, 4, 5, 8, 9, 10, 11, 12] [6] [] 7 13 [13, 14, 15, 16] [7, 14, 15, 16] (by kernel_rfl) (by kernel_rfl) (by kernel_rfl) (by kernel_rfl) (by kernel_rfl) (by kernel_rfl) (by kernel_rfl) (by kernel_rfl) (by kernel_rfl) (by kernel_rfl) ?_ ?_
            · intro c aa d v ww h
              simp (config := {zetaDelta := true}) only [Exit.then, Exit.inBlock] at h ⊢
              exact Grow.bodyPost_blind h
            simp only [Grow.pick, List.getElem?_cons_zero, List.getElem?_cons_succ, List.cons_append, List.nil_append]
            repeat (go_big_quiet_step (fail))
            refine wpQuiet_nil ?_
            repeat (go_big_quiet_step (fail))
            refine wpQuiet_nil ?_
            repeat (go_big_quiet_step (fail))
            refine wpQuiet_nil ?_
            have O1 := Lib.hid (ownsRow_belowS O.out (grow_drew (grow_refl wr)))
            have G1 := Lib.hid (Below.drew G.out)
            have h1 := (G1.out.cell (p := ⟨b9, _, none⟩) hb9).trans e0.out
            have s0 := trivial
            clear O G d0 d1
            refine ⟨?_, ?_⟩
            all_goals
              go_wp2_with (first
                | (clear s0; go_at_call 127; (with_reducible refine (HW1.out _ G1.out).mono ?_); rintro e wa ⟨rfl, hb⟩; have G2 := Lib.hid (grow_trans G1.out hb); have O2 := Lib.hid (ownsRow_belowS O1.out hb); clear h1; have h1 := (G2.out.cell (p := ⟨b9, _, none⟩) hb9).trans e0.out; clear hb O1 G1; have s1 := trivial)
                | (clear s1; go_at_call 127; (with_reducible refine (HW2.out _ G2.out).mono ?_); rintro e wb ⟨rfl, hb⟩; have G := Lib.hid (grow_trans G2.out hb); have O := Lib.hid (ownsRow_belowS O2.out hb); clear hb O2 G2 h1; have s2 := trivial)
                | (clear s2; go_at_call 92; (with_reducible refine (HC.out _).mono ?_); rintro e wc ⟨rfl, rfl⟩))
              go_wp2
              go_roundw
              case rel => exact ⟨i + 1, by omega, by go_num, by rw [EJ.out]; exact O.out, G.out⟩
              case measure => simp [intOf]; omega
          · rw [if_pos rfl] at EJ
            by_cases hJ : J = []
            · rw [hJ, putSp_nil] at EJ
              have hJ0 : decide ((0 : Int) < (J.length : Int)) = false := by rw [hJ]; simp
              have hJ1 : decide (0 < J.length) = false := by rw [hJ]; simp
              have C3 := Lib.hid (show J.length + 1 ≤ maxLen by rw [hJ]; unfold maxLen; simp)
              have C4 := Lib.hid (show (J.length + 1) * 16 ≤ 140737488355328 by rw [hJ]; simp)
              have HJ := Lib.hid hJ
              clear hJ
              go_upto_region 21 with (fail)
              refine Grow.wp_region_reads2 [0, 1, 2, 3, 4, 5, 8, 9, 10, 11, 12] [6] [] 7 13 [13, 14, 15, 16] [7, 14, 15, 16] (by kernel_rfl) (by kernel_rfl) (by kernel_rfl) (by kernel_rfl) (by kernel_rfl) (by kernel_rfl) (by kernel_rfl) (by kernel_rfl) (by kernel_rfl) (by kernel_rfl) ?_ ?_
              · intro c aa d v ww h
                simp (config := {zetaDelta := true}) only [Exit.then, Exit.inBlock] at h ⊢
                exact Grow.bodyPost_blind h
              simp only [Grow.pick, List.getElem?_cons_zero, List.getElem?_cons_succ, List.cons_append, List.nil_append]
              repeat (go_big_quiet_step (fail))
              refine wpQuiet_nil ?_
              repeat (go_big_quiet_step (fail))
              refine wpQuiet_nil ?_
              repeat (go_big_quiet_step (fail))
              refine wpQuiet_nil ?_
              have O1 := Lib.hid (ownsRow_belowS O.out (grow_drew (grow_refl wr)))
              have G1 := Lib.hid (Below.drew G.out)
              have h1 := (G1.out.cell (p := ⟨b9, _, none⟩) hb9).trans e0.out
              have s0 := trivial
              clear O G d0 d1
              refine ⟨?_, ?_⟩
              all_goals
                go_wp2_with (first
                  | (clear s0; go_at_call 127; (with_reducible refine (HW1.out _ G1.out).mono ?_); rintro e wa ⟨rfl, hb⟩; have G2 := Lib.hid (grow_trans G1.out hb); have O2 := Lib.hid (ownsRow_belowS O1.out hb); clear h1; have h1 := (G2.out.cell (p := ⟨b9, _, none⟩) hb9).trans e0.out; clear hb O1 G1; have s1 := trivial)
                  | (clear s1; go_at_call 127; (with_reducible refine (HW2.out _ G2.out).mono ?_); rintro e wb ⟨rfl, hb⟩; have G := Lib.hid (grow_trans G2.out hb); have O := Lib.hid (ownsRow_belowS O2.out hb); clear hb O2 G2 h1; have s2 := trivial)
                  | (clear s2; go_at_call 92; (with_reducible refine (HC.out _).mono ?_); rintro e wc ⟨rfl, rfl⟩))
                have g0 := (G.out.cell (p := ⟨b9, _, none⟩) hb9).trans e0.out
                have g1 := (G.out.cell (p := ⟨b9, _, none⟩) hb9).trans e1.out
                go_quiet (fail)
                go_wp2
                have O3 := Lib.hid (ownsRow_belowS O.out (grow_drewN (grow_refl wb) nq))
                have G3 := Lib.hid (grow_trans G.out (grow_drewN (grow_refl wb) nq))
                clear O G g0 g1
                generalize wb.drewN nq = wx at O3 G3 ⊢
                have hb9x : b9 < wx.heap.size := Nat.lt_of_lt_of_le hb9 G3.out.size
                have g0 := (G3.out.cell (p := ⟨b9, _, none⟩) hb9).trans e0.out
                have g1 := (G3.out.cell (p := ⟨b9, _, none⟩) hb9).trans e1.out
                refine Grow.wp_region_reads1 [0, 1, 2, 3, 5, 6, 7, 8] [4, 9] [10, 11, 12, 13] (by kernel_rfl) (by kernel_rfl) (by kernel_rfl) (by kernel_rfl) (by kernel_rfl) (by kernel_rfl) ?_ ?_
                · intro c aa d v ww h
                  simp (config := {zetaDelta := true}) only [Exit.then, Exit.inBlock] at h ⊢
                  exact Grow.bodyPost_blind h
                simp only [Grow.pick, List.getElem?_cons_zero, List.getElem?_cons_succ, List.cons_append, List.nil_append]
                repeat (go_big_quiet_step (fail))
                refine wpQuiet_nil ?_
                repeat (go_big_quiet_step (fail))
                refine wpQuiet_nil ?_
                have OX := Lib.hid (ownsRow_belowS O3.out (grow_drew (grow_refl wx)))
                have GX := Lib.hid (Below.drew G3.out)
                clear O3 G3 g0 g1
                generalize wx.drew = w4 at *
                have hz4 := GX.out.size
                have C5 := Lib.hid (show V.heap.size ≤ (w4.alloc (.cells #[Value.int .i64 x, Value.int .i64 y] 96)).heap.size by simp; omega)
                go_wp2_with (at_builtin; refine wpList_append_own _ rfl _ _ 92 rfl V.heap.size 96 i1 (.agg #[.int .i64 0, .int .i64 0]) 2 16 Tryd.underlying92 HIS.out HIS0.out HIS1.out HIS2.out rfl (by decide) _ _ _ rfl (OX.out.alloc _) ⟨w4.heap.size, 0, none⟩ 1 1 [.int .i64 x, .int .i64 y] rfl rfl (by have := news_sp w4 [.int .i64 x, .int .i64 y] 96; simpa using this) (sp_cell _ _) C3.out C4.out C5.out ?_)
                intro v' w1' hown' hg' _
                have HO2 := Lib.hid hown'
                have HG2 := Lib.hid hg'
                clear hown' hg'
                go_wp2
                go_roundw
                case rel =>
                  refine ⟨i + 1, by omega, by go_num, ?_, below_grownS (GX.out.alloc hz4 _) (by simp; omega) HG2.out (fun k hk => (OX.out.lt k hk).1)⟩
                  rw [EJ.out]
                  have h := HO2.out
                  rw [HJ.out] at h
                  exact h
                case measure => simp [intOf]; omega
            · obtain ⟨m, p, q, rfl⟩ := snoc_of J hJ
              clear hJ
              have hml : (m ++ [(p, q)]).length = m.length + 1 := by simp
              rw [hml] at O LE ⊢
              have hle := LE.out
              obtain ⟨g, hg15, hgV⟩ : ∃ g, r15 = some ⟨g, 0, none⟩ ∧ V.heap.size ≤ g := by
                rcases O.out.2 with ⟨_, h⟩ | ⟨g, cap, cur, hv, hg, _⟩
                · exact absurd h (by omega)
                · exact ⟨g, by injection hv, hg⟩
              subst hg15
              have hn9 : ¬ (b9 = g) := by omega
              have hn9' : ¬ (g = b9) := by omega
              have hm0 : (0 : Int) ≤ (m.length : Int) := by omega
              have QC := Lib.hid (show (spL (m ++ [(p, q)]))[m.length * 2 + 1]? = some (.int .i64 q) by
                have := (spL_get (m ++ [(p, q)]) m.length (by simp)).2
                simpa using this)
              by_cases hq : q = x
              · subst hq
                rw [putSp_same] at EJ
                go_upto_region 21 with (fail)
                refine Grow.wp_region_reads2 [0, 1, 2, 3, 4, 5, 8, 9, 10, 11, 12] [6] [] 7 13 [13, 14, 15, 16] [7, 14, 15, 16] (by kernel_rfl) (by kernel_rfl) (by kernel_rfl) (by kernel_rfl) (by kernel_rfl) (by kernel_rfl) (by kernel_rfl) (by kernel_rfl) (by kernel_rfl) (by kernel_rfl) ?_ ?_
                · intro c aa d v ww h
                  simp (config := {zetaDelta := true}) only [Exit.then, Exit.inBlock] at h ⊢
                  exact Grow.bodyPost_blind h
                simp only [Grow.pick, List.getElem?_cons_zero, List.getElem?_cons_succ, List.cons_append, List.nil_append]
                repeat (go_big_quiet_step (fail))
                refine wpQuiet_nil ?_
                repeat (go_big_quiet_step (fail))
                refine wpQuiet_nil ?_
                repeat (go_big_quiet_step (fail))
                refine wpQuiet_nil ?_
                have O1 := Lib.hid (ownsRow_belowS O.out (grow_drew (grow_refl wr)))
                have G1 := Lib.hid (Below.drew G.out)
                have h1 := (G1.out.cell (p := ⟨b9, _, none⟩) hb9).trans e0.out
                have s0 := trivial
                clear O G d0 d1
                refine ⟨?_, ?_⟩
                all_goals
                  go_wp2_with (first
                    | (clear s0; go_at_call 127; (with_reducible refine (HW1.out _ G1.out).mono ?_); rintro e wa ⟨rfl, hb⟩; have G2 := Lib.hid (grow_trans G1.out hb); have O2 := Lib.hid (ownsRow_belowS O1.out hb); clear h1; have h1 := (G2.out.cell (p := ⟨b9, _, none⟩) hb9).trans e0.out; clear hb O1 G1; have s1 := trivial)
                    | (clear s1; go_at_call 127; (with_reducible refine (HW2.out _ G2.out).mono ?_); rintro e wb ⟨rfl, hb⟩; have G := Lib.hid (grow_trans G2.out hb); have O := Lib.hid (ownsRow_belowS O2.out hb); clear hb O2 G2 h1; have s2 := trivial)
                    | (clear s2; go_at_call 92; (with_reducible refine (HC.out _).mono ?_); rintro e wc ⟨rfl, rfl⟩))
                  have g0 := (G.out.cell (p := ⟨b9, _, none⟩) hb9).trans e0.out
                  have g1 := (G.out.cell (p := ⟨b9, _, none⟩) hb9).trans e1.out
                  have gq := owns_cellsS O.out _ _ QC.out
                  have gl := (O.out.lt g rfl).2
                  have gf : ∀ j, wb.frozen? ⟨g, j, none⟩ = false := by
                    obtain ⟨_, h | ⟨g', cap, cur, hv, _, hb, _⟩⟩ := O.out
                    · exact absurd h.2 (by omega)
                    · obtain ⟨rfl, rfl⟩ : g = g' ∧ c15 = cap := by simpa using hv
                      exact fun j => frozen_of_row wb g j cur _ hb
                  go_quiet (fail)
                  go_wp2
                  have O3 := Lib.hid (ownsRow_belowS O.out (grow_drewN (grow_refl wb) nq))
                  have G3 := Lib.hid (grow_trans G.out (grow_drewN (grow_refl wb) nq))
                  go_roundw
                  case rel =>
                    refine ⟨i + 1, by omega, by go_num, ?_, Below.setCell G3.out hgV _⟩
                    rw [EJ.out, show (m ++ [(p, y)]).length = m.length + 1 by simp]
                    have h := ownsRow_setS O3.out (m.length * 2 + 1) (.int .i64 y)
                    rw [spL_set] at h
                    exact h
                  case measure => simp [intOf]; omega
              · rw [putSp_other _ _ _ _ _ hq] at EJ
                have C3 := Lib.hid (show m.length + 1 + 1 ≤ maxLen by unfold maxLen; omega)
                have C4 := Lib.hid (show (m.length + 1 + 1) * 16 ≤ 140737488355328 by omega)
                have hd : decide (q = x) = false := decide_eq_false hq
                go_upto_region 21 with (fail)
                refine Grow.wp_region_reads2 [0, 1, 2, 3, 4, 5, 8, 9, 10, 11, 12] [6] [] 7 13 [13, 14, 15, 16] [7, 14, 15, 16] (by kernel_rfl) (by kernel_rfl) (by kernel_rfl) (by kernel_rfl) (by kernel_rfl) (by kernel_rfl) (by kernel_rfl) (by kernel_rfl) (by kernel_rfl) (by kernel_rfl) ?_ ?_
                · intro c aa d v ww h
                  simp (config := {zetaDelta := true}) only [Exit.then, Exit.inBlock] at h ⊢
                  exact Grow.bodyPost_blind h
                simp only [Grow.pick, List.getElem?_cons_zero, List.getElem?_cons_succ, List.cons_append, List.nil_append]
                repeat (go_big_quiet_step (fail))
                refine wpQuiet_nil ?_
                repeat (go_big_quiet_step (fail))
                refine wpQuiet_nil ?_
                repeat (go_big_quiet_step (fail))
                refine wpQuiet_nil ?_
                have O1 := Lib.hid (ownsRow_belowS O.out (grow_drew (grow_refl wr)))
                have G1 := Lib.hid (Below.drew G.out)
                have h1 := (G1.out.cell (p := ⟨b9, _, none⟩) hb9).trans e0.out
                have s0 := trivial
                clear O G d0 d1
                refine ⟨?_, ?_⟩
                all_goals
                  go_wp2_with (first
                    | (clear s0; go_at_call 127; (with_reducible refine (HW1.out _ G1.out).mono ?_); rintro e wa ⟨rfl, hb⟩; have G2 := Lib.hid (grow_trans G1.out hb); have O2 := Lib.hid (ownsRow_belowS O1.out hb); clear h1; have h1 := (G2.out.cell (p := ⟨b9, _, none⟩) hb9).trans e0.out; clear hb O1 G1; have s1 := trivial)
                    | (clear s1; go_at_call 127; (with_reducible refine (HW2.out _ G2.out).mono ?_); rintro e wb ⟨rfl, hb⟩; have G := Lib.hid (grow_trans G2.out hb); have O := Lib.hid (ownsRow_belowS O2.out hb); clear hb O2 G2 h1; have s2 := trivial)
                    | (clear s2; go_at_call 92; (with_reducible refine (HC.out _).mono ?_); rintro e wc ⟨rfl, rfl⟩))
                  have g0 := (G.out.cell (p := ⟨b9, _, none⟩) hb9).trans e0.out
                  have g1 := (G.out.cell (p := ⟨b9, _, none⟩) hb9).trans e1.out
                  have gq := owns_cellsS O.out _ _ QC.out
                  have gl := (O.out.lt g rfl).2
                  go_quiet (fail)
                  go_wp2
                  have O3 := Lib.hid (ownsRow_belowS O.out (grow_drewN (grow_refl wb) nq))
                  have G3 := Lib.hid (grow_trans G.out (grow_drewN (grow_refl wb) nq))
                  clear O G g0 g1 gq gl
                  generalize wb.drewN nq = wx at O3 G3 ⊢
                  have hb9x : b9 < wx.heap.size := Nat.lt_of_lt_of_le hb9 G3.out.size
                  have g0 := (G3.out.cell (p := ⟨b9, _, none⟩) hb9).trans e0.out
                  have g1 := (G3.out.cell (p := ⟨b9, _, none⟩) hb9).trans e1.out
                  refine Grow.wp_region_reads1 [0, 1, 2, 3, 5, 6, 7, 8] [4, 9] [10, 11, 12, 13] (by kernel_rfl) (by kernel_rfl) (by kernel_rfl) (by kernel_rfl) (by kernel_rfl) (by kernel_rfl) ?_ ?_
                  · intro c aa d v ww h
                    simp (config := {zetaDelta := true}) only [Exit.then, Exit.inBlock] at h ⊢
                    exact Grow.bodyPost_blind h
                  simp only [Grow.pick, List.getElem?_cons_zero, List.getElem?_cons_succ, List.cons_append, List.nil_append]
                  repeat (go_big_quiet_step (fail))
                  refine wpQuiet_nil ?_
                  repeat (go_big_quiet_step (fail))
                  refine wpQuiet_nil ?_
                  have OX := Lib.hid (ownsRow_belowS O3.out (grow_drew (grow_refl wx)))
                  have GX := Lib.hid (Below.drew G3.out)
                  clear O3 G3 g0 g1
                  generalize wx.drew = w4 at *
                  have hz4 := GX.out.size
                  have C5 := Lib.hid (show V.heap.size ≤ (w4.alloc (.cells #[Value.int .i64 x, Value.int .i64 y] 96)).heap.size by simp; omega)
                  go_wp2_with (at_builtin; refine wpList_append_own _ rfl _ _ 92 rfl V.heap.size 96 i1 (.agg #[.int .i64 0, .int .i64 0]) 2 16 Tryd.underlying92 HIS.out HIS0.out HIS1.out HIS2.out rfl (by decide) _ _ _ rfl (OX.out.alloc _) ⟨w4.heap.size, 0, none⟩ 1 1 [.int .i64 x, .int .i64 y] rfl rfl (by have := news_sp w4 [.int .i64 x, .int .i64 y] 96; simpa using this) (sp_cell _ _) C3.out C4.out C5.out ?_)
                  intro v' w1' hown' hg' _
                  have HO2 := Lib.hid hown'
                  have HG2 := Lib.hid hg'
                  clear hown' hg'
                  go_wp2
                  go_roundw
                  case rel =>
                    refine ⟨i + 1, by omega, by go_num, ?_, below_grownS (GX.out.alloc hz4 _) (by simp; omega) HG2.out (fun k hk => (OX.out.lt k hk).1)⟩
                    rw [EJ.out]
                    rw [spL_append, List.length_append, hml]
                    exact HO2.out
                  case measure => simp [intOf]; omega
        · have hi3 : ¬ ((i : Int) < max 0 (wrap64 ((T.length : Int) - 1))) := by rw [hwr]; omega
          obtain rfl : i = T.length - 1 := by omega
          obtain ⟨r15, c15, rfl, hsp⟩ := sp_of_owns O.out
          go_wp2
          go_ret2
          have e : joinL op l1 l2 = joinUp f T (T.length - 1) := by
            unfold joinL
            rw [HFZ.out, ← HZS.out, HT.out]
          refine ⟨r15, c15, ?_, ?_, ?_⟩
          · rw [e]; rfl
          · rw [e]; exact hsp
          · exact grow_trans GV.out G.out
end Go.Proofs.YtlfpfeidaohjmaaDoor
