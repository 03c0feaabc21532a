/- ShiftGuess: the document's guess. -/
import Derived.Test.YtaakbajhbmbhcaaDoorGu3
import Derived.Test.YtaakbajhbmbhcaaDoorWf7
set_option linter.unusedSimpArgs false
set_option linter.unusedVariables false
namespace Go.Proofs.YtaakbajhbmbhcaaDoor
open Go.RowKit Go.Fl Go.Grow Go.Tr

theorem map_at {L : List (Nat × Nat)} {n : Nat} {Y : Nat → C2} (hm : L.map cb = (List.range n).map Y) : L.length = n ∧ ∀ k (h : k < L.length), cb L[k] = Y k := by
  have hl : L.length = n := by have := len_map hm; simpa using this
  refine ⟨hl, fun k h => ?_⟩
  have := congrArg (fun t => t[k]?) hm
  simp [h, hl ▸ h] at this
  exact this
theorem pin_of {w : World} {r : Option Addr} {L : List (Nat × Nat)} {n : Nat} {Y : Nat → C2} (h : PrAt w r L) (hm : L.map cb = (List.range n).map Y) : PIn w r n Y := by
  obtain ⟨hl, hk⟩ := map_at hm
  rcases h with h | ⟨b, o, rfl, hc⟩
  · exact .inl (by rw [← hl, h]; rfl)
  · refine .inr ⟨b, o, rfl, fun k hkn => ?_⟩
    obtain ⟨c0, c1⟩ := hc k (by omega)
    have e := hk k (by omega)
    exact ⟨_, _, c0, c1, by rw [← e]; rfl, by rw [← e]; rfl⟩
theorem rowL_map (x : Nat → Int) (n : Nat) : (rowL x n).map cb = (List.range n).map (XC x) := by
  simp only [rowL, List.map_map]
  refine List.map_congr_left fun i _ => ?_
  show (⟨fl _, fl 0⟩ : C2) = _
  rw [fl_zero]; rfl
def TwoRel (x y : Nat → Int) (n : Nat) (w : World) (v5 v6 v7 : Value) (wr : World) : Prop :=
  ∃ k : Nat, k ≤ n ∧ v7 = .int .i64 k ∧ wr.ownsRow w.heap.size 28 2 v5 k (pvL (rowL x k)) ∧ wr.ownsRow w.heap.size 28 2 v6 k (pvL (rowL y k)) ∧
    (∀ b, v5.ownBlock = some b → v6.ownBlock ≠ some b) ∧ Below w.heap.size w wr
def CRel (X Y : Nat → C2) (n : Nat) (w : World) (v8 v9 : Value) (wr : World) : Prop :=
  ∃ (k : Nat) (L : List (Nat × Nat)), k ≤ n ∧ v9 = .int .i64 k ∧ L.map cb = (List.range k).map (QC X Y) ∧ wr.ownsRow w.heap.size 28 2 v8 k (pvL L) ∧ Below w.heap.size w wr
def GRel3 (D : Nat → Option Nat) (n : Nat) (w6 : World) (v10 v11 : Value) (wr : World) : Prop :=
  ∃ k : Nat, 1 ≤ k ∧ k ≤ n ∧ v11 = .int .i64 k ∧ v10 = .int .i64 (bestU D k) ∧ Below w6.heap.size w6 wr
theorem bestU_one (D : Nat → Option Nat) : bestU D 1 = 0 := by have := bestU_le D 1; omega
set_option maxRecDepth 100000 in
set_option maxHeartbeats 16000000 in
theorem guessOf_walk (r1 r2 : Option Addr) (m n cap1 cap2 : Nat) (x y : Nat → Int) (w : World) (h1 : IntsAt w r1 n x) (h2 : IntsAt w r2 n y) (hn : n ≤ 256) (hn0 : 0 < n) (hm : 2 ^ m = n) :
    Calls Tryd.prog 30 #[.slice r1 n cap1, .slice r2 n cap2] w fun e w' => e = .returned (.int .i64 (guessZ m n x y)) ∧ Below w.heap.size w w' := by
  obtain ⟨i0, hi, hz0, hz1, hz2⟩ := info_parts info_pr
  have HI := Lib.hid hi
  have HZ0 := Lib.hid hz0
  have HZ1 := Lib.hid hz1
  have HZ2 := Lib.hid hz2
  obtain ⟨b1, o1, rfl, hc1⟩ := h1.resolve_left (by omega)
  obtain ⟨b2, o2, rfl, hc2⟩ := h2.resolve_left (by omega)
  have hb1 : b1 < w.heap.size := lt_of_cell (hc1 0 hn0)
  have hb2 : b2 < w.heap.size := lt_of_cell (hc2 0 hn0)
  have H1 := Lib.hid hc1
  have H2 := Lib.hid hc2
  obtain ⟨FX, hFX⟩ : ∃ FX, fastZ false m (XC x) = FX := ⟨_, rfl⟩
  obtain ⟨FY, hFY⟩ : ∃ FY, fastZ false m (XC y) = FY := ⟨_, rfl⟩
  obtain ⟨C, hC⟩ : ∃ C, fstZ n m true (QC FX FY) = C := ⟨_, rfl⟩
  have WX := Lib.hid (fun X c r' (hi : PIn X r' n (XC x)) => show Calls Tryd.prog 28 #[.slice r' n c, .bool false] X (PrPost X ((List.range n).map FX)) from hFX ▸ fastOf_walk r' m n c false (XC x) X hi hn hn0 hm)
  have WY := Lib.hid (fun X c r' (hi : PIn X r' n (XC y)) => show Calls Tryd.prog 28 #[.slice r' n c, .bool false] X (PrPost X ((List.range n).map FY)) from hFY ▸ fastOf_walk r' m n c false (XC y) X hi hn hn0 hm)
  have WQ := Lib.hid (fun X c r' (hi : PIn X r' n (QC FX FY)) => show Calls Tryd.prog 28 #[.slice r' n c, .bool true] X (PrPost X ((List.range n).map C)) from hC ▸ fastOf_walk r' m n c true (QC FX FY) X hi hn hn0 hm)
  unfold PrPost at WX WY WQ
  unfold guessZ
  rw [hFX, hFY, hC]
  clear h1 h2 hc1 hc2 hm hFX hFY hC hi hz0 hz1 hz2
  go_enter Tryd.func30, Tryd.ntmps30
  go_wp2
  go_loopw [5, 6, 7] (fun v5 v6 v7 wr => TwoRel x y n w v5 v6 v7 wr) (fun _ _ i _ => n - (intOf i).toNat)
  case atStart => exact ⟨0, Nat.zero_le _, rfl, World.ownsRow_nil _ _ _ _, World.ownsRow_nil _ _ _ _, fun b h => (by cases h), Below.refl _ _⟩
  case round =>
    obtain ⟨k, hk, rfl, hox, hoy, hdis, hg⟩ := hrel
    have OX := Lib.hid hox
    have OY := Lib.hid hoy
    have HD := Lib.hid hdis
    have G := Lib.hid hg
    clear hox hoy hdis hg
    have hz := G.out.size
    by_cases hlt : k < n
    · have e1 := (G.out.cell (p := ⟨b1, o1 + k, none⟩) hb1).trans (H1.out k hlt)
      have hb1' : b1 < wr.heap.size := Nat.lt_of_lt_of_le hb1 hz
      have hi0 : (0 : Int) ≤ (k : Int) := by omega
      have hi1 : (k : Int) < (n : Int) := by omega
      have C3 := Lib.hid (show k + 1 ≤ maxLen by unfold maxLen; omega)
      have C4 := Lib.hid (show (k + 1) * 16 ≤ 140737488355328 by omega)
      have C5 := Lib.hid (fun (a b : Nat) => show w.heap.size ≤ (wr.alloc (.cells #[Value.float .f64 a, Value.float .f64 b] 28)).heap.size by simp; omega)
      go_wp2_with (at_builtin; refine wpList_append_own_at _ rfl _ _ 22 rfl w.heap.size 28 i0 (.agg #[.float .f64 0, .float .f64 0]) 2 16 Tryd.underlying22 HI.out HZ0.out HZ1.out HZ2.out rfl (by decide) _ _ _ rfl (OX.out.alloc _) ⟨wr.heap.size, 0, none⟩ 1 1 [.float .f64 (floatOfInt .f64 (x k)), .float .f64 0] rfl rfl (news_pr _ _ _) (pr_cell _ _) C3.out C4.out (C5.out _ _) ?_)
      intro v' w1 hown' hg' _ hat
      have OX2 := Lib.hid hown'
      have OY2 := Lib.hid (show w1.ownsRow w.heap.size 28 2 u6 k (pvL (rowL y k)) from (OY.out.alloc _).kept (row := u5.ownBlock) hg' (by
        cases hu : u6.ownBlock with
        | none => exact .inl rfl
        | some z => exact .inr (fun e => HD.out z e.symm hu)))
      have HD2 := Lib.hid (show ∀ b, v'.ownBlock = some b → u6.ownBlock ≠ some b from fun b hb hb7 => by
        rcases hat with h | h
        · exact HD.out b (h ▸ hb) hb7
        · have h3 := (OY.out.lt b hb7).2
          rw [h] at hb
          simp at hb
          omega)
      have G2 := Lib.hid (below_grown (G.out.alloc hz _) (by simp; omega) hg' (fun k hk => (OX.out.lt k hk).1))
      clear hown' hg' hat OX OY HD G e1 C5
      have hz2 := G2.out.size
      have e2 := (G2.out.cell (p := ⟨b2, o2 + k, none⟩) hb2).trans (H2.out k hlt)
      have hb2' : b2 < w1.heap.size := Nat.lt_of_lt_of_le hb2 hz2
      have C5 := Lib.hid (fun (a b : Nat) => show w.heap.size ≤ (w1.alloc (.cells #[Value.float .f64 a, Value.float .f64 b] 28)).heap.size by simp; omega)
      go_wp2_with (at_builtin; refine wpList_append_own_at _ rfl _ _ 22 rfl w.heap.size 28 i0 (.agg #[.float .f64 0, .float .f64 0]) 2 16 Tryd.underlying22 HI.out HZ0.out HZ1.out HZ2.out rfl (by decide) _ _ _ rfl (OY2.out.alloc _) ⟨w1.heap.size, 0, none⟩ 1 1 [.float .f64 (floatOfInt .f64 (y k)), .float .f64 0] rfl rfl (news_pr _ _ _) (pr_cell _ _) C3.out C4.out (C5.out _ _) ?_)
      intro v'' w2 hown' hg' _ hat
      have OY3 := Lib.hid hown'
      have OX3 := Lib.hid (show w2.ownsRow w.heap.size 28 2 v' (k + 1) (pvL (rowL x k) ++ [.float .f64 (floatOfInt .f64 (x k)), .float .f64 0]) from (OX2.out.alloc _).kept (row := u6.ownBlock) hg' (by
        cases hu : v'.ownBlock with
        | none => exact .inl rfl
        | some z => exact .inr (fun e => HD2.out z hu e.symm)))
      have HD3 := Lib.hid (show ∀ b, v'.ownBlock = some b → v''.ownBlock ≠ some b from fun b hb hb7 => by
        rcases hat with h | h
        · exact HD2.out b hb (h ▸ hb7)
        · have h3 := (OX2.out.lt b hb).2
          rw [h] at hb7
          simp at hb7
          omega)
      have G3 := Lib.hid (below_grown (G2.out.alloc hz2 _) (by simp; omega) hg' (fun k hk => (OY2.out.lt k hk).1))
      clear hown' hg' hat OX2 OY2 HD2 G2 e2 C5
      go_wp2
      go_roundw
      case rel => exact ⟨k + 1, by omega, by go_num, by rw [rowL_next, pvL_append]; exact OX3.out, by rw [rowL_next, pvL_append]; exact OY3.out, HD3.out, G3.out⟩
      case measure => simp [intOf]; omega
    · obtain rfl : k = n := by omega
      obtain ⟨rx, cx, hvx, hpx⟩ := pr_of_owns OX.out
      obtain ⟨ry, cy, hvy, hpy⟩ := pr_of_owns OY.out
      rw [rowL_len] at hvx hvy
      subst hvx
      subst hvy
      have PX := Lib.hid (pin_of hpx (rowL_map x k))
      have PY := Lib.hid (pin_of hpy (rowL_map y k))
      clear hpx hpy OX OY HD
      go_wp2_with (first
        | (go_at_call 28; (with_reducible refine (WX.out _ _ _ PX.out).mono ?_); rintro e w3 ⟨r3, c3, L3, rfl, hp, hmp, hb⟩; rw [(map_at hmp).1]; have P3 := Lib.hid hp; have M3 := Lib.hid hmp; have PY3 := Lib.hid (PY.out.below hb); have GN := Lib.hid (grow_trans G.out hb); clear G hb hp hmp PX PY; have G := GN; clear GN)
        | (go_at_call 28; (with_reducible refine (WY.out _ _ _ PY3.out).mono ?_); rintro e w4 ⟨r4, c4, L4, rfl, hp, hmp, hb⟩; rw [(map_at hmp).1]; have P4 := Lib.hid hp; have M4 := Lib.hid hmp; have P34 := Lib.hid (P3.out.below hb); have GN := Lib.hid (grow_trans G.out hb); clear G hb hp hmp PY3 P3; have G := GN; clear GN))
      obtain ⟨b3, o3, rfl, hc3⟩ := (pin_of P34.out M3.out).resolve_left (by omega)
      obtain ⟨b4, o4, rfl, hc4⟩ := (pin_of P4.out M4.out).resolve_left (by omega)
      have hb3 : b3 < w4.heap.size := by obtain ⟨p, q, h, _⟩ := hc3 0 hn0; exact lt_of_cell h
      have hb4 : b4 < w4.heap.size := by obtain ⟨p, q, h, _⟩ := hc4 0 hn0; exact lt_of_cell h
      have K3 := Lib.hid hc3
      have K4 := Lib.hid hc4
      clear hc3 hc4 P34 P4 M3 M4
      go_loopw [8, 9] (fun v8 v9 wr => CRel FX FY k w4 v8 v9 wr) (fun _ i _ => k - (intOf i).toNat)
      case atStart => exact ⟨0, [], Nat.zero_le _, rfl, rfl, World.ownsRow_nil _ _ _ _, Below.refl _ _⟩
      case round =>
        obtain ⟨j, L, hj, rfl, hL, hown, hg⟩ := hrel
        have HL := Lib.hid hL
        have O := Lib.hid hown
        have B := Lib.hid hg
        clear hown hg hL
        have hzj := B.out.size
        by_cases hjl : j < k
        · obtain ⟨xa, xb, c1, c2, x1, x2⟩ := K3.out j hjl
          obtain ⟨ya, yb, c3, c4, y1, y2⟩ := K4.out j hjl
          replace c1 := (B.out.cell (p := ⟨b3, o3 + j * 2, none⟩) hb3).trans c1
          replace c2 := (B.out.cell (p := ⟨b3, o3 + j * 2 + 1, none⟩) hb3).trans c2
          replace c3 := (B.out.cell (p := ⟨b4, o4 + j * 2, none⟩) hb4).trans c3
          replace c4 := (B.out.cell (p := ⟨b4, o4 + j * 2 + 1, none⟩) hb4).trans c4
          have X1 := Lib.hid x1
          have X2 := Lib.hid x2
          have Y1 := Lib.hid y1
          have Y2 := Lib.hid y2
          clear x1 x2 y1 y2
          have hb3' : b3 < wr.heap.size := by omega
          have hb4' : b4 < wr.heap.size := by omega
          have hi0 : (0 : Int) ≤ (j : Int) := by omega
          have hi1 : (j : Int) < (k : Int) := by omega
          go_wp2
          refine Rel.wp_region_rel_late SpecD 18 0 18 (by kernel_rfl) (by kernel_rfl) (lexTailB_of_fast (by kernel_rfl) (by kernel_rfl) (by kernel_rfl)) (by decide) (fun _ _ _ _ _ h => h) ?_
          simp only [List.append_eq, List.cons_append, List.nil_append, List.take_succ_cons, List.take_zero, List.drop_succ_cons, List.drop_zero]
          repeat (first
            | (refine rel_call (f := 44) (args := #[.agg #[.float .f64 _, .float .f64 _], .agg #[.float .f64 _, .float .f64 _]]) (by rfl) rfl (callAt_func rfl Tryd.func44 (by kernel_rfl) (by kernel_rfl) rfl) (keeps_over (fun v h => h) fun x => product_walk _ _ _ _ _) ?_; rintro _ ⟨ta, tb, rfl, ht1, ht2⟩; have T1 := Lib.hid ht1; have T2 := Lib.hid ht2; clear ht1 ht2; simp only [Act.put, List.setIfInBounds_toArray, List.set_cons_zero, List.set_cons_succ])
            | (refine rel_plain (by rfl) rfl ?_; intro K hK; go_big_quiet_op; go_big_quiet_on)
            | (refine rel_skip (by rfl) ?_; simp only [Act.put, List.setIfInBounds_toArray, List.set_cons_zero, List.set_cons_succ]))
          refine Rel.wpRel_nil ?_
          intro w5 hB9 hG9
          clear hG9
          have OX := Lib.hid (ownsRow_below O.out hB9)
          have GX := Lib.hid (grow_trans B.out hB9)
          clear O B c1 c2 c3 c4 hB9
          have hz4 := GX.out.size
          have key := Lib.hid (show cb (ta, tb) = QC FX FY j by
            show (⟨fl ta, fl tb⟩ : C2) = _
            rw [T1.out, T2.out]; unfold QC; rw [fl_neg, X1.out, X2.out, Y1.out, Y2.out])
          clear T1 T2 X1 X2 Y1 Y2
          have C3 := Lib.hid (show j + 1 ≤ maxLen by unfold maxLen; omega)
          have C4 := Lib.hid (show (j + 1) * 16 ≤ 140737488355328 by omega)
          have C5 := Lib.hid (show w4.heap.size ≤ (w5.alloc (.cells #[Value.float .f64 ta, Value.float .f64 tb] 28)).heap.size by simp; omega)
          go_wp2_with (at_builtin; refine wpList_append_own _ rfl _ _ 22 rfl w4.heap.size 28 i0 (.agg #[.float .f64 0, .float .f64 0]) 2 16 Tryd.underlying22 HI.out HZ0.out HZ1.out HZ2.out rfl (by decide) _ _ _ rfl (OX.out.alloc _) ⟨w5.heap.size, 0, none⟩ 1 1 [.float .f64 ta, .float .f64 tb] rfl rfl (news_pr _ _ _) (pr_cell _ _) C3.out C4.out C5.out ?_)
          intro v' w6 hown' hg' _
          have HO2 := Lib.hid hown'
          have HG2 := Lib.hid hg'
          clear hown' hg'
          go_wp2
          go_roundw
          case rel =>
            refine ⟨j + 1, L ++ [(ta, tb)], by omega, by go_num, ?_, ?_, below_grown (GX.out.alloc hz4 _) (by simp; omega) HG2.out (fun k hk => (OX.out.lt k hk).1)⟩
            · rw [List.map_append, HL.out, List.range_succ, List.map_append, List.map_cons, List.map_nil, key.out]; rfl
            · rw [pvL_append]
              exact HO2.out
          case measure => simp [intOf]; omega
        · obtain rfl : j = k := by omega
          obtain ⟨r8, c8, hv8, hp8⟩ := pr_of_owns O.out
          rw [(map_at HL.out).1] at hv8
          subst hv8
          have P8 := Lib.hid (pin_of hp8 HL.out)
          have G8 := Lib.hid (grow_trans G.out B.out)
          clear hp8 HL O B G
          go_wp2_with (go_at_call 28; (with_reducible refine (WQ.out _ _ _ P8.out).mono ?_); rintro e w7 ⟨r7, c7, L7, rfl, hp, hmp, hb⟩; rw [(map_at hmp).1]; have P7 := Lib.hid (pin_of hp hmp); have GN := Lib.hid (grow_trans G8.out hb); clear hb hp hmp P8)
          obtain ⟨b7, o7, rfl, hc7⟩ := P7.out.resolve_left (by omega)
          have hb7 : b7 < w7.heap.size := by obtain ⟨p, q, h, _⟩ := hc7 0 hn0; exact lt_of_cell h
          have K7 := Lib.hid hc7
          clear hc7 P7
          go_loopw [10, 11] (fun v10 v11 wr => GRel3 (fun j => (C j).re) j w7 v10 v11 wr) (fun _ i _ => j - (intOf i).toNat)
          case atStart => exact ⟨1, Nat.le_refl _, hn0, rfl, by rw [bestU_one]; rfl, Below.refl _ _⟩
          case round =>
            obtain ⟨q, hq1, hq, rfl, rfl, hb⟩ := hrel
            by_cases hql : q < j
            · have bl : bestU (fun j => (C j).re) q < j := by have := bestU_le (fun j => (C j).re) q; omega
              have BN := Lib.hid (bestU_next (fun j => (C j).re) q)
              generalize bestU (fun j => (C j).re) q = s at bl BN
              obtain ⟨ja, jb, c1, c1', x1, _⟩ := K7.out q hql
              obtain ⟨qa, qb, c2, c2', y1, _⟩ := K7.out s bl
              replace c1 := (hb.cell (p := ⟨b7, o7 + q * 2, none⟩) hb7).trans c1
              replace c2 := (hb.cell (p := ⟨b7, o7 + s * 2, none⟩) hb7).trans c2
              clear c1' c2'
              have hb7' : b7 < wr.heap.size := Nat.lt_of_lt_of_le hb7 hb.size
              have B := Lib.hid hb
              clear hb
              have hi0 : (0 : Int) ≤ (q : Int) := by omega
              have hi1 : (q : Int) < (j : Int) := by omega
              have hq0 : (0 : Int) ≤ (s : Int) := by omega
              have hq1 : (s : Int) < (j : Int) := by omega
              have o0 := gt_flt x1 y1
              clear x1 y1
              (try simp only at BN)
              cases hc : flt (C s).re (C q).re
              all_goals
                rw [hc] at o0 BN
                clear hc
                go_wp2
                refine Rel.wp_region_rel SpecD (by kernel_rfl) (lexB_of_fast (by kernel_rfl) (by kernel_rfl)) ?_
                repeat (first
                  | (refine rel_plain (by rfl) rfl ?_; intro K hK; go_big_quiet_op; (try simp only [o0]); go_big_quiet_on)
                  | (refine rel_skip (by rfl) ?_; simp only [Act.put, List.setIfInBounds_toArray, List.set_cons_zero, List.set_cons_succ]))
                refine Rel.wpRel_nil ?_
                intro w9 hB9 hG9
                have B9 := Lib.hid (grow_trans B.out hB9)
                clear hG9 hB9 c1 c2 o0
                go_wp2
                go_roundw
                case rel => exact ⟨q + 1, by omega, by omega, by go_num, by rw [BN.out]; rfl, B9.out⟩
                case measure => simp [intOf]; omega
            · obtain rfl : q = j := by omega
              have GB := Lib.hid (grow_trans GN.out hb)
              go_wp2
              go_ret
              exact ⟨rfl, GB.out⟩
end Go.Proofs.YtaakbajhbmbhcaaDoor
