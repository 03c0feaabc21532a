/- The document's list of events: one put into its place, walked. -/
import Derived.Test.YtlfpfeidaohjmaaDoorEa1
import Derived.Test.YtlfpfeidaohjmaaDoorEc6
import Derived.Laws.AppendOwnNone
set_option linter.unusedSimpArgs false
set_option linter.unusedVariables false
namespace Go.Proofs.YtlfpfeidaohjmaaDoor
open Go.RowKit Go.Grow Go.Fl

theorem info_rev : (Tryd.prog.info? 122).map (fun i => (i.zero, i.size, i.bytes)) = some (some (.agg #[.int .i64 0, .int .i64 0, .int .i64 0]), 3, 24) := by kernel_rfl
def evA (e : Ev) : Value := .agg #[.int .i64 e.k, .int .i64 e.at', .int .i64 e.ix]
theorem evL_cell : ∀ (l : List Ev), ∀ u ∈ evL l, u.oneCell' = true := fun l u h => by
  unfold evL at h
  obtain ⟨x, _, hx⟩ := List.mem_flatMap.1 h
  simp at hx
  rcases hx with rfl | rfl | rfl <;> rfl
theorem evL_drop : ∀ (l : List Ev) (k : Nat), evL (l.drop k) = (evL l).drop (k * 3)
  | l, 0 => by simp
  | [], k + 1 => by simp [evL]
  | x :: l, k + 1 => by
    rw [show evL (x :: l) = .int .i64 x.k :: .int .i64 x.at' :: .int .i64 x.ix :: evL l from rfl, show (k + 1) * 3 = k * 3 + 3 by omega]
    simp only [List.drop_succ_cons]
    exact evL_drop l k
/-- A row of events that the call may read. -/
def EvRow (w : World) (v : Value) (l : List Ev) : Prop := (v = .slice none 0 0 ∧ l = []) ∨ ∃ g cap, v = .slice (some ⟨g, 0, none⟩) l.length cap ∧ l.length ≤ cap ∧ cap ≤ maxLen ∧ g < w.heap.size ∧ ∀ j u, (evL l)[j]? = some u → w.cell? ⟨g, j, none⟩ = some u
theorem EvRow.below {w w' : World} {v : Value} {l : List Ev} (h : EvRow w v l) (hb : Below w.heap.size w w') : EvRow w' v l := by
  rcases h with h | ⟨g, cap, h1, h2, h3, h4, h5⟩
  · exact .inl h
  · exact .inr ⟨g, cap, h1, h2, h3, Nat.lt_of_lt_of_le h4 hb.size, fun j u hu => (hb.cell (p := ⟨g, j, none⟩) h4).trans (h5 j u hu)⟩
theorem EvRow.of_owns {w : World} {base n : Nat} {v : Value} {l : List Ev} {e : TypeId} (h : w.ownsRow base e 3 v n (evL l)) : EvRow w v l := by
  have hlen : n = l.length := by have := h.1; rw [evL_length] at this; omega
  subst hlen
  obtain ⟨hl, ⟨hv, hn⟩ | ⟨g, cap, cur, hv, hg⟩⟩ := h
  · exact .inl ⟨hv, List.length_eq_zero_iff.1 hn⟩
  · subst hv
    have hc := owns_cellsS (w := w) (base := base) (e := e) (size := 3) (g := g) (n := l.length) (cap := cap) (xs := evL l) ⟨hl, .inr ⟨g, cap, cur, rfl, hg⟩⟩
    exact .inr ⟨g, cap, rfl, hg.2.2.1, hg.2.2.2.1, (Array.getElem?_eq_some_iff.1 hg.2.1).1, fun j u hu => hc j u hu⟩
theorem ahead_mk (a b c d e f : Int) : aheadE ⟨a, b, c⟩ ⟨d, e, f⟩ = true ↔ (b < e ∨ (b = e ∧ (c < f ∨ (c = f ∧ a < d)))) := ahead_iff _ _
theorem ahead_mkn (a b c d e f : Int) : aheadE ⟨a, b, c⟩ ⟨d, e, f⟩ = false ↔ ¬ (b < e ∨ (b = e ∧ (c < f ∨ (c = f ∧ a < d)))) := ahead_not _ _
theorem add_none (g i j : Nat) : (⟨g, i, none⟩ : Addr).add j = ⟨g, i + j, none⟩ := by
  unfold Addr.add
  split <;> simp_all
def PutEPost (l : List Ev) (e : Ev) (w : World) (en : Ending) (w' : World) : Prop :=
  ∃ v, en = .returned v ∧ w'.ownsRow w.heap.size 122 3 v (l.length + 1) (evL (putE l e)) ∧ Below w.heap.size w w'
def PutERel (l : List Ev) (e : Ev) (W : World) (v5 v6 : Value) (wr : World) : Prop :=
  ∃ k : Nat, k ≤ l.length ∧ v6 = .int .i64 k ∧ (∀ j (h : j < l.length), j < k → aheadE l[j] e = true) ∧ wr.ownsRow W.heap.size 122 3 v5 k (evL (l.take k)) ∧ Below W.heap.size W wr
theorem put_fin {l : List Ev} {e : Ev} {k : Nat} (hk : k ≤ l.length) (h1 : ∀ j (h : j < l.length), j < k → aheadE l[j] e = true) (h2 : ∀ h : k < l.length, aheadE l[k] e = false) : evL (l.take k) ++ evL [e] ++ evL (l.drop k) = evL (putE l e) := by
  rw [putE_at l e k hk h1 h2, ← evL_append, ← evL_append]; simp
theorem evL_take_succ {l : List Ev} {k : Nat} (h : k < l.length) : evL (l.take (k + 1)) = evL (l.take k) ++ evL [l[k]] := by
  rw [List.take_succ_eq_append_getElem h, evL_append]
set_option maxRecDepth 100000 in
set_option maxHeartbeats 16000000 in
theorem putE_walk (v : Value) (l : List Ev) (e : Ev) (w : World) (hl : l.length ≤ 100000) (h : EvRow w v l) :
    Calls Tryd.prog 105 #[v, evA e] w (PutEPost l e w) := by
  obtain ⟨i1, hi, hz0, hz1, hz2⟩ := info_parts info_rev
  have HIS := Lib.hid hi
  have HIS0 := Lib.hid hz0
  have HIS1 := Lib.hid hz1
  have HIS2 := Lib.hid hz2
  clear hi hz0 hz1 hz2
  have PF := Lib.hid (fun k => @put_fin l e k)
  have TS := Lib.hid (fun k => @evL_take_succ l k)
  have DR := Lib.hid (evL_drop l)
  have LN := Lib.hid (evL_length)
  obtain ⟨ek, ea, ex⟩ := e
  unfold evA
  rcases h with ⟨rfl, rfl⟩ | ⟨g, cap, rfl, hcap, hcap2, hg, hc⟩
  · clear PF TS DR LN
    have g0 : Hid (Below w.heap.size w w) := Lib.hid (grow_refl w)
    go_enter Tryd.func105, Tryd.ntmps105
    go_wp2
    obtain ⟨W, hW⟩ : ∃ W, w.alloc (.cells #[.int .i64 ek, .int .i64 ea, .int .i64 ex] 122) = W := ⟨_, rfl⟩
    have KX := Lib.hid (show Known W w.heap.size #[.int .i64 ek, .int .i64 ea, .int .i64 ex] by rw [← hW]; exact Known.new _ _ _)
    have GW := Lib.hid (show Below w.heap.size w W by rw [← hW]; exact grow_alloc (grow_refl _) _)
    rw [hW]
    clear hW
    have k0 := KX.out.cell 0
    have k1 := KX.out.cell 1
    have k2 := KX.out.cell 2
    have kl := KX.out.lt
    have G := Lib.hid (show Below W.heap.size W W from grow_refl _)
    have O := Lib.hid (show W.ownsRow W.heap.size 122 3 (.slice none 0 0) 0 [] from World.ownsRow_nil _ _ _ _)
    refine wp_loop_rounds 1 ?_
    rw [rounds_succ]
    have hGX := G.out.size
    have C5 := Lib.hid (show 0 + 1 ≤ maxLen by unfold maxLen; omega)
    have C6 := Lib.hid (show (0 + 1) * 24 ≤ 140737488355328 by omega)
    go_wp2_with (at_builtin; refine wpList_append_own _ rfl _ _ 120 rfl W.heap.size 122 i1 (.agg #[.int .i64 0, .int .i64 0, .int .i64 0]) 3 24 Tryd.underlying120 HIS.out HIS0.out HIS1.out HIS2.out rfl (by decide) _ _ _ rfl (O.out.alloc _) ⟨W.heap.size, 0, none⟩ 1 1 [.int .i64 ek, .int .i64 ea, .int .i64 ex] rfl rfl (news_ev W [.int .i64 ek, .int .i64 ea, .int .i64 ex] 122) (ev_cell _ _ _) C5.out C6.out (by simp <;> omega) ?_)
    intro vp w6 hown' hgr' _
    have HO2 := Lib.hid hown'
    have HG2 := Lib.hid (below_grownS (G.out.alloc (by omega) _) (by simp <;> omega) hgr' (fun k hk => (O.out.lt k hk).1))
    clear hown' hgr' k0 k1 k2 kl
    have hG2 := HG2.out.size
    go_wp2_with (at_builtin; refine wpList_append_own_none rfl _ _ 120 rfl _ 122 i1 3 Tryd.underlying120 HIS.out _ 1 _ rfl HO2.out rfl ?_)
    have hWs := GW.out.size
    go_ret
    refine ⟨_, rfl, ?_, (GW.out.trans (HG2.out.mono (by omega)))⟩
    have hq := HO2.out
    exact owns_base hq (by omega)
  · have CG := Lib.hid hc
    clear hc
    go_enter Tryd.func105, Tryd.ntmps105
    go_wp2
    obtain ⟨W, hW⟩ : ∃ W, w.alloc (.cells #[.int .i64 ek, .int .i64 ea, .int .i64 ex] 122) = W := ⟨_, rfl⟩
    have K := Lib.hid (show Known W w.heap.size #[.int .i64 ek, .int .i64 ea, .int .i64 ex] by rw [← hW]; exact Known.new _ _ _)
    have GW := Lib.hid (show Below w.heap.size w W by rw [← hW]; exact grow_alloc (grow_refl _) _)
    rw [hW]
    clear hW
    have hgW : g < W.heap.size := Nat.lt_of_lt_of_le hg GW.out.size
    have CW := Lib.hid (fun j u (hu : (evL l)[j]? = some u) => (GW.out.cell (p := ⟨g, j, none⟩) hg).trans (CG.out j u hu))
    go_loopw [5, 6] (fun v5 v6 wr => PutERel l ⟨ek, ea, ex⟩ W v5 v6 wr) (fun _ v _ => l.length - (intOf v).toNat)
    case atStart => exact ⟨0, Nat.zero_le _, rfl, fun j h1 h2 => absurd h2 (by omega), World.ownsRow_nil _ _ _ _, Below.refl _ _⟩
    case round =>
      obtain ⟨k, hk, rfl, hah, hown, hg2⟩ := hrel
      have AH := Lib.hid hah
      have O := Lib.hid hown
      have G := Lib.hid hg2
      clear hah hown hg2
      have KK := Lib.hid (K.out.below G.out)
      have hGs := G.out.size
      have hWs := GW.out.size
      have hi0 : (0 : Int) ≤ (k : Int) := by omega
      by_cases hlt : k < l.length
      · have hi1 : (k : Int) < (l.length : Int) := by omega
        obtain ⟨s0, s1, s2⟩ := evL_get l k hlt
        have c0 := (G.out.cell (p := ⟨g, _, none⟩) hgW).trans (CW.out _ _ s0)
        have c1 := (G.out.cell (p := ⟨g, _, none⟩) hgW).trans (CW.out _ _ s1)
        have c2 := (G.out.cell (p := ⟨g, _, none⟩) hgW).trans (CW.out _ _ s2)
        have TK := Lib.hid (TS.out k hlt)
        have AX := Lib.hid (show ∀ (h : aheadE l[k] ⟨ek, ea, ex⟩ = true) j (hj : j < l.length), j < k + 1 → aheadE l[j] ⟨ek, ea, ex⟩ = true from fun h j hj h2 => by
          by_cases h3 : j = k
          · subst h3; exact h
          · exact AH.out j hj (by omega))
        clear s0 s1 s2
        obtain ⟨y, hy⟩ : ∃ y, l[k] = y := ⟨_, rfl⟩
        have HY := Lib.hid hy
        rw [hy] at c0 c1 c2 TK AX
        clear hy
        obtain ⟨yk, ya, yx⟩ := y
        simp only at c0 c1 c2
        have C3 := Lib.hid (show k + 1 ≤ maxLen by unfold maxLen; omega)
        have C4 := Lib.hid (show (k + 1) * 24 ≤ 140737488355328 by omega)
        have k0 := KK.out.cell 0
        have k1 := KK.out.cell 1
        have k2 := KK.out.cell 2
        have kl := KK.out.lt
        rcases Int.lt_trichotomy ya ea with q1 | q1 | q1
        · have d1 : decide (ya < ea) = true := decide_eq_true (by omega)
          have TT := Lib.hid (AX.out ((ahead_mk _ _ _ _ _ _).2 (by omega)))
          go_wp2_with (at_builtin; refine wpList_append_own _ rfl _ _ 120 rfl W.heap.size 122 i1 (.agg #[.int .i64 0, .int .i64 0, .int .i64 0]) 3 24 Tryd.underlying120 HIS.out HIS0.out HIS1.out HIS2.out rfl (by decide) _ _ _ rfl ((O.out.alloc _).alloc _) ⟨wr.heap.size + 1, 0, none⟩ 1 1 [.int .i64 yk, .int .i64 ya, .int .i64 yx] rfl rfl (by have := news_ev (wr.alloc (.cells #[.int .i64 yk, .int .i64 ya, .int .i64 yx] 122)) [.int .i64 yk, .int .i64 ya, .int .i64 yx] 122; simpa using this) (ev_cell _ _ _) C3.out C4.out (by simp; omega) ?_)
          intro v' w6 hown' hgr' _
          have HO2 := Lib.hid hown'
          have HG2 := Lib.hid (below_grownS ((G.out.alloc (by omega) _).alloc (by simp; omega) _) (by simp; omega) hgr' (fun k hk => (O.out.lt k hk).1))
          clear hown' hgr' k0 k1 k2 kl c0 c1 c2
          go_wp2
          go_roundw
          case rel =>
            refine ⟨k + 1, by omega, by go_num, TT.out, ?_, HG2.out⟩
            rw [TK.out]
            exact HO2.out
          case measure => simp [intOf]; omega
        · have q1' := q1.symm
          subst q1'
          rcases Int.lt_trichotomy yx ex with q2 | q2 | q2
          · have d1 : decide (ea < ea) = false := decide_eq_false (by omega)
            have d3 : decide (yx < ex) = true := decide_eq_true (by omega)
            have TT := Lib.hid (AX.out ((ahead_mk _ _ _ _ _ _).2 (by omega)))
            go_wp2_with (at_builtin; refine wpList_append_own _ rfl _ _ 120 rfl W.heap.size 122 i1 (.agg #[.int .i64 0, .int .i64 0, .int .i64 0]) 3 24 Tryd.underlying120 HIS.out HIS0.out HIS1.out HIS2.out rfl (by decide) _ _ _ rfl ((O.out.alloc _).alloc _) ⟨wr.heap.size + 1, 0, none⟩ 1 1 [.int .i64 yk, .int .i64 ea, .int .i64 yx] rfl rfl (by have := news_ev (wr.alloc (.cells #[.int .i64 yk, .int .i64 ea, .int .i64 yx] 122)) [.int .i64 yk, .int .i64 ea, .int .i64 yx] 122; simpa using this) (ev_cell _ _ _) C3.out C4.out (by simp; omega) ?_)
            intro v' w6 hown' hgr' _
            have HO2 := Lib.hid hown'
            have HG2 := Lib.hid (below_grownS ((G.out.alloc (by omega) _).alloc (by simp; omega) _) (by simp; omega) hgr' (fun k hk => (O.out.lt k hk).1))
            clear hown' hgr' k0 k1 k2 kl c0 c1 c2
            go_wp2
            go_roundw
            case rel =>
              refine ⟨k + 1, by omega, by go_num, TT.out, ?_, HG2.out⟩
              rw [TK.out]
              exact HO2.out
            case measure => simp [intOf]; omega
          · have q2' := q2.symm
            subst q2'
            by_cases q3 : yk < ek
            · have d1 : decide (ea < ea) = false := decide_eq_false (by omega)
              have d2 : decide (ex < ex) = false := decide_eq_false (by omega)
              have d3 : decide (yk < ek) = true := decide_eq_true (by omega)
              have TT := Lib.hid (AX.out ((ahead_mk _ _ _ _ _ _).2 (by omega)))
              go_wp2_with (at_builtin; refine wpList_append_own _ rfl _ _ 120 rfl W.heap.size 122 i1 (.agg #[.int .i64 0, .int .i64 0, .int .i64 0]) 3 24 Tryd.underlying120 HIS.out HIS0.out HIS1.out HIS2.out rfl (by decide) _ _ _ rfl ((O.out.alloc _).alloc _) ⟨wr.heap.size + 1, 0, none⟩ 1 1 [.int .i64 yk, .int .i64 ea, .int .i64 ex] rfl rfl (by have := news_ev (wr.alloc (.cells #[.int .i64 yk, .int .i64 ea, .int .i64 ex] 122)) [.int .i64 yk, .int .i64 ea, .int .i64 ex] 122; simpa using this) (ev_cell _ _ _) C3.out C4.out (by simp; omega) ?_)
              intro v' w6 hown' hgr' _
              have HO2 := Lib.hid hown'
              have HG2 := Lib.hid (below_grownS ((G.out.alloc (by omega) _).alloc (by simp; omega) _) (by simp; omega) hgr' (fun k hk => (O.out.lt k hk).1))
              clear hown' hgr' k0 k1 k2 kl c0 c1 c2
              go_wp2
              go_roundw
              case rel =>
                refine ⟨k + 1, by omega, by go_num, TT.out, ?_, HG2.out⟩
                rw [TK.out]
                exact HO2.out
              case measure => simp [intOf]; omega
            · have d1 : decide (ea < ea) = false := decide_eq_false (by omega)
              have d2 : decide (ex < ex) = false := decide_eq_false (by omega)
              have d3 : decide (yk < ek) = false := decide_eq_false (by omega)
              have NA := Lib.hid (show ∀ (hj : k < l.length), aheadE l[k] ⟨ek, ea, ex⟩ = false from fun _ => by rw [HY.out]; exact (ahead_mkn _ _ _ _ _ _).2 (by omega))
              have hGX := G.out.size
              have C5 := Lib.hid (show k + 1 ≤ maxLen by unfold maxLen; omega)
              have C6 := Lib.hid (show (k + 1) * 24 ≤ 140737488355328 by omega)
              go_wp2_with (at_builtin; refine wpList_append_own _ rfl _ _ 120 rfl W.heap.size 122 i1 (.agg #[.int .i64 0, .int .i64 0, .int .i64 0]) 3 24 Tryd.underlying120 HIS.out HIS0.out HIS1.out HIS2.out rfl (by decide) _ _ _ rfl ((O.out.alloc _).alloc _) ⟨wr.heap.size + 1, 0, none⟩ 1 1 [.int .i64 ek, .int .i64 ea, .int .i64 ex] rfl rfl (by have := news_ev (wr.alloc (.cells #[.int .i64 yk, .int .i64 ea, .int .i64 ex] 122)) [.int .i64 ek, .int .i64 ea, .int .i64 ex] 122; simpa using this) (ev_cell _ _ _) C5.out C6.out (by simp <;> omega) ?_)
              intro vp w6 hown' hgr' _
              have HO2 := Lib.hid hown'
              have HG2 := Lib.hid (below_grownS ((G.out.alloc (by omega) _).alloc (by simp; omega) _) (by simp <;> omega) hgr' (fun k hk => (O.out.lt k hk).1))
              clear hown' hgr' k0 k1 k2 kl
              have hG2 := HG2.out.size
              have CX := Lib.hid (fun j u (hu : (evL l)[j]? = some u) => (HG2.out.cell (p := ⟨g, j, none⟩) hgW).trans (CW.out j u hu))
              have C7 := Lib.hid (show k + 1 + (l.length - k) ≤ maxLen by unfold maxLen; omega)
              have C8 := Lib.hid (show (k + 1 + (l.length - k)) * 24 ≤ 140737488355328 by omega)
              have C9 := Lib.hid (show W.heap.size ≤ w6.heap.size by omega)
              have NW := Lib.hid (show ∀ j u, (evL (l.drop k))[j]? = some u → w6.cell? ((⟨g, k * 3, none⟩ : Addr).add j) = some u from fun j u hu => by
                rw [DR.out, List.getElem?_drop] at hu
                have h9 := CX.out _ _ hu
                exact (congrArg w6.cell? (add_none g _ j)).trans h9)
              have LW := Lib.hid (show (evL (l.drop k)).length = (l.length - k) * 3 by rw [LN.out, List.length_drop])
              have EW := Lib.hid (evL_cell (l.drop k))
              go_wp2_with (at_builtin; refine wpList_append_own _ rfl _ _ 120 rfl W.heap.size 122 i1 (.agg #[.int .i64 0, .int .i64 0, .int .i64 0]) 3 24 Tryd.underlying120 HIS.out HIS0.out HIS1.out HIS2.out rfl (by decide) _ _ _ rfl HO2.out ⟨g, k * 3, none⟩ (l.length - k) _ (evL (l.drop k)) rfl LW.out NW.out EW.out C7.out C8.out C9.out ?_)
              intro vq w7 hown' hgr' _
              have HO3 := Lib.hid hown'
              have HG3 := Lib.hid (below_grownS HG2.out (by omega) hgr' (fun k hk => (HO2.out.lt k hk).1))
              clear hown' hgr'
              have hG3 := HG3.out.size
              go_wp2
              go_ret
              refine ⟨vq, rfl, ?_, (GW.out.trans (HG3.out.mono (by omega)))⟩
              have hq := HO3.out
              have e1 := PF.out k (by omega) AH.out NA.out
              have e2 : evL (l.take k) ++ [Value.int .i64 ek, .int .i64 ea, .int .i64 ex] ++ evL (l.drop k) = evL (putE l ⟨ek, ea, ex⟩) := e1
              have e3 := e2
              simp only [List.append_assoc, List.cons_append, List.nil_append] at e3
              rw [e3, show k + 1 + (l.length - k) = l.length + 1 by omega] at hq
              exact owns_base hq (by omega)
          · have d1 : decide (ea < ea) = false := decide_eq_false (by omega)
            have d3 : decide (yx < ex) = false := decide_eq_false (by omega)
            have d4 : ¬ yx = ex := by omega
            have NA := Lib.hid (show ∀ (hj : k < l.length), aheadE l[k] ⟨ek, ea, ex⟩ = false from fun _ => by rw [HY.out]; exact (ahead_mkn _ _ _ _ _ _).2 (by omega))
            have hGX := G.out.size
            have C5 := Lib.hid (show k + 1 ≤ maxLen by unfold maxLen; omega)
            have C6 := Lib.hid (show (k + 1) * 24 ≤ 140737488355328 by omega)
            go_wp2_with (at_builtin; refine wpList_append_own _ rfl _ _ 120 rfl W.heap.size 122 i1 (.agg #[.int .i64 0, .int .i64 0, .int .i64 0]) 3 24 Tryd.underlying120 HIS.out HIS0.out HIS1.out HIS2.out rfl (by decide) _ _ _ rfl ((O.out.alloc _).alloc _) ⟨wr.heap.size + 1, 0, none⟩ 1 1 [.int .i64 ek, .int .i64 ea, .int .i64 ex] rfl rfl (by have := news_ev (wr.alloc (.cells #[.int .i64 yk, .int .i64 ea, .int .i64 yx] 122)) [.int .i64 ek, .int .i64 ea, .int .i64 ex] 122; simpa using this) (ev_cell _ _ _) C5.out C6.out (by simp <;> omega) ?_)
            intro vp w6 hown' hgr' _
            have HO2 := Lib.hid hown'
            have HG2 := Lib.hid (below_grownS ((G.out.alloc (by omega) _).alloc (by simp; omega) _) (by simp <;> omega) hgr' (fun k hk => (O.out.lt k hk).1))
            clear hown' hgr' k0 k1 k2 kl
            have hG2 := HG2.out.size
            have CX := Lib.hid (fun j u (hu : (evL l)[j]? = some u) => (HG2.out.cell (p := ⟨g, j, none⟩) hgW).trans (CW.out j u hu))
            have C7 := Lib.hid (show k + 1 + (l.length - k) ≤ maxLen by unfold maxLen; omega)
            have C8 := Lib.hid (show (k + 1 + (l.length - k)) * 24 ≤ 140737488355328 by omega)
            have C9 := Lib.hid (show W.heap.size ≤ w6.heap.size by omega)
            have NW := Lib.hid (show ∀ j u, (evL (l.drop k))[j]? = some u → w6.cell? ((⟨g, k * 3, none⟩ : Addr).add j) = some u from fun j u hu => by
              rw [DR.out, List.getElem?_drop] at hu
              have h9 := CX.out _ _ hu
              exact (congrArg w6.cell? (add_none g _ j)).trans h9)
            have LW := Lib.hid (show (evL (l.drop k)).length = (l.length - k) * 3 by rw [LN.out, List.length_drop])
            have EW := Lib.hid (evL_cell (l.drop k))
            go_wp2_with (at_builtin; refine wpList_append_own _ rfl _ _ 120 rfl W.heap.size 122 i1 (.agg #[.int .i64 0, .int .i64 0, .int .i64 0]) 3 24 Tryd.underlying120 HIS.out HIS0.out HIS1.out HIS2.out rfl (by decide) _ _ _ rfl HO2.out ⟨g, k * 3, none⟩ (l.length - k) _ (evL (l.drop k)) rfl LW.out NW.out EW.out C7.out C8.out C9.out ?_)
            intro vq w7 hown' hgr' _
            have HO3 := Lib.hid hown'
            have HG3 := Lib.hid (below_grownS HG2.out (by omega) hgr' (fun k hk => (HO2.out.lt k hk).1))
            clear hown' hgr'
            have hG3 := HG3.out.size
            go_wp2
            go_ret
            refine ⟨vq, rfl, ?_, (GW.out.trans (HG3.out.mono (by omega)))⟩
            have hq := HO3.out
            have e1 := PF.out k (by omega) AH.out NA.out
            have e2 : evL (l.take k) ++ [Value.int .i64 ek, .int .i64 ea, .int .i64 ex] ++ evL (l.drop k) = evL (putE l ⟨ek, ea, ex⟩) := e1
            have e3 := e2
            simp only [List.append_assoc, List.cons_append, List.nil_append] at e3
            rw [e3, show k + 1 + (l.length - k) = l.length + 1 by omega] at hq
            exact owns_base hq (by omega)
        · have d1 : decide (ya < ea) = false := decide_eq_false (by omega)
          have d4 : ¬ ya = ea := by omega
          have NA := Lib.hid (show ∀ (hj : k < l.length), aheadE l[k] ⟨ek, ea, ex⟩ = false from fun _ => by rw [HY.out]; exact (ahead_mkn _ _ _ _ _ _).2 (by omega))
          have hGX := G.out.size
          have C5 := Lib.hid (show k + 1 ≤ maxLen by unfold maxLen; omega)
          have C6 := Lib.hid (show (k + 1) * 24 ≤ 140737488355328 by omega)
          go_wp2_with (at_builtin; refine wpList_append_own _ rfl _ _ 120 rfl W.heap.size 122 i1 (.agg #[.int .i64 0, .int .i64 0, .int .i64 0]) 3 24 Tryd.underlying120 HIS.out HIS0.out HIS1.out HIS2.out rfl (by decide) _ _ _ rfl ((O.out.alloc _).alloc _) ⟨wr.heap.size + 1, 0, none⟩ 1 1 [.int .i64 ek, .int .i64 ea, .int .i64 ex] rfl rfl (by have := news_ev (wr.alloc (.cells #[.int .i64 yk, .int .i64 ya, .int .i64 yx] 122)) [.int .i64 ek, .int .i64 ea, .int .i64 ex] 122; simpa using this) (ev_cell _ _ _) C5.out C6.out (by simp <;> omega) ?_)
          intro vp w6 hown' hgr' _
          have HO2 := Lib.hid hown'
          have HG2 := Lib.hid (below_grownS ((G.out.alloc (by omega) _).alloc (by simp; omega) _) (by simp <;> omega) hgr' (fun k hk => (O.out.lt k hk).1))
          clear hown' hgr' k0 k1 k2 kl
          have hG2 := HG2.out.size
          have CX := Lib.hid (fun j u (hu : (evL l)[j]? = some u) => (HG2.out.cell (p := ⟨g, j, none⟩) hgW).trans (CW.out j u hu))
          have C7 := Lib.hid (show k + 1 + (l.length - k) ≤ maxLen by unfold maxLen; omega)
          have C8 := Lib.hid (show (k + 1 + (l.length - k)) * 24 ≤ 140737488355328 by omega)
          have C9 := Lib.hid (show W.heap.size ≤ w6.heap.size by omega)
          have NW := Lib.hid (show ∀ j u, (evL (l.drop k))[j]? = some u → w6.cell? ((⟨g, k * 3, none⟩ : Addr).add j) = some u from fun j u hu => by
            rw [DR.out, List.getElem?_drop] at hu
            have h9 := CX.out _ _ hu
            exact (congrArg w6.cell? (add_none g _ j)).trans h9)
          have LW := Lib.hid (show (evL (l.drop k)).length = (l.length - k) * 3 by rw [LN.out, List.length_drop])
          have EW := Lib.hid (evL_cell (l.drop k))
          go_wp2_with (at_builtin; refine wpList_append_own _ rfl _ _ 120 rfl W.heap.size 122 i1 (.agg #[.int .i64 0, .int .i64 0, .int .i64 0]) 3 24 Tryd.underlying120 HIS.out HIS0.out HIS1.out HIS2.out rfl (by decide) _ _ _ rfl HO2.out ⟨g, k * 3, none⟩ (l.length - k) _ (evL (l.drop k)) rfl LW.out NW.out EW.out C7.out C8.out C9.out ?_)
          intro vq w7 hown' hgr' _
          have HO3 := Lib.hid hown'
          have HG3 := Lib.hid (below_grownS HG2.out (by omega) hgr' (fun k hk => (HO2.out.lt k hk).1))
          clear hown' hgr'
          have hG3 := HG3.out.size
          go_wp2
          go_ret
          refine ⟨vq, rfl, ?_, (GW.out.trans (HG3.out.mono (by omega)))⟩
          have hq := HO3.out
          have e1 := PF.out k (by omega) AH.out NA.out
          have e2 : evL (l.take k) ++ [Value.int .i64 ek, .int .i64 ea, .int .i64 ex] ++ evL (l.drop k) = evL (putE l ⟨ek, ea, ex⟩) := e1
          have e3 := e2
          simp only [List.append_assoc, List.cons_append, List.nil_append] at e3
          rw [e3, show k + 1 + (l.length - k) = l.length + 1 by omega] at hq
          exact owns_base hq (by omega)
      · obtain rfl : k = l.length := by omega
        have NA := Lib.hid (show ∀ (hj : l.length < l.length), aheadE l[l.length] ⟨ek, ea, ex⟩ = false from fun h => absurd h (Nat.lt_irrefl _))
        have k0 := KK.out.cell 0
        have k1 := KK.out.cell 1
        have k2 := KK.out.cell 2
        have kl := KK.out.lt
        have hGX := G.out.size
        have C5 := Lib.hid (show l.length + 1 ≤ maxLen by unfold maxLen; omega)
        have C6 := Lib.hid (show (l.length + 1) * 24 ≤ 140737488355328 by omega)
        go_wp2_with (at_builtin; refine wpList_append_own _ rfl _ _ 120 rfl W.heap.size 122 i1 (.agg #[.int .i64 0, .int .i64 0, .int .i64 0]) 3 24 Tryd.underlying120 HIS.out HIS0.out HIS1.out HIS2.out rfl (by decide) _ _ _ rfl (O.out.alloc _) ⟨wr.heap.size, 0, none⟩ 1 1 [.int .i64 ek, .int .i64 ea, .int .i64 ex] rfl rfl (news_ev wr [.int .i64 ek, .int .i64 ea, .int .i64 ex] 122) (ev_cell _ _ _) C5.out C6.out (by simp <;> omega) ?_)
        intro vp w6 hown' hgr' _
        have HO2 := Lib.hid hown'
        have HG2 := Lib.hid (below_grownS (G.out.alloc (by omega) _) (by simp <;> omega) hgr' (fun k hk => (O.out.lt k hk).1))
        clear hown' hgr' k0 k1 k2 kl
        have hG2 := HG2.out.size
        have C7 := Lib.hid (show l.length + 1 + 0 ≤ maxLen by unfold maxLen; omega)
        have C8 := Lib.hid (show (l.length + 1 + 0) * 24 ≤ 140737488355328 by omega)
        have C9 := Lib.hid (show W.heap.size ≤ w6.heap.size by omega)
        have NW := Lib.hid (show ∀ (p : Addr) j u, ([] : List Value)[j]? = some u → w6.cell? (p.add j) = some u from fun p j u hu => by simp at hu)
        have EW := Lib.hid (show ∀ u ∈ ([] : List Value), u.oneCell' = true from fun u hu => by simp at hu)
        rcases Nat.lt_or_ge l.length cap with hcl | hcl
        · go_wp2_with (at_builtin; refine wpList_append_own _ rfl _ _ 120 rfl W.heap.size 122 i1 (.agg #[.int .i64 0, .int .i64 0, .int .i64 0]) 3 24 Tryd.underlying120 HIS.out HIS0.out HIS1.out HIS2.out rfl (by decide) _ _ _ rfl HO2.out ⟨g, l.length * 3, none⟩ 0 _ [] rfl rfl (NW.out _) EW.out C7.out C8.out C9.out ?_)
          intro vq w7 hown' hgr' _
          have HO3 := Lib.hid hown'
          have HG3 := Lib.hid (below_grownS HG2.out (by omega) hgr' (fun k hk => (HO2.out.lt k hk).1))
          clear hown' hgr'
          have hG3 := HG3.out.size
          go_wp2
          go_ret
          refine ⟨vq, rfl, ?_, (GW.out.trans (HG3.out.mono (by omega)))⟩
          have hq := HO3.out
          have e1 := PF.out l.length (by omega) AH.out NA.out
          have e2 : evL (l.take l.length) ++ [Value.int .i64 ek, .int .i64 ea, .int .i64 ex] ++ [] = evL (putE l ⟨ek, ea, ex⟩) := by
            rw [List.drop_length] at e1
            exact e1
          simp only [List.take_length, List.append_nil] at e2 hq; rw [e2] at hq
          exact owns_base hq (by omega)
        · go_wp2_with (at_builtin; refine wpList_append_own _ rfl _ _ 120 rfl W.heap.size 122 i1 (.agg #[.int .i64 0, .int .i64 0, .int .i64 0]) 3 24 Tryd.underlying120 HIS.out HIS0.out HIS1.out HIS2.out rfl (by decide) _ _ _ rfl HO2.out ⟨g, 0, none⟩ 0 _ [] rfl rfl (NW.out _) EW.out C7.out C8.out C9.out ?_)
          intro vq w7 hown' hgr' _
          have HO3 := Lib.hid hown'
          have HG3 := Lib.hid (below_grownS HG2.out (by omega) hgr' (fun k hk => (HO2.out.lt k hk).1))
          clear hown' hgr'
          have hG3 := HG3.out.size
          go_wp2
          go_ret
          refine ⟨vq, rfl, ?_, (GW.out.trans (HG3.out.mono (by omega)))⟩
          have hq := HO3.out
          have e1 := PF.out l.length (by omega) AH.out NA.out
          have e2 : evL (l.take l.length) ++ [Value.int .i64 ek, .int .i64 ea, .int .i64 ex] ++ [] = evL (putE l ⟨ek, ea, ex⟩) := by
            rw [List.drop_length] at e1
            exact e1
          simp only [List.take_length, List.append_nil] at e2 hq; rw [e2] at hq
          exact owns_base hq (by omega)
end Go.Proofs.YtlfpfeidaohjmaaDoor
