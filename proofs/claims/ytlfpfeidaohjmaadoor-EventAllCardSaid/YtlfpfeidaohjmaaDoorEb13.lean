/- The events of one known track. -/
import Derived.Test.YtlfpfeidaohjmaaDoorEb12
import Derived.Laws.AppendOwnNone
set_option linter.unusedSimpArgs false
set_option linter.unusedVariables false
namespace Go.Proofs.YtlfpfeidaohjmaaDoor
open Go.RowKit Go.Grow Go.Fl

theorem info_ev : (Tryd.prog.info? 115).map (fun i => (i.zero, i.size, i.bytes)) = some (some (.agg #[.int .i64 0, .int .i64 0, .int .i64 0]), 3, 24) := by kernel_rfl
def CrPost (w : World) (e : Ending) (w' : World) : Prop := ∃ g c, e = .returned (.slice (some ⟨g, 0, none⟩) 1 c) ∧ w'.ownsRow w.heap.size 115 3 (.slice (some ⟨g, 0, none⟩) 1 c) 1 [.int .i64 1, .int .i64 5, .int .i64 0] ∧ Below w.heap.size w w'
set_option maxRecDepth 100000 in
set_option maxHeartbeats 16000000 in
theorem crossings1_walk (b o c : Nat) (w : World) (h0 : w.cell? ⟨b, o, none⟩ = some (.int .i64 (-5))) (h1 : w.cell? ⟨b, o + 1, none⟩ = some (.int .i64 5)) :
    Calls Tryd.prog 96 #[.agg #[.int .i64 0, .int .i64 10, .slice (some ⟨b, o, none⟩) 2 c], .int .i64 0] w (CrPost w) := by
  obtain ⟨i1, hi, hz0, hz1, hz2⟩ := info_parts info_ev
  have HIS := Lib.hid hi
  have HIS0 := Lib.hid hz0
  have HIS1 := Lib.hid hz1
  have HIS2 := Lib.hid hz2
  have OV := Lib.hid (fun w1 => show Calls Tryd.prog 108 #[.int .i64 10, .int .i64 5, .int .i64 10] w1 fun e w' => e = .returned (.tuple #[.int .i64 5, .bool false]) ∧ Below w1.heap.size w1 w' from over_walk 10 5 10 w1 (by omega) (by omega) (by omega) (by omega) (by decide))
  have WW := Lib.hid (fun w1 => show Calls Tryd.prog 109 #[.agg #[.int .i64 0, .int .i64 10, .slice (some ⟨b, o, none⟩) 2 c], .int .i64 0] w1 fun e w' => e = .returned (.int .i64 0) ∧ Below w1.heap.size w1 w' from when_walk 0 10 (some ⟨b, o, none⟩) 2 c 0 w1 (by omega) (by omega) (by decide) (by decide))
  have hb := lt_of_cellS h0
  simp only at hb
  have HB := Lib.hid hb
  have E0 := Lib.hid h0
  have E1 := Lib.hid h1
  have g : Hid (Below w.heap.size w w) := Lib.hid (grow_refl w)
  clear hi hz0 hz1 hz2 h0 h1
  have k0 := (grow_alloc g.out (.cells #[.int .i64 0, .int .i64 10, .slice (some ⟨b, o, none⟩) 2 c] 111)).cell (p := ⟨b, o, none⟩) hb
  go_enter Tryd.func96, Tryd.ntmps96
  go_wp2
  refine wp_loop_rounds 2 ?_
  rw [rounds_succ]
  go_wp2
  obtain ⟨W, hW⟩ : ∃ W, w.alloc (.cells #[.int .i64 0, .int .i64 10, .slice (some ⟨b, o, none⟩) 2 c] 111) = W := ⟨_, rfl⟩
  have K := Lib.hid (show Known W w.heap.size #[.int .i64 0, .int .i64 10, .slice (some ⟨b, o, none⟩) 2 c] by rw [← hW]; exact Known.new _ _ _)
  have G := Lib.hid (show Below w.heap.size w W by rw [← hW]; exact grow_alloc (grow_refl _) _)
  rw [hW]
  clear hW k0
  have k0 := K.out.cell 0
  have k1 := K.out.cell 1
  have k2 := K.out.cell 2
  have kl := K.out.lt
  have bl := Nat.lt_of_lt_of_le hb G.out.size
  have f0 := (G.out.cell (p := ⟨b, o, none⟩) hb).trans E0.out
  have f1 := (G.out.cell (p := ⟨b, o + 1, none⟩) hb).trans E1.out
  go_quiet (fail)
  go_wp2_with (first
    | (go_at_call 108; (with_reducible refine (OV.out _).mono ?_); rintro e w1 ⟨rfl, hb1⟩; have GB := grow_trans (grow_drewN (grow_refl W) nq) hb1; replace K := Lib.hid (K.out.below GB); replace G := Lib.hid (grow_trans G.out GB); clear hb1 GB k0 k1 k2 f0 f1 kl bl; have k0 := K.out.cell 0; have k1 := K.out.cell 1; have k2 := K.out.cell 2)
    | (go_at_call 109; (with_reducible refine (WW.out _).mono ?_); rintro e w2 ⟨rfl, hb1⟩; replace K := Lib.hid (K.out.below hb1); replace G := Lib.hid (grow_trans G.out hb1); clear hb1 k0 k1 k2)
    | (at_builtin; refine wpList_append_own _ rfl _ _ 109 rfl w.heap.size 115 i1 (.agg #[.int .i64 0, .int .i64 0, .int .i64 0]) 3 24 Tryd.underlying109 HIS.out HIS0.out HIS1.out HIS2.out rfl (by decide) _ _ _ rfl (World.ownsRow_nil _ _ _ _) ⟨w2.heap.size, 0, none⟩ 1 1 [.int .i64 1, .int .i64 5, .int .i64 0] rfl rfl (news_sp w2 [.int .i64 1, .int .i64 5, .int .i64 0] 115) (fun u h => by simp at h; rcases h with rfl | rfl | rfl <;> rfl) (by unfold maxLen; omega) (by omega) (by have := G.out.size; simp; omega) ?_))
  intro v' w3 hown hgr _
  obtain ⟨g1, cp, rfl⟩ : ∃ g1 cp, v' = .slice (some ⟨g1, 0, none⟩) 1 cp := by
    rcases hown.2 with ⟨_, h⟩ | ⟨g1, cp, cur, hv, _⟩
    · cases h
    · exact ⟨g1, cp, hv⟩
  have O := Lib.hid hown
  have GF := Lib.hid (below_grownS (G.out.alloc G.out.size _) (by have := G.out.size; simp; omega) hgr (fun k hk => by simp [Value.ownBlock] at hk))
  clear hown hgr
  go_wp2
  rw [rounds_succ]
  go_wp2
  go_ret
  exact ⟨g1, cp, rfl, O.out, GF.out⟩
set_option maxRecDepth 100000 in
set_option maxHeartbeats 16000000 in
theorem turns1_walk (r : Option Addr) (c : Nat) (w : World) :
    Calls Tryd.prog 97 #[.agg #[.int .i64 0, .int .i64 10, .slice r 2 c], .int .i64 0] w fun e w' => e = .returned (.slice none 0 0) ∧ Below w.heap.size w w' := by
  go_enter Tryd.func97, Tryd.ntmps97
  go_wp2
  refine wp_loop_rounds 1 ?_
  rw [rounds_succ]
  go_wp2
  go_ret
  exact ⟨rfl, grow_alloc (grow_refl w) _⟩
set_option maxRecDepth 100000 in
set_option maxHeartbeats 8000000 in
theorem level1_walk (w : World) : Calls Tryd.prog 95 #[.int .i64 0] w fun e w' => e = .returned .nilIface ∧ w = w' := by
  go_enter Tryd.func95, Tryd.ntmps95
  go_wp2
  go_ret
  exact ⟨rfl, rfl⟩
def EvPost (w : World) (e : Ending) (w' : World) : Prop := ∃ g c, e = .returned (.tuple #[.slice (some ⟨g, 0, none⟩) 1 c, .nilIface]) ∧ w'.cell? ⟨g, 0, none⟩ = some (.int .i64 1) ∧ w'.cell? ⟨g, 1, none⟩ = some (.int .i64 5) ∧ Below w.heap.size w w'
set_option maxRecDepth 100000 in
set_option maxHeartbeats 16000000 in
theorem events1_walk (a : Nat → Addr) (b o c : Nat) (w : World) (hs : Sen a [2, 3, 5] w) (h0 : w.cell? ⟨b, o, none⟩ = some (.int .i64 (-5))) (h1 : w.cell? ⟨b, o + 1, none⟩ = some (.int .i64 5)) :
    Calls Tryd.prog 58 #[.agg #[.int .i64 0, .int .i64 10, .slice (some ⟨b, o, none⟩) 2 c], .int .i64 0] w (EvPost w) := by
  have hb := lt_of_cellS h0
  simp only at hb
  obtain ⟨i1, hi, hz0, hz1, hz2⟩ := info_parts info_ev
  have HIS := Lib.hid hi
  clear hi hz0 hz1 hz2
  have VW := Lib.hid (fun X (hX : Below w.heap.size w X) => show Calls Tryd.prog 65 #[.agg #[.int .i64 0, .int .i64 10, .slice (some ⟨b, o, none⟩) 2 c]] X fun e w' => e = .returned .nilIface ∧ Below X.heap.size X w' from
    valid_ok a 0 10 (some ⟨b, o, none⟩) [-5, 5] c X (hs.below hX) (by simp) (.inr ⟨b, o, rfl, fun k hk => by
      have : k = 0 ∨ k = 1 := by simp at hk; omega
      rcases this with rfl | rfl
      · exact (hX.cell (p := ⟨b, o, none⟩) hb).trans h0
      · exact (hX.cell (p := ⟨b, o + 1, none⟩) hb).trans h1⟩) (by decide))
  have LV := Lib.hid level1_walk
  have CR := Lib.hid (fun X (hX : Below w.heap.size w X) => crossings1_walk b o c X ((hX.cell (p := ⟨b, o, none⟩) hb).trans h0) ((hX.cell (p := ⟨b, o + 1, none⟩) hb).trans h1))
  have TU := Lib.hid (fun X => turns1_walk (some ⟨b, o, none⟩) c X)
  have SO := Lib.hid (fun g1 cp fv X => sort1_walk (some ⟨g1, 0, none⟩) cp fv X)
  have g : Hid (Below w.heap.size w w) := Lib.hid (grow_refl w)
  clear hs h0 h1
  go_enter Tryd.func58, Tryd.ntmps58
  go_wp2_with (first
    | (go_at_call 65; (with_reducible refine (VW.out _ (grow_alloc g.out _)).mono ?_); rintro e w1 ⟨rfl, hb1⟩; have K := Lib.hid ((Known.new w #[.int .i64 0, .int .i64 10, .slice (some ⟨b, o, none⟩) 2 c] 111).below hb1); have G := Lib.hid (grow_trans (grow_alloc g.out _) hb1); clear hb1; have k0 := K.out.cell 0; have k1 := K.out.cell 1; have k2 := K.out.cell 2; have kl := K.out.lt)
    | (go_at_call 95; (with_reducible refine (LV.out _).mono ?_); rintro e w2 ⟨rfl, rfl⟩))
  refine Grow.wp_region_reads2 [1, 4] [0] [] 2 3 [3, 5, 6, 7] [2, 5, 6, 7] (by kernel_rfl) (by kernel_rfl) (by kernel_rfl) (by kernel_rfl) (by kernel_rfl) (by kernel_rfl) (by kernel_rfl) (by kernel_rfl) (by kernel_rfl) (by kernel_rfl) ?_ ?_
  · intro c aa d v ww h
    simp (config := {zetaDelta := true}) only [Exit.then, Exit.inBlock] at h ⊢
    exact Grow.bodyPost_blind h
  simp only [Grow.pick, List.getElem?_cons_zero, List.getElem?_cons_succ, List.cons_append, List.nil_append]
  repeat (go_big_quiet_step (fail))
  refine wpQuiet_nil ?_
  repeat (go_big_quiet_step (fail))
  refine wpQuiet_nil ?_
  repeat (go_big_quiet_step (fail))
  refine wpQuiet_nil ?_
  have K2 := Lib.hid (K.out.drew)
  have G2 := Lib.hid (Below.drew G.out)
  clear K G k0 k1 k2 kl
  have k0 := K2.out.cell 0
  have k1 := K2.out.cell 1
  have k2 := K2.out.cell 2
  refine ⟨?_, ?_⟩
  all_goals
    go_wp2_with (first
      | (go_at_call 96; (with_reducible refine (CR.out _ G2.out).mono ?_); rintro e w3 ⟨g1, cp, rfl, ho, hb1⟩; have O := Lib.hid ho; replace K2 := Lib.hid (K2.out.below hb1); replace G2 := Lib.hid (grow_trans G2.out hb1); clear hb1 ho k0 k1 k2; have k0 := K2.out.cell 0; have k1 := K2.out.cell 1; have k2 := K2.out.cell 2)
      | (go_at_call 97; (with_reducible refine (TU.out _).mono ?_); rintro e w4 ⟨rfl, hb1⟩; replace O := Lib.hid (ownsRow_belowS O.out hb1); replace G2 := Lib.hid (grow_trans G2.out hb1); clear hb1 k0 k1 k2 K2)
      | (at_builtin; refine wpList_append_own_none rfl _ _ 109 rfl _ 115 i1 3 Tryd.underlying109 HIS.out _ 1 _ rfl O.out rfl ?_)
      | (go_at_call 98; (with_reducible refine (SO.out _ _ _ _).mono ?_); rintro e w5 ⟨rfl, rfl⟩))
    go_ret2
    have c0 := owns_cellsS O.out 0 _ rfl
    have c1 := owns_cellsS O.out 1 _ rfl
    exact ⟨g1, cp, rfl, c0, c1, G2.out⟩
set_option maxRecDepth 100000 in
set_option maxHeartbeats 16000000 in
theorem tracked_walk (a : Nat → Addr) (w : World) (hs : Sen a [2, 3, 5] w) : Calls Tryd.prog 56 #[] w fun e w' => e = .returned (.bool true) ∧ Below w.heap.size w w' := by
  have EV := Lib.hid (fun b o c X (hX : Below w.heap.size w X) h0 h1 => events1_walk a b o c X (hs.below hX) h0 h1)
  have g : Hid (Below w.heap.size w w) := Lib.hid (grow_refl w)
  have K := Lib.hid (Known.new w #[.int .i64 (-5), .int .i64 5] 3)
  clear hs
  go_enter Tryd.func56, Tryd.ntmps56
  go_wp2_with (go_at_call 58; (with_reducible refine (EV.out _ _ _ _ (grow_alloc g.out _) (K.out.cell 0) (K.out.cell 1)).mono ?_); rintro e w1 ⟨g1, cp, rfl, c0, c1, hb⟩; have G := Lib.hid (grow_trans (grow_alloc g.out _) hb); clear hb)
  go_ret
  exact ⟨rfl, G.out⟩
end Go.Proofs.YtlfpfeidaohjmaaDoor
