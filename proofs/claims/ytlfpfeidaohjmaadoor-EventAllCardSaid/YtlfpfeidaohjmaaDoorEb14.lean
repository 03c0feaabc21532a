/- A track of the document's, copied. -/
import Derived.Test.YtlfpfeidaohjmaaDoorEb13
import Derived.Test.YtlfpfeidaohjmaaDoorOne
import Derived.Test.YtlfpfeidaohjmaaDoorRn
import Derived.Laws.AppendOwnNone
import Derived.Deep.MidRow
set_option linter.unusedSimpArgs false
set_option linter.unusedVariables false
namespace Go.Proofs.YtlfpfeidaohjmaaDoor
open Go.RowKit Go.Grow Go.Fl Go.Rel

theorem alloc_trk (w : World) : (Instr.alloc 111 true (.tuple #[])).run Tryd.prog w = .ok (.pointer (some ⟨w.heap.size, 0, none⟩)) (w.alloc (.cells #[.int .i64 0, .int .i64 0, .slice none 0 0] 111)) := by kernel_rfl
theorem results_known {P : Program} {fn : Func} {p : Tmp} {ty : TypeId} (h : fn.results = #[.cell p ty]) (tmps : Array Value) (w : World) (g : Nat) (cs : List Value) (d : TypeDesc)
    (hp : tmps.getD p undef = .pointer (some ⟨g, 0, none⟩)) (hK : Known w g cs.toArray) (hu : P.underlying ty = some d) (hd : d.isRow = true) (hi : (P.info? ty).map (·.size) = some cs.length) :
    (results fn tmps).run P w = .ok (.agg cs.toArray) w := by
  have hp' : tmps[p]?.getD undef = .pointer (some ⟨g, 0, none⟩) := by simpa using hp
  have hl := run_loadVar_mid (P := P) w g 0 ty cs d (fun j v hv => by rw [Nat.zero_add, hK.cell j]; simpa using hv) hu hd hi
  simp [results, h, hp', asAddr, hl]
theorem iv_cell (c : List Int) : ∀ u ∈ ivL c, u.oneCell' = true := fun u h => by
  unfold ivL at h
  obtain ⟨x, _, rfl⟩ := List.mem_map.1 h
  rfl
theorem in_of_owns2 {w : World} {base n : Nat} {v : Value} {l : List Int} {e : TypeId} (h : w.ownsRow base e 1 v n (ivL l)) : ∃ r cap, v = .slice r l.length cap ∧ (l = [] ∨ ∃ g, base ≤ g ∧ r = some ⟨g, 0, none⟩ ∧ ∀ k (h : k < l.length), w.cell? ⟨g, k, none⟩ = some (.int .i64 l[k])) := by
  have hlen : n = l.length := by have := h.1; simp only [ivL, List.length_map] at this; omega
  subst hlen
  obtain ⟨hl, ⟨hv, hn⟩ | ⟨g, cap, cur, hv, hg⟩⟩ := h
  · exact ⟨none, 0, by rw [hv, hn], .inl (List.length_eq_zero_iff.1 hn)⟩
  · subst hv
    have hc := owns_cellsS (w := w) (base := base) (e := e) (size := 1) (g := g) (n := l.length) (cap := cap) (xs := ivL l) ⟨hl, .inr ⟨g, cap, cur, rfl, hg⟩⟩
    exact ⟨some ⟨g, 0, none⟩, cap, rfl, .inr ⟨g, hg.1, rfl, fun k hk => hc k _ (by simp [ivL, hk])⟩⟩
def CopyPost (F S : Int) (L : List Int) (w : World) (e : Ending) (w' : World) : Prop := ∃ r c, e = .returned (.agg #[.int .i64 F, .int .i64 S, .slice r L.length c]) ∧ InAt w' r L ∧ Below w.heap.size w w'
set_option maxRecDepth 100000 in
set_option maxHeartbeats 16000000 in
theorem track_walk (b o : Nat) (F S : Int) (r : Option Addr) (c : Nat) (L : List Int) (w : World) (hl : L.length * 8 ≤ 140737488355328) (h : TrAt w b o F S r c L) (hnil : r = none → c = 0) :
    Calls Tryd.prog 57 #[.pointer (some ⟨b, o, none⟩)] w (CopyPost F S L w) := by
  obtain ⟨i0, hi, hz0, hz1, hz2⟩ := info_parts info_in
  have HI := Lib.hid hi
  have HZ0 := Lib.hid hz0
  have HZ1 := Lib.hid hz1
  have HZ2 := Lib.hid hz2
  have T := Lib.hid h
  have hb := h.lt
  have HNIL := Lib.hid hnil
  clear hi hz0 hz1 hz2 h hnil
  go_enter Tryd.func57, Tryd.ntmps57
  go_wp2
  obtain ⟨W, hW⟩ : ∃ W, w.alloc (.cells #[.int .i64 0, .int .i64 0, .slice none 0 0] 111) = W := ⟨_, rfl⟩
  have K := Lib.hid (show Known W w.heap.size #[.int .i64 0, .int .i64 0, .slice none 0 0] by rw [← hW]; exact Known.new _ _ _)
  have G := Lib.hid (show Below w.heap.size w W by rw [← hW]; exact grow_alloc (grow_refl _) _)
  have hWs : W.heap.size = w.heap.size + 1 := by rw [← hW]; simp
  rw [hW]
  clear hW
  have T1 := Lib.hid (T.out.below G.out)
  have d0 := T1.out.c0
  have d1 := T1.out.c1
  have lb := T1.out.lt
  refine Rel.wp_region_rel_tail (fun _ _ _ => False) 10 (by kernel_rfl) (lexTailB_of_fast (by kernel_rfl) (by kernel_rfl) (by kernel_rfl)) ?_
  simp only [List.append_eq, List.cons_append, List.nil_append, List.take_succ_cons, List.take_zero, List.drop_succ_cons, List.drop_zero]
  repeat (first
    | (refine rel_alloc (by rfl) rfl alloc_trk ?_; intro b10 hk10; have hk1 := hk10.1; clear hk10; simp only [Act.put, List.setIfInBounds_toArray, List.set_cons_zero, List.set_cons_succ])
    | (refine rel_plain (by rfl) rfl ?_; intro K hK; go_big_quiet_op; go_big_quiet_on)
    | (refine rel_nilCheck (by rfl) rfl rfl ?_; simp only [Act.put, List.setIfInBounds_toArray, List.set_cons_zero, List.set_cons_succ])
    | (refine rel_skip (by rfl) ?_; simp only [Act.put, List.setIfInBounds_toArray, List.set_cons_zero, List.set_cons_succ]))
  refine Rel.wpRel_nil ?_
  intro w9 hB9 hG9
  simp only [Rel.holds, List.forall_mem_cons] at hG9
  obtain ⟨hx0, -⟩ := hG9
  have q2 : Known w9 b10 #[.int .i64 0, .int .i64 0, .slice none 0 0] := { lt := lt_of_held hx0, cell := fun i => cell_of_held hx0 i, frozen := fun i => frozen_of_held hx0 i }
  have q1 := K.out.below hB9
  have g : Hid (Below w.heap.size w w9) := Lib.hid (grow_trans G.out hB9)
  obtain ⟨B, hB⟩ : ∃ B, w.heap.size = B := ⟨_, rfl⟩
  have hBb : b < B := by omega
  have hge10 : B + 1 ≤ b10 := by omega
  have hne9 : b10 ≠ B := by omega
  have hne8 : B ≠ b10 := by omega
  clear hx0 hB9 K G T1 d0 d1 lb
  rw [hB] at q1 ⊢
  have c1 := q1.cell
  have f1 := q1.frozen
  have l1 := q1.lt
  have c2 := q2.cell
  have f2 := q2.frozen
  have l2 := q2.lt
  go_wp2
  refine Grow.seal_wp ?_
  intro X hX
  have g2 : Hid (Below w.heap.size w X) := Lib.hid (by
    rw [hX.out]
    (repeat (with_reducible first | exact g.out | refine Grow.grow_setCell ?_ ?_ _ | refine Grow.grow_alloc ?_ _ | refine Grow.grow_drewN ?_ _ | refine Grow.grow_drew ?_)) <;> omega)
  have p1 : Known X B #[.int .i64 0, .int .i64 0, .slice none 0 0] := by
    rw [hX.out]
    (repeat (with_reducible first | exact q1 | apply Known.other | apply Known.alloc | apply Known.drewN | apply Known.drew)) <;> omega
  have p2 : Known X b10 #[.int .i64 F, .int .i64 S, .slice none 0 0] := by
    rw [hX.out]
    exact Known.at q2 (((q2.same 0 (.int .i64 F)).same 1 (.int .i64 S)).same 2 (.slice none 0 0))
  clear hX c1 f1 l1 c2 f2 l2 q1 q2 g
  have T2 := Lib.hid (T.out.below g2.out)
  have c1 := p1.cell
  have f1 := p1.frozen
  have l1 := p1.lt
  have c2 := p2.cell
  have f2 := p2.frozen
  have l2 := p2.lt
  have d2 := T2.out.c2
  have lb := T2.out.lt
  refine Rel.wp_region_rel_tail (fun _ _ _ => False) 6 (by kernel_rfl) (lexTailB_of_fast (by kernel_rfl) (by kernel_rfl) (by kernel_rfl)) ?_
  simp only [List.append_eq, List.cons_append, List.nil_append, List.take_succ_cons, List.take_zero, List.drop_succ_cons, List.drop_zero]
  repeat (first
    | (refine rel_plain (by rfl) rfl ?_; intro K hK; go_big_quiet_op; go_big_quiet_on)
    | (refine rel_nilCheck (by rfl) rfl rfl ?_; simp only [Act.put, List.setIfInBounds_toArray, List.set_cons_zero, List.set_cons_succ])
    | (refine rel_skip (by rfl) ?_; simp only [Act.put, List.setIfInBounds_toArray, List.set_cons_zero, List.set_cons_succ]))
  refine Rel.wpRel_nil ?_
  intro w7 hB7 hG7
  clear hG7 c1 f1 l1 c2 f2 l2 d2 lb
  have g3 : Hid (Below w.heap.size w w7) := Lib.hid (grow_trans g2.out hB7)
  have p3 := p1.below hB7
  have p4 := p2.below hB7
  have T3 := Lib.hid (T2.out.below hB7)
  clear p1 p2 T2 g2 hB7
  have hz3 := g3.out.size
  rw [hB] at hz3
  rcases r with _ | ad
  · obtain rfl := HNIL.out rfl
    obtain rfl : L = [] := by
      rcases T3.out.row with h | ⟨_, _, h, _⟩
      · exact h
      · cases h
    have c1 := p3.cell
    have f1 := p3.frozen
    have l1 := p3.lt
    have c2 := p4.cell
    have f2 := p4.frozen
    have l2 := p4.lt
    go_wp2_with (at_builtin; refine wpList_append_own_none rfl _ _ 82 rfl _ 3 i0 1 Tryd.underlying82 HI.out _ 0 [] rfl (World.ownsRow_nil _ B _ _) rfl ?_)
    (try simp only [Exit.inBlock, Exit.then])
    refine bodyPost_ret (results_known rfl _ _ B [.int .i64 F, .int .i64 S, .slice none 0 0] _ rfl ?_ Tryd.underlying111 rfl (by kernel_rfl)) rfl ?_
    · exact Known.at p3 ((((p3.other hne9 2 (.slice none 0 0)).same 0 (.int .i64 F)).same 1 (.int .i64 S)).same 2 (.slice none 0 0))
    · refine ⟨none, 0, rfl, .inl rfl, ?_⟩
      (repeat (with_reducible first | exact g3.out | refine Grow.grow_setCell ?_ ?_ _)) <;> omega
  · have hnews : ∀ j u, (ivL L)[j]? = some u → w7.cell? (ad.add j) = some u := fun j u hu => by
      rcases T3.out.row with h | ⟨b1, o1, h, hc⟩
      · subst h; simp [ivL] at hu
      · obtain rfl := Option.some.inj h
        have hj : j < L.length := by
          rcases Nat.lt_or_ge j L.length with h | h
          · exact h
          · rw [List.getElem?_eq_none (by simpa [ivL] using h)] at hu; cases hu
        rw [show (⟨b1, o1, none⟩ : Addr).add j = ⟨b1, o1 + j, none⟩ by unfold Addr.add; split <;> simp_all, hc j hj]
        simpa [ivL, hj] using hu
    have HN := Lib.hid hnews
    clear hnews
    go_wp2_with (at_builtin; refine wpList_append_own _ rfl _ _ 82 rfl w7.heap.size 3 i0 (.int .i64 0) 1 8 Tryd.underlying82 HI.out HZ0.out HZ1.out HZ2.out rfl (by decide) _ 0 [] rfl (World.ownsRow_nil _ _ _ _) ad L.length c (ivL L) rfl (by simp [ivL]) HN.out (iv_cell _) (by unfold maxLen; omega) (by omega) (Nat.le_refl _) ?_)
    intro v' w6 hown hgr _
    try simp only [Nat.zero_add, List.nil_append] at hown
    obtain ⟨r6, c6, rfl, hin⟩ := in_of_owns2 hown
    have IN := Lib.hid hin
    have hB6 : Below w7.heap.size w7 w6 := below_grownS (grow_refl w7) (Nat.le_refl _) hgr (fun k hk => by simp [Value.ownBlock] at hk)
    have g4 : Hid (Below w.heap.size w w6) := Lib.hid (grow_trans g3.out hB6)
    have p3lt := Lib.hid p3.lt
    have p4lt := Lib.hid p4.lt
    have p5 := p3.below hB6
    have p6 := p4.below hB6
    clear hown hgr hin p3 p4 T3
    have c1 := p5.cell
    have f1 := p5.frozen
    have l1 := p5.lt
    have c2 := p6.cell
    have f2 := p6.frozen
    have l2 := p6.lt
    go_wp2
    have hX : Below w6.heap.size w6 w6 := grow_refl _
    (try simp only [Exit.inBlock, Exit.then])
    refine bodyPost_ret (results_known rfl _ _ B [.int .i64 F, .int .i64 S, .slice r6 L.length c6] _ rfl ?_ Tryd.underlying111 rfl (by kernel_rfl)) rfl ?_
    · exact Known.at p5 ((((p5.other hne9 2 (.slice r6 L.length c6)).same 0 (.int .i64 F)).same 1 (.int .i64 S)).same 2 (.slice r6 L.length c6))
    · refine ⟨r6, c6, by simp [ivL], ?_, ?_⟩
      · rcases IN.out with h | ⟨g6, hg6, rfl, hc6⟩
        · exact .inl h
        · refine .inr ⟨g6, 0, rfl, fun k hk => ?_⟩
          have hl3 := p3lt.out
          have hl4 := p4lt.out
          rw [World.cell?_setCell_other _ _ _ _ (by first | (simp; done) | (simp; omega)), World.cell?_setCell_other _ _ _ _ (by first | (simp; done) | (simp; omega)), World.cell?_setCell_other _ _ _ _ (by first | (simp; done) | (simp; omega)), World.cell?_setCell_other _ _ _ _ (by first | (simp; done) | (simp; omega)), Nat.zero_add]
          exact hc6 k hk
      · (repeat (with_reducible first | exact g4.out | refine Grow.grow_setCell ?_ ?_ _)) <;> omega
end Go.Proofs.YtlfpfeidaohjmaaDoor
