/- The program's windows: one that is put behind the others. -/
import Derived.Test.YtlfpfeidaohjmaaDoorEc2
import Derived.Test.YtlfpfeidaohjmaaDoorWd
import Derived.Test.YtlfpfeidaohjmaaDoorEs19
set_option linter.unusedSimpArgs false
set_option linter.unusedVariables false
namespace Go.Proofs.YtlfpfeidaohjmaaDoor
open Go.RowKit Go.Grow Go.Fl Go.Bg

/-- Of the blocks below base all but one are as they were. -/
structure Out (base b8 : Nat) (w w' : World) : Prop where
  os : w'.os = w.os
  tape : w'.tape = w.tape
  output : w'.output = w.output
  size : w.heap.size ≤ w'.heap.size
  block : ∀ k, k < base → k ≠ b8 → w'.heap[k]? = w.heap[k]?
theorem Out.refl (base b8 : Nat) (w : World) : Out base b8 w w := ⟨rfl, rfl, rfl, Nat.le_refl _, fun _ _ _ => rfl⟩
theorem Out.trans {base b8 : Nat} {a w w' : World} (h : Out base b8 a w) (k : Out base b8 w w') : Out base b8 a w' :=
  ⟨k.os.trans h.os, k.tape.trans h.tape, k.output.trans h.output, Nat.le_trans h.size k.size, fun i h1 h2 => (k.block i h1 h2).trans (h.block i h1 h2)⟩
theorem Out.of_below {base b8 : Nat} {w w' : World} (h : Below w.heap.size w w') (hb : base ≤ w.heap.size) : Out base b8 w w' := ⟨h.os, h.tape, h.output, h.size, fun k h1 _ => h.block k (Nat.lt_of_lt_of_le h1 hb)⟩
theorem Out.below {base b8 n : Nat} {w w' : World} (h : Out base b8 w w') (h1 : n ≤ b8) (h2 : n ≤ base) : Below n w w' := ⟨h.os, h.tape, h.output, h.size, fun k hk => h.block k (by omega) (by omega)⟩
theorem Known.out {base b8 b : Nat} {w w' : World} {c : Array Value} (h : Known w b c) (k : Out base b8 w w') (h1 : b < base) (h2 : b ≠ b8) : Known w' b c := by
  have e := k.block b h1 h2
  exact ⟨fun i => by rw [← h.cell i]; exact World.cell?_of_block e, fun i => by rw [← h.frozen i]; exact World.frozen?_of_block e, Nat.lt_of_lt_of_le h.lt k.size⟩
/-- Spans behind a variable. -/
structure Box (w : World) (base b8 : Nat) (W : List (Int × Int)) : Prop where
  lt : b8 < base
  le : base ≤ w.heap.size
  fr : ∀ i, w.frozen? ⟨b8, i, none⟩ = false
  row : ∃ v, w.cell? ⟨b8, 0, none⟩ = some v ∧ w.ownsRow base 96 2 v W.length (spL W)
theorem Box.below {w w' : World} {base b8 : Nat} {W : List (Int × Int)} (h : Box w base b8 W) (hb : Below w.heap.size w w') : Box w' base b8 W := by
  obtain ⟨v, h1, h2⟩ := h.row
  have hl := lt_of_cellS h1
  exact ⟨h.lt, Nat.le_trans h.le hb.size, fun i => (hb.frozen (p := ⟨b8, i, none⟩) hl).trans (h.fr i), v, (hb.cell (p := ⟨b8, 0, none⟩) hl).trans h1, ownsRow_belowS h2 hb⟩
def PutPost (base b8 : Nat) (W : List (Int × Int)) (w : World) (e : Ending) (w' : World) : Prop := e = .returned (.tuple #[]) ∧ Box w' base b8 W ∧ Out base b8 w w'
set_option maxRecDepth 100000 in
set_option maxHeartbeats 16000000 in
theorem put_walk (base b8 : Nat) (W : List (Int × Int)) (f t : Int) (w : World) (hB : Box w base b8 W) (hW : W.length ≤ 100000) (hf : ∀ s ∈ W, s.2 < f) (hft : f < t) :
    Calls Tryd.prog 113 #[.int .i64 f, .int .i64 t, .pointer (some ⟨b8, 0, none⟩)] w (PutPost base b8 (W ++ [(f, t)]) w) := by
  obtain ⟨i1, hi, hz0, hz1, hz2⟩ := info_parts info_spans
  have HIS := Lib.hid hi
  have HIS0 := Lib.hid hz0
  have HIS1 := Lib.hid hz1
  have HIS2 := Lib.hid hz2
  clear hi hz0 hz1 hz2
  obtain ⟨lt, le, fr, v, c0, hown⟩ := hB
  have O := Lib.hid hown
  have hl := lt_of_cellS c0
  have n1 : ¬ (t ≤ f) := by omega
  have C3 := Lib.hid (show W.length + 1 ≤ maxLen by unfold maxLen; omega)
  have C4 := Lib.hid (show (W.length + 1) * 16 ≤ 140737488355328 by omega)
  have FR := Lib.hid fr
  clear hown
  have fr0 := fr 0
  clear fr
  rcases List.eq_nil_or_concat W with hW0 | ⟨m, ⟨p, q⟩, hW0⟩
  · obtain ⟨r, cp, rfl, _⟩ := sp_of_owns O.out
    have hd : decide (0 < W.length) = false := by rw [hW0]; simp
    clear hW0
    go_enter Tryd.func113, Tryd.ntmps113
    go_wp2_with (at_builtin; refine wpList_append_own _ rfl _ _ 92 rfl base 96 i1 (.agg #[.int .i64 0, .int .i64 0]) 2 16 Tryd.underlying92 HIS.out HIS0.out HIS1.out HIS2.out rfl (by decide) _ _ _ rfl (O.out.alloc _) ⟨w.heap.size, 0, none⟩ 1 1 [.int .i64 f, .int .i64 t] rfl rfl (news_sp w [.int .i64 f, .int .i64 t] 96) (sp_cell _ _) C3.out C4.out (by simp; omega) ?_)
    intro v' w6 hown' hgr' _
    obtain ⟨r6, cc6, rfl, _⟩ : ∃ r6 cc6, v' = .slice r6 (W.length + 1) cc6 ∧ True := by
      obtain ⟨r6, cc6, hv, _⟩ := sp_of_owns (l := W ++ [(f, t)]) (n := (W.length + 1)) (by rw [spL_append]; exact hown')
      exact ⟨r6, cc6, by rw [hv]; simp, trivial⟩
    have hlt6 : b8 < w6.heap.size := by have := hgr'.size; simp at this; omega
    have e8 : w6.heap[b8]? = w.heap[b8]? := by
      rw [hgr'.block b8 (by simp; omega) (fun e => by have := (O.out.lt b8 e.symm).1; omega)]
      exact Go.heap_alloc_old w _ hl
    have HO2 := Lib.hid hown'
    have HG2 := Lib.hid hgr'
    have c6 := (World.cell?_of_block (a := ⟨b8, 0, none⟩) e8).trans c0
    have f6 := (World.frozen?_of_block (a := ⟨b8, 0, none⟩) e8).trans fr0
    have FR6 := Lib.hid (fun i => (World.frozen?_of_block (a := ⟨b8, i, none⟩) e8).trans (FR.out i))
    clear hown' hgr' e8
    go_wp2
    go_end0
    refine ⟨rfl, ⟨lt, ?_, fun i => ?_, .slice r6 (W.length + 1) cc6, ?_, ?_⟩, ?_⟩
    · have := HG2.out.size; simp at this ⊢; omega
    · rw [frozen?_setCell]; exact FR6.out i
    · rw [cell?_put]; simp [c6]
    · rw [spL_append, List.length_append]
      refine ownsRow_setCell_other HO2.out ?_ _
      intro e
      have := (HO2.out.lt b8 e).1
      omega
    · refine ⟨HG2.out.os, HG2.out.tape, HG2.out.output, ?_, fun k h1 h2 => ?_⟩
      · have := HG2.out.size; simp at this ⊢; omega
      · rw [heap_setCell_other _ _ _ _ h2, HG2.out.block k (by simp; omega) (fun e => by have := (O.out.lt k e.symm).1; omega)]
        exact Go.heap_alloc_old w _ (by omega)
  · obtain rfl : W = m ++ [(p, q)] := by simpa using hW0
    clear hW0
    have hml : (m ++ [(p, q)]).length = m.length + 1 := by simp
    have hqf := hf (p, q) (by simp)
    simp only at hqf
    rw [hml] at O C3 C4
    obtain ⟨g, cp, rfl, hg⟩ : ∃ g cp, v = .slice (some ⟨g, 0, none⟩) (m.length + 1) cp ∧ base ≤ g := by
      rcases O.out.2 with ⟨_, h⟩ | ⟨g, cap, cur, hv, hg, _⟩
      · exact absurd h (by omega)
      · exact ⟨g, cap, hv, hg⟩
    have gq := owns_cellsS O.out (m.length * 2 + 1) (.int .i64 q) (by
      have := (spL_get (m ++ [(p, q)]) m.length (by simp)).2
      simpa using this)
    have gl := (O.out.lt g rfl).2
    have hn : ¬ (f ≤ q) := by omega
    clear hf
    go_enter Tryd.func113, Tryd.ntmps113
    go_wp2_with (at_builtin; refine wpList_append_own _ rfl _ _ 92 rfl base 96 i1 (.agg #[.int .i64 0, .int .i64 0]) 2 16 Tryd.underlying92 HIS.out HIS0.out HIS1.out HIS2.out rfl (by decide) _ _ _ rfl (O.out.alloc _) ⟨w.heap.size, 0, none⟩ 1 1 [.int .i64 f, .int .i64 t] rfl rfl (news_sp w [.int .i64 f, .int .i64 t] 96) (sp_cell _ _) C3.out C4.out (by simp; omega) ?_)
    intro v' w6 hown' hgr' _
    obtain ⟨r6, cc6, rfl, _⟩ : ∃ r6 cc6, v' = .slice r6 (m.length + 1 + 1) cc6 ∧ True := by
      obtain ⟨r6, cc6, hv, _⟩ := sp_of_owns (l := (m ++ [(p, q)]) ++ [(f, t)]) (n := (m.length + 1 + 1)) (by rw [spL_append]; exact hown')
      exact ⟨r6, cc6, by rw [hv]; simp, trivial⟩
    have hlt6 : b8 < w6.heap.size := by have := hgr'.size; simp at this; omega
    have e8 : w6.heap[b8]? = w.heap[b8]? := by
      rw [hgr'.block b8 (by simp; omega) (fun e => by have := (O.out.lt b8 e.symm).1; omega)]
      exact Go.heap_alloc_old w _ hl
    have HO2 := Lib.hid hown'
    have HG2 := Lib.hid hgr'
    have c6 := (World.cell?_of_block (a := ⟨b8, 0, none⟩) e8).trans c0
    have f6 := (World.frozen?_of_block (a := ⟨b8, 0, none⟩) e8).trans fr0
    have FR6 := Lib.hid (fun i => (World.frozen?_of_block (a := ⟨b8, i, none⟩) e8).trans (FR.out i))
    clear hown' hgr' e8
    go_wp2
    go_end0
    refine ⟨rfl, ⟨lt, ?_, fun i => ?_, .slice r6 (m.length + 1 + 1) cc6, ?_, ?_⟩, ?_⟩
    · have := HG2.out.size; simp at this ⊢; omega
    · rw [frozen?_setCell]; exact FR6.out i
    · rw [cell?_put]; simp [c6]
    · rw [show m ++ [(p, q), (f, t)] = (m ++ [(p, q)]) ++ [(f, t)] by simp, spL_append, List.length_append, hml]
      refine ownsRow_setCell_other HO2.out ?_ _
      intro e
      have := (HO2.out.lt b8 e).1
      omega
    · refine ⟨HG2.out.os, HG2.out.tape, HG2.out.output, ?_, fun k h1 h2 => ?_⟩
      · have := HG2.out.size; simp at this ⊢; omega
      · rw [heap_setCell_other _ _ _ _ h2, HG2.out.block k (by simp; omega) (fun e => by have := (O.out.lt k e.symm).1; omega)]
        exact Go.heap_alloc_old w _ (by omega)
end Go.Proofs.YtlfpfeidaohjmaaDoor
