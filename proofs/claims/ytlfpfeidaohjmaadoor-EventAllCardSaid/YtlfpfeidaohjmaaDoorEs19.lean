/- Spans that are joined: what the last loop asks: bounds of the instants, a row of the call's own with one cell changed. -/
import Derived.Test.YtlfpfeidaohjmaaDoorEs17
import Derived.Test.YtlfpfeidaohjmaaDoorEs13
import Derived.Test.YtlfpfeidaohjmaaDoorEs16
import Derived.Test.YtlfpfeidaohjmaaDoorEs10
import Derived.Test.YtlfpfeidaohjmaaDoorFl
set_option linter.unusedSimpArgs false
set_option linter.unusedVariables false
namespace Go.Proofs.YtlfpfeidaohjmaaDoor
open Go.RowKit Go.Grow

theorem ownsRow_setS {w : World} {base : Nat} {e : TypeId} {sz g n cap : Nat} {xs : List Value} (h : w.ownsRow base e sz (.slice (some ⟨g, 0, none⟩) n cap) n xs) (i : Nat) (u : Value) :
    (w.setCell ⟨g, i, none⟩ u).ownsRow base e sz (.slice (some ⟨g, 0, none⟩) n cap) n (xs.set i u) := by
  obtain ⟨hl, ⟨hv, hn⟩ | ⟨g', cap', cur, hv, hg, hb, h1, h2, h3, h4⟩⟩ := h
  · cases hv
  · obtain ⟨rfl, rfl⟩ : g = g' ∧ cap = cap' := by simpa using hv
    refine ⟨by simpa using hl, .inr ⟨g, cap, _, rfl, hg, heap_setCell_same w g i cur e u hb, h1, h2, by simpa using h3, ?_⟩⟩
    rw [Array.toList_setIfInBounds, List.take_set, h4]
theorem spL_set (m : List (Int × Int)) (p q y : Int) : (spL (m ++ [(p, q)])).set (m.length * 2 + 1) (.int .i64 y) = spL (m ++ [(p, y)]) := by
  rw [spL_append, spL_append, List.set_append_right _ _ (by rw [spL_length]; omega), spL_length, show m.length * 2 + 1 - m.length * 2 = 1 by omega]
  rfl
theorem mem_endsOf {l : List (Int × Int)} {z : Int} (h : z ∈ endsOf l) : ∃ s ∈ l, z = s.1 ∨ z = s.2 := by
  unfold endsOf at h
  rw [List.mem_flatMap] at h
  obtain ⟨s, hs, hz⟩ := h
  exact ⟨s, hs, by simpa using hz⟩
theorem ends_bound {l : List (Int × Int)} (h : fineB l = true) {z : Int} (hz : z ∈ endsOf l) : -1152921504606846976 ≤ z ∧ z ≤ 1152921504606846976 := by
  obtain ⟨s, hs, e⟩ := mem_endsOf hz
  obtain ⟨k, hk, rfl⟩ := List.mem_iff_getElem.1 hs
  obtain ⟨h1, h2, h3, _⟩ := fine_at h k hk
  rcases e with rfl | rfl <;> omega
theorem compact_mem {s : List Int} {z : Int} (h : z ∈ Lib.compact s) : z ∈ s := by
  unfold Lib.compact Lib.compactUpTo at h
  rw [List.mem_map] at h
  obtain ⟨j, hj, rfl⟩ := h
  rw [List.mem_filter, List.mem_range] at hj
  have hj' : j < s.length := hj.1
  rw [getElem!_pos s.toArray j (by simpa using hj')]
  simp
theorem srt_mem {zs : List Int} {z : Int} (h : z ∈ srt zs) : z ∈ zs := (List.mergeSort_perm _ _).mem_iff.1 h
theorem at_bound {l1 l2 : List (Int × Int)} (h1 : fineB l1 = true) (h2 : fineB l2 = true) (k : Nat) (hk : k < (Lib.compact (srt (endsOf l1 ++ endsOf l2))).length) :
    -1152921504606846976 ≤ (Lib.compact (srt (endsOf l1 ++ endsOf l2)))[k] ∧ (Lib.compact (srt (endsOf l1 ++ endsOf l2)))[k] ≤ 1152921504606846976 := by
  have hm := srt_mem (compact_mem (List.getElem_mem hk))
  rcases List.mem_append.1 hm with h | h
  · exact ends_bound h1 h
  · exact ends_bound h2 h
theorem lsE_two {r1 r2 : Option Addr} {l1 l2 : List (Int × Int)} {c1 c2 : Nat} (h : lsE [⟨r1, l1, c1⟩, ⟨r2, l2, c2⟩] = 0) : l1.length ≤ 4000 ∧ l2.length ≤ 4000 ∧ fineB l1 = true ∧ fineB l2 = true := by
  unfold lsE longB rowsB at h
  simp only [List.any_cons, List.any_nil, List.all_cons, List.all_nil, Bool.or_false, Bool.and_true] at h
  split at h
  · cases h
  · split at h
    · rename_i h1 h2
      simp only [Bool.or_eq_true, decide_eq_true_eq, not_or, Nat.not_lt] at h1
      rw [Bool.and_eq_true] at h2
      exact ⟨h1.1, h1.2, h2.1, h2.2⟩
    · cases h
theorem join_step (f : Int → Bool) (T : List Int) (i : Nat) (h : i + 1 < T.length) : joinUp f T (i + 1) = if f T[i] then putSp (joinUp f T i) T[i] T[i + 1] else joinUp f T i := by
  show (if f (T.getD i 0) then putSp (joinUp f T i) (T.getD i 0) (T.getD (i + 1) 0) else joinUp f T i) = _
  rw [show T.getD i 0 = T[i] by simp [show i < T.length by omega], show T.getD (i + 1) 0 = T[i + 1] by simp [h]]
theorem joinUp_le (f : Int → Bool) (T : List Int) : ∀ k, (joinUp f T k).length ≤ k
  | 0 => Nat.le_refl _
  | k + 1 => by
    have ih := joinUp_le f T k
    unfold joinUp
    split
    · unfold putSp
      split
      · split
        · simp; omega
        · simp; omega
      · simp
    · omega
theorem putSp_nil (a b : Int) : putSp [] a b = [(a, b)] := rfl
theorem putSp_same (m : List (Int × Int)) (p q b : Int) : putSp (m ++ [(p, q)]) q b = m ++ [(p, b)] := by simp [putSp]
theorem putSp_other (m : List (Int × Int)) (p q a b : Int) (h : q ≠ a) : putSp (m ++ [(p, q)]) a b = m ++ [(p, q)] ++ [(a, b)] := by simp [putSp, h]
theorem snoc_of (l : List (Int × Int)) (h : l ≠ []) : ∃ m p q, l = m ++ [(p, q)] := by
  rcases List.eq_nil_or_concat l with e | ⟨m, ⟨p, q⟩, e⟩
  · exact absurd e h
  · exact ⟨m, p, q, by simpa using e⟩
def joinL (op : Bool → Bool → Bool) (l1 l2 : List (Int × Int)) : List (Int × Int) :=
  joinUp (fun z => op (inSp l1 z) (inSp l2 z)) (Lib.compact (srt (endsOf l1 ++ endsOf l2))) ((Lib.compact (srt (endsOf l1 ++ endsOf l2))).length - 1)
def JPost (op : Bool → Bool → Bool) (l1 l2 : List (Int × Int)) (w : World) (e : Ending) (w' : World) : Prop :=
  ∃ r c, e = .returned (.tuple #[.slice r (joinL op l1 l2).length c, .nilIface]) ∧ SpAt w' r (joinL op l1 l2) ∧ Below w.heap.size w w'
def JRel (f : Int → Bool) (T : List Int) (W : World) (v15 v56 : Value) (wr : World) : Prop :=
  ∃ k : Nat, k ≤ T.length - 1 ∧ v56 = .int .i64 k ∧ wr.ownsRow W.heap.size 96 2 v15 (joinUp f T k).length (spL (joinUp f T k)) ∧ Below W.heap.size W wr
end Go.Proofs.YtlfpfeidaohjmaaDoor
