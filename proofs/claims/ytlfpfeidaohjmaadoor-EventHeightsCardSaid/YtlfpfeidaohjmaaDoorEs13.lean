/- Spans that are joined: the instants, each once. Nothing of a program stands here. -/
import Derived.Test.YtlfpfeidaohjmaaDoorEs12
import Derived.Lib.SlicesCompact
set_option linter.unusedSimpArgs false
set_option linter.unusedVariables false
namespace Go.Proofs.YtlfpfeidaohjmaaDoor
open Go.Lib

theorem comp_spec (d : Array Int) (hs : ∀ i j, i ≤ j → j < d.size → d[i]! ≤ d[j]!) : ∀ m, m ≤ d.size →
    (compactUpTo d m).Pairwise (· < ·) ∧ (∀ z ∈ compactUpTo d m, ∃ j, j < m ∧ d[j]! = z) ∧ ∀ j, j < m → d[j]! ∈ compactUpTo d m
  | 0, _ => by
    have e : compactUpTo d 0 = [] := rfl
    rw [e]
    exact ⟨List.Pairwise.nil, fun z hz => (by cases hz), fun j hj => absurd hj (by omega)⟩
  | m + 1, hm => by
    obtain ⟨h1, h2, h3⟩ := comp_spec d hs m (by omega)
    rw [compactUpTo_succ]
    rcases Nat.eq_zero_or_pos m with h0 | h0
    · subst h0
      rw [if_pos (keeps_lt_one d 0 (by omega))]
      have e : compactUpTo d 0 = [] := rfl
      rw [e]
      refine ⟨by simp, fun z hz => ⟨0, by omega, (show z = d[0]! by simpa using hz).symm⟩, fun j hj => ?_⟩
      obtain rfl : j = 0 := by omega
      simp
    · by_cases c : d[m]! = d[m - 1]!
      · rw [if_neg (by rw [keeps_neg h0 c]; simp), List.append_nil]
        refine ⟨h1, fun z hz => ?_, fun j hj => ?_⟩
        · obtain ⟨j, hj, e⟩ := h2 z hz
          exact ⟨j, by omega, e⟩
        · rcases Nat.lt_or_ge j m with h | h
          · exact h3 j h
          · obtain rfl : j = m := by omega
            rw [c]
            exact h3 (j - 1) (by omega)
      · rw [if_pos (keeps_pos c)]
        refine ⟨?_, fun z hz => ?_, fun j hj => ?_⟩
        · rw [List.pairwise_append]
          refine ⟨h1, by simp, fun y hy x hx => ?_⟩
          obtain ⟨j, hj, rfl⟩ := h2 y hy
          have hx' : x = d[m]! := by simpa using hx
          rw [hx']
          have a1 := hs j (m - 1) (by omega) (by omega)
          have a2 := hs (m - 1) m (by omega) (by omega)
          omega
        · rcases List.mem_append.1 hz with hz | hz
          · obtain ⟨j, hj, e⟩ := h2 z hz
            exact ⟨j, by omega, e⟩
          · exact ⟨m, by omega, (show z = d[m]! by simpa using hz).symm⟩
        · rcases Nat.lt_or_ge j m with h | h
          · exact List.mem_append_left _ (h3 j h)
          · obtain rfl : j = m := by omega
            simp
theorem at_spec (zs : List Int) : (∀ k, k + 1 < (compact (zs.mergeSort fun x y => decide (x ≤ y))).length → (compact (zs.mergeSort fun x y => decide (x ≤ y))).getD k 0 < (compact (zs.mergeSort fun x y => decide (x ≤ y))).getD (k + 1) 0) ∧ ∀ z, z ∈ zs → z ∈ compact (zs.mergeSort fun x y => decide (x ≤ y)) := by
  obtain ⟨s, hs⟩ : ∃ s, (zs.mergeSort fun x y => decide (x ≤ y)) = s := ⟨_, rfl⟩
  have hp : s.Pairwise fun x y => decide (x ≤ y) = true := by
    rw [← hs]
    refine List.pairwise_mergeSort (fun a b c h1 h2 => ?_) (fun a b => ?_) zs
    · simp only [decide_eq_true_eq] at *; omega
    · simp only [Bool.or_eq_true, decide_eq_true_eq]; omega
  have hm : ∀ z, z ∈ zs → z ∈ s := fun z hz => by rw [← hs]; exact (List.mergeSort_perm _ _).mem_iff.2 hz
  rw [hs]
  have hsort : ∀ i j, i ≤ j → j < s.toArray.size → s.toArray[i]! ≤ s.toArray[j]! := fun i j hij hj => by
    have hj' : j < s.length := by simpa using hj
    rcases Nat.lt_or_ge i j with h | h
    · have := List.pairwise_iff_getElem.1 hp i j (by omega) hj' h
      simp only [decide_eq_true_eq] at this
      rw [getElem!_pos _ i (by simpa using (show i < s.length by omega)), getElem!_pos _ j hj]
      simpa using this
    · obtain rfl : i = j := by omega
      exact Int.le_refl _
  obtain ⟨h1, h2, h3⟩ := comp_spec s.toArray hsort s.length (by simp)
  refine ⟨fun k hk => ?_, fun z hz => ?_⟩
  · have := List.pairwise_iff_getElem.1 h1 k (k + 1) (by unfold compact at hk; omega) (by unfold compact at hk; omega) (by omega)
    have e1 : (compact s).getD k 0 = (compactUpTo s.toArray s.length)[k]'(by unfold compact at hk; omega) := by
      unfold compact at hk ⊢
      simp [show k < (compactUpTo s.toArray s.length).length by omega]
    have e2 : (compact s).getD (k + 1) 0 = (compactUpTo s.toArray s.length)[k + 1]'(by unfold compact at hk; omega) := by
      unfold compact at hk ⊢
      simp [hk]
    rw [e1, e2]
    exact this
  · obtain ⟨j, hj, e⟩ := List.mem_iff_getElem.1 (hm z hz)
    have := h3 j hj
    rw [getElem!_pos _ j (by simpa using hj)] at this
    unfold compact
    rw [← e]
    simpa using this
end Go.Proofs.YtlfpfeidaohjmaaDoor
