/- Spans that are joined: what is in them. Nothing of a program stands here. -/
import Derived.Test.YtlfpfeidaohjmaaDoorEs11
set_option linter.unusedSimpArgs false
set_option linter.unusedVariables false
namespace Go.Proofs.YtlfpfeidaohjmaaDoor

theorem up_mono {T : List Int} (hT : ∀ k, k + 1 < T.length → T.getD k 0 < T.getD (k + 1) 0) (i : Nat) : ∀ d, i + d < T.length → T.getD i 0 ≤ T.getD (i + d) 0
  | 0, _ => Int.le_refl _
  | d + 1, h => by
    have h1 := up_mono hT i d (by omega)
    have h2 := hT (i + d) (by omega)
    rw [show i + (d + 1) = i + d + 1 by omega]
    omega
theorem up_le {T : List Int} (hT : ∀ k, k + 1 < T.length → T.getD k 0 < T.getD (k + 1) 0) {i j : Nat} (h : i ≤ j) (hj : j < T.length) : T.getD i 0 ≤ T.getD j 0 := by
  have := up_mono hT i (j - i) (by omega)
  rwa [show i + (j - i) = j by omega] at this
theorem mem_at {T : List Int} {z : Int} (h : z ∈ T) : ∃ j, j < T.length ∧ T.getD j 0 = z := by
  obtain ⟨j, hj, e⟩ := List.mem_iff_getElem.1 h
  exact ⟨j, hj, by simp [hj, e]⟩
/-- No end lies between two neighbours. -/
theorem no_end {T : List Int} (hT : ∀ k, k + 1 < T.length → T.getD k 0 < T.getD (k + 1) 0) {z x : Int} (hz : z ∈ T) {i : Nat} (hi : i + 1 < T.length) (h1 : T.getD i 0 ≤ x) (h2 : x < T.getD (i + 1) 0) : (z ≤ x ↔ z ≤ T.getD i 0) := by
  obtain ⟨j, hj, rfl⟩ := mem_at hz
  constructor
  · intro h
    rcases Nat.lt_or_ge i j with h3 | h3
    · have := up_le hT (show i + 1 ≤ j from h3) hj
      omega
    · exact up_le hT h3 (by omega)
  · intro h; omega
theorem same_in {T : List Int} (hT : ∀ k, k + 1 < T.length → T.getD k 0 < T.getD (k + 1) 0) {l : List (Int × Int)} (hm : ∀ s ∈ l, s.1 ∈ T ∧ s.2 ∈ T) {x : Int} {i : Nat} (hi : i + 1 < T.length) (h1 : T.getD i 0 ≤ x) (h2 : x < T.getD (i + 1) 0) : inSp l x = inSp l (T.getD i 0) := by
  unfold inSp
  rw [Bool.eq_iff_iff, List.any_eq_true, List.any_eq_true]
  constructor
  · rintro ⟨s, hs, h⟩
    have e1 := no_end hT (hm s hs).1 hi h1 h2
    have e2 := no_end hT (hm s hs).2 hi h1 h2
    simp only [Bool.and_eq_true, decide_eq_true_eq] at h
    exact ⟨s, hs, by simp only [Bool.and_eq_true, decide_eq_true_eq]; omega⟩
  · rintro ⟨s, hs, h⟩
    have e1 := no_end hT (hm s hs).1 hi h1 h2
    have e2 := no_end hT (hm s hs).2 hi h1 h2
    simp only [Bool.and_eq_true, decide_eq_true_eq] at h
    exact ⟨s, hs, by simp only [Bool.and_eq_true, decide_eq_true_eq]; omega⟩
theorem find_at {T : List Int} (x : Int) : ∀ k, k < T.length → T.getD 0 0 ≤ x → x < T.getD k 0 → ∃ i, i < k ∧ T.getD i 0 ≤ x ∧ x < T.getD (i + 1) 0
  | 0, _, h1, h2 => absurd h1 (by omega)
  | k + 1, hk, h1, h2 => by
    rcases Int.lt_or_le x (T.getD k 0) with h | h
    · obtain ⟨i, hi, h3⟩ := find_at x k (by omega) h1 h
      exact ⟨i, by omega, h3⟩
    · exact ⟨k, by omega, h, h2⟩
theorem in_bounds {T : List Int} (hT : ∀ k, k + 1 < T.length → T.getD k 0 < T.getD (k + 1) 0) {l : List (Int × Int)} (hm : ∀ s ∈ l, s.1 ∈ T ∧ s.2 ∈ T) {x : Int} (h : inSp l x = true) : 0 < T.length ∧ T.getD 0 0 ≤ x ∧ x < T.getD (T.length - 1) 0 := by
  unfold inSp at h
  rw [List.any_eq_true] at h
  obtain ⟨s, hs, h⟩ := h
  simp only [Bool.and_eq_true, decide_eq_true_eq] at h
  obtain ⟨j, hj, e1⟩ := mem_at (hm s hs).1
  obtain ⟨j2, hj2, e2⟩ := mem_at (hm s hs).2
  have a1 := up_le hT (Nat.zero_le j) hj
  have a2 := up_le hT (show j2 ≤ T.length - 1 by omega) (by omega)
  exact ⟨by omega, by omega, by omega⟩
/-- What is in the spans that are joined. -/
theorem joined_in (op : Bool → Bool → Bool) (h00 : op false false = false) {T : List Int} (hT : ∀ k, k + 1 < T.length → T.getD k 0 < T.getD (k + 1) 0) {a b : List (Int × Int)} (ha : ∀ s ∈ a, s.1 ∈ T ∧ s.2 ∈ T) (hb : ∀ s ∈ b, s.1 ∈ T ∧ s.2 ∈ T) (x : Int) :
    inSp (joinUp (fun z => op (inSp a z) (inSp b z)) T (T.length - 1)) x = op (inSp a x) (inSp b x) := by
  rcases Nat.eq_zero_or_pos T.length with h0 | h0
  · have e1 : inSp a x = false := by
      cases h : inSp a x with
      | false => rfl
      | true => exact absurd (in_bounds hT ha h).1 (by omega)
    have e2 : inSp b x = false := by
      cases h : inSp b x with
      | false => rfl
      | true => exact absurd (in_bounds hT hb h).1 (by omega)
    rw [e1, e2, h00, h0]; rfl
  · have key := (join_spec (fun z => op (inSp a z) (inSp b z)) T hT (T.length - 1) (by omega)).2.2 x
    rw [Bool.eq_iff_iff, key]
    constructor
    · rintro ⟨i, hi, h1, h2, h3⟩
      rw [same_in hT ha (by omega) h1 h2, same_in hT hb (by omega) h1 h2]
      exact h3
    · intro h
      have hx : T.getD 0 0 ≤ x ∧ x < T.getD (T.length - 1) 0 := by
        cases e1 : inSp a x with
        | true => exact (in_bounds hT ha e1).2
        | false =>
          cases e2 : inSp b x with
          | true => exact (in_bounds hT hb e2).2
          | false => rw [e1, e2, h00] at h; cases h
      obtain ⟨i, hi, h1, h2⟩ := find_at x (T.length - 1) (by omega) hx.1 hx.2
      refine ⟨i, hi, h1, h2, ?_⟩
      show op (inSp a (T.getD i 0)) (inSp b (T.getD i 0)) = true
      rw [← same_in hT ha (by omega) h1 h2, ← same_in hT hb (by omega) h1 h2]
      exact h
end Go.Proofs.YtlfpfeidaohjmaaDoor
