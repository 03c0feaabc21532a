/- Spans that are joined: the plain law. Nothing of a program stands here. -/
import Derived.Test.YtlfpfeidaohjmaaDoorEs9
set_option linter.unusedSimpArgs false
set_option linter.unusedVariables false
namespace Go.Proofs.YtlfpfeidaohjmaaDoor

def RiseP (l : List (Int × Int)) : Prop := (∀ s ∈ l, s.1 < s.2) ∧ l.Pairwise fun s t => s.2 < t.1
def putSp (l : List (Int × Int)) (a b : Int) : List (Int × Int) :=
  match l.getLast? with
  | some s => if s.2 = a then l.dropLast ++ [(s.1, b)] else l ++ [(a, b)]
  | none => [(a, b)]
theorem inSp_append (l m : List (Int × Int)) (x : Int) : inSp (l ++ m) x = (inSp l x || inSp m x) := by unfold inSp; rw [List.any_append]
theorem inSp_one (a b x : Int) : inSp [(a, b)] x = (decide (a ≤ x) && decide (x < b)) := by simp [inSp]
theorem put_spec {l : List (Int × Int)} {a b : Int} (h : RiseP l) (hl : ∀ s ∈ l, s.2 ≤ a) (hab : a < b) :
    RiseP (putSp l a b) ∧ (∀ s ∈ putSp l a b, s.2 ≤ b) ∧ ∀ x, inSp (putSp l a b) x = (inSp l x || (decide (a ≤ x) && decide (x < b))) := by
  rcases List.eq_nil_or_concat l with rfl | ⟨m, ⟨p, q⟩, hm⟩
  · refine ⟨⟨?_, ?_⟩, ?_, fun x => ?_⟩
    · intro s hs; simp [putSp] at hs; subst hs; exact hab
    · simp [putSp]
    · intro s hs; simp [putSp] at hs; subst hs; exact Int.le_refl _
    · simp [putSp, inSp]
  · rw [List.concat_eq_append] at hm
    subst hm
    obtain ⟨h1, h2⟩ := h
    rw [List.pairwise_append] at h2
    obtain ⟨g1, _, g3⟩ := h2
    have hpq := h1 (p, q) (by simp)
    have hqa := hl (p, q) (by simp)
    simp only at hpq hqa
    have e : putSp (m ++ [(p, q)]) a b = if q = a then m ++ [(p, b)] else (m ++ [(p, q)]) ++ [(a, b)] := by simp [putSp]
    rw [e]
    by_cases c : q = a
    · rw [if_pos c]
      subst c
      refine ⟨⟨?_, ?_⟩, ?_, fun x => ?_⟩
      · intro s hs
        rcases List.mem_append.1 hs with hs | hs
        · exact h1 s (by simp [hs])
        · simp at hs; subst hs; show p < b; omega
      · rw [List.pairwise_append]
        refine ⟨g1, by simp, fun s hs t ht => ?_⟩
        simp at ht; subst ht
        exact g3 s hs (p, q) (by simp)
      · intro s hs
        rcases List.mem_append.1 hs with hs | hs
        · have := hl s (by simp [hs]); omega
        · simp at hs; subst hs; exact Int.le_refl _
      · rw [inSp_append, inSp_append, inSp_one, inSp_one]
        cases inSp m x with
        | true => rfl
        | false =>
          simp only [Bool.false_or]
          rw [Bool.eq_iff_iff]
          simp only [Bool.and_eq_true, Bool.or_eq_true, decide_eq_true_eq]
          omega
    · rw [if_neg c]
      refine ⟨⟨?_, ?_⟩, ?_, fun x => ?_⟩
      · intro s hs
        rcases List.mem_append.1 hs with hs | hs
        · exact h1 s hs
        · simp at hs; subst hs; exact hab
      · rw [List.pairwise_append]
        refine ⟨by rw [List.pairwise_append]; exact ⟨g1, by simp, g3⟩, by simp, fun s hs t ht => ?_⟩
        simp at ht; subst ht
        show s.2 < a
        rcases List.mem_append.1 hs with hs | hs
        · have k1 := g3 s hs (p, q) (by simp)
          simp only at k1
          omega
        · simp at hs; subst hs; show q < a; omega
      · intro s hs
        rcases List.mem_append.1 hs with hs | hs
        · have := hl s hs; omega
        · simp at hs; subst hs; exact Int.le_refl _
      · rw [inSp_append (m ++ [(p, q)]), inSp_one]
/-- The spans that are joined of the first k stretches. -/
def joinUp (f : Int → Bool) (T : List Int) : Nat → List (Int × Int)
  | 0 => []
  | k + 1 => if f (T.getD k 0) then putSp (joinUp f T k) (T.getD k 0) (T.getD (k + 1) 0) else joinUp f T k
theorem join_spec (f : Int → Bool) (T : List Int) (hT : ∀ k, k + 1 < T.length → T.getD k 0 < T.getD (k + 1) 0) : ∀ k, k < T.length →
    RiseP (joinUp f T k) ∧ (∀ s ∈ joinUp f T k, s.2 ≤ T.getD k 0) ∧ ∀ x, inSp (joinUp f T k) x = true ↔ ∃ i, i < k ∧ T.getD i 0 ≤ x ∧ x < T.getD (i + 1) 0 ∧ f (T.getD i 0) = true
  | 0, _ => ⟨⟨fun s hs => (by cases hs), List.Pairwise.nil⟩, fun s hs => (by cases hs), fun x => ⟨fun h => by simp [joinUp, inSp] at h, fun ⟨i, hi, _⟩ => absurd hi (by omega)⟩⟩
  | k + 1, hk => by
    obtain ⟨h1, h2, h3⟩ := join_spec f T hT k (by omega)
    have hlt := hT k hk
    unfold joinUp
    by_cases c : f (T.getD k 0) = true
    · rw [if_pos c]
      obtain ⟨p1, p2, p3⟩ := put_spec h1 h2 hlt
      refine ⟨p1, p2, fun x => ?_⟩
      rw [p3 x, Bool.or_eq_true, h3 x, Bool.and_eq_true, decide_eq_true_eq, decide_eq_true_eq]
      constructor
      · rintro (⟨i, hi, h⟩ | ⟨ha, hb⟩)
        · exact ⟨i, by omega, h⟩
        · exact ⟨k, by omega, ha, hb, c⟩
      · rintro ⟨i, hi, ha, hb, hc⟩
        rcases Nat.lt_or_ge i k with h | h
        · exact .inl ⟨i, h, ha, hb, hc⟩
        · obtain rfl : i = k := by omega
          exact .inr ⟨ha, hb⟩
    · rw [if_neg c]
      refine ⟨h1, fun s hs => by have := h2 s hs; omega, fun x => ?_⟩
      rw [h3 x]
      constructor
      · rintro ⟨i, hi, h⟩
        exact ⟨i, by omega, h⟩
      · rintro ⟨i, hi, ha, hb, hc⟩
        rcases Nat.lt_or_ge i k with h | h
        · exact ⟨i, h, ha, hb, hc⟩
        · obtain rfl : i = k := by omega
          exact absurd hc c
theorem rise_of_P {l : List (Int × Int)} (h : RiseP l) : Rise l := fun k hk => by
  refine ⟨h.1 _ (List.getElem_mem hk), fun j hj => ?_⟩
  exact (List.pairwise_iff_getElem.1 h.2) j k (by omega) hk (by omega)
end Go.Proofs.YtlfpfeidaohjmaaDoor
