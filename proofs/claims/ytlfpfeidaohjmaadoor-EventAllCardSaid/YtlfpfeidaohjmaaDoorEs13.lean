/- Spans that are joined: the plain law. Nothing of a program stands here. -/
import Derived.Test.YtlfpfeidaohjmaaDoorEs9
import Derived.Lib.SlicesCompact
set_option linter.unusedSimpArgs false
set_option linter.unusedVariables false
namespace Go.Proofs.YtlfpfeidaohjmaaDoor

def RiseP (l : List (Int × Int)) : Prop := (∀ s ∈ l, s.1 < s.2) ∧ l.Pairwise fun s t => s.2 < t.1
def putSp (l : List (Int × Int)) (a b : Int) : List (Int × Int) :=
  match l.getLast? with
  | some s => if s.2 = a then l.dropLast ++ [(s.1, b)] else l ++ [(a, b)]
  | none => [(a, b)]
theorem inSp_append (l m : List (Int × Int)) (x : Int) : inSp (l ++ m) x = (inSp l x || inSp m x) := by unfold inSp; rw [List.any_append]
theorem inSp_one (a b x : Int) : inSp [(a, b)] x = (decide (a ≤ x) && decide (x < b)) := by simp [inSp]
theorem put_spec {l : List (Int × Int)} {a b : Int} (h : RiseP l) (hl : ∀ s ∈ l, s.2 ≤ a) (hab : a < b) :
    RiseP (putSp l a b) ∧ (∀ s ∈ putSp l a b, s.2 ≤ b) ∧ ∀ x, inSp (putSp l a b) x = (inSp l x || (decide (a ≤ x) && decide (x < b))) := by
  rcases List.eq_nil_or_concat l with rfl | ⟨m, ⟨p, q⟩, hm⟩
  · refine ⟨⟨?_, ?_⟩, ?_, fun x => ?_⟩
    · intro s hs; simp [putSp] at hs; subst hs; exact hab
    · simp [putSp]
    · intro s hs; simp [putSp] at hs; subst hs; exact Int.le_refl _
    · simp [putSp, inSp]
  · rw [List.concat_eq_append] at hm
    subst hm
    obtain ⟨h1, h2⟩ := h
    rw [List.pairwise_append] at h2
    obtain ⟨g1, _, g3⟩ := h2
    have hpq := h1 (p, q) (by simp)
    have hqa := hl (p, q) (by simp)
    simp only at hpq hqa
    have e : putSp (m ++ [(p, q)]) a b = if q = a then m ++ [(p, b)] else (m ++ [(p, q)]) ++ [(a, b)] := by simp [putSp]
    rw [e]
    by_cases c : q = a
    · rw [if_pos c]
      subst c
      refine ⟨⟨?_, ?_⟩, ?_, fun x => ?_⟩
      · intro s hs
        rcases List.mem_append.1 hs with hs | hs
        · exact h1 s (by simp [hs])
        · simp at hs; subst hs; show p < b; omega
      · rw [List.pairwise_append]
        refine ⟨g1, by simp, fun s hs t ht => ?_⟩
        simp at ht; subst ht
        exact g3 s hs (p, q) (by simp)
      · intro s hs
        rcases List.mem_append.1 hs with hs | hs
        · have := hl s (by simp [hs]); omega
        · simp at hs; subst hs; exact Int.le_refl _
      · rw [inSp_append, inSp_append, inSp_one, inSp_one]
        cases inSp m x with
        | true => rfl
        | false =>
          simp only [Bool.false_or]
          rw [Bool.eq_iff_iff]
          simp only [Bool.and_eq_true, Bool.or_eq_true, decide_eq_true_eq]
          omega
    · rw [if_neg c]
      refine ⟨⟨?_, ?_⟩, ?_, fun x => ?_⟩
      · intro s hs
        rcases List.mem_append.1 hs with hs | hs
        · exact h1 s hs
        · simp at hs; subst hs; exact hab
      · rw [List.pairwise_append]
        refine ⟨by rw [List.pairwise_append]; exact ⟨g1, by simp, g3⟩, by simp, fun s hs t ht => ?_⟩
        simp at ht; subst ht
        show s.2 < a
        rcases List.mem_append.1 hs with hs | hs
        · have k1 := g3 s hs (p, q) (by simp)
          simp only at k1
          omega
        · simp at hs; subst hs; show q < a; omega
      · intro s hs
        rcases List.mem_append.1 hs with hs | hs
        · have := hl s hs; omega
        · simp at hs; subst hs; exact Int.le_refl _
      · rw [inSp_append (m ++ [(p, q)]), inSp_one]
/-- The spans that are joined of the first k stretches. -/
def joinUp (f : Int → Bool) (T : List Int) : Nat → List (Int × Int)
  | 0 => []
  | k + 1 => if f (T.getD k 0) then putSp (joinUp f T k) (T.getD k 0) (T.getD (k + 1) 0) else joinUp f T k
theorem join_spec (f : Int → Bool) (T : List Int) (hT : ∀ k, k + 1 < T.length → T.getD k 0 < T.getD (k + 1) 0) : ∀ k, k < T.length →
    RiseP (joinUp f T k) ∧ (∀ s ∈ joinUp f T k, s.2 ≤ T.getD k 0) ∧ ∀ x, inSp (joinUp f T k) x = true ↔ ∃ i, i < k ∧ T.getD i 0 ≤ x ∧ x < T.getD (i + 1) 0 ∧ f (T.getD i 0) = true
  | 0, _ => ⟨⟨fun s hs => (by cases hs), List.Pairwise.nil⟩, fun s hs => (by cases hs), fun x => ⟨fun h => by simp [joinUp, inSp] at h, fun ⟨i, hi, _⟩ => absurd hi (by omega)⟩⟩
  | k + 1, hk => by
    obtain ⟨h1, h2, h3⟩ := join_spec f T hT k (by omega)
    have hlt := hT k hk
    unfold joinUp
    by_cases c : f (T.getD k 0) = true
    · rw [if_pos c]
      obtain ⟨p1, p2, p3⟩ := put_spec h1 h2 hlt
      refine ⟨p1, p2, fun x => ?_⟩
      rw [p3 x, Bool.or_eq_true, h3 x, Bool.and_eq_true, decide_eq_true_eq, decide_eq_true_eq]
      constructor
      · rintro (⟨i, hi, h⟩ | ⟨ha, hb⟩)
        · exact ⟨i, by omega, h⟩
        · exact ⟨k, by omega, ha, hb, c⟩
      · rintro ⟨i, hi, ha, hb, hc⟩
        rcases Nat.lt_or_ge i k with h | h
        · exact .inl ⟨i, h, ha, hb, hc⟩
        · obtain rfl : i = k := by omega
          exact .inr ⟨ha, hb⟩
    · rw [if_neg c]
      refine ⟨h1, fun s hs => by have := h2 s hs; omega, fun x => ?_⟩
      rw [h3 x]
      constructor
      · rintro ⟨i, hi, h⟩
        exact ⟨i, by omega, h⟩
      · rintro ⟨i, hi, ha, hb, hc⟩
        rcases Nat.lt_or_ge i k with h | h
        · exact ⟨i, h, ha, hb, hc⟩
        · obtain rfl : i = k := by omega
          exact absurd hc c
theorem rise_of_P {l : List (Int × Int)} (h : RiseP l) : Rise l := fun k hk => by
  refine ⟨h.1 _ (List.getElem_mem hk), fun j hj => ?_⟩
  exact (List.pairwise_iff_getElem.1 h.2) j k (by omega) hk (by omega)
end Go.Proofs.YtlfpfeidaohjmaaDoor
/- Spans that are joined: what is in them. Nothing of a program stands here. -/
set_option linter.unusedSimpArgs false
set_option linter.unusedVariables false
namespace Go.Proofs.YtlfpfeidaohjmaaDoor

theorem up_mono {T : List Int} (hT : ∀ k, k + 1 < T.length → T.getD k 0 < T.getD (k + 1) 0) (i : Nat) : ∀ d, i + d < T.length → T.getD i 0 ≤ T.getD (i + d) 0
  | 0, _ => Int.le_refl _
  | d + 1, h => by
    have h1 := up_mono hT i d (by omega)
    have h2 := hT (i + d) (by omega)
    rw [show i + (d + 1) = i + d + 1 by omega]
    omega
theorem up_le {T : List Int} (hT : ∀ k, k + 1 < T.length → T.getD k 0 < T.getD (k + 1) 0) {i j : Nat} (h : i ≤ j) (hj : j < T.length) : T.getD i 0 ≤ T.getD j 0 := by
  have := up_mono hT i (j - i) (by omega)
  rwa [show i + (j - i) = j by omega] at this
theorem mem_at {T : List Int} {z : Int} (h : z ∈ T) : ∃ j, j < T.length ∧ T.getD j 0 = z := by
  obtain ⟨j, hj, e⟩ := List.mem_iff_getElem.1 h
  exact ⟨j, hj, by simp [hj, e]⟩
/-- No end lies between two neighbours. -/
theorem no_end {T : List Int} (hT : ∀ k, k + 1 < T.length → T.getD k 0 < T.getD (k + 1) 0) {z x : Int} (hz : z ∈ T) {i : Nat} (hi : i + 1 < T.length) (h1 : T.getD i 0 ≤ x) (h2 : x < T.getD (i + 1) 0) : (z ≤ x ↔ z ≤ T.getD i 0) := by
  obtain ⟨j, hj, rfl⟩ := mem_at hz
  constructor
  · intro h
    rcases Nat.lt_or_ge i j with h3 | h3
    · have := up_le hT (show i + 1 ≤ j from h3) hj
      omega
    · exact up_le hT h3 (by omega)
  · intro h; omega
theorem same_in {T : List Int} (hT : ∀ k, k + 1 < T.length → T.getD k 0 < T.getD (k + 1) 0) {l : List (Int × Int)} (hm : ∀ s ∈ l, s.1 ∈ T ∧ s.2 ∈ T) {x : Int} {i : Nat} (hi : i + 1 < T.length) (h1 : T.getD i 0 ≤ x) (h2 : x < T.getD (i + 1) 0) : inSp l x = inSp l (T.getD i 0) := by
  unfold inSp
  rw [Bool.eq_iff_iff, List.any_eq_true, List.any_eq_true]
  constructor
  · rintro ⟨s, hs, h⟩
    have e1 := no_end hT (hm s hs).1 hi h1 h2
    have e2 := no_end hT (hm s hs).2 hi h1 h2
    simp only [Bool.and_eq_true, decide_eq_true_eq] at h
    exact ⟨s, hs, by simp only [Bool.and_eq_true, decide_eq_true_eq]; omega⟩
  · rintro ⟨s, hs, h⟩
    have e1 := no_end hT (hm s hs).1 hi h1 h2
    have e2 := no_end hT (hm s hs).2 hi h1 h2
    simp only [Bool.and_eq_true, decide_eq_true_eq] at h
    exact ⟨s, hs, by simp only [Bool.and_eq_true, decide_eq_true_eq]; omega⟩
theorem find_at {T : List Int} (x : Int) : ∀ k, k < T.length → T.getD 0 0 ≤ x → x < T.getD k 0 → ∃ i, i < k ∧ T.getD i 0 ≤ x ∧ x < T.getD (i + 1) 0
  | 0, _, h1, h2 => absurd h1 (by omega)
  | k + 1, hk, h1, h2 => by
    rcases Int.lt_or_le x (T.getD k 0) with h | h
    · obtain ⟨i, hi, h3⟩ := find_at x k (by omega) h1 h
      exact ⟨i, by omega, h3⟩
    · exact ⟨k, by omega, h, h2⟩
theorem in_bounds {T : List Int} (hT : ∀ k, k + 1 < T.length → T.getD k 0 < T.getD (k + 1) 0) {l : List (Int × Int)} (hm : ∀ s ∈ l, s.1 ∈ T ∧ s.2 ∈ T) {x : Int} (h : inSp l x = true) : 0 < T.length ∧ T.getD 0 0 ≤ x ∧ x < T.getD (T.length - 1) 0 := by
  unfold inSp at h
  rw [List.any_eq_true] at h
  obtain ⟨s, hs, h⟩ := h
  simp only [Bool.and_eq_true, decide_eq_true_eq] at h
  obtain ⟨j, hj, e1⟩ := mem_at (hm s hs).1
  obtain ⟨j2, hj2, e2⟩ := mem_at (hm s hs).2
  have a1 := up_le hT (Nat.zero_le j) hj
  have a2 := up_le hT (show j2 ≤ T.length - 1 by omega) (by omega)
  exact ⟨by omega, by omega, by omega⟩
/-- What is in the spans that are joined. -/
theorem joined_in (op : Bool → Bool → Bool) (h00 : op false false = false) {T : List Int} (hT : ∀ k, k + 1 < T.length → T.getD k 0 < T.getD (k + 1) 0) {a b : List (Int × Int)} (ha : ∀ s ∈ a, s.1 ∈ T ∧ s.2 ∈ T) (hb : ∀ s ∈ b, s.1 ∈ T ∧ s.2 ∈ T) (x : Int) :
    inSp (joinUp (fun z => op (inSp a z) (inSp b z)) T (T.length - 1)) x = op (inSp a x) (inSp b x) := by
  rcases Nat.eq_zero_or_pos T.length with h0 | h0
  · have e1 : inSp a x = false := by
      cases h : inSp a x with
      | false => rfl
      | true => exact absurd (in_bounds hT ha h).1 (by omega)
    have e2 : inSp b x = false := by
      cases h : inSp b x with
      | false => rfl
      | true => exact absurd (in_bounds hT hb h).1 (by omega)
    rw [e1, e2, h00, h0]; rfl
  · have key := (join_spec (fun z => op (inSp a z) (inSp b z)) T hT (T.length - 1) (by omega)).2.2 x
    rw [Bool.eq_iff_iff, key]
    constructor
    · rintro ⟨i, hi, h1, h2, h3⟩
      rw [same_in hT ha (by omega) h1 h2, same_in hT hb (by omega) h1 h2]
      exact h3
    · intro h
      have hx : T.getD 0 0 ≤ x ∧ x < T.getD (T.length - 1) 0 := by
        cases e1 : inSp a x with
        | true => exact (in_bounds hT ha e1).2
        | false =>
          cases e2 : inSp b x with
          | true => exact (in_bounds hT hb e2).2
          | false => rw [e1, e2, h00] at h; cases h
      obtain ⟨i, hi, h1, h2⟩ := find_at x (T.length - 1) (by omega) hx.1 hx.2
      refine ⟨i, hi, h1, h2, ?_⟩
      show op (inSp a (T.getD i 0)) (inSp b (T.getD i 0)) = true
      rw [← same_in hT ha (by omega) h1 h2, ← same_in hT hb (by omega) h1 h2]
      exact h
end Go.Proofs.YtlfpfeidaohjmaaDoor
/- Spans that are joined: the instants, each once. Nothing of a program stands here. -/
set_option linter.unusedSimpArgs false
set_option linter.unusedVariables false
namespace Go.Proofs.YtlfpfeidaohjmaaDoor
open Go.Lib

theorem comp_spec (d : Array Int) (hs : ∀ i j, i ≤ j → j < d.size → d[i]! ≤ d[j]!) : ∀ m, m ≤ d.size →
    (compactUpTo d m).Pairwise (· < ·) ∧ (∀ z ∈ compactUpTo d m, ∃ j, j < m ∧ d[j]! = z) ∧ ∀ j, j < m → d[j]! ∈ compactUpTo d m
  | 0, _ => by
    have e : compactUpTo d 0 = [] := rfl
    rw [e]
    exact ⟨List.Pairwise.nil, fun z hz => (by cases hz), fun j hj => absurd hj (by omega)⟩
  | m + 1, hm => by
    obtain ⟨h1, h2, h3⟩ := comp_spec d hs m (by omega)
    rw [compactUpTo_succ]
    rcases Nat.eq_zero_or_pos m with h0 | h0
    · subst h0
      rw [if_pos (keeps_lt_one d 0 (by omega))]
      have e : compactUpTo d 0 = [] := rfl
      rw [e]
      refine ⟨by simp, fun z hz => ⟨0, by omega, (show z = d[0]! by simpa using hz).symm⟩, fun j hj => ?_⟩
      obtain rfl : j = 0 := by omega
      simp
    · by_cases c : d[m]! = d[m - 1]!
      · rw [if_neg (by rw [keeps_neg h0 c]; simp), List.append_nil]
        refine ⟨h1, fun z hz => ?_, fun j hj => ?_⟩
        · obtain ⟨j, hj, e⟩ := h2 z hz
          exact ⟨j, by omega, e⟩
        · rcases Nat.lt_or_ge j m with h | h
          · exact h3 j h
          · obtain rfl : j = m := by omega
            rw [c]
            exact h3 (j - 1) (by omega)
      · rw [if_pos (keeps_pos c)]
        refine ⟨?_, fun z hz => ?_, fun j hj => ?_⟩
        · rw [List.pairwise_append]
          refine ⟨h1, by simp, fun y hy x hx => ?_⟩
          obtain ⟨j, hj, rfl⟩ := h2 y hy
          have hx' : x = d[m]! := by simpa using hx
          rw [hx']
          have a1 := hs j (m - 1) (by omega) (by omega)
          have a2 := hs (m - 1) m (by omega) (by omega)
          omega
        · rcases List.mem_append.1 hz with hz | hz
          · obtain ⟨j, hj, e⟩ := h2 z hz
            exact ⟨j, by omega, e⟩
          · exact ⟨m, by omega, (show z = d[m]! by simpa using hz).symm⟩
        · rcases Nat.lt_or_ge j m with h | h
          · exact List.mem_append_left _ (h3 j h)
          · obtain rfl : j = m := by omega
            simp
theorem at_spec (zs : List Int) : (∀ k, k + 1 < (compact (zs.mergeSort fun x y => decide (x ≤ y))).length → (compact (zs.mergeSort fun x y => decide (x ≤ y))).getD k 0 < (compact (zs.mergeSort fun x y => decide (x ≤ y))).getD (k + 1) 0) ∧ ∀ z, z ∈ zs → z ∈ compact (zs.mergeSort fun x y => decide (x ≤ y)) := by
  obtain ⟨s, hs⟩ : ∃ s, (zs.mergeSort fun x y => decide (x ≤ y)) = s := ⟨_, rfl⟩
  have hp : s.Pairwise fun x y => decide (x ≤ y) = true := by
    rw [← hs]
    refine List.pairwise_mergeSort (fun a b c h1 h2 => ?_) (fun a b => ?_) zs
    · simp only [decide_eq_true_eq] at *; omega
    · simp only [Bool.or_eq_true, decide_eq_true_eq]; omega
  have hm : ∀ z, z ∈ zs → z ∈ s := fun z hz => by rw [← hs]; exact (List.mergeSort_perm _ _).mem_iff.2 hz
  rw [hs]
  have hsort : ∀ i j, i ≤ j → j < s.toArray.size → s.toArray[i]! ≤ s.toArray[j]! := fun i j hij hj => by
    have hj' : j < s.length := by simpa using hj
    rcases Nat.lt_or_ge i j with h | h
    · have := List.pairwise_iff_getElem.1 hp i j (by omega) hj' h
      simp only [decide_eq_true_eq] at this
      rw [getElem!_pos _ i (by simpa using (show i < s.length by omega)), getElem!_pos _ j hj]
      simpa using this
    · obtain rfl : i = j := by omega
      exact Int.le_refl _
  obtain ⟨h1, h2, h3⟩ := comp_spec s.toArray hsort s.length (by simp)
  refine ⟨fun k hk => ?_, fun z hz => ?_⟩
  · have := List.pairwise_iff_getElem.1 h1 k (k + 1) (by unfold compact at hk; omega) (by unfold compact at hk; omega) (by omega)
    have e1 : (compact s).getD k 0 = (compactUpTo s.toArray s.length)[k]'(by unfold compact at hk; omega) := by
      unfold compact at hk ⊢
      simp [show k < (compactUpTo s.toArray s.length).length by omega]
    have e2 : (compact s).getD (k + 1) 0 = (compactUpTo s.toArray s.length)[k + 1]'(by unfold compact at hk; omega) := by
      unfold compact at hk ⊢
      simp [hk]
    rw [e1, e2]
    exact this
  · obtain ⟨j, hj, e⟩ := List.mem_iff_getElem.1 (hm z hz)
    have := h3 j hj
    rw [getElem!_pos _ j (by simpa using hj)] at this
    unfold compact
    rw [← e]
    simpa using this
end Go.Proofs.YtlfpfeidaohjmaaDoor
