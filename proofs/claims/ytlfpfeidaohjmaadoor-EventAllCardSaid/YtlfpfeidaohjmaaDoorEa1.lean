/- All events of a track, put in their order: plain. -/
import Derived.Test.YtlfpfeidaohjmaaDoorEc1
import Derived.Sort.LotA
set_option linter.unusedSimpArgs false
set_option linter.unusedVariables false
namespace Go.Proofs.YtlfpfeidaohjmaaDoor
open Go.Bg

instance : Inhabited Ev := ⟨⟨0, 0, 0⟩⟩
def aheadE (x e : Ev) : Bool := decide (x.at' < e.at') || (decide (x.at' = e.at') && (decide (x.ix < e.ix) || (decide (x.ix = e.ix) && decide (x.k < e.k))))
theorem ahead_iff (x e : Ev) : aheadE x e = true ↔ x.at' < e.at' ∨ (x.at' = e.at' ∧ (x.ix < e.ix ∨ (x.ix = e.ix ∧ x.k < e.k))) := by simp [aheadE]
theorem ahead_not (x e : Ev) : aheadE x e = false ↔ ¬ (x.at' < e.at' ∨ (x.at' = e.at' ∧ (x.ix < e.ix ∨ (x.ix = e.ix ∧ x.k < e.k)))) := by
  rw [← ahead_iff]; simp
theorem swoE : Sort.SWO aheadE where
  irrefl x := by rw [ahead_not]; omega
  trans x y z h1 h2 := by rw [ahead_iff] at *; omega
  ntrans x y z h1 h2 := by rw [ahead_not] at *; omega
theorem ahead_eq (x y : Ev) (h1 : aheadE x y = false) (h2 : aheadE y x = false) : x = y := by
  rw [ahead_not] at h1 h2
  obtain ⟨a, b, c⟩ := x
  obtain ⟨d, e, f⟩ := y
  simp only at h1 h2
  rw [Ev.mk.injEq]
  omega
/-- An event put into a list. -/
def putE : List Ev → Ev → List Ev
  | [], e => [e]
  | x :: l, e => if aheadE x e then x :: putE l e else e :: x :: l
theorem putE_perm : ∀ (l : List Ev) (e : Ev), (putE l e).Perm (l ++ [e])
  | [], e => List.Perm.refl _
  | x :: l, e => by
    unfold putE
    split
    · exact (putE_perm l e).cons x
    · exact (List.perm_append_singleton e (x :: l)).symm
theorem putE_length (l : List Ev) (e : Ev) : (putE l e).length = l.length + 1 := by
  rw [(putE_perm l e).length_eq]; simp
theorem putE_sorted : ∀ {l : List Ev} {e : Ev}, l.Pairwise (fun x y => aheadE y x = false) → (putE l e).Pairwise (fun x y => aheadE y x = false)
  | [], e, _ => by simp [putE]
  | x :: l, e, h => by
    obtain ⟨h1, h2⟩ := List.pairwise_cons.1 h
    unfold putE
    split
    · rename_i h3
      refine List.pairwise_cons.2 ⟨fun y hy => ?_, putE_sorted h2⟩
      have h4 := (putE_perm l e).mem_iff.1 hy
      rcases List.mem_append.1 h4 with h5 | h5
      · exact h1 y h5
      · simp at h5
        subst h5
        rw [ahead_iff] at h3
        rw [ahead_not]
        omega
    · rename_i h3
      have h3' : aheadE x e = false := by simpa using h3
      refine List.pairwise_cons.2 ⟨fun y hy => ?_, h⟩
      rcases List.mem_cons.1 hy with rfl | h5
      · exact h3'
      · exact swoE.ntrans _ _ _ (h1 y h5) h3'
/-- Where it is put. -/
theorem putE_at : ∀ (l : List Ev) (e : Ev) (k : Nat), k ≤ l.length → (∀ j (h : j < l.length), j < k → aheadE l[j] e = true) → (∀ h : k < l.length, aheadE l[k] e = false) → putE l e = l.take k ++ e :: l.drop k
  | [], e, k, hk, _, _ => by
    have : k = 0 := by simpa using hk
    subst this
    rfl
  | x :: l, e, 0, _, _, h2 => by
    have h3 : aheadE x e = false := h2 (by simp)
    unfold putE
    rw [h3]
    rfl
  | x :: l, e, k + 1, hk, h1, h2 => by
    have h3 : aheadE x e = true := h1 0 (by simp) (by omega)
    unfold putE
    rw [h3, if_pos rfl, putE_at l e k (by simpa using hk) (fun j hj hk2 => h1 (j + 1) (by simpa using hj) (by omega)) (fun h => h2 (by simpa using h))]
    rfl
def sortE (l : List Ev) : List Ev := l.foldl putE []
theorem foldE_perm : ∀ (l m : List Ev), (l.foldl putE m).Perm (m ++ l)
  | [], m => by simp
  | e :: l, m => by
    show (l.foldl putE (putE m e)).Perm _
    refine (foldE_perm l _).trans ?_
    have h := (putE_perm m e).append_right l
    rw [List.append_assoc] at h
    exact h
theorem foldE_sorted : ∀ (l m : List Ev), m.Pairwise (fun x y => aheadE y x = false) → (l.foldl putE m).Pairwise (fun x y => aheadE y x = false)
  | [], m, h => h
  | e :: l, m, h => foldE_sorted l _ (putE_sorted h)
theorem sortE_perm (l : List Ev) : (sortE l).Perm l := foldE_perm l []
theorem sortE_length (l : List Ev) : (sortE l).length = l.length := (sortE_perm l).length_eq
theorem sortE_snoc (l : List Ev) (e : Ev) : sortE (l ++ [e]) = putE (sortE l) e := by
  unfold sortE; rw [List.foldl_append]; rfl
theorem sortE_sorted (l : List Ev) : (sortE l).Pairwise (fun x y => aheadE y x = false) := foldE_sorted l [] List.Pairwise.nil
theorem permIn_of {l m : List Ev} (h : m.Perm l) : Sort.PermIn 0 l.toArray.size l.toArray m.toArray := by
  have e := h.length_eq
  refine ⟨by simpa using e, fun i hi => ?_, ?_⟩
  · have h1 : ¬ i < l.toArray.size := by omega
    have h2 : ¬ i < m.toArray.size := by simp at h1 ⊢; omega
    simp only [Array.getElem!_eq_getD, Array.getD, dif_neg h1, dif_neg h2]
  · have e1 : (m.toArray.extract 0 l.toArray.size) = m.toArray := by
      rw [show l.toArray.size = m.toArray.size by simpa using e.symm]; simp
    have e2 : (l.toArray.extract 0 l.toArray.size) = l.toArray := by simp
    rw [e1, e2]
    exact h
theorem sortedIn_of {m : List Ev} {n : Nat} (hn : n = m.length) (h : m.Pairwise (fun x y => aheadE y x = false)) : Sort.SortedIn aheadE 0 n m.toArray := by
  intro i j _ hij hj
  subst hn
  have h1 := List.pairwise_iff_getElem.1 h i j (by omega) hj hij
  rw [getElem!_pos m.toArray i (by simpa using (show i < m.length by omega)), getElem!_pos m.toArray j (by simpa using hj)]
  simpa using h1
/-- One sorted list. -/
theorem sorted_same {l : List Ev} {d : Array Ev} (h1 : Sort.PermIn 0 l.toArray.size l.toArray d) (h2 : Sort.SortedIn aheadE 0 l.toArray.size d) : d.toList = sortE l := by
  rw [Sort.sorted_unique_holds swoE ahead_eq _ _ h1 h2]
  exact (Sort.sorted_unique_holds swoE ahead_eq _ _ (permIn_of (sortE_perm l)) (sortedIn_of (by simp [sortE_length]) (sortE_sorted l))).symm
/-- How many at a row's begin are the same. -/
def runL : List Int → Int → Nat
  | [], _ => 0
  | x :: l, v => if x = v then runL l v + 1 else 0
theorem runL_eq : ∀ (l : List Int) (v : Int) (m : Nat), m ≤ l.length → (∀ j (h : j < l.length), j < m → l[j] = v) → (∀ h : m < l.length, l[m] ≠ v) → runL l v = m
  | [], v, m, hm, _, _ => by
    have : m = 0 := by simpa using hm
    subst this
    rfl
  | x :: l, v, 0, _, _, h2 => by
    unfold runL
    rw [if_neg (show ¬ x = v from h2 (by simp))]
  | x :: l, v, m + 1, hm, h1, h2 => by
    unfold runL
    rw [if_pos (show x = v from h1 0 (by simp) (by omega)), runL_eq l v m (by simpa using hm) (fun j hj hk => h1 (j + 1) (by simpa using hj) (by omega)) (fun h => h2 (by simpa using h))]
/-- The last of those at a place and behind it that are as high. -/
def platE (L : List Int) (i : Nat) : Nat := i + runL (L.drop (i + 1)) (L.getD i 0)
theorem platE_eq {L : List Int} {i k : Nat} (h0 : i ≤ k) (hk : k < L.length) (h1 : ∀ j (h : j < L.length), i < j → j ≤ k → L[j] = L.getD i 0) (h2 : ∀ h : k + 1 < L.length, L[k + 1] ≠ L.getD i 0) : platE L i = k := by
  unfold platE
  rw [runL_eq (L.drop (i + 1)) (L.getD i 0) (k - i) (by simp; omega) (fun j hj hm => by
      simp at hj
      rw [List.getElem_drop]
      exact h1 (i + 1 + j) (by omega) (by omega) (by omega)) (fun h => by
      simp at h
      rw [List.getElem_drop]
      have e : i + 1 + (k - i) = k + 1 := by omega
      simp only [e]
      exact h2 (by omega))]
  omega
def turn1 (F : Int) (S : Nat) (n : Int) (L : List Int) (i : Nat) : List Ev :=
  if platE L i + 1 < L.length ∧ L.getD (i - 1) 0 ≠ L.getD i 0 then
    if L.getD (i - 1) 0 < L.getD i 0 ∧ L.getD (platE L i + 1) 0 < L.getD i 0 ∧ n < L.getD i 0 then [⟨3, F + (i : Int) * S, i⟩]
    else if L.getD i 0 < L.getD (i - 1) 0 ∧ L.getD i 0 < L.getD (platE L i + 1) 0 ∧ L.getD i 0 ≤ n then [⟨4, F + (i : Int) * S, i⟩]
    else []
  else []
theorem turn1_le (F : Int) (S : Nat) (n : Int) (L : List Int) (i : Nat) : (turn1 F S n L i).length ≤ 1 := by
  unfold turn1
  split
  · split
    · simp
    · split <;> simp
  · simp
/-- The peaks and dips at the places ahead of one. -/
def trUp (F : Int) (S : Nat) (n : Int) (L : List Int) : Nat → List Ev
  | 0 => []
  | 1 => []
  | k + 2 => trUp F S n L (k + 1) ++ turn1 F S n L (k + 1)
theorem trUp_succ (F : Int) (S : Nat) (n : Int) (L : List Int) (k : Nat) (h : 1 ≤ k) : trUp F S n L (k + 1) = trUp F S n L k ++ turn1 F S n L k := by
  obtain ⟨j, rfl⟩ : ∃ j, k = j + 1 := ⟨k - 1, by omega⟩
  rfl
theorem trUp_le (F : Int) (S : Nat) (n : Int) (L : List Int) : ∀ k, (trUp F S n L k).length ≤ k
  | 0 => by simp [trUp]
  | 1 => by simp [trUp]
  | k + 2 => by
    have h1 := trUp_le F S n L (k + 1)
    have h2 := turn1_le F S n L (k + 1)
    rw [trUp_succ F S n L (k + 1) (by omega), List.length_append]
    omega
theorem turn1_same {F : Int} {S : Nat} {n : Int} {L : List Int} {i : Nat} (h : L.getD (i - 1) 0 = L.getD i 0) : turn1 F S n L i = [] := by
  unfold turn1
  rw [if_neg (fun hh => hh.2 h)]
theorem turn1_end {F : Int} {S : Nat} {n : Int} {L : List Int} {i : Nat} (h : L.length ≤ platE L i + 1) : turn1 F S n L i = [] := by
  unfold turn1
  rw [if_neg (fun hh => by have := hh.1; omega)]
/-- Over a row of the same: nothing but at its begin. -/
theorem trUp_run {F : Int} {S : Nat} {n : Int} {L : List Int} {a : Nat} (ha : 1 ≤ a) : ∀ b, a ≤ b → b < L.length → (∀ j (h : j < L.length), a < j → j ≤ b → L[j] = L.getD a 0) → trUp F S n L (b + 1) = trUp F S n L a ++ turn1 F S n L a := by
  intro b
  induction b with
  | zero => intro h _ _; omega
  | succ b ih =>
    intro hab hb hh
    by_cases h1 : a = b + 1
    · subst h1
      exact trUp_succ _ _ _ _ _ ha
    · have hz : turn1 F S n L (b + 1) = [] := by
        refine turn1_same ?_
        have e1 := hh (b + 1) hb (by omega) (Nat.le_refl _)
        have e2 : L.getD (b + 1) 0 = L[b + 1] := by simp [hb]
        rw [e2, e1]
        by_cases h2 : b = a
        · subst h2; rfl
        · have h3 : b < L.length := by omega
          have e3 : L.getD (b + 1 - 1) 0 = L[b] := by simp [h3]
          rw [e3]
          exact hh b h3 (by omega) (by omega)
      rw [trUp_succ _ _ _ _ (b + 1) (by omega), ih (by omega) (by omega) (fun j hj h2 h3 => hh j hj h2 (by omega)), hz, List.append_nil]
/-- Nothing at the last place. -/
theorem trUp_last {F : Int} {S : Nat} {n : Int} {L : List Int} (h : 2 ≤ L.length) : trUp F S n L L.length = trUp F S n L (L.length - 1) := by
  obtain ⟨m, hm⟩ : ∃ m, L.length = m + 2 := ⟨L.length - 2, by omega⟩
  rw [hm, trUp_succ _ _ _ _ (m + 1) (by omega), turn1_end, List.append_nil]
  · rfl
  · unfold platE; omega
/-- All events, as they are found. -/
def foundE (F : Int) (S : Nat) (n : Int) (L : List Int) : List Ev := evUp F S n L (L.length - 1) ++ trUp F S n L (L.length - 1)
def allE (F : Int) (S : Nat) (n : Int) (L : List Int) : List Ev := sortE (foundE F S n L)
theorem foundE_len (F : Int) (S : Nat) (n : Int) (L : List Int) : (foundE F S n L).length ≤ 2 * L.length := by
  have h1 := evUp_le F S n L (L.length - 1)
  have h2 := trUp_le F S n L (L.length - 1)
  unfold foundE
  rw [List.length_append]
  omega
/-- The first rise or set from an instant on. -/
def isFirst (x : Int) (e : Ev) : Bool := decide (e.k ≤ 2) && decide (x ≤ e.at')
end Go.Proofs.YtlfpfeidaohjmaaDoor
