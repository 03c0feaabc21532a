/- The plan of a night that is best: the plain law, second part (sets of jobs; what is best). Nothing of a program stands here. -/
import Derived.Test.YtjjjbkehmnfgbaaDoorNp1
set_option linter.unusedSimpArgs false
set_option linter.unusedVariables false
namespace Go.Night

structure Wy where
  ok : Bool
  fin : Int
  last : Nat
  frm : Int

def updW (W : Nat → Wy) (x : Nat) (v : Wy) : Nat → Wy := fun y => if y = x then v else W y
def relax (l : List Jb) (e : Int) (W : Nat → Wy) (s k : Nat) : Nat → Wy :=
  if s.testBit k then W else match soon (at_ l k) e with
    | none => W
    | some a => if (!(W (add s k)).ok || decide (a + (at_ l k).long < (W (add s k)).fin)) = true then updW W (add s k) ⟨true, a + (at_ l k).long, k, a⟩ else W
def inner (l : List Jb) (e : Int) (s : Nat) (W : Nat → Wy) : Nat → (Nat → Wy)
  | 0 => W
  | k + 1 => relax l e (inner l e s W k) s k
def stepW (l : List Jb) (W : Nat → Wy) (s : Nat) : Nat → Wy := if (W s).ok then inner l (W s).fin s W l.length else W
def t0 : Int := -4611686018427387904
def W0 : Nat → Wy := fun x => if x = 0 then ⟨true, t0, 0, 0⟩ else ⟨false, 0, 0, 0⟩
def ways (l : List Jb) : Nat → (Nat → Wy)
  | 0 => W0
  | s + 1 => stepW l (ways l s) s

theorem add_ne {s k : Nat} (h : s.testBit k = false) : s < add s k := by
  have h1 : s ≤ add s k := Nat.left_le_or
  have h2 : s ≠ add s k := fun e => by
    have h3 := testBit_add s k k
    rw [← e, h] at h3
    simp at h3
  omega
theorem relax_cases (l : List Jb) (e : Int) (W : Nat → Wy) (s k X : Nat) : relax l e W s k X = W X ∨ (X = add s k ∧ s.testBit k = false ∧ ∃ a, soon (at_ l k) e = some a ∧ relax l e W s k X = ⟨true, a + (at_ l k).long, k, a⟩ ∧ ((W X).ok = true → a + (at_ l k).long ≤ (W X).fin)) := by
  by_cases c : s.testBit k = true
  · exact .inl (by unfold relax; rw [if_pos c])
  · cases hs : soon (at_ l k) e with
    | none => exact .inl (by unfold relax; rw [if_neg c, hs])
    | some a =>
      have e1 : relax l e W s k = if (!(W (add s k)).ok || decide (a + (at_ l k).long < (W (add s k)).fin)) = true then updW W (add s k) ⟨true, a + (at_ l k).long, k, a⟩ else W := by
        unfold relax; rw [if_neg c, hs]
      rw [e1]
      by_cases c2 : (!(W (add s k)).ok || decide (a + (at_ l k).long < (W (add s k)).fin)) = true
      · rw [if_pos c2]
        by_cases c3 : X = add s k
        · subst c3
          refine .inr ⟨rfl, by simpa using c, a, rfl, by unfold updW; rw [if_pos rfl], fun h => ?_⟩
          rw [h] at c2
          simp at c2; omega
        · exact .inl (by unfold updW; rw [if_neg c3])
      · rw [if_neg c2]; exact .inl rfl
theorem relax_mono (l : List Jb) (e : Int) (W : Nat → Wy) (s k X : Nat) (h : (W X).ok = true) : (relax l e W s k X).ok = true ∧ (relax l e W s k X).fin ≤ (W X).fin := by
  rcases relax_cases l e W s k X with h1 | ⟨_, _, a, _, h3, h4⟩
  · rw [h1]; exact ⟨h, Int.le_refl _⟩
  · rw [h3]; exact ⟨rfl, h4 h⟩
theorem relax_full (l : List Jb) (e : Int) (W : Nat → Wy) (s k : Nat) {a : Int} (hk : s.testBit k = false) (ha : soon (at_ l k) e = some a) : (relax l e W s k (add s k)).ok = true ∧ (relax l e W s k (add s k)).fin ≤ a + (at_ l k).long := by
  have e1 : relax l e W s k = if (!(W (add s k)).ok || decide (a + (at_ l k).long < (W (add s k)).fin)) = true then updW W (add s k) ⟨true, a + (at_ l k).long, k, a⟩ else W := by
    unfold relax; rw [if_neg (by rw [hk]; simp), ha]
  rw [e1]
  by_cases c2 : (!(W (add s k)).ok || decide (a + (at_ l k).long < (W (add s k)).fin)) = true
  · rw [if_pos c2]
    unfold updW; rw [if_pos rfl]; exact ⟨rfl, Int.le_refl _⟩
  · rw [if_neg c2]
    simp at c2
    exact ⟨c2.1, c2.2⟩

theorem inner_cases (l : List Jb) (e : Int) (s : Nat) (W : Nat → Wy) (X : Nat) : ∀ m, inner l e s W m X = W X ∨ ∃ k a, k < m ∧ X = add s k ∧ s.testBit k = false ∧ soon (at_ l k) e = some a ∧ inner l e s W m X = ⟨true, a + (at_ l k).long, k, a⟩
  | 0 => .inl rfl
  | m + 1 => by
    rcases relax_cases l e (inner l e s W m) s m X with h1 | ⟨h1, h2, a, h3, h4, _⟩
    · rcases inner_cases l e s W X m with g | ⟨k, a, g1, g2⟩
      · exact .inl (h1.trans g)
      · refine .inr ⟨k, a, by omega, g2.1, g2.2.1, g2.2.2.1, ?_⟩
        show relax l e (inner l e s W m) s m X = _
        rw [h1]; exact g2.2.2.2
    · exact .inr ⟨m, a, by omega, h1, h2, h3, h4⟩
theorem inner_mono (l : List Jb) (e : Int) (s : Nat) (W : Nat → Wy) (X : Nat) (h : (W X).ok = true) : ∀ m, (inner l e s W m X).ok = true ∧ (inner l e s W m X).fin ≤ (W X).fin
  | 0 => ⟨h, Int.le_refl _⟩
  | m + 1 => by
    obtain ⟨h1, h2⟩ := inner_mono l e s W X h m
    obtain ⟨g1, g2⟩ := relax_mono l e (inner l e s W m) s m X h1
    exact ⟨g1, Int.le_trans g2 h2⟩
theorem inner_full (l : List Jb) (e : Int) (s : Nat) (W : Nat → Wy) {k : Nat} {a : Int} (hk : s.testBit k = false) (ha : soon (at_ l k) e = some a) : ∀ m, k < m → (inner l e s W m (add s k)).ok = true ∧ (inner l e s W m (add s k)).fin ≤ a + (at_ l k).long
  | 0, h => absurd h (by omega)
  | m + 1, h => by
    by_cases c : k = m
    · subst c; exact relax_full l e _ s k hk ha
    · obtain ⟨h1, h2⟩ := inner_full l e s W hk ha m (by omega)
      obtain ⟨g1, g2⟩ := relax_mono l e (inner l e s W m) s m (add s k) h1
      exact ⟨g1, Int.le_trans g2 h2⟩

theorem step_cases (l : List Jb) (s : Nat) (W : Nat → Wy) (X : Nat) : stepW l W s X = W X ∨ ((W s).ok = true ∧ ∃ k a, k < l.length ∧ X = add s k ∧ s.testBit k = false ∧ soon (at_ l k) (W s).fin = some a ∧ stepW l W s X = ⟨true, a + (at_ l k).long, k, a⟩) := by
  unfold stepW
  by_cases c : (W s).ok = true
  · rw [if_pos c]
    rcases inner_cases l (W s).fin s W X l.length with h | h
    · exact .inl h
    · exact .inr ⟨c, h⟩
  · rw [if_neg c]; exact .inl rfl
theorem step_le (l : List Jb) (s : Nat) (W : Nat → Wy) (X : Nat) (h : X ≤ s) : stepW l W s X = W X := by
  rcases step_cases l s W X with h1 | ⟨_, k, a, _, h2, h3, _⟩
  · exact h1
  · have := add_ne h3; omega
theorem ways_le (l : List Jb) (X : Nat) : ∀ m, X ≤ m → ways l m X = ways l X X
  | 0, h => by obtain rfl : X = 0 := by omega
               rfl
  | m + 1, h => by
    by_cases c : X = m + 1
    · rw [c]
    · have h1 := ways_le l X m (by omega)
      show stepW l (ways l m) m X = _
      rw [step_le _ _ _ _ (by omega), h1]
/-- The way of a set of jobs at last. -/
def way (l : List Jb) (X : Nat) : Wy := ways l X X
theorem ways_mono (l : List Jb) (X : Nat) : ∀ m n, m ≤ n → (ways l m X).ok = true → (ways l n X).ok = true ∧ (ways l n X).fin ≤ (ways l m X).fin
  | m, 0, h, hk => by obtain rfl : m = 0 := by omega
                      exact ⟨hk, Int.le_refl _⟩
  | m, n + 1, h, hk => by
    by_cases c : m = n + 1
    · subst c; exact ⟨hk, Int.le_refl _⟩
    · obtain ⟨h1, h2⟩ := ways_mono l X m n (by omega) hk
      show (stepW l (ways l n) n X).ok = true ∧ (stepW l (ways l n) n X).fin ≤ _
      unfold stepW
      by_cases c2 : (ways l n n).ok = true
      · rw [if_pos c2]
        obtain ⟨g1, g2⟩ := inner_mono l (ways l n n).fin n (ways l n) X h1 l.length
        exact ⟨g1, Int.le_trans g2 h2⟩
      · rw [if_neg c2]; exact ⟨h1, h2⟩
theorem ways_sound (l : List Jb) (X : Nat) : ∀ m, (ways l m X).ok = true → (X = 0 ∧ (ways l m X).fin = t0) ∨ ∃ Y k a, Y < m ∧ k < l.length ∧ X = add Y k ∧ Y.testBit k = false ∧ (way l Y).ok = true ∧ soon (at_ l k) (way l Y).fin = some a ∧ ways l m X = ⟨true, a + (at_ l k).long, k, a⟩
  | 0, h => by
    by_cases c : X = 0
    · subst c; exact .inl ⟨rfl, rfl⟩
    · change (W0 X).ok = true at h
      unfold W0 at h; rw [if_neg c] at h; cases h
  | m + 1, h => by
    rcases step_cases l m (ways l m) X with h1 | ⟨h0, k, a, h2, h3, h4, h5, h6⟩
    · have e : ways l (m + 1) X = ways l m X := h1
      rw [e] at h ⊢
      rcases ways_sound l X m h with g | ⟨Y, k, a, g1, g2⟩
      · exact .inl g
      · exact .inr ⟨Y, k, a, by omega, g2⟩
    · exact .inr ⟨m, k, a, by omega, h2, h3, h4, h0, h5, h6⟩
theorem way_zero (l : List Jb) : way l 0 = ⟨true, t0, 0, 0⟩ := rfl
theorem way_sound (l : List Jb) {X : Nat} (h : (way l X).ok = true) (h0 : X ≠ 0) : ∃ Y k a, Y < X ∧ k < l.length ∧ X = add Y k ∧ Y.testBit k = false ∧ (way l Y).ok = true ∧ soon (at_ l k) (way l Y).fin = some a ∧ way l X = ⟨true, a + (at_ l k).long, k, a⟩ := by
  rcases ways_sound l X X h with g | g
  · exact absurd g.1 h0
  · exact g
theorem way_full (l : List Jb) {Y k : Nat} {a : Int} (hk : k < l.length) (hb : Y.testBit k = false) (hY : (way l Y).ok = true) (ha : soon (at_ l k) (way l Y).fin = some a) : (way l (add Y k)).ok = true ∧ (way l (add Y k)).fin ≤ a + (at_ l k).long := by
  have h0 := add_ne hb
  have h1 : (ways l (Y + 1) (add Y k)).ok = true ∧ (ways l (Y + 1) (add Y k)).fin ≤ a + (at_ l k).long := by
    show (stepW l (ways l Y) Y (add Y k)).ok = true ∧ (stepW l (ways l Y) Y (add Y k)).fin ≤ _
    unfold stepW
    rw [if_pos (show (ways l Y Y).ok = true from hY)]
    exact inner_full l (ways l Y Y).fin Y (ways l Y) hb ha l.length hk
  obtain ⟨g1, g2⟩ := ways_mono l (add Y k) (Y + 1) (add Y k) (by omega) h1.1
  exact ⟨g1, Int.le_trans g2 h1.2⟩

/-! Chains of jobs and sets of them. -/
def setOf (p : List Nat) : Nat := p.foldl add 0
theorem setOf_snoc (p : List Nat) (k : Nat) : setOf (p ++ [k]) = add (setOf p) k := by unfold setOf; rw [List.foldl_append]; rfl
theorem snoc_ind {α : Type} {P : List α → Prop} (h0 : P []) (h1 : ∀ p x, P p → P (p ++ [x])) (p : List α) : P p := by
  have h : ∀ (n : Nat) (p : List α), p.length = n → P p := by
    intro n
    induction n with
    | zero => intro p hp; rw [List.eq_nil_of_length_eq_zero hp]; exact h0
    | succ n ih =>
      intro p hp
      rcases List.eq_nil_or_concat p with rfl | ⟨q, x, rfl⟩
      · exact h0
      · rw [List.concat_eq_append] at hp ⊢
        exact h1 q x (ih q (by simpa using hp))
  exact h _ p rfl
theorem testBit_setOf (p : List Nat) (i : Nat) : (setOf p).testBit i = decide (i ∈ p) := by
  induction p using snoc_ind with
  | h0 => simp [setOf]
  | h1 p x ih =>
    rw [setOf_snoc, testBit_add, ih]
    simp [Bool.decide_or]
def wUp (l : List Jb) (X : Nat) : Nat → Int
  | 0 => 0
  | k + 1 => if X.testBit k then wUp l X k + (at_ l k).worth else wUp l X k
def worthOf (l : List Jb) (X : Nat) : Int := wUp l X l.length
theorem wUp_add (l : List Jb) {X k : Nat} (h : X.testBit k = false) : ∀ m, wUp l (add X k) m = wUp l X m + if k < m then (at_ l k).worth else 0
  | 0 => by simp [wUp]
  | m + 1 => by
    unfold wUp
    rw [wUp_add l h m, testBit_add]
    by_cases c : m = k
    · subst c
      simp [h]
    · have e1 : (k < m) = (k < m + 1) := by rw [eq_iff_iff]; omega
      simp only [e1, c, decide_false, Bool.or_false]
      split <;> omega
theorem worthOf_zero (l : List Jb) : worthOf l 0 = 0 := by
  unfold worthOf
  generalize l.length = m
  induction m with
  | zero => rfl
  | succ m ih => unfold wUp; simp [ih]
theorem worthOf_add (l : List Jb) {X k : Nat} (h : X.testBit k = false) (hk : k < l.length) : worthOf l (add X k) = worthOf l X + (at_ l k).worth := by
  unfold worthOf; rw [wUp_add l h, if_pos hk]
theorem nodup_snoc {p : List Nat} {x : Nat} (h : (p ++ [x]).Nodup) : p.Nodup ∧ x ∉ p := by
  rw [List.nodup_append] at h
  exact ⟨h.1, fun hx => h.2.2 x hx x (by simp) rfl⟩
theorem worthOf_setOf (l : List Jb) (p : List Nat) : p.Nodup → (∀ k ∈ p, k < l.length) → worthOf l (setOf p) = sum l p := by
  induction p using snoc_ind with
  | h0 => intro _ _; exact worthOf_zero l
  | h1 p x ih =>
    intro hn hl
    obtain ⟨h1, h2⟩ := nodup_snoc hn
    rw [setOf_snoc, worthOf_add l (by rw [testBit_setOf]; simpa using h2) (hl x (by simp)), ih h1 fun k hk => hl k (by simp [hk])]
    simp [sum]
theorem way_of_chain {l : List Jb} (hg : Good l) (p : List Nat) : ∀ {e : Int}, p.Nodup → (∀ k ∈ p, k < l.length) → fin l t0 p = some e → (way l (setOf p)).ok = true ∧ (way l (setOf p)).fin ≤ e := by
  induction p using snoc_ind with
  | h0 => intro e _ _ he; simp [fin] at he; subst he; exact ⟨rfl, Int.le_refl _⟩
  | h1 p x ih =>
    intro e hn hl he
    obtain ⟨h1, h2⟩ := nodup_snoc hn
    rw [fin_snoc] at he
    cases hf : fin l t0 p with
    | none => rw [hf] at he; cases he
    | some e1 =>
      rw [hf] at he
      simp only [Option.bind_some] at he
      obtain ⟨g1, g2⟩ := ih h1 (fun k hk => hl k (by simp [hk])) hf
      cases hs : soon (at_ l x) e1 with
      | none => rw [hs] at he; cases he
      | some a =>
        rw [hs] at he
        simp at he
        obtain ⟨b, hb, hle⟩ := soon_le hg (hl x (by simp)) g2 hs
        rw [setOf_snoc]
        obtain ⟨q1, q2⟩ := way_full l (hl x (by simp)) (by rw [testBit_setOf]; simpa using h2) g1 hb
        exact ⟨q1, by omega⟩
theorem chain_of_way (l : List Jb) : ∀ (n X : Nat), X < n → (way l X).ok = true → ∃ p, p.Nodup ∧ (∀ k ∈ p, k < l.length) ∧ setOf p = X ∧ fin l t0 p = some (way l X).fin
  | 0, X, h, _ => absurd h (by omega)
  | n + 1, X, h, hk => by
    by_cases c : X = 0
    · subst c; exact ⟨[], List.nodup_nil, by simp, rfl, rfl⟩
    · obtain ⟨Y, k, a, h1, h2, h3, h4, h5, h6, h7⟩ := way_sound l hk c
      obtain ⟨p, g1, g2, g3, g4⟩ := chain_of_way l n Y (by omega) h5
      have hkp : k ∉ p := fun hin => by
        have := testBit_setOf p k
        rw [g3, h4] at this
        simp [hin] at this
      refine ⟨p ++ [k], ?_, fun i hi => ?_, ?_, ?_⟩
      · rw [List.nodup_append]
        exact ⟨g1, by simp, fun x hx y hy => by simp at hy; subst hy; intro e; subst e; exact hkp hx⟩
      · rcases List.mem_append.1 hi with hi | hi
        · exact g2 i hi
        · simp at hi; subst hi; exact h2
      · rw [setOf_snoc, g3, h3]
      · rw [fin_snoc, g4]
        simp only [Option.bind_some, h6, Option.map_some, h7]

/-! The best. -/
def best (l : List Jb) : Nat → Nat × Int
  | 0 => (0, 0)
  | s + 1 => if (way l s).ok = true ∧ (best l s).2 < worthOf l s then (s, worthOf l s) else best l s
theorem best_spec (l : List Jb) : ∀ s, (way l (best l s).1).ok = true ∧ (best l s).2 = worthOf l (best l s).1 ∧ ((best l s).1 < s ∨ (best l s).1 = 0) ∧ ∀ X, X < s → (way l X).ok = true → worthOf l X ≤ (best l s).2
  | 0 => ⟨rfl, (worthOf_zero l).symm, .inr rfl, fun X h => absurd h (by omega)⟩
  | s + 1 => by
    obtain ⟨h1, h2, h3, h4⟩ := best_spec l s
    unfold best
    by_cases c : (way l s).ok = true ∧ (best l s).2 < worthOf l s
    · rw [if_pos c]
      refine ⟨c.1, rfl, .inl (by show s < s + 1; omega), fun X hX hk => ?_⟩
      show worthOf l X ≤ worthOf l s
      by_cases e : X = s
      · subst e; exact Int.le_refl _
      · have := h4 X (by omega) hk
        omega
    · rw [if_neg c]
      refine ⟨h1, h2, by omega, fun X hX hk => ?_⟩
      by_cases e : X = s
      · subst e
        have : ¬ (best l X).2 < worthOf l X := fun h => c ⟨hk, h⟩
        omega
      · exact h4 X (by omega) hk
theorem setOf_lt {l : List Jb} {p : List Nat} (h : ∀ k ∈ p, k < l.length) : setOf p < 2 ^ l.length := by
  refine Nat.lt_pow_two_of_testBit _ fun i hi => ?_
  rw [testBit_setOf]
  simp only [decide_eq_false_iff_not]
  intro hm
  have := h i hm
  omega
theorem best_most {l : List Jb} (hg : Good l) {m : Nat} (hm : l.length ≤ m) : (best l (2 ^ l.length)).2 = mostF l m 0 t0 := by
  obtain ⟨h1, h2, h3, h4⟩ := best_spec l (2 ^ l.length)
  refine Int.le_antisymm ?_ ?_
  · obtain ⟨p, g1, g2, g3, g4⟩ := chain_of_way l _ _ (Nat.lt_succ_self _) h1
    rw [h2, ← g3, worthOf_setOf l p g1 g2]
    have hlen : p.length ≤ l.length := by
      have := (List.nodup_range (n := l.length))
      have hs : p ⊆ List.range l.length := fun x hx => List.mem_range.2 (g2 x hx)
      have := List.Nodup.length_le_of_subset g1 hs
      simpa using this
    exact mostF_ge l p m 0 t0 _ (Nat.le_trans hlen hm) ⟨g1, g2, fun k _ => by simp⟩ g4
  · obtain ⟨p, e, hf, he, hs⟩ := mostF_is l m 0 t0
    rw [← hs, ← worthOf_setOf l p hf.nodup hf.lt]
    exact h4 _ (setOf_lt hf.lt) (way_of_chain hg p hf.nodup hf.lt he).1

/-! The plan out of the ways. -/
def del (X k : Nat) : Nat := X ^^^ (1 <<< k)
theorem del_add {Y k : Nat} (h : Y.testBit k = false) : del (add Y k) k = Y := by
  apply Nat.eq_of_testBit_eq
  intro i
  unfold del
  rw [Nat.testBit_xor, testBit_add, Nat.one_shiftLeft, Nat.testBit_two_pow]
  by_cases c : k = i
  · subst c; simp [h]
  · have c2 : ¬ i = k := fun e => c e.symm
    simp [c, c2]
inductive Chain (l : List Jb) : Nat → List (Nat × Int) → Prop
  | nil : Chain l 0 []
  | cons {X : Nat} {p : List (Nat × Int)} (h : X ≠ 0) (hk : (way l X).ok = true) (c : Chain l (del X (way l X).last) p) : Chain l X (((way l X).last, (way l X).frm) :: p)
structure IsPlan (l : List Jb) (X : Nat) (e : Int) (p : List (Nat × Int)) : Prop where
  each : ∀ x ∈ p, x.1 < l.length ∧ X.testBit x.1 = true ∧ (∃ w ∈ (at_ l x.1).win, w.1 ≤ x.2 ∧ x.2 ≤ w.2 - (at_ l x.1).long) ∧ x.2 + (at_ l x.1).long ≤ e
  order : p.Pairwise fun x y => x.1 ≠ y.1 ∧ x.2 + (at_ l x.1).long ≤ y.2
  sum : (p.map fun x => (at_ l x.1).worth).sum = worthOf l X
theorem plan_of_way {l : List Jb} (hg : Good l) : ∀ (n X : Nat), X < n → (way l X).ok = true → ∃ p, Chain l X p ∧ IsPlan l X (way l X).fin p.reverse
  | 0, X, h, _ => absurd h (by omega)
  | n + 1, X, h, hk => by
    by_cases c : X = 0
    · subst c
      exact ⟨[], .nil, ⟨by simp, List.Pairwise.nil, (worthOf_zero l).symm⟩⟩
    · obtain ⟨Y, k, a, h1, h2, h3, h4, h5, h6, h7⟩ := way_sound l hk c
      obtain ⟨p, g1, g2⟩ := plan_of_way hg n Y (by omega) h5
      have e1 : (way l X).last = k := by rw [h7]
      have e2 : (way l X).frm = a := by rw [h7]
      have e3 : (way l X).fin = a + (at_ l k).long := by rw [h7]
      obtain ⟨ha, hw⟩ := soon_in h6
      have hlong := hg.long _ (at_mem h2)
      refine ⟨(k, a) :: p, ?_, ?_⟩
      · have := Chain.cons (l := l) (X := X) (p := p) c hk (by rw [e1, h3, del_add h4]; exact g1)
        rwa [e1, e2] at this
      · rw [List.reverse_cons]
        refine ⟨fun x hx => ?_, ?_, ?_⟩
        · rcases List.mem_append.1 hx with hx | hx
          · obtain ⟨q1, q2, q3, q4⟩ := g2.each x hx
            exact ⟨q1, by rw [h3, testBit_add, q2]; rfl, q3, by omega⟩
          · simp at hx; subst hx
            exact ⟨h2, by rw [h3, testBit_add]; simp, hw, by show a + (at_ l k).long ≤ _; omega⟩
        · rw [List.pairwise_append]
          refine ⟨g2.order, by simp, fun x hx y hy => ?_⟩
          simp at hy; subst hy
          obtain ⟨q1, q2, q3, q4⟩ := g2.each x hx
          refine ⟨fun e => ?_, by show _ ≤ a; omega⟩
          simp only at e
          rw [e, h4] at q2; cases q2
        · rw [List.map_append, List.sum_append, g2.sum, h3, worthOf_add l h4 h2]; simp
theorem chain_zero {l : List Jb} {p : List (Nat × Int)} (h : Chain l 0 p) : p = [] := by
  cases h with
  | nil => rfl
  | cons h _ _ => exact absurd rfl h
theorem chain_pos {l : List Jb} {X : Nat} {p : List (Nat × Int)} (h : Chain l X p) (h0 : X ≠ 0) : ∃ q, p = ((way l X).last, (way l X).frm) :: q ∧ Chain l (del X (way l X).last) q ∧ (way l X).ok = true := by
  cases h with
  | nil => exact absurd rfl h0
  | cons _ hk c => exact ⟨_, rfl, c, hk⟩
theorem way_last {l : List Jb} {X : Nat} (h : (way l X).ok = true) (h0 : X ≠ 0) : (way l X).last < l.length ∧ X.testBit (way l X).last = true := by
  obtain ⟨Y, k, a, h1, h2, h3, h4, h5, h6, h7⟩ := way_sound l h h0
  rw [h7]
  exact ⟨h2, by rw [h3, testBit_add]; simp⟩
end Go.Night
