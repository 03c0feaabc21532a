/- The plan of a night that is best: the plain law, first part (what is done soonest; chains of jobs). Nothing of a program stands here. -/
set_option linter.unusedSimpArgs false
set_option linter.unusedVariables false
namespace Go.Night

structure Jb where
  name : ByteArray
  win : List (Int × Int)
  long : Int
  worth : Int

def hit (long t : Int) (w : Int × Int) : Option Int := if max t w.1 ≤ w.2 - long then some (max t w.1) else none
/-- The first moment from t on at which a job can begin. -/
def soon (j : Jb) (t : Int) : Option Int := j.win.findSome? (hit j.long t)

theorem findSome_take {α β : Type} (f : α → Option β) (l : List α) (k : Nat) (hk : k < l.length) (h : (l.take k).findSome? f = none) {y : β} (hy : f l[k] = some y) : l.findSome? f = some y := by
  have e : l = l.take k ++ l[k] :: l.drop (k + 1) := by rw [List.getElem_cons_drop, List.take_append_drop]
  rw [e, List.findSome?_append, h]
  simp only [List.findSome?_cons, hy, Option.none_or]
theorem findSome_succ {α β : Type} (f : α → Option β) (l : List α) (k : Nat) (hk : k < l.length) (h : (l.take k).findSome? f = none) (hy : f l[k] = none) : (l.take (k + 1)).findSome? f = none := by
  rw [List.take_succ_eq_append_getElem hk, List.findSome?_append, h]
  simp [hy]

/-- Windows that rise. -/
def Up (l : List (Int × Int)) : Prop := l.Pairwise fun s t => s.2 ≤ t.1

theorem soon_mono {long : Int} (hlong : 0 ≤ long) : ∀ (l : List (Int × Int)), Up l → ∀ {t t' a' : Int}, t ≤ t' → l.findSome? (hit long t') = some a' → ∃ a, l.findSome? (hit long t) = some a ∧ a ≤ a'
  | [], _, t, t', a', _, h => by cases h
  | w :: l, hu, t, t', a', ht, h => by
    unfold Up at hu
    rw [List.pairwise_cons] at hu
    obtain ⟨h1, h2⟩ := hu
    simp only [List.findSome?_cons] at h ⊢
    have e0 : ∀ x : Int, hit long x w = if max x w.1 ≤ w.2 - long then some (max x w.1) else none := fun _ => rfl
    by_cases c : max t' w.1 ≤ w.2 - long
    · rw [e0, if_pos c] at h
      simp at h
      have c2 : max t w.1 ≤ w.2 - long := by omega
      rw [e0, if_pos c2]
      exact ⟨_, rfl, by omega⟩
    · rw [e0, if_neg c] at h
      simp only at h
      by_cases c2 : max t w.1 ≤ w.2 - long
      · rw [e0, if_pos c2]
        refine ⟨_, rfl, ?_⟩
        obtain ⟨v, hv, hv2⟩ := List.exists_of_findSome?_eq_some h
        have := h1 v hv
        unfold hit at hv2
        split at hv2
        · simp at hv2; omega
        · cases hv2
      · rw [e0, if_neg c2]
        exact soon_mono hlong l h2 ht h

theorem soon_in {j : Jb} {t a : Int} (h : soon j t = some a) : t ≤ a ∧ ∃ w ∈ j.win, w.1 ≤ a ∧ a ≤ w.2 - j.long := by
  obtain ⟨v, hv, hv2⟩ := List.exists_of_findSome?_eq_some h
  unfold hit at hv2
  split at hv2
  · rename_i hc
    simp at hv2
    exact ⟨by omega, v, hv, by omega, by omega⟩
  · cases hv2

/-- Right jobs. -/
structure Good (l : List Jb) : Prop where
  up : ∀ j ∈ l, Up j.win
  long : ∀ j ∈ l, 1 ≤ j.long
  worth : ∀ j ∈ l, 1 ≤ j.worth

def dj : Jb := ⟨.empty, [], 0, 0⟩
def at_ (l : List Jb) (k : Nat) : Jb := l.getD k dj
theorem at_mem {l : List Jb} {k : Nat} (h : k < l.length) : at_ l k ∈ l := by unfold at_; simp [h]
theorem soon_le {l : List Jb} (hg : Good l) {k : Nat} (hk : k < l.length) {t t' a' : Int} (ht : t ≤ t') (h : soon (at_ l k) t' = some a') : ∃ a, soon (at_ l k) t = some a ∧ a ≤ a' :=
  soon_mono (by have := hg.long _ (at_mem hk); omega) _ (hg.up _ (at_mem hk)) ht h

/-- Where a chain of jobs ends. -/
def fin (l : List Jb) : Int → List Nat → Option Int
  | t, [] => some t
  | t, k :: p => match soon (at_ l k) t with
    | some a => fin l (a + (at_ l k).long) p
    | none => none
theorem fin_append (l : List Jb) : ∀ (p q : List Nat) (t : Int), fin l t (p ++ q) = (fin l t p).bind fun e => fin l e q
  | [], q, t => rfl
  | k :: p, q, t => by
    simp only [List.cons_append, fin]
    cases soon (at_ l k) t with
    | none => rfl
    | some a => exact fin_append l p q _
theorem fin_snoc (l : List Jb) (p : List Nat) (k : Nat) (t : Int) : fin l t (p ++ [k]) = (fin l t p).bind fun e => (soon (at_ l k) e).map (· + (at_ l k).long) := by
  rw [fin_append]
  congr 1
  funext e
  simp only [fin]
  cases soon (at_ l k) e <;> rfl

def sum (l : List Jb) (p : List Nat) : Int := (p.map fun k => (at_ l k).worth).sum
/-- Of some jobs, each once, none of which is in u. -/
structure Free (l : List Jb) (u : Nat) (p : List Nat) : Prop where
  nodup : p.Nodup
  lt : ∀ k ∈ p, k < l.length
  out : ∀ k ∈ p, u.testBit k = false

def add (X k : Nat) : Nat := X ||| (1 <<< k)
theorem testBit_add (X k i : Nat) : (add X k).testBit i = (X.testBit i || decide (i = k)) := by
  unfold add
  rw [Nat.testBit_or, Nat.one_shiftLeft, Nat.testBit_two_pow]
  congr 1
  rw [decide_eq_decide]; omega

/-! The document's: all chains are tried. -/
def mostAt (l : List Jb) (f : Nat → Int → Int) (u : Nat) (t : Int) : Nat → Int
  | 0 => 0
  | i + 1 => if u.testBit i then mostAt l f u t i else match soon (at_ l i) t with
    | none => mostAt l f u t i
    | some a => max (mostAt l f u t i) ((at_ l i).worth + f (add u i) (a + (at_ l i).long))
def mostF (l : List Jb) : Nat → Nat → Int → Int
  | 0 => fun _ _ => 0
  | n + 1 => fun u t => mostAt l (mostF l n) u t l.length

theorem mostAt_nonneg (l : List Jb) (f : Nat → Int → Int) (u : Nat) (t : Int) : ∀ i, 0 ≤ mostAt l f u t i
  | 0 => Int.le_refl _
  | i + 1 => by
    have := mostAt_nonneg l f u t i
    unfold mostAt
    split
    · exact this
    · split <;> omega
theorem mostF_nonneg (l : List Jb) (n u : Nat) (t : Int) : 0 ≤ mostF l n u t := by
  cases n with
  | zero => exact Int.le_refl _
  | succ n => exact mostAt_nonneg ..
theorem mostAt_ge (l : List Jb) (f : Nat → Int → Int) (u : Nat) (t : Int) {k : Nat} {a : Int} (hu : u.testBit k = false) (ha : soon (at_ l k) t = some a) : ∀ i, k < i → (at_ l k).worth + f (add u k) (a + (at_ l k).long) ≤ mostAt l f u t i
  | 0, h => absurd h (by omega)
  | i + 1, h => by
    unfold mostAt
    by_cases e : k = i
    · subst e
      rw [if_neg (by rw [hu]; simp), ha]
      simp only; omega
    · have := mostAt_ge l f u t hu ha i (by omega)
      split
      · exact this
      · split <;> omega
theorem mostAt_is (l : List Jb) (f : Nat → Int → Int) (u : Nat) (t : Int) : ∀ i, i ≤ l.length → mostAt l f u t i = 0 ∨ ∃ k a, k < i ∧ u.testBit k = false ∧ soon (at_ l k) t = some a ∧ mostAt l f u t i = (at_ l k).worth + f (add u k) (a + (at_ l k).long)
  | 0, _ => .inl rfl
  | i + 1, h => by
    have ih := mostAt_is l f u t i (by omega)
    have ih2 : ∀ x, x = mostAt l f u t i → x = 0 ∨ ∃ k a, k < i + 1 ∧ u.testBit k = false ∧ soon (at_ l k) t = some a ∧ x = (at_ l k).worth + f (add u k) (a + (at_ l k).long) := fun x hx => by
      rcases ih with h1 | ⟨k, a, h1, h2, h3, h4⟩
      · exact .inl (hx.trans h1)
      · exact .inr ⟨k, a, by omega, h2, h3, hx.trans h4⟩
    unfold mostAt
    by_cases c : u.testBit i = true
    · rw [if_pos c]; exact ih2 _ rfl
    · rw [if_neg c]
      cases hs : soon (at_ l i) t with
      | none => exact ih2 _ rfl
      | some a =>
        simp only
        rcases Int.le_total (mostAt l f u t i) ((at_ l i).worth + f (add u i) (a + (at_ l i).long)) with hle | hle
        · exact .inr ⟨i, a, by omega, by simpa using c, hs, by omega⟩
        · exact ih2 _ (by omega)

theorem mostF_ge (l : List Jb) : ∀ (p : List Nat) (n u : Nat) (t e : Int), p.length ≤ n → Free l u p → fin l t p = some e → sum l p ≤ mostF l n u t
  | [], n, u, t, e, _, _, _ => mostF_nonneg ..
  | k :: p, 0, u, t, e, hn, _, _ => absurd hn (by simp)
  | k :: p, n + 1, u, t, e, hn, hf, he => by
    simp only [fin] at he
    cases hs : soon (at_ l k) t with
    | none => rw [hs] at he; cases he
    | some a =>
      rw [hs] at he
      simp only at he
      have hnd := List.nodup_cons.1 hf.nodup
      have h1 := mostF_ge l p n (add u k) (a + (at_ l k).long) e (by simpa using hn) ⟨hnd.2, fun i hi => hf.lt i (by simp [hi]), fun i hi => by
        rw [testBit_add, hf.out i (by simp [hi])]
        simp only [Bool.false_or, decide_eq_false_iff_not]
        intro h; subst h; exact hnd.1 hi⟩ he
      have h2 := mostAt_ge l (mostF l n) u t (hf.out k (by simp)) hs l.length (hf.lt k (by simp))
      show sum l (k :: p) ≤ mostAt l (mostF l n) u t l.length
      have : sum l (k :: p) = (at_ l k).worth + sum l p := by simp [sum]
      omega
theorem mostF_is (l : List Jb) : ∀ (n u : Nat) (t : Int), ∃ p e, Free l u p ∧ fin l t p = some e ∧ sum l p = mostF l n u t
  | 0, u, t => ⟨[], t, ⟨List.nodup_nil, by simp, by simp⟩, rfl, rfl⟩
  | n + 1, u, t => by
    rcases mostAt_is l (mostF l n) u t l.length (Nat.le_refl _) with h | ⟨k, a, h1, h2, h3, h4⟩
    · exact ⟨[], t, ⟨List.nodup_nil, by simp, by simp⟩, rfl, by show (0 : Int) = mostAt l (mostF l n) u t l.length; omega⟩
    · obtain ⟨p, e, hf, he, hsum⟩ := mostF_is l n (add u k) (a + (at_ l k).long)
      have hk : k ∉ p := fun hk => by
        have := hf.out k hk
        rw [testBit_add] at this
        simp at this
      refine ⟨k :: p, e, ⟨List.nodup_cons.2 ⟨hk, hf.nodup⟩, fun i hi => ?_, fun i hi => ?_⟩, ?_, ?_⟩
      · rcases List.mem_cons.1 hi with rfl | hi
        · exact h1
        · exact hf.lt i hi
      · rcases List.mem_cons.1 hi with rfl | hi
        · exact h2
        · have := hf.out i hi
          rw [testBit_add] at this
          simp at this
          exact this.1
      · simp only [fin, h3]; exact he
      · show sum l (k :: p) = mostAt l (mostF l n) u t l.length
        rw [h4, ← hsum]; simp [sum]
end Go.Night
