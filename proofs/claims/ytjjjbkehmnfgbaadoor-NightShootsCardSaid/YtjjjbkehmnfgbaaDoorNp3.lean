/- Whether slots are a plan: the plain law. Nothing of a program stands here. -/
import Derived.Test.YtjjjbkehmnfgbaaDoorNp2
set_option linter.unusedSimpArgs false
set_option linter.unusedVariables false
namespace Go.Night

structure Sl where
  name : ByteArray
  frm : Int
def ds : Sl := ⟨.empty, 0⟩
def sl (p : List Sl) (k : Nat) : Sl := p.getD k ds
/-- The last job of that name among the first ones. -/
def idxUp (l : List Jb) (s : ByteArray) : Nat → Option Nat
  | 0 => none
  | n + 1 => if (at_ l n).name = s then some n else idxUp l s n
def idx (l : List Jb) (s : ByteArray) : Option Nat := idxUp l s l.length
def Apart (l : List Jb) : Prop := ∀ i k, i < l.length → k < l.length → (at_ l i).name = (at_ l k).name → i = k
theorem idxUp_some {l : List Jb} {s : ByteArray} : ∀ {n k : Nat}, idxUp l s n = some k → k < n ∧ (at_ l k).name = s
  | 0, k, h => by cases h
  | n + 1, k, h => by
    unfold idxUp at h
    split at h
    · rename_i e
      simp at h; subst h; exact ⟨by omega, e⟩
    · have := idxUp_some h
      exact ⟨by omega, this.2⟩
theorem idxUp_none {l : List Jb} {s : ByteArray} : ∀ {n : Nat}, idxUp l s n = none → ∀ k, k < n → (at_ l k).name ≠ s
  | 0, _, k, hk => absurd hk (by omega)
  | n + 1, h, k, hk => by
    unfold idxUp at h
    split at h
    · cases h
    · rename_i e
      by_cases c : k = n
      · subst c; exact e
      · exact idxUp_none h k (by omega)
theorem idx_is {l : List Jb} (ha : Apart l) {s : ByteArray} {k : Nat} (hk : k < l.length) (e : (at_ l k).name = s) : idx l s = some k := by
  cases h : idx l s with
  | none => exact absurd e (idxUp_none h k hk)
  | some i =>
    obtain ⟨h1, h2⟩ := idxUp_some h
    rw [ha i k h1 hk (h2.trans e.symm)]
theorem idx_none {l : List Jb} {s : ByteArray} (h : ∀ k, k < l.length → (at_ l k).name ≠ s) : idx l s = none := by
  cases h2 : idx l s with
  | none => rfl
  | some i =>
    obtain ⟨h3, h4⟩ := idxUp_some h2
    exact absurd h4 (h i h3)

def fitB (long f : Int) (w : Int × Int) : Bool := decide (w.1 ≤ f) && decide (f ≤ w.2 - long)
def inWin (j : Jb) (f : Int) : Bool := j.win.any (fitB j.long f)
def longOf (l : List Jb) (s : ByteArray) : Int := match idx l s with
  | none => 0
  | some k => (at_ l k).long
def endAt (l : List Jb) (p : List Sl) (n : Nat) : Int := (sl p n).frm + longOf l (sl p n).name
/-- Does the n-th slot stand in the i-th's way? -/
def clash (l : List Jb) (p : List Sl) (i n : Nat) : Bool := decide ((sl p n).name = (sl p i).name) || decide ((sl p i).frm < endAt l p n)
def clashUp (l : List Jb) (p : List Sl) (i : Nat) : Nat → Bool
  | 0 => false
  | n + 1 => clashUp l p i n || clash l p i n
def okSlot (l : List Jb) (p : List Sl) (i : Nat) : Bool := match idx l (sl p i).name with
  | none => false
  | some k => inWin (at_ l k) (sl p i).frm && !clashUp l p i i
def planUp (l : List Jb) (p : List Sl) : Nat → Bool
  | 0 => true
  | i + 1 => planUp l p i && okSlot l p i
def worthUp (l : List Jb) (p : List Sl) : Nat → Int
  | 0 => 0
  | i + 1 => worthUp l p i + match idx l (sl p i).name with
    | none => 0
    | some k => (at_ l k).worth
def planB (l : List Jb) (p : List Sl) : Bool := planUp l p p.length
def planW (l : List Jb) (p : List Sl) : Int := if planB l p then worthUp l p p.length else 0
theorem planUp_false {l : List Jb} {p : List Sl} {k : Nat} (h : planUp l p k = false) : ∀ m, k ≤ m → planUp l p m = false
  | 0, hm => by obtain rfl : k = 0 := by omega
                exact h
  | m + 1, hm => by
    rcases Nat.lt_or_ge m k with h1 | h1
    · obtain rfl : k = m + 1 := by omega
      exact h
    · rw [planUp, planUp_false h m h1]; rfl
theorem planB_false {l : List Jb} {p : List Sl} {k : Nat} (hk : k < p.length) (h : okSlot l p k = false) : planB l p = false :=
  planUp_false (k := k + 1) (by rw [planUp, h, Bool.and_false]) _ hk
theorem clashUp_true {l : List Jb} {p : List Sl} {i : Nat} : ∀ {n k : Nat}, k < n → clash l p i k = true → clashUp l p i n = true
  | 0, k, h, _ => absurd h (by omega)
  | n + 1, k, h, hc => by
    unfold clashUp
    by_cases c : k = n
    · subst c; rw [hc, Bool.or_true]
    · rw [clashUp_true (k := k) (by omega) hc, Bool.true_or]
theorem clashUp_false {l : List Jb} {p : List Sl} {i : Nat} : ∀ {n : Nat}, (∀ k, k < n → clash l p i k = false) → clashUp l p i n = false
  | 0, _ => rfl
  | n + 1, h => by unfold clashUp; rw [clashUp_false fun k hk => h k (by omega), h n (by omega)]; rfl
theorem planUp_at {l : List Jb} {p : List Sl} : ∀ {m : Nat}, planUp l p m = true → ∀ k, k < m → okSlot l p k = true
  | 0, _, k, hk => absurd hk (by omega)
  | m + 1, h, k, hk => by
    rw [planUp, Bool.and_eq_true] at h
    by_cases c : k = m
    · subst c; exact h.2
    · exact planUp_at h.1 k (by omega)
theorem okSlot_spec {l : List Jb} {p : List Sl} {i : Nat} (h : okSlot l p i = true) : ∃ k, idx l (sl p i).name = some k ∧ k < l.length ∧ inWin (at_ l k) (sl p i).frm = true ∧ clashUp l p i i = false := by
  unfold okSlot at h
  cases hk : idx l (sl p i).name with
  | none => rw [hk] at h; cases h
  | some k =>
    rw [hk] at h
    simp only [Bool.and_eq_true, Bool.not_eq_true'] at h
    exact ⟨k, rfl, (idxUp_some hk).1, h.1, h.2⟩
theorem clash_of_up {l : List Jb} {p : List Sl} {i n k : Nat} (h : clashUp l p i n = false) (hk : k < n) : (sl p k).name ≠ (sl p i).name ∧ endAt l p k ≤ (sl p i).frm := by
  cases hc : clash l p i k with
  | true => rw [clashUp_true hk hc] at h; cases h
  | false =>
    unfold clash at hc
    simp only [Bool.or_eq_false_iff, decide_eq_false_iff_not] at hc
    exact ⟨hc.1, by omega⟩
theorem inWin_spec {j : Jb} {f : Int} (h : inWin j f = true) : ∃ w ∈ j.win, w.1 ≤ f ∧ f ≤ w.2 - j.long := by
  unfold inWin at h
  rw [List.any_eq_true] at h
  obtain ⟨w, hw, h2⟩ := h
  unfold fitB at h2
  simp at h2
  exact ⟨w, hw, h2⟩

/-! The program's way: whether the name was there, and the end of the slot ahead. -/
def lastEnd (l : List Jb) (p : List Sl) : Nat → Int
  | 0 => t0
  | i + 1 => endAt l p i
def sawUp (p : List Sl) (s : ByteArray) : Nat → Bool
  | 0 => false
  | n + 1 => sawUp p s n || decide ((sl p n).name = s)
theorem sawUp_true {p : List Sl} {s : ByteArray} : ∀ {n : Nat}, sawUp p s n = true ↔ ∃ k, k < n ∧ (sl p k).name = s
  | 0 => ⟨fun h => (by cases h), fun ⟨k, hk, _⟩ => absurd hk (by omega)⟩
  | n + 1 => by
    rw [sawUp, Bool.or_eq_true, sawUp_true (n := n), decide_eq_true_eq]
    constructor
    · rintro (⟨k, h1, h2⟩ | h)
      · exact ⟨k, by omega, h2⟩
      · exact ⟨n, by omega, h⟩
    · rintro ⟨k, h1, h2⟩
      by_cases c : k = n
      · subst c; exact .inr h2
      · exact .inl ⟨k, by omega, h2⟩
structure Fine (l : List Jb) : Prop where
  apart : Apart l
  long : ∀ j ∈ l, 1 ≤ j.long ∧ j.long ≤ 1099511627776
  worth : ∀ j ∈ l, 1 ≤ j.worth ∧ j.worth ≤ 1099511627776
  win : ∀ j ∈ l, ∀ w ∈ j.win, -1152921504606846976 ≤ w.1 ∧ w.1 < w.2 ∧ w.2 ≤ 1152921504606846976
  up : ∀ j ∈ l, Up j.win
theorem Fine.good {l : List Jb} (h : Fine l) : Good l := ⟨h.up, fun j hj => (h.long j hj).1, fun j hj => (h.worth j hj).1⟩
theorem frm_in {l : List Jb} (h : Fine l) {k : Nat} (hk : k < l.length) {f : Int} (hw : inWin (at_ l k) f = true) : -1152921504606846976 ≤ f ∧ f + (at_ l k).long ≤ 1152921504606846976 := by
  obtain ⟨w, h1, h2, h3⟩ := inWin_spec hw
  have := h.win _ (at_mem hk) w h1
  omega
theorem longOf_some {l : List Jb} {s : ByteArray} {k : Nat} (h : idx l s = some k) : longOf l s = (at_ l k).long := by unfold longOf; rw [h]
/-- What slots that are a plan so far tell. -/
theorem plan_at {l : List Jb} (h : Fine l) {p : List Sl} {m n : Nat} (hp : planUp l p m = true) (hn : n < m) : -1152921504606846976 ≤ (sl p n).frm ∧ (sl p n).frm < endAt l p n ∧ endAt l p n ≤ 1152921504606846976 := by
  obtain ⟨k, h1, h2, h3, h4⟩ := okSlot_spec (planUp_at hp n hn)
  have h5 := frm_in h h2 h3
  have h6 := h.long _ (at_mem h2)
  unfold endAt
  rw [longOf_some h1]
  omega
theorem ends_up {l : List Jb} (h : Fine l) {p : List Sl} {m : Nat} (hp : planUp l p m = true) {i n : Nat} (hi : i < m) (hn : n < i) : endAt l p n ≤ endAt l p i := by
  obtain ⟨k, h1, h2, h3, h4⟩ := okSlot_spec (planUp_at hp i hi)
  have := (clash_of_up h4 hn).2
  have := plan_at h hp hi
  omega
theorem okSlot_program {l : List Jb} (h : Fine l) {p : List Sl} {i : Nat} (hp : planUp l p i = true) : okSlot l p i = match idx l (sl p i).name with
    | none => false
    | some k => (!sawUp p (sl p i).name i && !decide ((sl p i).frm < lastEnd l p i)) && inWin (at_ l k) (sl p i).frm := by
  unfold okSlot
  cases hk : idx l (sl p i).name with
  | none => rfl
  | some k =>
    simp only
    cases hw : inWin (at_ l k) (sl p i).frm with
    | false => simp
    | true =>
      simp only [Bool.true_and, Bool.and_true]
      have h5 := frm_in h (idxUp_some hk).1 hw
      cases hs : sawUp p (sl p i).name i with
      | true =>
        obtain ⟨n, h1, h2⟩ := sawUp_true.1 hs
        rw [clashUp_true h1 (by unfold clash; rw [decide_eq_true h2, Bool.true_or])]; rfl
      | false =>
        have hs2 : ∀ n, n < i → (sl p n).name ≠ (sl p i).name := fun n hn e => by
          have := sawUp_true.2 ⟨n, hn, e⟩
          rw [hs] at this; cases this
        simp only [Bool.not_false, Bool.true_and]
        congr 1
        by_cases c : (sl p i).frm < lastEnd l p i
        · rw [decide_eq_true c]
          cases i with
          | zero => simp only [lastEnd, t0] at c; omega
          | succ i => exact clashUp_true (k := i) (by omega) (by unfold clash; rw [decide_eq_true (show (sl p (i + 1)).frm < endAt l p i from c), Bool.or_true])
        · rw [decide_eq_false c]
          refine clashUp_false fun n hn => ?_
          unfold clash
          rw [decide_eq_false (hs2 n hn), Bool.false_or, decide_eq_false_iff_not]
          cases i with
          | zero => omega
          | succ i =>
            simp only [lastEnd] at c
            by_cases e : n = i
            · subst e; exact c
            · have := ends_up h hp (i := i) (n := n) (by omega) (by omega)
              omega

/-! A plan out of the ways is a plan. -/
theorem worthUp_eq (l : List Jb) (p : List Sl) : ∀ m, m ≤ p.length → worthUp l p m = ((p.take m).map fun x => match idx l x.name with
    | none => 0
    | some k => (at_ l k).worth).sum
  | 0, _ => by simp [worthUp]
  | m + 1, h => by
    rw [worthUp, worthUp_eq l p m (by omega), List.take_succ_eq_append_getElem (by omega), List.map_append, List.sum_append]
    simp [sl, show m < p.length by omega]
theorem plan_right {l : List Jb} (h : Fine l) {X : Nat} {e : Int} {q : List (Nat × Int)} (hq : IsPlan l X e q) : planB l (q.map fun x => ⟨(at_ l x.1).name, x.2⟩) = true ∧ planW l (q.map fun x => ⟨(at_ l x.1).name, x.2⟩) = worthOf l X := by
  have hix : ∀ x ∈ q, idx l (at_ l x.1).name = some x.1 := fun x hx => idx_is h.apart (hq.each x hx).1 rfl
  have hall : ∀ i, i < q.length → okSlot l (q.map fun x => ⟨(at_ l x.1).name, x.2⟩) i = true := fun i hi => by
    have hs : ∀ k (hk : k < q.length), sl (q.map fun x => (⟨(at_ l x.1).name, x.2⟩ : Sl)) k = ⟨(at_ l q[k].1).name, q[k].2⟩ := fun k hk => by unfold sl; simp [hk]
    unfold okSlot
    rw [hs i hi]
    obtain ⟨h1, h2, ⟨w, h3, h4⟩, h5⟩ := hq.each q[i] (List.getElem_mem hi)
    simp only
    rw [hix q[i] (List.getElem_mem hi)]
    simp only [Bool.and_eq_true, Bool.not_eq_true']
    constructor
    · unfold inWin fitB
      rw [List.any_eq_true]
      exact ⟨w, h3, by simp [h4]⟩
    · refine clashUp_false fun n hn => ?_
      unfold clash endAt
      rw [hs n (by omega), hs i hi]
      simp only
      rw [longOf_some (hix q[n] (List.getElem_mem _))]
      have := (List.pairwise_iff_getElem.1 hq.order) n i (by omega) hi hn
      obtain ⟨o1, o2⟩ := this
      rw [decide_eq_false (fun e => o1 (h.apart _ _ (hq.each q[n] (List.getElem_mem _)).1 h1 e)), Bool.false_or, decide_eq_false_iff_not]
      omega
  have hB : planB l (q.map fun x => ⟨(at_ l x.1).name, x.2⟩) = true := by
    unfold planB
    have : ∀ m, m ≤ q.length → planUp l (q.map fun x => ⟨(at_ l x.1).name, x.2⟩) m = true := by
      intro m
      induction m with
      | zero => intro _; rfl
      | succ m ih => intro hm; rw [planUp, ih (by omega), hall m (by omega)]; rfl
    exact this _ (by simp)
  refine ⟨hB, ?_⟩
  unfold planW
  rw [if_pos hB, worthUp_eq _ _ _ (Nat.le_refl _), List.take_length, ← hq.sum, List.map_map]
  congr 1
  refine List.map_congr_left fun x hx => ?_
  simp only [Function.comp]
  rw [hix x hx]
end Go.Night
