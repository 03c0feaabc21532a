/- Regions whose order is open, whose operations read old cells and whose calls may lay new memory: one walk in the order of the text, and a tail that must come last. Nothing of a program stands here. -/
import Derived.WalkKit
import Derived.WalkLawsBesides
import Derived.WalkSpells
import Derived.StillTail
import Derived.Deep.Quiet
import Derived.Deep.QuietTactic
import Derived.BigQuiet
namespace Go.Grow
open Go Go.RowKit

/-- The world x where it lies over w, else w itself. -/
noncomputable def over (w x : World) : World := @ite _ (Below w.heap.size w x) (Classical.propDecidable _) x w

theorem below_over (w x : World) : Below w.heap.size w (over w x) := by
  unfold over
  by_cases h : Below w.heap.size w x
  · rw [if_pos h]; exact h
  · rw [if_neg h]; exact Below.refl _ _
theorem over_of {w x : World} (h : Below w.heap.size w x) : over w x = x := by unfold over; rw [if_pos h]
theorem over_self (w : World) : over w w = w := over_of (Below.refl _ _)
theorem over_iff (w x : World) : (∃ y, x = over w y) ↔ Below w.heap.size w x :=
  ⟨fun ⟨y, h⟩ => by rw [h]; exact below_over w y, fun h => ⟨x, (over_of h).symm⟩⟩

theorem lt_of_cell {w : World} {a : Addr} {v : Value} (h : w.cell? a = some v) : a.block < w.heap.size := by
  rcases Nat.lt_or_ge a.block w.heap.size with h' | h'
  · exact h'
  · simp [World.cell?, Array.getElem?_eq_none h'] at h
theorem lt_of_isSome {w : World} {a : Addr} (h : (w.cell? a).isSome = true) : a.block < w.heap.size := by
  obtain ⟨v, hv⟩ := Option.isSome_iff_exists.1 h
  exact lt_of_cell hv

theorem cell?_over_old (w x : World) (a : Addr) (h : a.block < w.heap.size) : (over w x).cell? a = w.cell? a := (below_over w x).cell h
theorem frozen?_over_old (w x : World) (a : Addr) (h : a.block < w.heap.size) : (over w x).frozen? a = w.frozen? a := (below_over w x).frozen h

/-- A cell of a world that is not looked into. -/
noncomputable def awayCell (w : World) (b i : Nat) : Option Value := w.cell? ⟨b, i, none⟩
noncomputable def awayFrozen (w : World) (b i : Nat) : Bool := w.frozen? ⟨b, i, none⟩
/-! What a cell holds, as a test on the blocks' numbers, which the walk decides by the bounds at hand. -/
@[go_sem] theorem cell?_over (w x : World) (b i : Nat) : (over w x).cell? ⟨b, i, none⟩ = if b < w.heap.size then w.cell? ⟨b, i, none⟩ else awayCell (over w x) b i := by
  split
  · rename_i h; exact cell?_over_old w x ⟨b, i, none⟩ h
  · rfl
/-- A Bool out of a box (so that the test ahead of it stands by itself). -/
def unbox : Option Bool → Bool | some b => b | none => true
@[go_sem] theorem unbox_some (b : Bool) : unbox (some b) = b := rfl
@[go_sem] theorem frozen?_over (w x : World) (b i : Nat) : (over w x).frozen? ⟨b, i, none⟩ = unbox (if b < w.heap.size then some (w.frozen? ⟨b, i, none⟩) else some (awayFrozen (over w x) b i)) := by
  split
  · rename_i h; exact frozen?_over_old w x ⟨b, i, none⟩ h
  · rfl
@[go_sem] theorem cell?_cells (w : World) (c : Array Value) (t : TypeId) (f : Nat × Nat) (b i : Nat) : (w.alloc (.cells c t f)).cell? ⟨b, i, none⟩ = if b = w.heap.size then c[i]? else w.cell? ⟨b, i, none⟩ := by
  split
  · rename_i h; subst h; exact World.cell?_alloc_mark w c t f i
  · rename_i h; exact World.cell?_alloc_old w _ ⟨b, i, none⟩ h
@[go_sem] theorem frozen?_cells (w : World) (c : Array Value) (t : TypeId) (b i : Nat) : (w.alloc (.cells c t)).frozen? ⟨b, i, none⟩ = unbox (if b = w.heap.size then some false else some (w.frozen? ⟨b, i, none⟩)) := by
  split
  · rename_i h; subst h; exact World.frozen?_alloc_new w c t i
  · rename_i h; exact World.frozen?_alloc_old w _ ⟨b, i, none⟩ h
@[go_sem] theorem cell?_put (w : World) (b i b' i' : Nat) (v : Value) : (w.setCell ⟨b, i, none⟩ v).cell? ⟨b', i', none⟩ = if b = b' ∧ i = i' then (w.cell? ⟨b, i, none⟩).map (fun _ => v) else w.cell? ⟨b', i', none⟩ := by
  unfold World.cell? World.setCell
  simp only [Array.getElem?_modify]
  by_cases hb : b = b'
  · subst hb
    cases hw : w.heap[b]? with
    | none => simp
    | some o =>
      cases o <;> simp
      rename_i c t f
      by_cases hi : i = i'
      · subst hi
        rcases Nat.lt_or_ge i c.size with h | h
        · simp [h]
        · simp [Array.getElem?_eq_none h]; omega
      · simp [hi]
  · simp [hb]
theorem cell?_alloc_some (w : World) (o : Obj) (a : Addr) (h : (w.cell? a).isSome = true) : (w.alloc o).cell? a = w.cell? a :=
  World.cell?_alloc_lt w o a (lt_of_isSome h)
theorem size_over (w x : World) : w.heap.size ≤ (over w x).heap.size := (below_over w x).size

theorem grow_refl (w : World) : Below w.heap.size w w := Below.refl _ _
theorem grow_alloc {a w : World} (h : Below a.heap.size a w) (o : Obj) : Below a.heap.size a (w.alloc o) := h.alloc h.size o
theorem grow_over {a w : World} (h : Below a.heap.size a w) (x : World) : Below a.heap.size a (over w x) := h.trans ((below_over w x).mono h.size)
theorem grow_setCell {a w : World} (h : Below a.heap.size a w) {b i : Nat} (hp : a.heap.size ≤ b) (u : Value) : Below a.heap.size a (w.setCell ⟨b, i, none⟩ u) := h.setCell hp u
theorem grow_drew {a w : World} (h : Below a.heap.size a w) : Below a.heap.size a w.drew := h.drew
theorem grow_drewN {a w : World} (h : Below a.heap.size a w) (n : Nat) : Below a.heap.size a (w.drewN n) := h.trans ⟨rfl, rfl, rfl, Nat.le_refl _, fun _ _ => rfl⟩
theorem grow_trans {a b c : World} (h : Below a.heap.size a b) (k : Below b.heap.size b c) : Below a.heap.size a c := h.trans (k.mono h.size)

theorem grew {w w' : World} (h : Below w.heap.size w w') : ∃ x, w' = over w x ∧ w.heap.size ≤ (over w x).heap.size := ⟨w', (over_of h).symm, size_over _ _⟩

/-- What a world that lies over another one tells of the old cells, as tests on the blocks' numbers. -/
theorem facts {w w' : World} (h : Below w.heap.size w w') :
    (∀ b i, w'.cell? ⟨b, i, none⟩ = if b < w.heap.size then w.cell? ⟨b, i, none⟩ else awayCell w' b i) ∧
    (∀ b i, w'.frozen? ⟨b, i, none⟩ = unbox (if b < w.heap.size then some (w.frozen? ⟨b, i, none⟩) else some (awayFrozen w' b i))) ∧
    w.heap.size ≤ w'.heap.size := by
  obtain ⟨x, rfl, hz⟩ := grew h
  exact ⟨cell?_over w x, frozen?_over w x, hz⟩
theorem grow_via {a w w' : World} (h : Hid (Below w.heap.size w w')) (k : Below a.heap.size a w) : Below a.heap.size a w' := grow_trans k h.out

/-- A callee that leaves all that was there: met in a world over w. -/
theorem _root_.Go.Calls.over_of {P : Program} {f : FuncId} {args : Array Value} {w x : World} {v : Value}
    (h : Calls P f args (over w x) fun e w' => e = .returned v ∧ Below (over w x).heap.size (over w x) w') :
    Calls P f args (over w x) fun e w'' => e = .returned v ∧ ∃ y, w'' = over w y :=
  h.mono fun _ _ ⟨he, hb⟩ => ⟨he, (over_iff _ _).2 ((below_over w x).trans (hb.mono (size_over w x)))⟩

section
variable {P : Program} {ops : Array Oper} {md : Region.Mode} {C : World → Prop}

theorem wpQuiet_weaken {Q Q' : Act → Prop} (h : ∀ a, Q a → Q' a) : ∀ (l : List Oper) (a : Act), wpQuiet P ops C Q l a → wpQuiet P ops C Q' l a
  | [], a, hq => h a hq
  | o :: l, a, hq => by
    unfold wpQuiet at *
    split
    · rename_i hw; rw [if_pos hw] at hq; exact Oper.quiet_mono (wpQuiet_weaken h l) hq
    · rename_i hw; rw [if_neg hw] at hq; exact wpQuiet_weaken h l _ hq

/-- Whatever order is picked, the first n operations come up first, and then L holds. -/
def anyHead (P : Program) (md : Region.Mode) (ops : Array Oper) (C : World → Prop) (n : Nat) (L : Array Bool → Act → Prop) : Nat → Array Bool → Act → Prop
  | 0, listed, a => L listed a
  | f + 1, listed, a =>
    Region.ready md ops listed ≠ [] ∧ ∀ i ∈ Region.ready md ops listed, i < n ∧ qOp P ops C i (anyHead P md ops C n L f (listed.setIfInBounds i true)) a

theorem wpAny_of_anyHead {n g : Nat} {L : Array Bool → Act → Prop} {Q' : Exit → Act → World → Prop}
    (hL : ∀ listed a w, C w → L listed a → wpAny P md ops Q' g listed a w) :
    ∀ (f : Nat) (listed : Array Bool) (a : Act) (w : World), C w → anyHead P md ops C n L f listed a → wpAny P md ops Q' (f + g) listed a w
  | 0, listed, a, w, hC, h => by rw [Nat.zero_add]; exact hL _ _ _ hC h
  | f + 1, listed, a, w, hC, h => by
    rw [Nat.add_right_comm f 1 g]
    exact ⟨fun h0 => absurd h0 h.1, fun i hi => wpOp_of_qOp hC (fun a' w' hw' h' => wpAny_of_anyHead hL f _ a' w' hw' h') (h.2 i hi).2⟩

theorem anyHead_first {n i : Nat} {oi : Oper} {v : Value} {L : Array Bool → Act → Prop} (hi : ops[i]? = some oi)
    (hsel : ∀ (j : Nat) (o : Oper) cs b, ops[j]? = some o → o.op ≠ .select cs b)
    (hs : Region.sinkB md ops n = true) (hc : Region.chainB md ops n = true) (hn : n < ops.size) (hin : i < n)
    (hdone : ∀ listed a, L listed a → ∀ j ∈ Region.ready md ops listed, n ≤ j) :
    ∀ (f : Nat) (listed : Array Bool) (a : Act), HeadInv md ops n listed →
      (∀ j oj, ops[j]? = some oj → j ≠ i → listed.getD j true = false → (∀ e ∈ oj.after, Region.binds md e = true → e.on ≠ i) → oi.apart ops oj = true) →
      i ∈ Region.ready md ops listed → YieldsIn P ops C oi v a →
      anyHead P md ops C n L f (listed.setIfInBounds i true) (a.put oi.dst v) → anyHead P md ops C n L (f + 1) listed a := by
  intro f
  induction f with
  | zero =>
    intro listed a inv _ hr hy H
    have hun := (mem_ready.1 hr).1
    refine ⟨fun h => (by rw [h] at hr; cases hr), fun j hj => ?_⟩
    have hjn : j < n := Nat.lt_of_not_le fun h => tail_waits hs hc hn inv _ i rfl hin hun j h hj
    by_cases hji : j = i
    · subst hji; exact ⟨hjn, hy.qOp hi H⟩
    · exact absurd (hdone _ _ H j (ready_mono hj hji)) (Nat.not_le_of_lt hjn)
  | succ f ih =>
    intro listed a inv hfree hr hy H
    have hun := (mem_ready.1 hr).1
    refine ⟨fun h => (by rw [h] at hr; cases hr), fun j hj => ?_⟩
    have hjn : j < n := Nat.lt_of_not_le fun h => tail_waits hs hc hn inv _ i rfl hin hun j h hj
    refine ⟨hjn, ?_⟩
    by_cases hji : j = i
    · subst hji; exact hy.qOp hi H
    · have h1 := (H.2 j (ready_mono hj hji)).2
      obtain ⟨hjun, oj, hoj, hall⟩ := mem_ready.1 hj
      have hnot : ∀ e ∈ oj.after, Region.binds md e = true → e.on ≠ i := fun e he hb heq => by
        have h2 := hall e he hb
        rw [heq, getD_both hun] at h2
        cases h2
      have h2 := qOp_put hoj (hfree j oj hoj hji hjun hnot) (fun cs b => hsel i oi cs b hi) (fun cs b => hsel j oj cs b hoj) hy h1
      have hfree' : ∀ k ok, ops[k]? = some ok → k ≠ i → (listed.setIfInBounds j true).getD k true = false →
          (∀ e ∈ ok.after, Region.binds md e = true → e.on ≠ i) → oi.apart ops ok = true := fun k ok hk hki hu hno => by
        refine hfree k ok hk hki ?_ hno
        by_cases hjk : j = k
        · subst hjk; exact hjun
        · rw [getD_set_ne true hjk] at hu; exact hu
      refine qOp_mono (fun a' h3 => ih (listed.setIfInBounds j true) a' (inv.set hj hjn) hfree' (ready_mono hr (Ne.symm hji)) h3.1 ?_) h2
      rw [Array.setIfInBounds_comm _ _ hji]
      exact h3.2

theorem anyHead_lex {n g : Nat} {Lq : Act → Prop} (hsel : Region.noSelect ops = true) (hs : Region.sinkB md ops n = true) (hc : Region.chainB md ops n = true) (hn : n < ops.size) :
    ∀ (l : List Oper) (k : Nat) (listed : Array Bool) (a : Act), (∀ j, j < l.length → l[j]? = ops[k + j]?) → k + l.length = n → HeadInv md ops n listed →
    Region.lexHead md ops g l.length k listed = true → wpQuiet P ops C Lq l a →
    anyHead P md ops C n (fun listed' a' => Region.seqB md ops g n listed' = true ∧ Lq a') l.length listed a
  | [], k, listed, a, _, hk, _, hB, h => by
    obtain rfl : k = n := by simpa using hk
    exact ⟨by simpa [Region.lexHead] using hB, h⟩
  | o :: l, k, listed, a, hl, hk, inv, hB, h => by
    have h0 : ops[k]? = some o := by simpa using (hl 0 (by simp)).symm
    simp only [List.length_cons, Region.lexHead, Bool.and_eq_true] at hB
    obtain ⟨⟨hr, hf⟩, hB'⟩ := hB
    have hkn : k < n := by simp only [List.length_cons] at hk; omega
    have hr' : k ∈ Region.ready md ops listed := by simpa using hr
    have hst : qOp P ops C k (wpQuiet P ops C Lq l) a := by unfold qOp; simp only [h0]; exact h
    obtain ⟨v, hy, hK⟩ := yieldsIn_of_qOp h0 hst
    exact anyHead_first h0 (Region.noSelect_spec hsel) hs hc hn hkn (fun listed' a' hL => seqB_ready hL.1) l.length listed a inv (Region.free_spec h0 hf) hr' hy
      (anyHead_lex hsel hs hc hn l (k + 1) _ _ (fun j hj => by have := hl (j + 1) (by simp; omega); simpa [Nat.add_assoc, Nat.add_comm 1 j] using this) (by simp only [List.length_cons] at hk; omega) (inv.set hr' hkn) hB' hK)

/-- The first n operations in the order of the text, each of one value in every world of the class; the others, which must come last, one behind the other. -/
theorem wp_region_tail {id : Nat} {Q : Exit → Act → World → Prop} {a : Act} {w : World} {l : List Oper} (n : Nat) (hm : P.follows .mixedOrders = true)
    (hB : Region.lexTailB .any l.toArray n = true) (hC : C { w with drawn := w.drawn + 1 })
    (h : wpQuiet P l.toArray C (fun a' => ∀ w', C w' → wpList P l.toArray Q (l.drop n) a' w') (l.take n) a) : (Code.region id l.toArray true).wp P Q a w := by
  simp only [Region.lexTailB, Bool.and_eq_true, decide_eq_true_eq] at hB
  obtain ⟨⟨⟨⟨hsel, hn⟩, hs⟩, hc⟩, hlex⟩ := hB
  have htl : (l.take n).length = n := by have : n < l.length := by simpa using hn
                                         simp; omega
  have hdl : (l.drop n).length = l.toArray.size - n := by simp
  have inv0 : HeadInv .any l.toArray n (Array.replicate l.toArray.size false) :=
    ⟨by simp, fun j oj _ hl => (by rw [getD_replicate_false] at hl; cases hl), fun t _ ht => getD_in (by simpa using ht) (getD_replicate_false _ _)⟩
  have H := anyHead_lex (md := .any) (g := l.toArray.size - n) hsel hs hc hn (l.take n) 0 _ a (fun j hj => by
    have hj' : j < n := by rw [htl] at hj; exact hj
    simp [hj']) (by simpa using htl) inv0 (by rw [htl]; exact hlex) h
  refine wp_region_any hm ?_
  have := wpAny_of_anyHead (Q' := Q) (g := l.toArray.size - n) (fun listed a' w' hw' hL => by
    have := wpAny_of_seq (md := .any) (Q' := Q) (l.drop n) n listed a' w' (fun j => by simp [List.getElem?_drop]) (by rw [hdl]; exact hL.1) (hL.2 w' hw')
    rwa [hdl] at this) _ _ _ _ hC H
  rw [htl, show n + (l.toArray.size - n) = l.toArray.size by omega] at this
  exact this

/-- At the class 'over w'. -/
theorem wp_region_over {id : Nat} {Q : Exit → Act → World → Prop} {a : Act} {w : World} {l : List Oper} (hm : P.follows .mixedOrders = true) (hB : Region.lexB .any l.toArray = true)
    (h : wpQuiet P l.toArray (fun w' => ∃ x, w' = over w x) (fun a' => ∀ x, w.heap.size ≤ (over w x).heap.size → Q .normal a' (over w x)) l a) : (Code.region id l.toArray true).wp P Q a w :=
  wp_region_quiet (C := fun w' => ∃ x, w' = over w x) hm hB ((over_iff _ _).2 (Below.drew (Below.refl _ _)))
    (wpQuiet_weaken (Q := fun a' => ∀ x, w.heap.size ≤ (over w x).heap.size → Q .normal a' (over w x)) (fun _ hq _ ⟨x, hx⟩ => by rw [hx]; exact hq x (size_over w x)) _ _ (by simpa using h))

theorem wp_region_over_tail {id : Nat} {Q : Exit → Act → World → Prop} {a : Act} {w : World} {l : List Oper} (n : Nat) (hm : P.follows .mixedOrders = true)
    (hB : Region.lexTailB .any l.toArray n = true)
    (h : wpQuiet P l.toArray (fun w' => ∃ x, w' = over w x) (fun a' => ∀ x, w.heap.size ≤ (over w x).heap.size → wpList P l.toArray Q (l.drop n) a' (over w x)) (l.take n) a) : (Code.region id l.toArray true).wp P Q a w :=
  wp_region_tail n hm hB ((over_iff _ _).2 (Below.drew (Below.refl _ _)))
    (wpQuiet_weaken (Q := fun a' => ∀ x, w.heap.size ≤ (over w x).heap.size → wpList P l.toArray Q (l.drop n) a' (over w x)) (fun _ hq _ ⟨x, hx⟩ => by rw [hx]; exact hq x (size_over w x)) _ _ h)
end
/-! A quicker look at a region's edges: each operation waits for earlier ones alone; of two, the later one waits for the earlier one or is apart from it. -/
section
variable {ops : Array Oper} {md : Region.Mode}
def depsOf (md : Region.Mode) (o : Oper) : List Nat := o.after.toList.filterMap fun e => if Region.binds md e then some e.on else none
def fastGo (md : Region.Mode) (ops : Array Oper) (n : Nat) : Nat → List Oper → Bool
  | _, [] => true
  | k, o :: rest => (depsOf md o).all (fun d => Nat.blt d k) && (Nat.ble n k || rest.all fun oj => (depsOf md oj).contains k || o.apart ops oj) && fastGo md ops n (k + 1) rest
theorem mem_depsOf {o : Oper} {d : Nat} : d ∈ depsOf md o ↔ ∃ e ∈ o.after, Region.binds md e = true ∧ e.on = d := by
  unfold depsOf
  simp only [List.mem_filterMap, Array.mem_toList_iff]
  constructor
  · rintro ⟨e, he, h⟩
    split at h
    · rename_i hb; cases h; exact ⟨e, he, hb, rfl⟩
    · cases h
  · rintro ⟨e, he, hb, rfl⟩
    exact ⟨e, he, by rw [if_pos hb]⟩

theorem fastGo_spec {n : Nat} : ∀ (l : List Oper) (k : Nat), fastGo md ops n k l = true → ∀ i o, l[i]? = some o →
    (∀ d ∈ depsOf md o, d < k + i) ∧ (k + i < n → ∀ j oj, i < j → l[j]? = some oj → (k + i) ∈ depsOf md oj ∨ o.apart ops oj = true)
  | [], _, _, i, o, ho => by simp at ho
  | x :: l, k, h, i, o, ho => by
    simp only [fastGo, Bool.and_eq_true, Bool.or_eq_true, List.all_eq_true] at h
    obtain ⟨⟨h1, h2⟩, h3⟩ := h
    cases i with
    | zero =>
      simp only [List.getElem?_cons_zero, Option.some.injEq] at ho
      subst ho
      refine ⟨fun d hd => by have := h1 d hd; simpa using this, fun hk j oj hj hoj => ?_⟩
      cases j with
      | zero => omega
      | succ j =>
        simp only [List.getElem?_cons_succ] at hoj
        rcases h2 with h2 | h2
        · have := Nat.le_of_ble_eq_true h2; omega
        · rcases h2 oj (List.mem_of_getElem? hoj) with h2 | h2
          · exact .inl (by simpa using h2)
          · exact .inr h2
    | succ i =>
      simp only [List.getElem?_cons_succ] at ho
      obtain ⟨g1, g2⟩ := fastGo_spec l (k + 1) h3 i o ho
      refine ⟨fun d hd => by have := g1 d hd; omega, fun hk j oj hj hoj => ?_⟩
      cases j with
      | zero => omega
      | succ j =>
        simp only [List.getElem?_cons_succ] at hoj
        have := g2 (by omega) j oj (by omega) hoj
        rwa [show k + 1 + i = k + (i + 1) by omega] at this

/-- The first k are done. -/
def Done (N k : Nat) (listed : Array Bool) : Prop := listed.size = N ∧ ∀ j, j < N → listed[j]? = some (decide (j < k))
theorem Done.getD {N k j : Nat} {listed : Array Bool} (h : Done N k listed) (hj : j < N) (b : Bool) : listed.getD j b = decide (j < k) := by
  have := h.2 j hj
  rw [Array.getD_eq_getD_getElem?, this]; rfl
theorem Done.start (N : Nat) : Done N 0 (Array.replicate N false) := ⟨by simp, fun j hj => by simp [hj]⟩
theorem Done.step {N k : Nat} {listed : Array Bool} (h : Done N k listed) : Done N (k + 1) (listed.setIfInBounds k true) := by
  refine ⟨by simp [h.1], fun j hj => ?_⟩
  rw [Array.getElem?_setIfInBounds]
  split
  · rename_i e; subst e; rw [if_pos (by rw [h.1]; exact hj)]; simp
  · rename_i e; rw [h.2 j hj]; congr 1; rw [decide_eq_decide]; omega

theorem ready_iff {N k j : Nat} {listed : Array Bool} (h : Done N k listed) (hN : N = ops.size) (hdeps : ∀ i o, ops[i]? = some o → ∀ d ∈ depsOf md o, d < i) :
    j ∈ Region.ready md ops listed ↔ j < N ∧ k ≤ j ∧ ∃ o, ops[j]? = some o ∧ ∀ d ∈ depsOf md o, d < k := by
  rw [mem_ready]
  constructor
  · rintro ⟨h1, o, ho, h2⟩
    have hj : j < N := by rw [hN]; exact (Array.getElem?_eq_some_iff.1 ho).1
    rw [h.getD hj] at h1
    refine ⟨hj, by simpa using h1, o, ho, fun d hd => ?_⟩
    obtain ⟨e, he, hb, rfl⟩ := mem_depsOf.1 hd
    have h3 := h2 e he hb
    have : e.on < N := Nat.lt_trans (hdeps j o ho _ hd) hj
    rw [h.getD this] at h3
    simpa using h3
  · rintro ⟨hj, hk, o, ho, h2⟩
    refine ⟨by rw [h.getD hj]; simpa using hk, o, ho, fun e he hb => ?_⟩
    have hd := mem_depsOf.2 ⟨e, he, hb, rfl⟩
    rw [h.getD (Nat.lt_trans (hdeps j o ho _ hd) hj)]
    simpa using h2 _ hd

theorem free_of_fast {N k : Nat} {listed : Array Bool} (h : Done N k listed) (hN : N = ops.size) (hkN : k < N)
    (hap : ∀ o j oj, ops[k]? = some o → k < j → ops[j]? = some oj → k ∈ depsOf md oj ∨ o.apart ops oj = true) : Region.free md ops listed k = true := by
  obtain ⟨o, ho⟩ : ∃ o, ops[k]? = some o := ⟨_, Array.getElem?_eq_getElem (hN ▸ hkN)⟩
  unfold Region.free
  rw [ho]
  simp only [List.all_eq_true, List.mem_range]
  intro j hj
  rcases Nat.lt_trichotomy j k with g | g | g
  · rw [h.getD (hN ▸ hj)]; simp [g]
  · simp [g]
  · obtain ⟨oj, hoj⟩ : ∃ oj, ops[j]? = some oj := ⟨_, Array.getElem?_eq_getElem hj⟩
    rw [hoj]
    rcases hap o j oj ho g hoj with g2 | g2
    · obtain ⟨e, he, hb, hon⟩ := mem_depsOf.1 g2
      simp only [Bool.or_eq_true, Array.any_eq_true']
      exact .inr (.inl ⟨e, he, by simp [hb, hon]⟩)
    · simp [g2]

theorem lexHead_of_fast {N n g : Nat} (hN : N = ops.size) (hdeps : ∀ i o, ops[i]? = some o → ∀ d ∈ depsOf md o, d < i)
    (hap : ∀ k o j oj, k < n → ops[k]? = some o → k < j → ops[j]? = some oj → k ∈ depsOf md oj ∨ o.apart ops oj = true) (hnN : n ≤ N)
    (hend : ∀ listed, Done N n listed → Region.seqB md ops g n listed = true) :
    ∀ (f k : Nat) (listed : Array Bool), Done N k listed → k + f = n → Region.lexHead md ops g f k listed = true
  | 0, k, listed, h, hk => by
    obtain rfl : k = n := by omega
    exact hend listed h
  | f + 1, k, listed, h, hk => by
    have hkN : k < N := by omega
    obtain ⟨o, ho⟩ : ∃ o, ops[k]? = some o := ⟨_, Array.getElem?_eq_getElem (hN ▸ hkN)⟩
    simp only [Region.lexHead, Bool.and_eq_true, List.contains_iff_mem]
    exact ⟨⟨(ready_iff h hN hdeps).2 ⟨hkN, Nat.le_refl _, o, ho, hdeps k o ho⟩, free_of_fast h hN hkN (fun o j oj => hap k o j oj (by omega))⟩,
      lexHead_of_fast hN hdeps hap hnN hend f (k + 1) _ h.step (by omega)⟩

theorem ready_none {N : Nat} {listed : Array Bool} (h : Done N N listed) (hN : N = ops.size) (hdeps : ∀ i o, ops[i]? = some o → ∀ d ∈ depsOf md o, d < i) : Region.ready md ops listed = [] := by
  rw [List.eq_nil_iff_forall_not_mem]
  intro j hj
  have := (ready_iff h hN hdeps).1 hj
  omega

theorem ready_one {N n k : Nat} {listed : Array Bool} (h : Done N k listed) (hN : N = ops.size) (hdeps : ∀ i o, ops[i]? = some o → ∀ d ∈ depsOf md o, d < i)
    (hc : Region.chainB md ops n = true) (hn : n ≤ k) (hk : k < N) : Region.ready md ops listed = [k] := by
  obtain ⟨o, ho⟩ : ∃ o, ops[k]? = some o := ⟨_, Array.getElem?_eq_getElem (hN ▸ hk)⟩
  have hmem : ∀ j, j ∈ Region.ready md ops listed ↔ j = k := fun j => by
    rw [ready_iff h hN hdeps]
    constructor
    · rintro ⟨h1, h2, oj, hoj, h3⟩
      refine Nat.le_antisymm (Nat.le_of_not_lt fun hlt => ?_) h2
      have h4 := List.all_eq_true.1 hc j (List.mem_range.2 (hN ▸ h1))
      simp only [Bool.or_eq_true, decide_eq_true_eq] at h4
      rcases h4 with h4 | h4
      · omega
      · obtain ⟨o', ho', e, he, hb, hon⟩ := Region.waitsFor_spec h4
        obtain rfl : o' = oj := Option.some.inj (ho'.symm.trans hoj)
        have := h3 _ (mem_depsOf.2 ⟨e, he, hb, hon⟩)
        omega
    · rintro rfl; exact ⟨hk, Nat.le_refl _, o, ho, hdeps _ o ho⟩
  have hnd : (Region.ready md ops listed).Nodup := by
    unfold Region.ready
    exact List.Nodup.sublist List.filter_sublist List.nodup_range
  cases hx : Region.ready md ops listed with
  | nil => have := (hmem k).2 rfl; rw [hx] at this; cases this
  | cons a t =>
    rw [hx] at hmem hnd
    obtain rfl : a = k := (hmem a).1 (List.mem_cons_self ..)
    cases t with
    | nil => rfl
    | cons b t =>
      obtain rfl : b = a := (hmem b).1 (List.mem_cons_of_mem _ (List.mem_cons_self ..))
      simp at hnd

theorem seqB_of_chain {N n : Nat} (hN : N = ops.size) (hdeps : ∀ i o, ops[i]? = some o → ∀ d ∈ depsOf md o, d < i)
    (hc : Region.chainB md ops n = true) : ∀ (g k : Nat) (listed : Array Bool), Done N k listed → n ≤ k → k + g = N → Region.seqB md ops g k listed = true
  | 0, k, listed, h, _, hk => by
    obtain rfl : k = N := by omega
    simp only [Region.seqB]
    rw [ready_none h hN hdeps]; rfl
  | g + 1, k, listed, h, hn, hk => by
    simp only [Region.seqB, ready_one h hN hdeps hc hn (by omega), decide_true, Bool.true_and]
    exact seqB_of_chain hN hdeps hc g (k + 1) _ h.step (by omega) (by omega)

/-- The region as the walk wants it, by the quicker look. -/
theorem lexTailB_of_fast {l : List Oper} {n : Nat} (hs : Region.noSelect l.toArray = true) (hf : fastGo md l.toArray n 0 l = true)
    (hl : (Nat.blt n l.length && Region.sinkB md l.toArray n && Region.chainB md l.toArray n) = true) : Region.lexTailB md l.toArray n = true := by
  simp only [Bool.and_eq_true] at hl
  obtain ⟨⟨hlen, hsink⟩, hchain⟩ := hl
  have hlen : n < l.length := by simpa using hlen
  have hspec := fastGo_spec l 0 hf
  simp only [Nat.zero_add] at hspec
  have hdeps : ∀ i o, l.toArray[i]? = some o → ∀ d ∈ depsOf md o, d < i := fun i o h => (hspec i o (by simpa using h)).1
  have hap : ∀ k o j oj, k < n → l.toArray[k]? = some o → k < j → l.toArray[j]? = some oj → k ∈ depsOf md oj ∨ o.apart l.toArray oj = true := fun k o j oj hk ho hj hoj =>
    (hspec k o (by simpa using ho)).2 hk j oj hj (by simpa using hoj)
  have hsz : l.length = l.toArray.size := by simp
  unfold Region.lexTailB
  simp only [Bool.and_eq_true, decide_eq_true_eq]
  exact ⟨⟨⟨⟨hs, by omega⟩, hsink⟩, hchain⟩, lexHead_of_fast (N := l.length) hsz hdeps hap (by omega)
    (fun listed h => seqB_of_chain hsz hdeps hchain _ n listed h (Nat.le_refl _) (by omega)) n 0 _ (by rw [← hsz]; exact Done.start _) (by omega)⟩

theorem lexB_of_fast {l : List Oper} (hs : Region.noSelect l.toArray = true) (hf : fastGo md l.toArray l.length 0 l = true) : Region.lexB md l.toArray = true := by
  have hspec := fastGo_spec l 0 hf
  simp only [Nat.zero_add] at hspec
  have hdeps : ∀ i o, l.toArray[i]? = some o → ∀ d ∈ depsOf md o, d < i := fun i o h => (hspec i o (by simpa using h)).1
  have hlt : ∀ {k : Nat} {o : Oper}, l.toArray[k]? = some o → k < l.length := fun h => by simpa using (Array.getElem?_eq_some_iff.1 h).1
  have hap : ∀ k o j oj, k < l.length → l.toArray[k]? = some o → k < j → l.toArray[j]? = some oj → k ∈ depsOf md oj ∨ o.apart l.toArray oj = true := fun k o j oj hk ho hj hoj =>
    (hspec k o (by simpa using ho)).2 hk j oj hj (by simpa using hoj)
  have hsz : l.length = l.toArray.size := by simp
  unfold Region.lexB
  simp only [Bool.and_eq_true]
  refine ⟨hs, ?_⟩
  have key : ∀ (f k : Nat) (listed : Array Bool), Region.lexHead md l.toArray 0 f k listed = true → Region.lexFrom md l.toArray f k listed = true := by
    intro f
    induction f with
    | zero => intro k listed h; simpa [Region.lexHead, Region.lexFrom, Region.seqB] using h
    | succ f ih =>
      intro k listed h
      simp only [Region.lexFrom, Region.lexHead, Bool.and_eq_true] at *
      exact ⟨h.1, ih _ _ h.2⟩
  have h0 := lexHead_of_fast (N := l.length) (n := l.length) (g := 0) hsz hdeps hap (Nat.le_refl _) (fun listed h => by
    simp only [Region.seqB]
    rw [ready_none h hsz hdeps]; rfl) l.length 0 _ (Done.start _) (by omega)
  have h1 := key _ _ _ h0
  rw [← hsz]
  exact h1
end

end Go.Grow
