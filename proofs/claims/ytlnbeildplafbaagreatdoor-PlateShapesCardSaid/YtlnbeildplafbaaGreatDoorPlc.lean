/- Plans for drawn regions with reads of old cells, calls that leave old cells as they are, and a free making of a cell. Nothing of a program stands here. -/
import Derived.Test.YtlnbeildplafbaaGreatDoorRdc
import Derived.Test.YtlnbeildplafbaaGreatDoorPln
set_option linter.unusedSimpArgs false
set_option linter.unusedVariables false
namespace Go.Grow
open Go Go.RowKit
section
variable {P : Program} {ops : Array Oper} {md : Region.Mode} {C : World → Prop} {Q : Exit → Act → World → Prop}

/-- One operation, behind it a world of the class. -/
def oneC (P : Program) (ops : Array Oper) (C : World → Prop) (Q : Exit → Act → World → Prop) (K : Act → World → Prop) (l : List Oper) (a : Act) (w : World) : Prop :=
  wpList P ops (fun e a' w' => match e with
    | .normal => C w' ∧ K a' w'
    | e => Q e a' w') l a w
theorem wpOp_of_oneC {i : Nat} {o : Oper} {K : Act → World → Prop} {a : Act} {w : World} (ho : ops[i]? = some o) (h : oneC P ops C Q K [o] a w) : wpOp P ops Q i (fun a' w' => C w' ∧ K a' w') a w := by
  unfold wpOp
  simp only [ho]
  unfold oneC wpList at h
  split
  · rename_i hw
    rw [if_pos hw] at h
    rcases h with h | ⟨h1, h2⟩
    · refine .inl ?_
      unfold Oper.wp at *
      generalize (execOp a.eval o).run P w = r at *
      cases r with
      | ok n w' =>
        cases n <;> simp only [Oper.upon, wpList] at h ⊢
        case enter f args =>
          refine Calls.mono h fun e w'' he => ?_
          cases e with
          | returned u => exact he
          | panicked c => exact he
          | outgrown => exact he
        all_goals exact h
      | halt x w' => cases x <;> simp only [Oper.upon] at h ⊢ <;> exact h
    · exact .inr ⟨h1, h2⟩
  · rename_i hw
    rw [if_neg hw] at h
    unfold wpList at h
    exact h
def Plan.checkC (md : Region.Mode) (ops : Array Oper) : Plan → Array Bool → Bool
  | .tail t, d => tailB md ops t d
  | .quiet _ _, _ => false
  | .reads t p, d => readsC md ops t d && p.checkC md ops (marked d t)
  | .one i p, d => decide (Region.ready md ops d = [i]) && p.checkC md ops (d.setIfInBounds i true)
  | .two i p j q, d => decide (Region.ready md ops d = [i, j]) && Nat.beq p.size q.size && p.checkC md ops (d.setIfInBounds i true) && q.checkC md ops (d.setIfInBounds j true)
  | .three i p j q k r, d => decide (Region.ready md ops d = [i, j, k]) && Nat.beq p.size q.size && Nat.beq p.size r.size && p.checkC md ops (d.setIfInBounds i true) && q.checkC md ops (d.setIfInBounds j true) && r.checkC md ops (d.setIfInBounds k true)
def Plan.wpC (P : Program) (ops : Array Oper) (l : List Oper) (C D : World → Prop) (Q : Exit → Act → World → Prop) : Plan → Act → World → Prop
  | .tail t, a, w => seqC P ops C Q (pick l t) a w
  | .quiet _ _, _, _ => False
  | .reads t p, a, w => wpQuiet P ops D (fun a' => p.wpC P ops l C D Q a' w) (pick l t) a
  | .one i p, a, w => oneC P ops C Q (fun a' w' => p.wpC P ops l C D Q a' w') (pick l [i]) a w
  | .two i p j q, a, w => oneC P ops C Q (fun a' w' => p.wpC P ops l C D Q a' w') (pick l [i]) a w ∧ oneC P ops C Q (fun a' w' => q.wpC P ops l C D Q a' w') (pick l [j]) a w
  | .three i p j q k r, a, w => oneC P ops C Q (fun a' w' => p.wpC P ops l C D Q a' w') (pick l [i]) a w ∧ oneC P ops C Q (fun a' w' => q.wpC P ops l C D Q a' w') (pick l [j]) a w ∧ oneC P ops C Q (fun a' w' => r.wpC P ops l C D Q a' w') (pick l [k]) a w
theorem wpAnyC_plan {l : List Oper} {D : World → Prop} (hD : D = C) (hl : ∀ i : Nat, l[i]? = ops[i]?) (hsel : Region.noSelect ops = true) (hQ : ∀ c a d v w, Q (.panic c) (Act.put a d v) w → Q (.panic c) a w) :
    ∀ (p : Plan) (d : Array Bool) (a : Act) (w : World), C w → p.checkC md ops d = true → p.wpC P ops l C D Q a w → wpAnyC P md ops C Q p.size d a w
  | .tail t, d, a, w, _, hc, h => wpAnyC_tail hl t d a w hc h
  | .quiet _ _, d, a, w, _, hc, h => h.elim
  | .reads t p, d, a, w, hw, hc, h => by
    simp only [Plan.checkC, Bool.and_eq_true] at hc
    unfold Plan.wpC at h
    have h' := (congrArg (fun X => wpQuiet P ops X (fun a' => p.wpC P ops l C D Q a' w) (pick l t) a) hD).mp h
    exact wpAnyC_readsHead hl hsel hQ hw t d a hc.1 h' fun a' h' => wpAnyC_plan hD hl hsel hQ p _ a' w hw hc.2 h'
  | .one i p, d, a, w, _, hc, h => by
    simp only [Plan.checkC, Bool.and_eq_true, decide_eq_true_eq] at hc
    obtain ⟨hr, hc⟩ := hc
    refine ⟨fun h3 => (by rw [hr] at h3; cases h3), fun j hj => ?_⟩
    have hj0 := hj
    rw [hr] at hj
    obtain rfl : j = i := by simpa using hj
    obtain ⟨_, o, ho, _⟩ := mem_ready.1 hj0
    unfold Plan.wpC at h
    rw [show pick l [j] = [o] by simp [pick, hl j, ho]] at h
    exact wpOp_mono (fun a' w' h' => ⟨h'.1, wpAnyC_plan hD hl hsel hQ p _ a' w' h'.1 hc h'.2⟩) (wpOp_of_oneC ho h)
  | .two i p j q, d, a, w, _, hc, h => by
    simp only [Plan.checkC, Bool.and_eq_true, decide_eq_true_eq] at hc
    obtain ⟨⟨⟨hr, hs⟩, hc1⟩, hc2⟩ := hc
    have hs := Nat.eq_of_beq_eq_true hs
    refine ⟨fun h3 => (by rw [hr] at h3; cases h3), fun k hk => ?_⟩
    have hk0 := hk
    rw [hr] at hk
    obtain ⟨_, o, ho, _⟩ := mem_ready.1 hk0
    unfold Plan.wpC at h
    rcases (by simpa using hk : k = i ∨ k = j) with e | e
    · subst e
      have h1 := h.1
      rw [show pick l [k] = [o] by simp [pick, hl k, ho]] at h1
      exact wpOp_mono (fun a' w' h' => ⟨h'.1, wpAnyC_plan hD hl hsel hQ p _ a' w' h'.1 hc1 h'.2⟩) (wpOp_of_oneC ho h1)
    · subst e
      have h1 := h.2
      rw [show pick l [k] = [o] by simp [pick, hl k, ho]] at h1
      refine wpOp_mono (fun a' w' h' => ⟨h'.1, ?_⟩) (wpOp_of_oneC ho h1)
      rw [hs]
      exact wpAnyC_plan hD hl hsel hQ q _ a' w' h'.1 hc2 h'.2
  | .three i p j q x r, d, a, w, _, hc, h => by
    simp only [Plan.checkC, Bool.and_eq_true, decide_eq_true_eq] at hc
    obtain ⟨⟨⟨⟨⟨hr, hs⟩, hs2⟩, hc1⟩, hc2⟩, hc3⟩ := hc
    have hs := Nat.eq_of_beq_eq_true hs
    have hs2 := Nat.eq_of_beq_eq_true hs2
    refine ⟨fun h3 => (by rw [hr] at h3; cases h3), fun k hk => ?_⟩
    have hk0 := hk
    rw [hr] at hk
    obtain ⟨_, o, ho, _⟩ := mem_ready.1 hk0
    unfold Plan.wpC at h
    rcases (by simpa using hk : k = i ∨ k = j ∨ k = x) with e | e | e
    · subst e
      have h1 := h.1
      rw [show pick l [k] = [o] by simp [pick, hl k, ho]] at h1
      exact wpOp_mono (fun a' w' h' => ⟨h'.1, wpAnyC_plan hD hl hsel hQ p _ a' w' h'.1 hc1 h'.2⟩) (wpOp_of_oneC ho h1)
    · subst e
      have h1 := h.2.1
      rw [show pick l [k] = [o] by simp [pick, hl k, ho]] at h1
      refine wpOp_mono (fun a' w' h' => ⟨h'.1, ?_⟩) (wpOp_of_oneC ho h1)
      rw [hs]
      exact wpAnyC_plan hD hl hsel hQ q _ a' w' h'.1 hc2 h'.2
    · subst e
      have h1 := h.2.2
      rw [show pick l [k] = [o] by simp [pick, hl k, ho]] at h1
      refine wpOp_mono (fun a' w' h' => ⟨h'.1, ?_⟩) (wpOp_of_oneC ho h1)
      rw [hs2]
      exact wpAnyC_plan hD hl hsel hQ r _ a' w' h'.1 hc3 h'.2
/-- What looks at no world first (head), then the plan; behind each operation what was there in w0 stands. -/
theorem wp_region_planC {id : Nat} {a : Act} {w w0 : World} {l : List Oper} (hw0 : Below w0.heap.size w0 w) (head : List Nat) (p : Plan) (hm : P.follows .mixedOrders = true)
    (hsel : Region.noSelect l.toArray = true) (hlen : (Nat.beq (head.length + p.size) l.length) = true)
    (hB : headB .any l.toArray head (Array.replicate l.length false) = true) (hC : p.checkC .any l.toArray (marked (Array.replicate l.length false) head) = true)
    (hQ : ∀ c a d v w, Q (.panic c) (Act.put a d v) w → Q (.panic c) a w)
    (h : wpQuiet P l.toArray (fun _ => True) (fun a' => p.wpC P l.toArray l (fun w' => Below w0.heap.size w0 w') (fun w' => ∃ y, w' = over w0 y) Q a' w.drew) (pick l head) a) : (Code.region id l.toArray true).wp P Q a w := by
  refine wp_region_any hm ?_
  have hl : ∀ i : Nat, l[i]? = l.toArray[i]? := fun i => by simp
  have e : l.toArray.size = head.length + p.size := by have := Nat.eq_of_beq_eq_true hlen; simp; omega
  rw [show Array.replicate l.toArray.size false = Array.replicate l.length false by rw [List.size_toArray], e]
  exact wpAny_head hl hsel hQ head _ a hB h fun a' ha => wpAny_of_C _ _ _ _ (wpAnyC_plan (funext fun w' => propext (over_iff w0 w')) hl hsel hQ p _ a' _ (Below.drew hw0) hC ha)
end
end Go.Grow
