/- A region whose order is open, taken by a plan: what looks at no world, what reads old cells, what stands alone, what two may be first. Nothing of a program stands here. -/
import Derived.Test.YtlnbeildplafbaaGreatDoorTw2
import Derived.Test.YtlnbeildplafbaaGreatDoorTk3
set_option linter.unusedSimpArgs false
set_option linter.unusedVariables false
namespace Go.Grow
open Go Go.RowKit
inductive Plan where
  | tail (t : List Nat)
  | quiet (t : List Nat) (p : Plan)
  | reads (t : List Nat) (p : Plan)
  | one (i : Nat) (p : Plan)
  | two (i : Nat) (p : Plan) (j : Nat) (q : Plan)
  | three (i : Nat) (p : Plan) (j : Nat) (q : Plan) (k : Nat) (r : Plan)
def Plan.size : Plan → Nat
  | .tail t => t.length
  | .quiet t p => t.length + p.size
  | .reads t p => t.length + p.size
  | .one _ p => p.size + 1
  | .two _ p _ _ => p.size + 1
  | .three _ p _ _ _ _ => p.size + 1
def Plan.check (md : Region.Mode) (ops : Array Oper) : Plan → Array Bool → Bool
  | .tail t, d => tailB md ops t d
  | .quiet t p, d => headB md ops t d && p.check md ops (marked d t)
  | .reads t p, d => K3.readsB md ops t d && p.check md ops (marked d t)
  | .one i p, d => decide (Region.ready md ops d = [i]) && p.check md ops (d.setIfInBounds i true)
  | .two i p j q, d => decide (Region.ready md ops d = [i, j]) && Nat.beq p.size q.size && p.check md ops (d.setIfInBounds i true) && q.check md ops (d.setIfInBounds j true)
  | .three i p j q k r, d => decide (Region.ready md ops d = [i, j, k]) && Nat.beq p.size q.size && Nat.beq p.size r.size && p.check md ops (d.setIfInBounds i true) && q.check md ops (d.setIfInBounds j true) && r.check md ops (d.setIfInBounds k true)
def Plan.wp (P : Program) (ops : Array Oper) (l : List Oper) (Q : Exit → Act → World → Prop) : Plan → Act → World → Prop
  | .tail t, a, w => wpList P ops Q (pick l t) a w
  | .quiet t p, a, w => wpQuiet P ops (fun _ => True) (fun a' => p.wp P ops l Q a' w) (pick l t) a
  | .reads t p, a, w => wpQuiet P ops (fun w' => ∃ y, w' = over w y) (fun a' => p.wp P ops l Q a' w) (pick l t) a
  | .one i p, a, w => oneK P ops Q (fun a' w' => p.wp P ops l Q a' w') (pick l [i]) a w
  | .two i p j q, a, w => oneK P ops Q (fun a' w' => p.wp P ops l Q a' w') (pick l [i]) a w ∧ oneK P ops Q (fun a' w' => q.wp P ops l Q a' w') (pick l [j]) a w
  | .three i p j q k r, a, w => oneK P ops Q (fun a' w' => p.wp P ops l Q a' w') (pick l [i]) a w ∧ oneK P ops Q (fun a' w' => q.wp P ops l Q a' w') (pick l [j]) a w ∧ oneK P ops Q (fun a' w' => r.wp P ops l Q a' w') (pick l [k]) a w
section
variable {P : Program} {ops : Array Oper} {md : Region.Mode} {Q : Exit → Act → World → Prop}
theorem wpAny_plan {l : List Oper} (hl : ∀ i : Nat, l[i]? = ops[i]?) (hsel : Region.noSelect ops = true) (hQ : ∀ c a d v w, Q (.panic c) (Act.put a d v) w → Q (.panic c) a w) :
    ∀ (p : Plan) (d : Array Bool) (a : Act) (w : World), p.check md ops d = true → p.wp P ops l Q a w → wpAny P md ops Q p.size d a w
  | .tail t, d, a, w, hc, h => wpAny_tail hl t d a w hc h
  | .quiet t p, d, a, w, hc, h => by
    simp only [Plan.check, Bool.and_eq_true] at hc
    exact wpAny_head hl hsel hQ t d a hc.1 h fun a' h' => wpAny_plan hl hsel hQ p _ a' w hc.2 h'
  | .reads t p, d, a, w, hc, h => by
    simp only [Plan.check, Bool.and_eq_true] at hc
    have e : (fun w' => ∃ y, w' = over w y) = fun w' => Below w.heap.size w w' := funext fun w' => propext (over_iff w w')
    unfold Plan.wp at h
    rw [e] at h
    exact K3.wpAny_readsHead hl (fun w1 w2 h1 h2 => grow_trans h1 h2) hsel hQ (grow_refl w) t d a hc.1 h fun a' h' => wpAny_plan hl hsel hQ p _ a' w hc.2 h'
  | .one i p, d, a, w, hc, h => by
    simp only [Plan.check, Bool.and_eq_true, decide_eq_true_eq] at hc
    obtain ⟨hr, hc⟩ := hc
    refine ⟨fun h3 => (by rw [hr] at h3; cases h3), fun j hj => ?_⟩
    have hj0 := hj
    rw [hr] at hj
    obtain rfl : j = i := by simpa using hj
    obtain ⟨_, o, ho, _⟩ := mem_ready.1 hj0
    unfold Plan.wp at h
    rw [show pick l [j] = [o] by simp [pick, hl j, ho]] at h
    exact wpOp_mono (fun a' w' h' => wpAny_plan hl hsel hQ p _ a' w' hc h') (wpOp_of_oneK ho h)
  | .two i p j q, d, a, w, hc, h => by
    simp only [Plan.check, Bool.and_eq_true, decide_eq_true_eq] at hc
    obtain ⟨⟨⟨hr, hs⟩, hc1⟩, hc2⟩ := hc
    have hs := Nat.eq_of_beq_eq_true hs
    refine ⟨fun h3 => (by rw [hr] at h3; cases h3), fun k hk => ?_⟩
    have hk0 := hk
    rw [hr] at hk
    obtain ⟨_, o, ho, _⟩ := mem_ready.1 hk0
    unfold Plan.wp at h
    rcases (by simpa using hk : k = i ∨ k = j) with e | e
    · subst e
      have h1 := h.1
      rw [show pick l [k] = [o] by simp [pick, hl k, ho]] at h1
      exact wpOp_mono (fun a' w' h' => wpAny_plan hl hsel hQ p _ a' w' hc1 h') (wpOp_of_oneK ho h1)
    · subst e
      have h1 := h.2
      rw [show pick l [k] = [o] by simp [pick, hl k, ho]] at h1
      refine wpOp_mono (fun a' w' h' => ?_) (wpOp_of_oneK ho h1)
      rw [hs]
      exact wpAny_plan hl hsel hQ q _ a' w' hc2 h'
  | .three i p j q x r, d, a, w, hc, h => by
    simp only [Plan.check, Bool.and_eq_true, decide_eq_true_eq] at hc
    obtain ⟨⟨⟨⟨⟨hr, hs⟩, hs2⟩, hc1⟩, hc2⟩, hc3⟩ := hc
    have hs := Nat.eq_of_beq_eq_true hs
    have hs2 := Nat.eq_of_beq_eq_true hs2
    refine ⟨fun h3 => (by rw [hr] at h3; cases h3), fun k hk => ?_⟩
    have hk0 := hk
    rw [hr] at hk
    obtain ⟨_, o, ho, _⟩ := mem_ready.1 hk0
    unfold Plan.wp at h
    rcases (by simpa using hk : k = i ∨ k = j ∨ k = x) with e | e | e
    · subst e
      have h1 := h.1
      rw [show pick l [k] = [o] by simp [pick, hl k, ho]] at h1
      exact wpOp_mono (fun a' w' h' => wpAny_plan hl hsel hQ p _ a' w' hc1 h') (wpOp_of_oneK ho h1)
    · subst e
      have h1 := h.2.1
      rw [show pick l [k] = [o] by simp [pick, hl k, ho]] at h1
      refine wpOp_mono (fun a' w' h' => ?_) (wpOp_of_oneK ho h1)
      rw [hs]
      exact wpAny_plan hl hsel hQ q _ a' w' hc2 h'
    · subst e
      have h1 := h.2.2
      rw [show pick l [k] = [o] by simp [pick, hl k, ho]] at h1
      refine wpOp_mono (fun a' w' h' => ?_) (wpOp_of_oneK ho h1)
      rw [hs2]
      exact wpAny_plan hl hsel hQ r _ a' w' hc3 h'
theorem wp_region_plan {id : Nat} {a : Act} {w : World} {l : List Oper} (p : Plan) (hm : P.follows .mixedOrders = true)
    (hsel : Region.noSelect l.toArray = true) (hlen : (Nat.beq p.size l.length) = true) (hC : p.check .any l.toArray (Array.replicate l.length false) = true)
    (hQ : ∀ c a d v w, Q (.panic c) (Act.put a d v) w → Q (.panic c) a w)
    (h : p.wp P l.toArray l Q a w.drew) : (Code.region id l.toArray true).wp P Q a w := by
  refine wp_region_any hm ?_
  have hl : ∀ i : Nat, l[i]? = l.toArray[i]? := fun i => by simp
  have e : l.toArray.size = p.size := by have := Nat.eq_of_beq_eq_true hlen; simp; omega
  rw [show Array.replicate l.toArray.size false = Array.replicate l.length false by rw [List.size_toArray], e]
  exact wpAny_plan hl hsel hQ p _ a _ hC h
end
end Go.Grow
