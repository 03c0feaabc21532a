/- A region whose order is open: operations that look at no world, whatever their place, and others that come up in one order alone. Nothing of a program stands here. -/
import Derived.Test.YtlnbeildplafbaaGreatDoorGrow
set_option linter.unusedSimpArgs false
set_option linter.unusedVariables false
namespace Go.Grow
open Go Go.RowKit
section
variable {P : Program} {ops : Array Oper} {md : Region.Mode}

/-- Operations that yield a value and nothing else. -/
def pureB : Op → Bool
  | .move _ | .assign _ | .pick _ _ _ | .binOp _ _ _ _ _ | .unOp _ _ _ | .slice _ _ _ _ _ | .extract _ _ | .fieldAddr _ _ _ | .indexAddr _ _ _ | .build _ _ | .index _ _ _ | .nilCheck _ => true
  | _ => false
theorem pure_no {w w' : World} {n : Next} {C : Prop} (h : (runtimePanic .nilDeref : Sem Next).run P w = .ok n w') : C := by
  simp [runtimePanic, goPanic, go_sem] at h
theorem pure_value {o : Oper} (hp : pureB o.op = true) {ρ : Operand → Value} {w w' : World} {n : Next} (h : (execOp ρ o).run P w = .ok n w') : ∃ u, n = .value u := by
  have key : ∀ (s : Sem Value), (do pure (Next.value (← s)) : Sem Next).run P w = .ok n w' → ∃ u, n = .value u := fun s hs => by
    rw [Sem.run_bind] at hs
    cases hr : s.run P w with
    | ok x w2 =>
      rw [hr] at hs
      simp only [Result.andThen_ok, Sem.run_pure] at hs
      cases hs
      exact ⟨_, rfl⟩
    | halt x w2 => rw [hr] at hs; simp [Result.andThen] at hs
  unfold execOp at h
  unfold pureB at hp
  split at hp
  all_goals first
    | (rename_i e; simp only [e] at h; exact key _ h)
    | (rename_i e; simp only [e, Sem.run_pure] at h; cases h; exact ⟨_, rfl⟩)
    | cases hp
    | skip
  rename_i c x y e
  simp only [e] at h
  rw [Sem.run_bind] at h
  cases hr : (asBool (ρ c)).run P w with
  | ok b w2 =>
    rw [hr] at h
    simp only [Result.andThen_ok, Sem.run_pure] at h
    cases h
    exact ⟨_, rfl⟩
  | halt z w2 => rw [hr] at h; simp [Result.andThen] at h
  rename_i x e
  simp only [e] at h
  split at h
  · exact pure_no h
  · exact pure_no h
  · exact pure_no h
  · split at h
    · exact pure_no h
    · rename_i t' w' _
      rw [Sem.run_bind] at h
      cases hp2 : program.run P w with
      | halt z w2 => rw [hp2] at h; simp [Result.andThen] at h
      | ok b w2 =>
        rw [hp2] at h
        simp only [Result.andThen_ok] at h
        rw [Sem.run_bind] at h
        generalize nilAhead _ _ _ _ = q at h
        cases hq : q.run P w2 with
        | halt z w3 => rw [hq] at h; simp [Result.andThen] at h
        | ok b2 w3 =>
          rw [hq] at h
          simp only [Result.andThen_ok] at h
          split at h
          · simp [unsupported, go_sem] at h
          · simp only [Sem.run_pure] at h; cases h; exact ⟨_, rfl⟩
    · simp only [Sem.run_pure] at h; cases h; exact ⟨_, rfl⟩
  · simp only [Sem.run_pure] at h; cases h; exact ⟨_, rfl⟩

theorem yields_of_pure {o : Oper} {v : Value} {a : Act} (hp : pureB o.op = true) (h : YieldsIn P ops (fun _ => True) o v a) : Yields P ops o v a := by
  rcases h with ⟨hw, hv⟩ | ⟨hw, hv⟩
  · refine .inl ⟨hw, fun w => ?_⟩
    have h1 := hv w trivial
    unfold Oper.quietAt at h1
    cases hr : (execOp a.eval o).run P w with
    | ok n w' =>
      obtain ⟨u, rfl⟩ := pure_value hp hr
      rw [hr] at h1
      obtain ⟨e1, e2⟩ := h1
      rw [e1, e2]
    | halt z w' => rw [hr] at h1; exact h1.elim
  · exact .inr ⟨hw, hv⟩

/-- Operations out of a list, by their numbers. -/
def pick (l : List Oper) : List Nat → List Oper
  | [] => []
  | i :: t => (match l[i]? with | some o => [o] | none => []) ++ pick l t
def headB (md : Region.Mode) (ops : Array Oper) : List Nat → Array Bool → Bool
  | [], _ => true
  | i :: t, listed => (match ops[i]? with | some o => pureB o.op | none => false) && (Region.ready md ops listed).contains i && Region.free md ops listed i && headB md ops t (listed.setIfInBounds i true)
def tailB (md : Region.Mode) (ops : Array Oper) : List Nat → Array Bool → Bool
  | [], listed => (Region.ready md ops listed).isEmpty
  | i :: t, listed => (match ops[i]? with | some _ => true | none => false) && decide (Region.ready md ops listed = [i]) && tailB md ops t (listed.setIfInBounds i true)
def marked (listed : Array Bool) : List Nat → Array Bool
  | [] => listed
  | i :: t => marked (listed.setIfInBounds i true) t

theorem wpAny_tail {Q : Exit → Act → World → Prop} {l : List Oper} (hl : ∀ i : Nat, l[i]? = ops[i]?) : ∀ (t : List Nat) (listed : Array Bool) (a : Act) (w : World),
    tailB md ops t listed = true → wpList P ops Q (pick l t) a w → wpAny P md ops Q t.length listed a w
  | [], _, _, _, hB, h => ⟨by simpa [tailB] using hB, h⟩
  | i :: t, listed, a, w, hB, h => by
    simp only [tailB, Bool.and_eq_true, decide_eq_true_eq] at hB
    obtain ⟨⟨h0, h1⟩, h2⟩ := hB
    cases ho : ops[i]? with
    | none => rw [ho] at h0; cases h0
    | some o =>
      have hp : pick l (i :: t) = o :: pick l t := by simp [pick, hl i, ho]
      rw [hp] at h
      refine ⟨fun h3 => (by rw [h1] at h3; cases h3), fun j hj => ?_⟩
      rw [h1] at hj
      have hji : j = i := by simpa using hj
      subst hji
      have hw : wpOp P ops Q j (wpList P ops Q (pick l t)) a w := by unfold wpOp; simp only [ho]; exact h
      exact wpOp_mono (fun a' w' h' => wpAny_tail hl t _ a' w' h2 h') hw

theorem wpAny_head {Q : Exit → Act → World → Prop} {l : List Oper} (hl : ∀ i : Nat, l[i]? = ops[i]?) (hsel : Region.noSelect ops = true)
    (hQ : ∀ c a d v w, Q (.panic c) (Act.put a d v) w → Q (.panic c) a w) {Lq : Act → Prop} {g : Nat} {w : World} : ∀ (t : List Nat) (listed : Array Bool) (a : Act),
    headB md ops t listed = true → wpQuiet P ops (fun _ => True) Lq (pick l t) a → (∀ a', Lq a' → wpAny P md ops Q g (marked listed t) a' w) → wpAny P md ops Q (t.length + g) listed a w
  | [], listed, a, _, h, hK => by rw [List.length_nil, Nat.zero_add]; exact hK a h
  | i :: t, listed, a, hB, h, hK => by
    simp only [headB, Bool.and_eq_true] at hB
    obtain ⟨⟨⟨h0, h1⟩, h2⟩, h3⟩ := hB
    cases ho : ops[i]? with
    | none => rw [ho] at h0; cases h0
    | some o =>
      rw [ho] at h0
      have hp : pick l (i :: t) = o :: pick l t := by simp [pick, hl i, ho]
      rw [hp] at h
      have hst : qOp P ops (fun _ => True) i (wpQuiet P ops (fun _ => True) Lq (pick l t)) a := by unfold qOp; simp only [ho]; exact h
      obtain ⟨v, hy, hn⟩ := yieldsIn_of_qOp ho hst
      rw [List.length_cons, Nat.add_right_comm]
      exact wpAny_take ho hsel h2 h1 (fun c a w h => hQ c a _ _ w h) (yields_of_pure h0 hy) (wpAny_head hl hsel hQ t _ _ h3 hn hK)

theorem bodyPost_blind {fn : Func} {R : Ending → World → Prop} {c : List PanicEntry} {a : Act} {d : Option Tmp} {v : Value} {w : World} (h : bodyPost P fn R (.panic c) (Act.put a d v) w) : bodyPost P fn R (.panic c) a w := by
  obtain ⟨h1, h2⟩ := h
  refine ⟨?_, h2⟩
  cases d <;> simpa [Act.put] using h1
/-- The pure operations first, the others in their one order. -/
theorem wp_region_pure {id : Nat} {Q : Exit → Act → World → Prop} {a : Act} {w : World} {l : List Oper} (head tail : List Nat) (hm : P.follows .mixedOrders = true)
    (hsel : Region.noSelect l.toArray = true) (hlen : (Nat.beq (head.length + tail.length) l.length) = true)
    (hB : headB .any l.toArray head (Array.replicate l.length false) = true) (hT : tailB .any l.toArray tail (marked (Array.replicate l.length false) head) = true)
    (hQ : ∀ c a d v w, Q (.panic c) (Act.put a d v) w → Q (.panic c) a w)
    (h : wpQuiet P l.toArray (fun _ => True) (fun a' => wpList P l.toArray Q (pick l tail) a' w.drew) (pick l head) a) : (Code.region id l.toArray true).wp P Q a w := by
  refine wp_region_any hm ?_
  have hl : ∀ i : Nat, l[i]? = l.toArray[i]? := fun i => by simp
  have e : l.toArray.size = head.length + tail.length := by have := Nat.eq_of_beq_eq_true hlen; simp; omega
  rw [show Array.replicate l.toArray.size false = Array.replicate l.length false by rw [List.size_toArray], e]
  exact wpAny_head hl hsel hQ head _ a hB h fun a' ha => wpAny_tail hl tail _ a' _ hT ha
end
end Go.Grow
