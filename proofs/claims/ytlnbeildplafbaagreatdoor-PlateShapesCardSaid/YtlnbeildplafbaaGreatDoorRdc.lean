/- A region whose order is open: what looks at no world, then what reads old cells; one order is left of the rest. Nothing of a program stands here. -/
import Derived.Test.YtlnbeildplafbaaGreatDoorTwo
set_option linter.unusedSimpArgs false
set_option linter.unusedVariables false
namespace Go.Grow
open Go Go.RowKit
section
variable {P : Program} {ops : Array Oper} {md : Region.Mode} {Q : Exit → Act → World → Prop}
theorem wp_region_reads1 {id : Nat} {a : Act} {w : World} {l : List Oper} (head reads tail : List Nat) (hm : P.follows .mixedOrders = true)
    (hsel : Region.noSelect l.toArray = true) (hlen : (Nat.beq (head.length + (reads.length + tail.length)) l.length) = true)
    (hB : headB .any l.toArray head (Array.replicate l.length false) = true) (hR : readsB .any l.toArray reads (marked (Array.replicate l.length false) head) = true)
    (hT : tailB .any l.toArray tail (marked (marked (Array.replicate l.length false) head) reads) = true)
    (hQ : ∀ c a d v w, Q (.panic c) (Act.put a d v) w → Q (.panic c) a w)
    (h : wpQuiet P l.toArray (fun _ => True) (fun a' => wpQuiet P l.toArray (fun w' => ∃ y, w' = over w y) (fun a'' => wpList P l.toArray Q (pick l tail) a'' w.drew) (pick l reads) a') (pick l head) a) : (Code.region id l.toArray true).wp P Q a w := by
  have hl : ∀ i : Nat, l[i]? = l.toArray[i]? := fun i => by simp
  have e : (fun w' => ∃ y, w' = over w y) = fun w' => Below w.heap.size w w' := funext fun w' => propext (over_iff w w')
  rw [e] at h
  refine wp_region_reads head reads tail.length hm hsel hlen hB hR hQ ?_
  refine wpQuiet_weaken (fun a' ha => ?_) _ _ h
  exact wpQuiet_weaken (fun a'' ha' => wpAny_tail hl tail _ a'' _ hT ha') _ _ ha
end
end Go.Grow
/- A region whose order is open: what looks at no world, then what reads old cells, though calls that leave the old cells as they are stand beside it; one order is left of the rest. Nothing of a program stands here. -/
set_option linter.unusedSimpArgs false
set_option linter.unusedVariables false
namespace Go.Grow
open Go Go.RowKit
section
variable {P : Program} {ops : Array Oper} {md : Region.Mode} {C : World → Prop} {Q : Exit → Act → World → Prop}

theorem keep_putC {j : Nat} {oi oj : Oper} {v : Value} (hj : ops[j]? = some oj) (hap : oi.apart ops oj = true)
    (hsi : ∀ cs b, oi.op ≠ .select cs b) (hsj : ∀ cs b, oj.op ≠ .select cs b)
    (hQ : ∀ c a d v w, Q (.panic c) (Act.put a d v) w → Q (.panic c) a w) {K : Act → World → Prop} {a : Act} {w : World}
    (hy : YieldsIn P ops C oi v a) (h : wpOp P ops Q j K (a.put oi.dst v) w) :
    wpOp P ops Q j (fun a' w' => YieldsIn P ops C oi v a' ∧ K (a'.put oi.dst v) w') a w := by
  obtain ⟨h1, h2, h3⟩ := Oper.apart_spec hap
  have keep : ∀ u, YieldsIn P ops C oi v (a.put oj.dst u) := fun u => hy.of_same (execOp_put oi hsi a oj.dst u h3) (wanted_put oi a oj.dst u h3)
  have ed : ∀ d, ({ (a.put oi.dst v) with defers := d :: (a.put oi.dst v).defers } : Act) = ({ a with defers := d :: a.defers } : Act).put oi.dst v := fun d => by
    unfold Act.put; split <;> rfl
  have keepd : ∀ d, YieldsIn P ops C oi v (({ a with defers := d :: a.defers } : Act).put oj.dst undef) := fun d =>
    (show YieldsIn P ops C oi v ({ a with defers := d :: a.defers } : Act) from hy.of_same rfl rfl).of_same (execOp_put oi hsi _ oj.dst undef h3) (wanted_put oi _ oj.dst undef h3)
  unfold wpOp at *
  simp only [hj] at *
  rw [wanted_put oj a oi.dst v h1] at h
  split
  · rename_i hwt
    simp only [hwt, if_true] at h
    rcases h with h | ⟨hasks, hlets⟩
    · refine .inl ?_
      unfold Oper.wp at *
      rw [execOp_put oj hsj a oi.dst v h1] at h
      cases hr : (execOp a.eval oj).run P w with
      | ok n w' =>
        rw [hr] at h
        cases n <;> simp only [Oper.upon] at h ⊢
        case value u => exact ⟨keep u, by rw [← Act.put_comm a v u h2]; exact h⟩
        case skip => exact ⟨keep undef, by rw [← Act.put_comm a v undef h2]; exact h⟩
        case defer d => exact ⟨keepd d, by rw [← Act.put_comm _ v undef h2, ← ed]; exact h⟩
        case enter f args =>
          refine Calls.mono h fun e w'' he => ?_
          cases e with
          | returned u => exact ⟨keep u, by rw [← Act.put_comm a v u h2]; exact he⟩
          | panicked c => exact hQ _ _ _ _ _ he
          | outgrown => exact he
        case row => exact Rows.mono h fun u w'' he => ⟨keep u, by rw [← Act.put_comm a v u h2]; exact he⟩
        all_goals exact h
      | halt x w' =>
        rw [hr] at h
        cases x <;> simp only [Oper.upon] at h ⊢
        case panic u => exact hQ _ _ _ _ _ h
    · exact .inr ⟨by unfold Oper.asks at *; rw [execOp_put oj hsj a oi.dst v h1] at hasks; exact hasks, hlets⟩
  · rename_i hwt
    simp only [hwt] at h
    exact ⟨keep _, by rw [← Act.put_comm a v undef h2]; exact h⟩

/-- Whatever order is picked, each operation leaves a world of the class. -/
def wpAnyC (P : Program) (md : Region.Mode) (ops : Array Oper) (C : World → Prop) (Q : Exit → Act → World → Prop) : Nat → Array Bool → Act → World → Prop
  | 0, listed, a, w => Region.ready md ops listed = [] ∧ Q .normal a w
  | fuel + 1, listed, a, w => (Region.ready md ops listed = [] → Q .normal a w) ∧
    ∀ i ∈ Region.ready md ops listed, wpOp P ops Q i (fun a' w' => C w' ∧ wpAnyC P md ops C Q fuel (listed.setIfInBounds i true) a' w') a w
theorem wpAny_of_C : ∀ (fuel : Nat) (listed : Array Bool) (a : Act) (w : World), wpAnyC P md ops C Q fuel listed a w → wpAny P md ops Q fuel listed a w
  | 0, _, _, _, h => h
  | fuel + 1, _, _, _, h => ⟨h.1, fun i hi => wpOp_mono (fun a' w' h' => wpAny_of_C fuel _ a' w' h'.2) (h.2 i hi)⟩

theorem wpAnyC_reads {i : Nat} {oi : Oper} {v : Value} (hi : ops[i]? = some oi) (hki : keepB oi.op = true) (hsel : ∀ (j : Nat) (o : Oper) cs b, ops[j]? = some o → o.op ≠ .select cs b)
    (hQ : ∀ c a d v w, Q (.panic c) (Act.put a d v) w → Q (.panic c) a w) :
    ∀ (fuel : Nat) (listed : Array Bool) (a : Act) (w : World), C w →
      (∀ j oj, ops[j]? = some oj → j ≠ i → listed.getD j true = false → (∀ e ∈ oj.after, Region.binds md e = true → e.on ≠ i) → oi.apart ops oj = true) →
      i ∈ Region.ready md ops listed → YieldsIn P ops C oi v a →
      wpAnyC P md ops C Q fuel (listed.setIfInBounds i true) (a.put oi.dst v) w → wpAnyC P md ops C Q (fuel + 1) listed a w := by
  intro fuel
  have now : ∀ {a : Act} {w : World} {K : Act → World → Prop}, C w → YieldsIn P ops C oi v a → K (a.put oi.dst v) w → wpOp P ops Q i K a w := fun hw hy h =>
    read_now hi hki hw (fun w w' n hr => (keep_exec hki _ hr).1) hy h
  induction fuel with
  | zero =>
    intro listed a w hw _ hr hy H
    refine ⟨fun h => (by rw [h] at hr; cases hr), fun j hj => ?_⟩
    by_cases hji : j = i
    · subst hji; exact now hw hy ⟨hw, H⟩
    · have := ready_mono hj hji
      rw [H.1] at this
      cases this
  | succ fuel ih =>
    intro listed a w hw hfree hr hy H
    refine ⟨fun h => (by rw [h] at hr; cases hr), fun j hj => ?_⟩
    by_cases hji : j = i
    · subst hji; exact now hw hy ⟨hw, H⟩
    · have h1 := H.2 j (ready_mono hj hji)
      have hun := (mem_ready.1 hr).1
      obtain ⟨hjun, oj, hoj, hall⟩ := mem_ready.1 hj
      have hnot : ∀ e ∈ oj.after, Region.binds md e = true → e.on ≠ i := fun e he hb heq => by
        have h1 := hall e he hb
        rw [heq, getD_both hun] at h1
        cases h1
      have h2 := keep_putC hoj (hfree j oj hoj hji hjun hnot) (fun cs b => hsel i oi cs b hi) (fun cs b => hsel j oj cs b hoj) hQ hy h1
      have hfree' : ∀ k ok, ops[k]? = some ok → k ≠ i → (listed.setIfInBounds j true).getD k true = false →
          (∀ e ∈ ok.after, Region.binds md e = true → e.on ≠ i) → oi.apart ops ok = true := fun k ok hk hki hu hno => by
        refine hfree k ok hk hki ?_ hno
        by_cases hjk : j = k
        · subst hjk; exact hjun
        · rw [getD_set_ne true hjk] at hu; exact hu
      refine wpOp_mono (fun a' w' h3 => ⟨h3.2.1, ih (listed.setIfInBounds j true) a' w' h3.2.1 hfree' (ready_mono hr (Ne.symm hji)) h3.1 ?_⟩) h2
      rw [Array.setIfInBounds_comm _ _ hji]
      exact h3.2.2

def readsC (md : Region.Mode) (ops : Array Oper) : List Nat → Array Bool → Bool
  | [], _ => true
  | i :: t, listed => (match ops[i]? with | some o => keepB o.op | none => false) && (Region.ready md ops listed).contains i && Region.free md ops listed i && readsC md ops t (listed.setIfInBounds i true)
theorem wpAnyC_readsHead {l : List Oper} (hl : ∀ i : Nat, l[i]? = ops[i]?) (hsel : Region.noSelect ops = true)
    (hQ : ∀ c a d v w, Q (.panic c) (Act.put a d v) w → Q (.panic c) a w) {Lq : Act → Prop} {g : Nat} {w : World} (hw : C w) : ∀ (t : List Nat) (listed : Array Bool) (a : Act),
    readsC md ops t listed = true → wpQuiet P ops C Lq (pick l t) a → (∀ a', Lq a' → wpAnyC P md ops C Q g (marked listed t) a' w) → wpAnyC P md ops C Q (t.length + g) listed a w
  | [], listed, a, _, h, hK => by rw [List.length_nil, Nat.zero_add]; exact hK a h
  | i :: t, listed, a, hB, h, hK => by
    simp only [readsC, Bool.and_eq_true] at hB
    obtain ⟨⟨⟨h0, h1⟩, h2⟩, h3⟩ := hB
    cases ho : ops[i]? with
    | none => rw [ho] at h0; cases h0
    | some o =>
      rw [ho] at h0
      have hp : pick l (i :: t) = o :: pick l t := by simp [pick, hl i, ho]
      rw [hp] at h
      have hst : qOp P ops C i (wpQuiet P ops C Lq (pick l t)) a := by unfold qOp; simp only [ho]; exact h
      obtain ⟨v, hy, hn⟩ := yieldsIn_of_qOp ho hst
      rw [List.length_cons, Nat.add_right_comm]
      exact wpAnyC_reads ho h0 (Region.noSelect_spec hsel) hQ _ _ _ _ hw (Region.free_spec ho h2) (by simpa using h1) hy (wpAnyC_readsHead hl hsel hQ hw t _ _ h3 hn hK)

/-- One behind the other; behind each a world of the class. -/
def seqC (P : Program) (ops : Array Oper) (C : World → Prop) (Q : Exit → Act → World → Prop) : List Oper → Act → World → Prop
  | [], a, w => Q .normal a w
  | o :: t, a, w => wpList P ops (fun e a' w' => match e with
    | .normal => C w' ∧ seqC P ops C Q t a' w'
    | e => Q e a' w') [o] a w
theorem wpOp_of_seqC {i : Nat} {o : Oper} {t : List Oper} {a : Act} {w : World} (ho : ops[i]? = some o) (h : seqC P ops C Q (o :: t) a w) : wpOp P ops Q i (fun a' w' => C w' ∧ seqC P ops C Q t a' w') a w := by
  unfold wpOp
  simp only [ho]
  unfold seqC wpList at h
  split
  · rename_i hw
    rw [if_pos hw] at h
    rcases h with h | ⟨h1, h2⟩
    · refine .inl ?_
      unfold Oper.wp at *
      generalize (execOp a.eval o).run P w = r at *
      cases r with
      | ok n w' =>
        cases n <;> simp only [Oper.upon, wpList] at h ⊢
        case enter f args =>
          refine Calls.mono h fun e w'' he => ?_
          cases e with
          | returned u => exact he
          | panicked c => exact he
          | outgrown => exact he
        all_goals exact h
      | halt x w' => cases x <;> simp only [Oper.upon] at h ⊢ <;> exact h
    · exact .inr ⟨h1, h2⟩
  · rename_i hw
    rw [if_neg hw] at h
    unfold wpList at h
    exact h
theorem wpAnyC_tail {l : List Oper} (hl : ∀ i : Nat, l[i]? = ops[i]?) : ∀ (t : List Nat) (listed : Array Bool) (a : Act) (w : World),
    tailB md ops t listed = true → seqC P ops C Q (pick l t) a w → wpAnyC P md ops C Q t.length listed a w
  | [], _, _, _, hB, h => ⟨by simpa [tailB] using hB, h⟩
  | i :: t, listed, a, w, hB, h => by
    simp only [tailB, Bool.and_eq_true, decide_eq_true_eq] at hB
    obtain ⟨⟨h0, h1⟩, h2⟩ := hB
    cases ho : ops[i]? with
    | none => rw [ho] at h0; cases h0
    | some o =>
      have hp : pick l (i :: t) = o :: pick l t := by simp [pick, hl i, ho]
      rw [hp] at h
      refine ⟨fun h3 => (by rw [h1] at h3; cases h3), fun j hj => ?_⟩
      rw [h1] at hj
      have hji : j = i := by simpa using hj
      subst hji
      exact wpOp_mono (fun a' w' h' => ⟨h'.1, wpAnyC_tail hl t _ a' w' h2 h'.2⟩) (wpOp_of_seqC ho h)

/-- What looks at no world first, then what reads cells of an old world w0; one order is left of the others, each of which leaves what was there in w0. -/
theorem wp_region_calls {id : Nat} {a : Act} {w w0 : World} {l : List Oper} (hw0 : Below w0.heap.size w0 w) (head reads tail : List Nat) (hm : P.follows .mixedOrders = true)
    (hsel : Region.noSelect l.toArray = true) (hlen : (Nat.beq (head.length + (reads.length + tail.length)) l.length) = true)
    (hB : headB .any l.toArray head (Array.replicate l.length false) = true) (hR : readsC .any l.toArray reads (marked (Array.replicate l.length false) head) = true)
    (hT : tailB .any l.toArray tail (marked (marked (Array.replicate l.length false) head) reads) = true)
    (hQ : ∀ c a d v w, Q (.panic c) (Act.put a d v) w → Q (.panic c) a w)
    (h : wpQuiet P l.toArray (fun _ => True) (fun a' => wpQuiet P l.toArray (fun w' => ∃ y, w' = over w0 y) (fun a'' => seqC P l.toArray (fun w' => Below w0.heap.size w0 w') Q (pick l tail) a'' w.drew) (pick l reads) a') (pick l head) a) : (Code.region id l.toArray true).wp P Q a w := by
  refine wp_region_any hm ?_
  have hl : ∀ i : Nat, l[i]? = l.toArray[i]? := fun i => by simp
  have e : l.toArray.size = head.length + (reads.length + tail.length) := by have := Nat.eq_of_beq_eq_true hlen; simp; omega
  have e2 : (fun w' => ∃ y, w' = over w0 y) = fun w' => Below w0.heap.size w0 w' := funext fun w' => propext (over_iff w0 w')
  rw [e2] at h
  rw [show Array.replicate l.toArray.size false = Array.replicate l.length false by rw [List.size_toArray], e]
  exact wpAny_head hl hsel hQ head _ a hB h fun a' ha => wpAny_of_C _ _ _ _ (wpAnyC_readsHead hl hsel hQ (Below.drew hw0) reads _ _ hR ha fun a'' ha' => wpAnyC_tail hl tail _ _ _ hT ha')
end
end Go.Grow
