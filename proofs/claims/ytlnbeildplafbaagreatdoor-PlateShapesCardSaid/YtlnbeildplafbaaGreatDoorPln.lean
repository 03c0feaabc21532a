/- An operation that reads old cells, taken first in a region whose order is open, though another one may lay memory beside it. Nothing of a program stands here. -/
import Derived.Test.YtlnbeildplafbaaGreatDoorPure
import Derived.Test.YtlnbeildplafbaaGreatDoorTw2
set_option linter.unusedSimpArgs false
set_option linter.unusedVariables false
namespace Go.Grow.K3
open Go Go.RowKit Go.Grow

/-- It leaves all that was there. -/
def Keeps {α : Type} (s : Sem α) : Prop := ∀ (P : Program) (w : World) (x : α) (w' : World), s.run P w = .ok x w' → Below w.heap.size w w'
theorem Keeps.pure {α : Type} (x : α) : Keeps (Pure.pure x : Sem α) := fun P w y w' h => by
  rw [Sem.run_pure] at h; cases h; exact Below.refl _ _
theorem Keeps.bind {α β : Type} {s : Sem α} {k : α → Sem β} (h : Keeps s) (hk : ∀ x, Keeps (k x)) : Keeps (s >>= k) := fun P w y w' h2 => by
  rw [Sem.run_bind] at h2
  cases hr : s.run P w with
  | ok x w2 =>
    rw [hr] at h2
    simp only [Result.andThen_ok] at h2
    exact grow_trans (h P w x w2 hr) (hk x P w2 y w' h2)
  | halt x w2 => rw [hr] at h2; simp [Result.andThen] at h2
theorem keeps_halt {α : Type} (x : Halt) : Keeps (Sem.halt x : Sem α) := fun P w y w' h => by simp [Sem.run] at h
theorem keeps_program : Keeps program := fun P w y w' h => by
  simp only [program, Sem.run] at h; cases h; exact Below.refl _ _
theorem keeps_load (a : Addr) : Keeps (load a) := fun P w y w' h => by
  simp only [load, Sem.run] at h
  split at h
  · cases h; exact Below.refl _ _
  · split at h
    · cases h; exact Below.refl _ _
    · cases h
theorem keeps_new (o : Obj) : Keeps (newObj o) := fun P w y w' h => by
  simp only [newObj, Sem.run] at h; cases h; exact grow_alloc (grow_refl w) o
theorem keeps_underlying (t : TypeId) : Keeps (underlying t) := by
  unfold underlying
  refine keeps_program.bind fun p => ?_
  split
  · exact .pure _
  · exact keeps_halt _
theorem keeps_typeInfo (t : TypeId) : Keeps (typeInfo t) := by
  unfold typeInfo
  refine keeps_program.bind fun p => ?_
  split
  · exact .pure _
  · exact keeps_halt _
theorem keeps_sizeOf (t : TypeId) : Keeps (sizeOf t) := (keeps_typeInfo t).bind fun _ => .pure _
theorem keeps_zero (t : TypeId) : Keeps (zeroValue t) := by
  unfold zeroValue
  refine (keeps_typeInfo t).bind fun i => ?_
  split
  · exact .pure _
  · exact keeps_halt _
theorem keeps_isAgg (t : TypeId) : Keeps (isAgg t) := by
  unfold isAgg
  refine (keeps_underlying t).bind fun d => ?_
  split <;> exact .pure _
theorem keeps_cells (a : Addr) : ∀ (n i : Nat) (acc : Array Value), Keeps (loadCellsFrom a i n acc)
  | 0, i, acc => .pure _
  | n + 1, i, acc => (keeps_load _).bind fun v => keeps_cells a n (i + 1) _
theorem keeps_loadVar (t : TypeId) (a : Addr) : Keeps (loadVar t a) := by
  unfold loadVar
  refine (keeps_isAgg t).bind fun b => ?_
  split
  · exact (keeps_sizeOf t).bind fun n => (keeps_cells a n 0 _).bind fun c => .pure _
  · exact keeps_load a
theorem keeps_sure (v : Value) : Keeps (Instr.sureAddr v) := by
  unfold Instr.sureAddr
  split
  · exact .pure _
  · exact keeps_halt _
theorem keeps_loadAt (t : TypeId) (v : Value) : Keeps (Instr.loadAt t v) := (keeps_sure v).bind fun a => keeps_loadVar t a
theorem keeps_alloc (t : TypeId) : Keeps (Instr.alloc t true (.tuple #[])) := by
  unfold Instr.alloc
  refine (keeps_zero t).bind fun z => ?_
  refine Keeps.bind ?_ fun a => .pure _
  unfold newVar newRow
  exact (keeps_new _).bind fun _ => .pure _

theorem keeps_getObj (r : Nat) : Keeps (getObj r) := fun P w y w' h => by
  simp only [getObj, Sem.run] at h
  split at h <;> first
    | (cases h; done)
    | (cases h; exact Below.refl _ _)
theorem keeps_len (ts : Array TypeId) (t : TypeId) (args : Array Value) : Keeps (Builtin.len_ ts t args) := by
  unfold Builtin.len_
  split
  · refine (keeps_underlying _).bind fun d => ?_
    split
    · exact .pure _
    · exact .pure _
    · refine (keeps_underlying _).bind fun d => ?_
      split
      · exact .pure _
      · exact keeps_halt _
    · exact .pure _
    · exact .pure _
    · exact .pure _
    · refine (keeps_getObj _).bind fun d => ?_
      split
      · exact .pure _
      · exact keeps_halt _
    · refine (keeps_getObj _).bind fun d => ?_
      split
      · exact .pure _
      · exact keeps_halt _
    · exact keeps_halt _
  · exact keeps_halt _
theorem keeps_row (e : TypeId) (c : Array Value) : Keeps (newRow e c) := (keeps_new _).bind fun _ => .pure _
theorem keeps_buildSlice (t : TypeId) (n : Nat) (parts : Array (Nat × Value)) : Keeps (Instr.buildSlice t n parts) := by
  unfold Instr.buildSlice
  refine (keeps_underlying _).bind fun d => ?_
  split
  · refine (keeps_sizeOf _).bind fun size => ?_
    repeat' first
      | exact .pure _
      | exact keeps_halt _
      | exact keeps_zero _
      | exact keeps_row _ _
      | (refine Keeps.bind ?_ fun _ => ?_)
      | split
      | (dsimp only; split)
  · exact keeps_halt _
theorem no_bounds {α : Type} (a b : Int) (c : Bool) (d : BoundsCode) (P : Program) (w : World) (x : α) (w' : World) (h : (runtimePanic (.bounds a b c d) : Sem α).run P w = .ok x w') : False := by
  unfold runtimePanic at h
  rw [Sem.run_bind] at h
  cases hr : program.run P w with
  | halt y w2 => rw [hr] at h; simp [Result.andThen] at h
  | ok p w2 =>
    rw [hr] at h
    simp only [Result.andThen_ok] at h
    simp [goPanic, Sem.run] at h
theorem keeps_of_no {α : Type} {s : Sem α} (h : ∀ P w x w', s.run P w = .ok x w' → False) : Keeps s := fun P w x w' hr => (h P w x w' hr).elim
theorem no_bind {α β : Type} {s : Sem α} {k : α → Sem β} (h : ∀ y P w x w', (k y).run P w = .ok x w' → False) : ∀ P w x w', (s >>= k).run P w = .ok x w' → False := fun P w x w' hr => by
  rw [Sem.run_bind] at hr
  cases hs : s.run P w with
  | halt y w2 => rw [hs] at hr; simp [Result.andThen] at hr
  | ok y w2 =>
    rw [hs] at hr
    simp only [Result.andThen_ok] at hr
    exact h _ _ _ _ _ hr
theorem keeps_bounds {α : Type} (k : IntKind) (x y : Int) (c : BoundsCode) : Keeps (boundsPanic k x y c : Sem α) := by
  refine keeps_of_no ?_
  unfold boundsPanic
  split
  · exact no_bind fun y => no_bounds _ _ _ _
  · first
      | exact no_bind fun y => no_bounds _ _ _ _
      | exact no_bounds _ _ _ _
theorem keeps_asInt (v : Value) : Keeps (asIntOf v) := by
  unfold asIntOf
  split
  · exact .pure _
  · exact keeps_halt _
  · exact keeps_halt _
theorem keeps_indexAt (t : TypeId) (x i : Value) : Keeps (Instr.indexAt t x i) := by
  unfold Instr.indexAt
  refine (keeps_asInt i).bind fun p => ?_
  dsimp only
  repeat' first
    | exact .pure _
    | exact keeps_halt _
    | exact keeps_bounds _ _ _ _
    | exact keeps_underlying _
    | exact keeps_sizeOf _
    | exact keeps_sure _
    | (refine Keeps.bind ?_ fun _ => ?_)
    | split
    | (dsimp only; split)
def lenC (c : Call) : Bool := match c.callee with
  | .builtin .len => true
  | _ => false
/-- Operations that read, or make a variable. -/
def keepB : Op → Bool
  | .load _ _ | .alloc _ => true
  | .call c => lenC c
  | .buildSlice _ _ _ => true
  | .indexAddr _ _ _ => true
  | _ => false
def readB : Op → Bool
  | .load _ _ => true
  | _ => false
theorem keep_exec {o : Oper} (hk : keepB o.op = true) (ρ : Operand → Value) {P : Program} {w w' : World} {n : Next} (h : (execOp ρ o).run P w = .ok n w') : (∃ u, n = .value u) ∧ Below w.heap.size w w' := by
  have key : ∀ (s : Sem Value), Keeps s → (do pure (Next.value (← s)) : Sem Next).run P w = .ok n w' → (∃ u, n = .value u) ∧ Below w.heap.size w w' := fun s hs h => by
    rw [Sem.run_bind] at h
    cases hr : s.run P w with
    | ok x w2 =>
      rw [hr] at h
      simp only [Result.andThen_ok, Sem.run_pure] at h
      cases h
      exact ⟨⟨_, rfl⟩, hs P w x _ hr⟩
    | halt x w2 => rw [hr] at h; simp [Result.andThen] at h
  unfold execOp at h
  unfold keepB at hk
  split at hk
  · rename_i e; simp only [e] at h; exact key _ (keeps_loadAt _ _) h
  · rename_i e; simp only [e] at h; exact key _ (keeps_alloc _) h
  · rename_i c e
    simp only [e] at h
    unfold lenC at hk
    split at hk
    · rename_i hb
      unfold resolve at h
      rw [hb] at h
      simp only [Sem.run_bind, Sem.run_pure, Result.andThen_ok, invoke, builtin] at h
      exact key _ (keeps_len _ _ _) (by simpa [Sem.run_bind] using h)
    · cases hk
  · rename_i e; simp only [e] at h; exact key _ (keeps_buildSlice _ _ _) h
  · rename_i e; simp only [e] at h; exact key _ (keeps_indexAt _ _ _) h
  · cases hk

section
variable {P : Program} {ops : Array Oper} {md : Region.Mode} {C : World → Prop} {Q : Exit → Act → World → Prop}
def waits1 (md : Region.Mode) (ops : Array Oper) (i j : Nat) : Bool := match ops[j]? with | some oj => oj.after.any (fun e => Region.binds md e && e.on == i) | none => false
/-- j waits for i, be it through others. -/
inductive Later (md : Region.Mode) (ops : Array Oper) (listed : Array Bool) (i : Nat) : Nat → Prop
  | one {j : Nat} (h : waits1 md ops i j = true) : Later md ops listed i j
  | more {k j : Nat} (hk : k ≠ i) (hu : listed.getD k true = false) (hl : Later md ops listed i k) (h : waits1 md ops k j = true) : Later md ops listed i j
def laterB (md : Region.Mode) (ops : Array Oper) (listed : Array Bool) (i : Nat) : Nat → Nat → Bool
  | 0, _ => false
  | n + 1, j => waits1 md ops i j || (List.range ops.size).any fun k => k != i && !listed.getD k true && waits1 md ops k j && laterB md ops listed i n k
def heldB (md : Region.Mode) (ops : Array Oper) (listed : Array Bool) (i : Nat) : Bool :=
  (List.range ops.size).all fun j => j == i || listed.getD j true || (match ops[j]? with | some oj => keepB oj.op | none => true) || laterB md ops listed i 8 j
theorem waits1_spec {i j : Nat} {oj : Oper} (ho : ops[j]? = some oj) (h : waits1 md ops i j = true) : ∃ e ∈ oj.after, Region.binds md e = true ∧ e.on = i := by
  unfold waits1 at h
  rw [ho] at h
  obtain ⟨n, hn, h2⟩ := Array.any_eq_true.1 h
  simp only [Bool.and_eq_true, beq_iff_eq] at h2
  exact ⟨_, Array.getElem_mem hn, h2⟩
/-- What waits is not ready. -/
theorem not_ready {i j : Nat} {listed : Array Bool} (hi : listed.getD i true = false) (hj : j ∈ Region.ready md ops listed) (h : waits1 md ops i j = true) : False := by
  obtain ⟨_, oj, hoj, hall⟩ := mem_ready.1 hj
  obtain ⟨e, he, hb, rfl⟩ := waits1_spec hoj h
  have h1 := hall e he hb
  rw [getD_both hi] at h1
  cases h1

theorem Later.not_ready {i j : Nat} {listed : Array Bool} (h : Later md ops listed i j) (hi : listed.getD i true = false) (hj : j ∈ Region.ready md ops listed) : False := by
  cases h with
  | one h => exact K3.not_ready hi hj h
  | more hk hu hl h => exact K3.not_ready hu hj h
theorem Later.put {i j m : Nat} {listed : Array Bool} (h : Later md ops listed i j) (hi : listed.getD i true = false) (hm : m ∈ Region.ready md ops listed) : Later md ops (listed.setIfInBounds m true) i j := by
  induction h with
  | one h => exact .one h
  | more hk hu hl h ih =>
    rename_i k j
    refine .more hk ?_ ih h
    by_cases e : m = k
    · subst e; exact (hl.not_ready hi hm).elim
    · rw [getD_set_ne true e]; exact hu
theorem laterB_spec {i : Nat} {listed : Array Bool} : ∀ (n j : Nat), laterB md ops listed i n j = true → Later md ops listed i j
  | 0, j, h => by cases h
  | n + 1, j, h => by
    simp only [laterB, Bool.or_eq_true] at h
    rcases h with h | h
    · exact .one h
    · obtain ⟨k, _, hk⟩ := List.any_eq_true.1 h
      simp only [Bool.and_eq_true, bne_iff_ne, ne_eq, Bool.not_eq_true'] at hk
      exact .more hk.1.1.1 hk.1.1.2 (laterB_spec n k hk.2) hk.1.2

theorem keep_put {j : Nat} {oi oj : Oper} {v : Value} (hC : ∀ w w', C w → Below w.heap.size w w' → C w') (hj : ops[j]? = some oj) (hk : keepB oj.op = true) (hap : oi.apart ops oj = true)
    (hsi : ∀ cs b, oi.op ≠ .select cs b) (hsj : ∀ cs b, oj.op ≠ .select cs b)
    (hQ : ∀ c a d v w, Q (.panic c) (Act.put a d v) w → Q (.panic c) a w) {K : Act → World → Prop} {a : Act} {w : World} (hw : C w)
    (hy : YieldsIn P ops C oi v a) (h : wpOp P ops Q j K (a.put oi.dst v) w) :
    wpOp P ops Q j (fun a' w' => (C w' ∧ YieldsIn P ops C oi v a') ∧ K (a'.put oi.dst v) w') a w := by
  obtain ⟨h1, h2, h3⟩ := Oper.apart_spec hap
  have keep : ∀ u, YieldsIn P ops C oi v (a.put oj.dst u) := fun u => hy.of_same (execOp_put oi hsi a oj.dst u h3) (wanted_put oi a oj.dst u h3)
  unfold wpOp at *
  simp only [hj] at *
  rw [wanted_put oj a oi.dst v h1] at h
  split
  · rename_i hwt
    simp only [hwt, if_true] at h
    rcases h with h | ⟨hasks, hlets⟩
    · refine .inl ?_
      unfold Oper.wp at *
      rw [execOp_put oj hsj a oi.dst v h1] at h
      cases hr : (execOp a.eval oj).run P w with
      | ok n w' =>
        rw [hr] at h
        obtain ⟨⟨u, rfl⟩, hb⟩ := keep_exec hk _ hr
        simp only [Oper.upon] at h ⊢
        exact ⟨⟨hC _ _ hw hb, keep u⟩, by rw [← Act.put_comm a v u h2]; exact h⟩
      | halt x w' =>
        rw [hr] at h
        cases x <;> simp only [Oper.upon] at h ⊢
        case panic u => exact hQ _ _ _ _ _ h
    · exact .inr ⟨by unfold Oper.asks at *; rw [execOp_put oj hsj a oi.dst v h1] at hasks; exact hasks, hlets⟩
  · rename_i hwt
    simp only [hwt] at h
    exact ⟨⟨hw, keep _⟩, by rw [← Act.put_comm a v undef h2]; exact h⟩

theorem read_now {i : Nat} {oi : Oper} {v : Value} (hi : ops[i]? = some oi) (hk : keepB oi.op = true) {a : Act} {w : World} {K : Act → World → Prop} (hw : C w) (hro : ∀ w w' n, (execOp a.eval oi).run P w = .ok n w' → ∃ u, n = .value u)
    (hy : YieldsIn P ops C oi v a) (h : K (a.put oi.dst v) w) : wpOp P ops Q i K a w := by
  unfold wpOp
  simp only [hi]
  rcases hy with ⟨h1, h2⟩ | ⟨h1, rfl⟩
  · simp only [h1, if_true]
    refine .inl ?_
    have h3 := h2 w hw
    unfold Oper.quietAt at h3
    unfold Oper.wp
    cases hr : (execOp a.eval oi).run P w with
    | ok n w' =>
      obtain ⟨u, rfl⟩ := hro _ _ _ hr
      rw [hr] at h3
      simp only [Oper.quietUpon] at h3
      obtain ⟨e1, e2⟩ := h3
      simp only [Oper.upon]
      rw [e1, e2]
      exact h
    | halt x w' => rw [hr] at h3; simp only [Oper.quietUpon] at h3
  · simp only [h1, Bool.false_eq_true, if_false]
    exact h

theorem wpAny_reads {i : Nat} {oi : Oper} {v : Value} (hC : ∀ w w', C w → Below w.heap.size w w' → C w') (hi : ops[i]? = some oi) (hki : keepB oi.op = true) (hsel : ∀ (j : Nat) (o : Oper) cs b, ops[j]? = some o → o.op ≠ .select cs b)
    (hQ : ∀ c a d v w, Q (.panic c) (Act.put a d v) w → Q (.panic c) a w) :
    ∀ (fuel : Nat) (listed : Array Bool) (a : Act) (w : World), C w →
      (∀ j oj, ops[j]? = some oj → j ≠ i → listed.getD j true = false → (∀ e ∈ oj.after, Region.binds md e = true → e.on ≠ i) → oi.apart ops oj = true) →
      (∀ j oj, ops[j]? = some oj → j ≠ i → listed.getD j true = false → keepB oj.op = true ∨ Later md ops listed i j) →
      i ∈ Region.ready md ops listed → YieldsIn P ops C oi v a →
      wpAny P md ops Q fuel (listed.setIfInBounds i true) (a.put oi.dst v) w → wpAny P md ops Q (fuel + 1) listed a w := by
  intro fuel
  have now : ∀ {a : Act} {w : World} {K : Act → World → Prop}, C w → YieldsIn P ops C oi v a → K (a.put oi.dst v) w → wpOp P ops Q i K a w := fun hw hy h =>
    read_now hi hki hw (fun w w' n hr => (keep_exec hki _ hr).1) hy h
  induction fuel with
  | zero =>
    intro listed a w hw _ _ hr hy H
    refine ⟨fun h => (by rw [h] at hr; cases hr), fun j hj => ?_⟩
    by_cases hji : j = i
    · subst hji; exact now hw hy H
    · have := ready_mono hj hji
      rw [H.1] at this
      cases this
  | succ fuel ih =>
    intro listed a w hw hfree hheld hr hy H
    refine ⟨fun h => (by rw [h] at hr; cases hr), fun j hj => ?_⟩
    by_cases hji : j = i
    · subst hji; exact now hw hy H
    · have h1 := H.2 j (ready_mono hj hji)
      have hun := (mem_ready.1 hr).1
      obtain ⟨hjun, oj, hoj, hall⟩ := mem_ready.1 hj
      have hnot : ∀ e ∈ oj.after, Region.binds md e = true → e.on ≠ i := fun e he hb heq => by
        have h1 := hall e he hb
        rw [heq, getD_both hun] at h1
        cases h1
      have hkj : keepB oj.op = true := by
        rcases hheld j oj hoj hji hjun with h | h
        · exact h
        · exact (h.not_ready hun hj).elim
      have h2 := keep_put hC hoj hkj (hfree j oj hoj hji hjun hnot) (fun cs b => hsel i oi cs b hi) (fun cs b => hsel j oj cs b hoj) hQ hw hy h1
      have hfree' : ∀ k ok, ops[k]? = some ok → k ≠ i → (listed.setIfInBounds j true).getD k true = false →
          (∀ e ∈ ok.after, Region.binds md e = true → e.on ≠ i) → oi.apart ops ok = true := fun k ok hk hki hu hno => by
        refine hfree k ok hk hki ?_ hno
        by_cases hjk : j = k
        · subst hjk; exact hjun
        · rw [getD_set_ne true hjk] at hu; exact hu
      have hheld' : ∀ k ok, ops[k]? = some ok → k ≠ i → (listed.setIfInBounds j true).getD k true = false → keepB ok.op = true ∨ Later md ops (listed.setIfInBounds j true) i k := fun k ok hk hki hu => by
        have hu' : listed.getD k true = false := by
          by_cases hjk : j = k
          · subst hjk; exact hjun
          · rw [getD_set_ne true hjk] at hu; exact hu
        rcases hheld k ok hk hki hu' with h | h
        · exact .inl h
        · exact .inr (h.put hun hj)
      refine wpOp_mono (fun a' w' h3 => ih (listed.setIfInBounds j true) a' w' h3.1.1 hfree' hheld' (ready_mono hr (Ne.symm hji)) h3.1.2 ?_) h2
      rw [Array.setIfInBounds_comm _ _ hji]
      exact h3.2

theorem heldB_spec {i : Nat} {listed : Array Bool} (h : heldB md ops listed i = true) (j : Nat) (oj : Oper) (hj : ops[j]? = some oj) (hji : j ≠ i) (hun : listed.getD j true = false) :
    keepB oj.op = true ∨ Later md ops listed i j := by
  simp only [heldB, List.all_eq_true, List.mem_range] at h
  have h1 := h j (Array.getElem?_eq_some_iff.1 hj).1
  simp only [hj, Bool.or_eq_true, beq_iff_eq, hji, false_or, hun, Bool.false_eq_true] at h1
  rcases h1 with h1 | h1
  · exact .inl h1
  · exact .inr (laterB_spec _ _ h1)

/-- Operations that may be taken first, one behind the other: what reads old cells. -/
def readsB (md : Region.Mode) (ops : Array Oper) : List Nat → Array Bool → Bool
  | [], _ => true
  | i :: t, listed => (match ops[i]? with | some o => keepB o.op | none => false) && (Region.ready md ops listed).contains i && Region.free md ops listed i && heldB md ops listed i && readsB md ops t (listed.setIfInBounds i true)
theorem wpAny_readsHead {l : List Oper} (hl : ∀ i : Nat, l[i]? = ops[i]?) (hC : ∀ w w', C w → Below w.heap.size w w' → C w') (hsel : Region.noSelect ops = true)
    (hQ : ∀ c a d v w, Q (.panic c) (Act.put a d v) w → Q (.panic c) a w) {Lq : Act → Prop} {g : Nat} {w : World} (hw : C w) : ∀ (t : List Nat) (listed : Array Bool) (a : Act),
    readsB md ops t listed = true → wpQuiet P ops C Lq (pick l t) a → (∀ a', Lq a' → wpAny P md ops Q g (marked listed t) a' w) → wpAny P md ops Q (t.length + g) listed a w
  | [], listed, a, _, h, hK => by rw [List.length_nil, Nat.zero_add]; exact hK a h
  | i :: t, listed, a, hB, h, hK => by
    simp only [readsB, Bool.and_eq_true] at hB
    obtain ⟨⟨⟨⟨h0, h1⟩, h2⟩, h4⟩, h3⟩ := hB
    cases ho : ops[i]? with
    | none => rw [ho] at h0; cases h0
    | some o =>
      rw [ho] at h0
      have hp : pick l (i :: t) = o :: pick l t := by simp [pick, hl i, ho]
      rw [hp] at h
      have hst : qOp P ops C i (wpQuiet P ops C Lq (pick l t)) a := by unfold qOp; simp only [ho]; exact h
      obtain ⟨v, hy, hn⟩ := yieldsIn_of_qOp ho hst
      rw [List.length_cons, Nat.add_right_comm]
      exact wpAny_reads hC ho h0 (Region.noSelect_spec hsel) hQ _ _ _ _ hw (Region.free_spec ho h2) (heldB_spec h4) (by simpa using h1) hy (wpAny_readsHead hl hC hsel hQ hw t _ _ h3 hn hK)

/-- What looks at no world first, then what reads old cells; the others in whatever order. -/
theorem wp_region_reads {id : Nat} {a : Act} {w : World} {l : List Oper} (head reads : List Nat) (g : Nat) (hm : P.follows .mixedOrders = true)
    (hsel : Region.noSelect l.toArray = true) (hlen : (Nat.beq (head.length + (reads.length + g)) l.length) = true)
    (hB : headB .any l.toArray head (Array.replicate l.length false) = true) (hR : readsB .any l.toArray reads (marked (Array.replicate l.length false) head) = true)
    (hQ : ∀ c a d v w, Q (.panic c) (Act.put a d v) w → Q (.panic c) a w)
    (h : wpQuiet P l.toArray (fun _ => True) (fun a' => wpQuiet P l.toArray (fun w' => Below w.heap.size w w') (fun a'' => wpAny P .any l.toArray Q g (marked (marked (Array.replicate l.length false) head) reads) a'' w.drew) (pick l reads) a') (pick l head) a) : (Code.region id l.toArray true).wp P Q a w := by
  refine wp_region_any hm ?_
  have hl : ∀ i : Nat, l[i]? = l.toArray[i]? := fun i => by simp
  have e : l.toArray.size = head.length + (reads.length + g) := by have := Nat.eq_of_beq_eq_true hlen; simp; omega
  rw [show Array.replicate l.toArray.size false = Array.replicate l.length false by rw [List.size_toArray], e]
  exact wpAny_head hl hsel hQ head _ a hB h fun a' ha => wpAny_readsHead hl (fun w1 w2 h1 h2 => grow_trans h1 h2) hsel hQ (grow_drew (grow_refl w)) reads _ _ hR ha fun a'' ha' => ha'
end
end Go.Grow.K3
/- A region whose order is open, taken by a plan: what looks at no world, what reads old cells, what stands alone, what two may be first. Nothing of a program stands here. -/
set_option linter.unusedSimpArgs false
set_option linter.unusedVariables false
namespace Go.Grow
open Go Go.RowKit
inductive Plan where
  | tail (t : List Nat)
  | quiet (t : List Nat) (p : Plan)
  | reads (t : List Nat) (p : Plan)
  | one (i : Nat) (p : Plan)
  | two (i : Nat) (p : Plan) (j : Nat) (q : Plan)
  | three (i : Nat) (p : Plan) (j : Nat) (q : Plan) (k : Nat) (r : Plan)
def Plan.size : Plan → Nat
  | .tail t => t.length
  | .quiet t p => t.length + p.size
  | .reads t p => t.length + p.size
  | .one _ p => p.size + 1
  | .two _ p _ _ => p.size + 1
  | .three _ p _ _ _ _ => p.size + 1
def Plan.check (md : Region.Mode) (ops : Array Oper) : Plan → Array Bool → Bool
  | .tail t, d => tailB md ops t d
  | .quiet t p, d => headB md ops t d && p.check md ops (marked d t)
  | .reads t p, d => K3.readsB md ops t d && p.check md ops (marked d t)
  | .one i p, d => decide (Region.ready md ops d = [i]) && p.check md ops (d.setIfInBounds i true)
  | .two i p j q, d => decide (Region.ready md ops d = [i, j]) && Nat.beq p.size q.size && p.check md ops (d.setIfInBounds i true) && q.check md ops (d.setIfInBounds j true)
  | .three i p j q k r, d => decide (Region.ready md ops d = [i, j, k]) && Nat.beq p.size q.size && Nat.beq p.size r.size && p.check md ops (d.setIfInBounds i true) && q.check md ops (d.setIfInBounds j true) && r.check md ops (d.setIfInBounds k true)
def Plan.wp (P : Program) (ops : Array Oper) (l : List Oper) (Q : Exit → Act → World → Prop) : Plan → Act → World → Prop
  | .tail t, a, w => wpList P ops Q (pick l t) a w
  | .quiet t p, a, w => wpQuiet P ops (fun _ => True) (fun a' => p.wp P ops l Q a' w) (pick l t) a
  | .reads t p, a, w => wpQuiet P ops (fun w' => ∃ y, w' = over w y) (fun a' => p.wp P ops l Q a' w) (pick l t) a
  | .one i p, a, w => oneK P ops Q (fun a' w' => p.wp P ops l Q a' w') (pick l [i]) a w
  | .two i p j q, a, w => oneK P ops Q (fun a' w' => p.wp P ops l Q a' w') (pick l [i]) a w ∧ oneK P ops Q (fun a' w' => q.wp P ops l Q a' w') (pick l [j]) a w
  | .three i p j q k r, a, w => oneK P ops Q (fun a' w' => p.wp P ops l Q a' w') (pick l [i]) a w ∧ oneK P ops Q (fun a' w' => q.wp P ops l Q a' w') (pick l [j]) a w ∧ oneK P ops Q (fun a' w' => r.wp P ops l Q a' w') (pick l [k]) a w
section
variable {P : Program} {ops : Array Oper} {md : Region.Mode} {Q : Exit → Act → World → Prop}
theorem wpAny_plan {l : List Oper} (hl : ∀ i : Nat, l[i]? = ops[i]?) (hsel : Region.noSelect ops = true) (hQ : ∀ c a d v w, Q (.panic c) (Act.put a d v) w → Q (.panic c) a w) :
    ∀ (p : Plan) (d : Array Bool) (a : Act) (w : World), p.check md ops d = true → p.wp P ops l Q a w → wpAny P md ops Q p.size d a w
  | .tail t, d, a, w, hc, h => wpAny_tail hl t d a w hc h
  | .quiet t p, d, a, w, hc, h => by
    simp only [Plan.check, Bool.and_eq_true] at hc
    exact wpAny_head hl hsel hQ t d a hc.1 h fun a' h' => wpAny_plan hl hsel hQ p _ a' w hc.2 h'
  | .reads t p, d, a, w, hc, h => by
    simp only [Plan.check, Bool.and_eq_true] at hc
    have e : (fun w' => ∃ y, w' = over w y) = fun w' => Below w.heap.size w w' := funext fun w' => propext (over_iff w w')
    unfold Plan.wp at h
    rw [e] at h
    exact K3.wpAny_readsHead hl (fun w1 w2 h1 h2 => grow_trans h1 h2) hsel hQ (grow_refl w) t d a hc.1 h fun a' h' => wpAny_plan hl hsel hQ p _ a' w hc.2 h'
  | .one i p, d, a, w, hc, h => by
    simp only [Plan.check, Bool.and_eq_true, decide_eq_true_eq] at hc
    obtain ⟨hr, hc⟩ := hc
    refine ⟨fun h3 => (by rw [hr] at h3; cases h3), fun j hj => ?_⟩
    have hj0 := hj
    rw [hr] at hj
    obtain rfl : j = i := by simpa using hj
    obtain ⟨_, o, ho, _⟩ := mem_ready.1 hj0
    unfold Plan.wp at h
    rw [show pick l [j] = [o] by simp [pick, hl j, ho]] at h
    exact wpOp_mono (fun a' w' h' => wpAny_plan hl hsel hQ p _ a' w' hc h') (wpOp_of_oneK ho h)
  | .two i p j q, d, a, w, hc, h => by
    simp only [Plan.check, Bool.and_eq_true, decide_eq_true_eq] at hc
    obtain ⟨⟨⟨hr, hs⟩, hc1⟩, hc2⟩ := hc
    have hs := Nat.eq_of_beq_eq_true hs
    refine ⟨fun h3 => (by rw [hr] at h3; cases h3), fun k hk => ?_⟩
    have hk0 := hk
    rw [hr] at hk
    obtain ⟨_, o, ho, _⟩ := mem_ready.1 hk0
    unfold Plan.wp at h
    rcases (by simpa using hk : k = i ∨ k = j) with e | e
    · subst e
      have h1 := h.1
      rw [show pick l [k] = [o] by simp [pick, hl k, ho]] at h1
      exact wpOp_mono (fun a' w' h' => wpAny_plan hl hsel hQ p _ a' w' hc1 h') (wpOp_of_oneK ho h1)
    · subst e
      have h1 := h.2
      rw [show pick l [k] = [o] by simp [pick, hl k, ho]] at h1
      refine wpOp_mono (fun a' w' h' => ?_) (wpOp_of_oneK ho h1)
      rw [hs]
      exact wpAny_plan hl hsel hQ q _ a' w' hc2 h'
  | .three i p j q x r, d, a, w, hc, h => by
    simp only [Plan.check, Bool.and_eq_true, decide_eq_true_eq] at hc
    obtain ⟨⟨⟨⟨⟨hr, hs⟩, hs2⟩, hc1⟩, hc2⟩, hc3⟩ := hc
    have hs := Nat.eq_of_beq_eq_true hs
    have hs2 := Nat.eq_of_beq_eq_true hs2
    refine ⟨fun h3 => (by rw [hr] at h3; cases h3), fun k hk => ?_⟩
    have hk0 := hk
    rw [hr] at hk
    obtain ⟨_, o, ho, _⟩ := mem_ready.1 hk0
    unfold Plan.wp at h
    rcases (by simpa using hk : k = i ∨ k = j ∨ k = x) with e | e | e
    · subst e
      have h1 := h.1
      rw [show pick l [k] = [o] by simp [pick, hl k, ho]] at h1
      exact wpOp_mono (fun a' w' h' => wpAny_plan hl hsel hQ p _ a' w' hc1 h') (wpOp_of_oneK ho h1)
    · subst e
      have h1 := h.2.1
      rw [show pick l [k] = [o] by simp [pick, hl k, ho]] at h1
      refine wpOp_mono (fun a' w' h' => ?_) (wpOp_of_oneK ho h1)
      rw [hs]
      exact wpAny_plan hl hsel hQ q _ a' w' hc2 h'
    · subst e
      have h1 := h.2.2
      rw [show pick l [k] = [o] by simp [pick, hl k, ho]] at h1
      refine wpOp_mono (fun a' w' h' => ?_) (wpOp_of_oneK ho h1)
      rw [hs2]
      exact wpAny_plan hl hsel hQ r _ a' w' hc3 h'
theorem wp_region_plan {id : Nat} {a : Act} {w : World} {l : List Oper} (p : Plan) (hm : P.follows .mixedOrders = true)
    (hsel : Region.noSelect l.toArray = true) (hlen : (Nat.beq p.size l.length) = true) (hC : p.check .any l.toArray (Array.replicate l.length false) = true)
    (hQ : ∀ c a d v w, Q (.panic c) (Act.put a d v) w → Q (.panic c) a w)
    (h : p.wp P l.toArray l Q a w.drew) : (Code.region id l.toArray true).wp P Q a w := by
  refine wp_region_any hm ?_
  have hl : ∀ i : Nat, l[i]? = l.toArray[i]? := fun i => by simp
  have e : l.toArray.size = p.size := by have := Nat.eq_of_beq_eq_true hlen; simp; omega
  rw [show Array.replicate l.toArray.size false = Array.replicate l.length false by rw [List.size_toArray], e]
  exact wpAny_plan hl hsel hQ p _ a _ hC h
end
end Go.Grow
