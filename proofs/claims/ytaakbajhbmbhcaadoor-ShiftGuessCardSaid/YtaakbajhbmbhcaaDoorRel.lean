/- Regions whose order is open, whose operations may give one of several values (a NaN's bits are left open) and may lay new variables: one walk in the order of the text, each value behind what is known of it. Nothing of a program stands here. -/
import Derived.Test.YtaakbajhbmbhcaaDoorGrow
namespace Go.Rel
open Go Go.RowKit Go.Grow

/-- Blocks that were laid in the region, with what they hold. -/
def fresh (B : Nat) (b : Nat) (G : List (Nat × Obj)) : Prop := B ≤ b ∧ ∀ p ∈ G, p.1 ≠ b
def holds (G : List (Nat × Obj)) (w : World) : Prop := ∀ p ∈ G, w.heap[p.1]? = some p.2
theorem holds_grow {G : List (Nat × Obj)} {w w' : World} (h : holds G w) (hb : Below w.heap.size w w') : holds G w' := fun p hp => by
  have h1 := h p hp
  have h2 : p.1 < w.heap.size := (Array.getElem?_eq_some_iff.1 h1).1
  rw [hb.block _ h2]; exact h1
theorem fresh_some (B : Nat) (G : List (Nat × Obj)) : ∃ b, fresh B b G := by
  have : ∃ m, ∀ p ∈ G, p.1 < m := by
    induction G with
    | nil => exact ⟨0, fun p hp => nomatch hp⟩
    | cons x G ih =>
      obtain ⟨m, hm⟩ := ih
      refine ⟨max m (x.1 + 1), fun p hp => ?_⟩
      rcases List.mem_cons.1 hp with rfl | hp
      · omega
      · have := hm p hp; omega
  obtain ⟨m, hm⟩ := this
  exact ⟨max m B, Nat.le_max_right _ _, fun p hp => by have := hm p hp; omega⟩

section
variable {P : Program} {ops : Array Oper} {md : Region.Mode} {w0 : World} {R : FuncId → Array Value → Value → Prop}

/-- A world that lies over w0. -/
def Cl (w0 w : World) : Prop := Below w0.heap.size w0 w
/-- What an operation that is no call of a Go function gives: a value of T. -/
def got (w : World) (T : Value → Prop) : Result Next → Prop
  | .ok (.value u) w' => Below w.heap.size w w' ∧ T u
  | .ok .skip w' => Below w.heap.size w w' ∧ T undef
  | _ => False

def valAt (P : Program) (o : Oper) (a : Act) (w0 : World) (T : Value → Prop) : Prop := ∀ w, Cl w0 w → got w T ((execOp a.eval o).run P w)
def callAt (P : Program) (o : Oper) (a : Act) (w0 : World) (f : FuncId) (args : Array Value) : Prop := ∀ w, Cl w0 w → (execOp a.eval o).run P w = .ok (.enter f args) w
def allocAt (P : Program) (o : Oper) (a : Act) (w0 : World) (x : Obj) : Prop := ∀ w, Cl w0 w → (execOp a.eval o).run P w = .ok (.value (.pointer (some ⟨w.heap.size, 0, none⟩))) (w.alloc x)
def keeps (P : Program) (w0 : World) (R : FuncId → Array Value → Value → Prop) (f : FuncId) (args : Array Value) : Prop :=
  ∀ w, Cl w0 w → Calls P f args w fun e w' => ∃ v, e = .returned v ∧ R f args v ∧ Below w.heap.size w w'

theorem cl_refl : Cl w0 w0 := Below.refl _ _
theorem cl_grow {w w' : World} (h : Cl w0 w) (hb : Below w.heap.size w w') : Cl w0 w' := grow_trans h hb
theorem cl_size {w : World} (h : Cl w0 w) : w0.heap.size ≤ w.heap.size := Below.size h

/-- What an operation gives: one of a set of values, or a new variable. -/
inductive Yield where
  | val (S : Value → Prop)
  | new (x : Obj)

/-- What follows, whatever comes. -/
def cont (w0 : World) (dst : Option Tmp) : Yield → (Act → List (Nat × Obj) → Prop) → Act → List (Nat × Obj) → Prop
  | .val S, K, a, G => ∀ v, S v → K (a.put dst v) G
  | .new x, K, a, G => ∀ b, fresh w0.heap.size b G → K (a.put dst (.pointer (some ⟨b, 0, none⟩))) ((b, x) :: G)

def isNew : Op → Bool | .alloc _ => true | _ => false
def yields (P : Program) (ops : Array Oper) (w0 : World) (R : FuncId → Array Value → Value → Prop) (o : Oper) (a : Act) : Yield → Prop
  | .val S => (Region.wanted o (yielded ops a.tmps) = true ∧ isNew o.op = false ∧ (valAt P o a w0 S ∨ ∃ f args, callAt P o a w0 f args ∧ keeps P w0 R f args ∧ ∀ v, R f args v → S v)) ∨
      (Region.wanted o (yielded ops a.tmps) = false ∧ S undef)
  | .new x => Region.wanted o (yielded ops a.tmps) = true ∧ isNew o.op = true ∧ allocAt P o a w0 x

/-- One operation. -/
def rOp (P : Program) (ops : Array Oper) (w0 : World) (R : FuncId → Array Value → Value → Prop) (o : Oper) (K : Act → List (Nat × Obj) → Prop) (a : Act) (G : List (Nat × Obj)) : Prop :=
  ∃ Y, yields P ops w0 R o a Y ∧ cont w0 o.dst Y K a G

/-- The walk in the order of the text. -/
def wpRel (P : Program) (ops : Array Oper) (w0 : World) (R : FuncId → Array Value → Value → Prop) (Q : Act → List (Nat × Obj) → Prop) : List Oper → Act → List (Nat × Obj) → Prop
  | [], a, G => Q a G
  | o :: rest, a, G => rOp P ops w0 R o (wpRel P ops w0 R Q rest) a G

theorem wpRel_nil {Q : Act → List (Nat × Obj) → Prop} {a : Act} {G : List (Nat × Obj)} (h : Q a G) : wpRel P ops w0 R Q [] a G := h

theorem cont_mono {dst : Option Tmp} {Y : Yield} {K K' : Act → List (Nat × Obj) → Prop} {a : Act} {G : List (Nat × Obj)} (h : ∀ a G, K a G → K' a G) (hc : cont w0 dst Y K a G) : cont w0 dst Y K' a G := by
  cases Y with
  | val S => exact fun v hv => h _ _ (hc v hv)
  | new x => exact fun b hb => h _ _ (hc b hb)
theorem rOp_mono {o : Oper} {K K' : Act → List (Nat × Obj) → Prop} {a : Act} {G : List (Nat × Obj)} (h : ∀ a G, K a G → K' a G) (hh : rOp P ops w0 R o K a G) : rOp P ops w0 R o K' a G := by
  obtain ⟨Y, h1, h2⟩ := hh
  exact ⟨Y, h1, cont_mono h h2⟩

/-- Of what was laid the order does not matter. -/
def Shuf (K : Act → List (Nat × Obj) → Prop) : Prop := ∀ a G G', G.Perm G' → K a G → K a G'
theorem fresh_perm {B b : Nat} {G G' : List (Nat × Obj)} (h : G.Perm G') (hf : fresh B b G) : fresh B b G' := ⟨hf.1, fun p hp => hf.2 p (h.mem_iff.2 hp)⟩
theorem cont_shuf {dst : Option Tmp} {Y : Yield} {K : Act → List (Nat × Obj) → Prop} (hK : Shuf K) : Shuf (cont w0 dst Y K) := by
  intro a G G' hp h
  cases Y with
  | val S => exact fun v hv => hK _ _ _ hp (h v hv)
  | new x => exact fun b hb => hK _ _ _ (hp.cons _) (h b (fresh_perm hp.symm hb))
theorem rOp_shuf {o : Oper} {K : Act → List (Nat × Obj) → Prop} (hK : Shuf K) : Shuf (rOp P ops w0 R o K) := fun a G G' hp ⟨Y, h1, h2⟩ => ⟨Y, h1, cont_shuf hK a G G' hp h2⟩

theorem yields_some {o : Oper} {a : Act} {S : Value → Prop} (hy : yields P ops w0 R o a (.val S)) : ∃ v, S v := by
  rcases hy with ⟨_, _, h1 | ⟨f, args, h1, h2, h3⟩⟩ | ⟨_, h1⟩
  · have := h1 w0 cl_refl
    revert this
    cases (execOp a.eval o).run P w0 with
    | ok n w' => cases n <;> intro h <;> first | exact ⟨_, h.2⟩ | exact h.elim
    | halt _ _ => exact fun h => h.elim
  · obtain ⟨e, w', fr, ⟨v, _, hv, _⟩, _⟩ := h2 w0 cl_refl []
    exact ⟨v, h3 v hv⟩
  · exact ⟨_, h1⟩

theorem yields_same {o : Oper} {a a' : Act} {Y : Yield} (hy : yields P ops w0 R o a Y) (he : execOp a'.eval o = execOp a.eval o)
    (hw : Region.wanted o (yielded ops a'.tmps) = Region.wanted o (yielded ops a.tmps)) : yields P ops w0 R o a' Y := by
  cases Y with
  | val S =>
    show (_ ∧ _) ∨ _
    unfold valAt callAt
    rw [he, hw]
    exact hy
  | new x =>
    show _ ∧ _
    unfold allocAt
    rw [he, hw]
    exact hy

/-- An operation that is apart from another one may come up ahead of it. -/
theorem rOp_put {oi oj : Oper} {Y : Yield} (hap : oi.apart ops oj = true)
    (hsi : ∀ cs b, oi.op ≠ .select cs b) (hsj : ∀ cs b, oj.op ≠ .select cs b) {K : Act → List (Nat × Obj) → Prop} (hK : Shuf K) {a : Act} {G : List (Nat × Obj)}
    (hy : yields P ops w0 R oi a Y) (h : cont w0 oi.dst Y (rOp P ops w0 R oj K) a G) :
    rOp P ops w0 R oj (fun a' G' => yields P ops w0 R oi a' Y ∧ cont w0 oi.dst Y K a' G') a G := by
  obtain ⟨h1, h2, h3⟩ := Oper.apart_spec hap
  have keep : ∀ u, yields P ops w0 R oi (a.put oj.dst u) Y := fun u =>
    yields_same hy (execOp_put oi hsi a oj.dst u h3) (wanted_put oi a oj.dst u h3)
  have ex : ∀ v, execOp (a.put oi.dst v).eval oj = execOp a.eval oj := fun v => execOp_put oj hsj a oi.dst v h1
  have hwant : ∀ v, Region.wanted oj (yielded ops (a.put oi.dst v).tmps) = Region.wanted oj (yielded ops a.tmps) := fun v => wanted_put oj a oi.dst v h1
  have back : ∀ v Yj, yields P ops w0 R oj (a.put oi.dst v) Yj → yields P ops w0 R oj a Yj := fun v Yj hj => yields_same hj (ex v).symm (hwant v).symm
  -- some value of i's
  obtain ⟨v0, G0, hv0⟩ : ∃ v0 G0, rOp P ops w0 R oj K (a.put oi.dst v0) G0 := by
    cases Y with
    | val S => obtain ⟨v, hv⟩ := yields_some hy; exact ⟨v, G, h v hv⟩
    | new x => obtain ⟨b, hb⟩ := fresh_some w0.heap.size G; exact ⟨_, _, h b hb⟩
  obtain ⟨Y0, hY0, -⟩ := hv0
  have hY0 := back _ _ hY0
  -- what j gives at one of i's values, said at a
  have each : ∀ v G1, rOp P ops w0 R oj K (a.put oi.dst v) G1 → ∃ Yj, yields P ops w0 R oj a Yj ∧ cont w0 oj.dst Yj K (a.put oi.dst v) G1 := fun v G1 ⟨Yj, q1, q2⟩ => ⟨Yj, back v Yj q1, q2⟩
  have comm : ∀ v u, (a.put oi.dst v).put oj.dst u = (a.put oj.dst u).put oi.dst v := fun v u => Act.put_comm a v u h2
  by_cases hw : Region.wanted oj (yielded ops a.tmps) = true
  · by_cases hn : isNew oj.op = true
    · -- a new variable
      cases Y0 with
      | val S =>
        exfalso
        rcases hY0 with ⟨_, g, _⟩ | ⟨g, _⟩
        · rw [hn] at g; cases g
        · rw [hw] at g; cases g
      | new x0 =>
        obtain ⟨_, _, ha0⟩ := hY0
        have same : ∀ v G1, rOp P ops w0 R oj K (a.put oi.dst v) G1 → ∀ c, fresh w0.heap.size c G1 → K ((a.put oi.dst v).put oj.dst (.pointer (some ⟨c, 0, none⟩))) ((c, x0) :: G1) := fun v G1 hr => by
          obtain ⟨Yj, q1, q2⟩ := each v G1 hr
          cases Yj with
          | val S =>
            exfalso
            rcases q1 with ⟨_, g, _⟩ | ⟨g, _⟩
            · rw [hn] at g; cases g
            · rw [hw] at g; cases g
          | new x =>
            have e := (ha0 w0 cl_refl).symm.trans (q1.2.2 w0 cl_refl)
            injection e with _ e
            have e2 : (w0.alloc x0).heap[w0.heap.size]? = (w0.alloc x).heap[w0.heap.size]? := by rw [e]
            have e3 : ∀ y, (w0.alloc y).heap[w0.heap.size]? = some y := fun y => by show (w0.heap.push y)[w0.heap.size]? = some y; simp
            rw [e3, e3] at e2
            injection e2 with e2
            subst e2
            exact q2
        refine ⟨.new x0, ⟨hw, hn, ha0⟩, fun c hc => ⟨keep _, ?_⟩⟩
        cases Y with
        | val S => exact fun v hv => by rw [← comm]; exact same v G (h v hv) c hc
        | new x =>
          intro b hb
          rw [← comm]
          have hb' : fresh w0.heap.size b G := ⟨hb.1, fun p hp => hb.2 p (List.mem_cons_of_mem _ hp)⟩
          refine hK _ _ _ (List.Perm.swap _ _ _) (same _ _ (h b hb') c ⟨hc.1, fun p hp => ?_⟩)
          rcases List.mem_cons.1 hp with rfl | hp
          · exact fun e => hb.2 (c, x0) (List.mem_cons_self ..) e.symm
          · exact hc.2 p hp
    · -- a value
      have hn : isNew oj.op = false := by simpa using hn
      have notNew : ∀ x, ¬ yields P ops w0 R oj a (.new x) := fun x q => by have g := q.2.1; rw [hn] at g; exact Bool.noConfusion g
      cases Y0 with
      | new x => exact absurd hY0 (notNew x)
      | val S0 =>
        rcases hY0 with ⟨_, _, g0 | ⟨f, args, g1, g2, g3⟩⟩ | ⟨g, _⟩
        · -- no call
          have each' : ∀ v G1, rOp P ops w0 R oj K (a.put oi.dst v) G1 → ∃ S : Value → Prop, valAt P oj a w0 S ∧ ∀ u, S u → K ((a.put oj.dst u).put oi.dst v) G1 := fun v G1 hr => by
            obtain ⟨Yj, q1, q2⟩ := each v G1 hr
            cases Yj with
            | new x => exact absurd q1 (notNew x)
            | val S =>
              rcases q1 with ⟨_, _, k0 | ⟨f, args, k1, _, _⟩⟩ | ⟨g, _⟩
              · exact ⟨S, k0, fun u hu => by rw [← comm]; exact q2 u hu⟩
              · have := g0 w0 cl_refl
                rw [k1 w0 cl_refl] at this
                exact this.elim
              · rw [hw] at g; cases g
          refine ⟨.val fun u => yields P ops w0 R oi (a.put oj.dst u) Y ∧ cont w0 oi.dst Y K (a.put oj.dst u) G, .inl ⟨hw, hn, .inl fun w hcl => ?_⟩, fun u hu => hu⟩
          have k0 := g0 w hcl
          have kv : ∀ v G1, rOp P ops w0 R oj K (a.put oi.dst v) G1 → ∃ S : Value → Prop, got w S ((execOp a.eval oj).run P w) ∧ ∀ u, S u → K ((a.put oj.dst u).put oi.dst v) G1 := fun v G1 hr => by
            obtain ⟨S, q1, q2⟩ := each' v G1 hr
            exact ⟨S, q1 w hcl, q2⟩
          revert k0 kv
          cases (execOp a.eval oj).run P w with
          | ok n w' =>
            cases n <;> intro k0 kv <;> first | exact k0.elim | skip
            all_goals
              refine ⟨k0.1, keep _, ?_⟩
              cases Y with
              | val S => exact fun v hv => by obtain ⟨S', q1, q2⟩ := kv v G (h v hv); exact q2 _ q1.2
              | new x => exact fun b hb => by obtain ⟨S', q1, q2⟩ := kv _ _ (h b hb); exact q2 _ q1.2
          | halt _ _ => exact fun k0 _ => k0.elim
        · -- a call
          have each' : ∀ v G1, rOp P ops w0 R oj K (a.put oi.dst v) G1 → ∀ u, R f args u → K ((a.put oj.dst u).put oi.dst v) G1 := fun v G1 hr u hu => by
            obtain ⟨Yj, q1, q2⟩ := each v G1 hr
            cases Yj with
            | new x => exact absurd q1 (notNew x)
            | val S =>
              rcases q1 with ⟨_, _, k0 | ⟨f', args', k1, _, k3⟩⟩ | ⟨g, _⟩
              · have := k0 w0 cl_refl
                rw [g1 w0 cl_refl] at this
                exact this.elim
              · have e := (g1 w0 cl_refl).symm.trans (k1 w0 cl_refl)
                injection e with e
                injection e with e1 e2
                subst e1 e2
                rw [← comm]
                exact q2 u (k3 u hu)
              · rw [hw] at g; cases g
          refine ⟨.val (R f args), .inl ⟨hw, hn, .inr ⟨f, args, g1, g2, fun _ h => h⟩⟩, fun u hu => ⟨keep u, ?_⟩⟩
          cases Y with
          | val S => exact fun v hv => each' v G (h v hv) u hu
          | new x => exact fun b hb => each' _ _ (h b hb) u hu
        · rw [hw] at g; cases g
  · -- passed over
    have hw : Region.wanted oj (yielded ops a.tmps) = false := by simpa using hw
    have each' : ∀ v G1, rOp P ops w0 R oj K (a.put oi.dst v) G1 → K ((a.put oj.dst undef).put oi.dst v) G1 := fun v G1 hr => by
      obtain ⟨Yj, q1, q2⟩ := each v G1 hr
      rw [← comm]
      cases Yj with
      | new x => have g := q1.1; rw [hw] at g; exact Bool.noConfusion g
      | val S =>
        rcases q1 with ⟨g, _⟩ | ⟨_, g⟩
        · rw [hw] at g; cases g
        · exact q2 _ g
    refine ⟨.val fun v => v = undef, .inr ⟨hw, rfl⟩, fun u hu => ?_⟩
    subst hu
    refine ⟨keep _, ?_⟩
    cases Y with
    | val S => exact fun v hv => each' v G (h v hv)
    | new x => exact fun b hb => each' _ _ (h b hb)

/-- Operation number i. -/
def rAt (P : Program) (ops : Array Oper) (w0 : World) (R : FuncId → Array Value → Value → Prop) (i : Nat) (K : Act → List (Nat × Obj) → Prop) (a : Act) (G : List (Nat × Obj)) : Prop :=
  match ops[i]? with
  | none => K a G
  | some o => rOp P ops w0 R o K a G

theorem rAt_shuf {i : Nat} {K : Act → List (Nat × Obj) → Prop} (hK : Shuf K) : Shuf (rAt P ops w0 R i K) := by
  intro a G G' hp h
  unfold rAt at *
  cases ho : ops[i]? with
  | none => simp only [ho] at h; exact hK _ _ _ hp h
  | some o => simp only [ho] at h; exact rOp_shuf hK _ _ _ hp h

theorem wpOp_of_rAt {i : Nat} {a : Act} {G : List (Nat × Obj)} {K : Act → List (Nat × Obj) → Prop} {K' : Act → World → Prop} {Q' : Exit → Act → World → Prop} {w : World} (hC : Cl w0 w) (hG : holds G w)
    (h : ∀ a G w', Cl w0 w' → holds G w' → K a G → K' a w') (hh : rAt P ops w0 R i K a G) : wpOp P ops Q' i K' a w := by
  unfold rAt at hh
  unfold wpOp
  cases ho : ops[i]? with
  | none => simp only [ho] at hh; exact h _ _ _ hC hG hh
  | some o =>
    simp only [ho] at hh
    obtain ⟨Y, hy, hc⟩ := hh
    dsimp only
    cases Y with
    | val S =>
      rcases hy with ⟨hw, _, h1 | ⟨f, args, h1, h2, h3⟩⟩ | ⟨hw, h1⟩
      · rw [if_pos hw]
        refine .inl ?_
        unfold Oper.wp
        have := h1 w hC
        revert this
        cases (execOp a.eval o).run P w with
        | ok n w' =>
          cases n <;> intro k <;> first | exact k.elim | skip
          · exact h _ _ _ (cl_grow hC k.1) (holds_grow hG k.1) (hc _ k.2)
          · exact h _ _ _ (cl_grow hC k.1) (holds_grow hG k.1) (hc _ k.2)
        | halt _ _ => exact fun k => k.elim
      · rw [if_pos hw]
        refine .inl ?_
        unfold Oper.wp
        rw [h1 w hC]
        exact (h2 w hC).mono fun e w'' ⟨v, he, hv, hb⟩ => by subst he; exact h _ _ _ (cl_grow hC hb) (holds_grow hG hb) (hc v (h3 v hv))
      · rw [if_neg (by rw [hw]; exact Bool.false_ne_true)]
        exact h _ _ _ hC hG (hc _ h1)
    | new x =>
      obtain ⟨hw, _, h1⟩ := hy
      rw [if_pos hw]
      refine .inl ?_
      unfold Oper.wp
      rw [h1 w hC]
      have hb : Below w.heap.size w (w.alloc x) := grow_alloc (grow_refl _) _
      refine h _ _ _ (cl_grow hC hb) (fun p hp => ?_) (hc w.heap.size ⟨cl_size hC, fun p hp => Nat.ne_of_lt (Array.getElem?_eq_some_iff.1 (hG p hp)).1⟩)
      rcases List.mem_cons.1 hp with rfl | hp
      · show (w.heap.push x)[w.heap.size]? = some x; simp
      · exact holds_grow hG hb p hp

/-- Whatever order is picked, the first n operations come up first, and then L holds. -/
def anyHead (P : Program) (md : Region.Mode) (ops : Array Oper) (w0 : World) (R : FuncId → Array Value → Value → Prop) (n : Nat) (L : Array Bool → Act → List (Nat × Obj) → Prop) : Nat → Array Bool → Act → List (Nat × Obj) → Prop
  | 0, listed, a, G => L listed a G
  | f + 1, listed, a, G =>
    Region.ready md ops listed ≠ [] ∧ ∀ i ∈ Region.ready md ops listed, i < n ∧ rAt P ops w0 R i (anyHead P md ops w0 R n L f (listed.setIfInBounds i true)) a G

theorem anyHead_shuf {n : Nat} {L : Array Bool → Act → List (Nat × Obj) → Prop} (hL : ∀ l, Shuf (L l)) : ∀ (f : Nat) (listed : Array Bool), Shuf (anyHead P md ops w0 R n L f listed)
  | 0, listed => hL listed
  | f + 1, _ => fun a G G' hp h => ⟨h.1, fun i hi => ⟨(h.2 i hi).1, rAt_shuf (anyHead_shuf hL f _) a G G' hp (h.2 i hi).2⟩⟩

theorem wpAny_of_anyHead {n g : Nat} {L : Array Bool → Act → List (Nat × Obj) → Prop} {Q' : Exit → Act → World → Prop}
    (hL : ∀ listed a G w, Cl w0 w → holds G w → L listed a G → wpAny P md ops Q' g listed a w) :
    ∀ (f : Nat) (listed : Array Bool) (a : Act) (G : List (Nat × Obj)) (w : World), Cl w0 w → holds G w → anyHead P md ops w0 R n L f listed a G → wpAny P md ops Q' (f + g) listed a w
  | 0, listed, a, G, w, hC, hG, h => by rw [Nat.zero_add]; exact hL _ _ _ _ hC hG h
  | f + 1, listed, a, G, w, hC, hG, h => by
    rw [Nat.add_right_comm f 1 g]
    exact ⟨fun h0 => absurd h0 h.1, fun i hi => wpOp_of_rAt hC hG (fun a' G' w' hw' hG' h' => wpAny_of_anyHead hL f _ a' G' w' hw' hG' h') (h.2 i hi).2⟩

theorem cont_some {dst : Option Tmp} {o : Oper} {Y : Yield} {K : Act → List (Nat × Obj) → Prop} {a : Act} {G : List (Nat × Obj)} (hy : yields P ops w0 R o a Y) (h : cont w0 dst Y K a G) : ∃ a' G', K a' G' := by
  cases Y with
  | val S => obtain ⟨v, hv⟩ := yields_some hy; exact ⟨_, _, h v hv⟩
  | new x => obtain ⟨b, hb⟩ := fresh_some w0.heap.size G; exact ⟨_, _, h b hb⟩

theorem anyHead_first {n i : Nat} {oi : Oper} {Y : Yield} {L : Array Bool → Act → List (Nat × Obj) → Prop} (hLs : ∀ listed, Shuf (L listed)) (hi : ops[i]? = some oi)
    (hsel : ∀ (j : Nat) (o : Oper) cs b, ops[j]? = some o → o.op ≠ .select cs b)
    (hall : ∀ (listed : Array Bool), HeadInv md ops n listed → listed.getD i true = false → ∀ j ∈ Region.ready md ops listed, j < n)
    (hdone : ∀ (listed : Array Bool) a G, L listed a G → ∀ j ∈ Region.ready md ops listed, n ≤ j) :
    ∀ (f : Nat) (listed : Array Bool) (a : Act) (G : List (Nat × Obj)), HeadInv md ops n listed →
      (∀ j oj, ops[j]? = some oj → j ≠ i → listed.getD j true = false → (∀ e ∈ oj.after, Region.binds md e = true → e.on ≠ i) → oi.apart ops oj = true) →
      i ∈ Region.ready md ops listed → yields P ops w0 R oi a Y →
      cont w0 oi.dst Y (anyHead P md ops w0 R n L f (listed.setIfInBounds i true)) a G → anyHead P md ops w0 R n L (f + 1) listed a G := by
  intro f
  induction f with
  | zero =>
    intro listed a G inv _ hr hy H
    have hun := (mem_ready.1 hr).1
    refine ⟨fun h => (by rw [h] at hr; cases hr), fun j hj => ?_⟩
    have hjn := hall listed inv hun j hj
    refine ⟨hjn, ?_⟩
    by_cases hji : j = i
    · subst hji; unfold rAt; rw [hi]; exact ⟨Y, hy, H⟩
    · obtain ⟨a', G', h'⟩ := cont_some hy H
      exact absurd (hdone _ _ _ h' j (ready_mono hj hji)) (Nat.not_le_of_lt hjn)
  | succ f ih =>
    intro listed a G inv hfree hr hy H
    have hun := (mem_ready.1 hr).1
    refine ⟨fun h => (by rw [h] at hr; cases hr), fun j hj => ?_⟩
    have hjn := hall listed inv hun j hj
    refine ⟨hjn, ?_⟩
    by_cases hji : j = i
    · subst hji; unfold rAt; rw [hi]; exact ⟨Y, hy, H⟩
    · obtain ⟨hjun, oj, hoj, hafter⟩ := mem_ready.1 hj
      have h1 : cont w0 oi.dst Y (rOp P ops w0 R oj (anyHead P md ops w0 R n L f ((listed.setIfInBounds i true).setIfInBounds j true))) a G := cont_mono (fun a' G' h' => by
        have := (h'.2 j (ready_mono hj hji)).2
        unfold rAt at this
        rw [hoj] at this
        exact this) H
      have hnot : ∀ e ∈ oj.after, Region.binds md e = true → e.on ≠ i := fun e he hb heq => by
        have h2 := hafter e he hb
        rw [heq, getD_both hun] at h2
        cases h2
      have h2 := rOp_put (hfree j oj hoj hji hjun hnot) (fun cs b => hsel i oi cs b hi) (fun cs b => hsel j oj cs b hoj) (anyHead_shuf hLs f _) hy h1
      have hfree' : ∀ k ok, ops[k]? = some ok → k ≠ i → (listed.setIfInBounds j true).getD k true = false →
          (∀ e ∈ ok.after, Region.binds md e = true → e.on ≠ i) → oi.apart ops ok = true := fun k ok hk hki hu hno => by
        refine hfree k ok hk hki ?_ hno
        by_cases hjk : j = k
        · subst hjk; exact hjun
        · rw [getD_set_ne true hjk] at hu; exact hu
      unfold rAt
      rw [hoj]
      refine rOp_mono (fun a' G' h3 => ih (listed.setIfInBounds j true) a' G' (inv.set hj hjn) hfree' (ready_mono hr (Ne.symm hji)) h3.1 ?_) h2
      rw [Array.setIfInBounds_comm _ _ hji]
      exact h3.2

theorem anyHead_lex {n g : Nat} {Lq : Act → List (Nat × Obj) → Prop} (hLq : Shuf Lq) (hsel : Region.noSelect ops = true)
    (hall : ∀ (i : Nat) (listed : Array Bool), i < n → HeadInv md ops n listed → listed.getD i true = false → ∀ j ∈ Region.ready md ops listed, j < n) :
    ∀ (l : List Oper) (k : Nat) (listed : Array Bool) (a : Act) (G : List (Nat × Obj)), (∀ j, j < l.length → l[j]? = ops[k + j]?) → k + l.length = n → HeadInv md ops n listed →
    Region.lexHead md ops g l.length k listed = true → wpRel P ops w0 R Lq l a G →
    anyHead P md ops w0 R n (fun listed' a' G' => Region.seqB md ops g n listed' = true ∧ Lq a' G') l.length listed a G
  | [], k, listed, a, G, _, hk, _, hB, h => by
    obtain rfl : k = n := by simpa using hk
    exact ⟨by simpa [Region.lexHead] using hB, h⟩
  | o :: l, k, listed, a, G, hl, hk, inv, hB, h => by
    have h0 : ops[k]? = some o := by simpa using (hl 0 (by simp)).symm
    simp only [List.length_cons, Region.lexHead, Bool.and_eq_true] at hB
    obtain ⟨⟨hr, hf⟩, hB'⟩ := hB
    have hkn : k < n := by simp only [List.length_cons] at hk; omega
    have hr' : k ∈ Region.ready md ops listed := by simpa using hr
    obtain ⟨Y, hy, hK⟩ := h
    exact anyHead_first (fun listed a G G' hp hL => ⟨hL.1, hLq a G G' hp hL.2⟩) h0 (Region.noSelect_spec hsel) (fun listed => hall k listed hkn) (fun listed' a' G' hL => seqB_ready hL.1) l.length listed a G inv (Region.free_spec h0 hf) hr' hy
      (cont_mono (fun a' G' h' => anyHead_lex hLq hsel hall l (k + 1) _ a' G' (fun j hj => by have := hl (j + 1) (by simp; omega); simpa [Nat.add_assoc, Nat.add_comm 1 j] using this) (by simp only [List.length_cons] at hk; omega) (inv.set hr' hkn) hB' h') hK)

theorem shuf_end (Q : Act → World → Prop) : Shuf fun a' G => ∀ w', Below w0.heap.size w0 w' → holds G w' → Q a' w' :=
  fun _ _ _ hp hq w' hw' hG => hq w' hw' fun p hp' => hG p (hp.mem_iff.1 hp')

/-- The first n operations in the order of the text; the others, which must come last, one behind the other. -/
theorem wp_region_rel_tail {id : Nat} {Q : Exit → Act → World → Prop} {a : Act} {w : World} {l : List Oper} (R : FuncId → Array Value → Value → Prop) (n : Nat) (hm : P.follows .mixedOrders = true)
    (hB : Region.lexTailB .any l.toArray n = true)
    (h : wpRel P l.toArray w R (fun a' G => ∀ w', Below w.heap.size w w' → holds G w' → wpList P l.toArray Q (l.drop n) a' w') (l.take n) a []) : (Code.region id l.toArray true).wp P Q a w := by
  simp only [Region.lexTailB, Bool.and_eq_true, decide_eq_true_eq] at hB
  obtain ⟨⟨⟨⟨hsel, hn⟩, hs⟩, hc⟩, hlex⟩ := hB
  have hC : Cl w { w with drawn := w.drawn + 1 } := Below.drew (Below.refl _ _)
  have htl : (l.take n).length = n := by have : n < l.length := by simpa using hn
                                         simp; omega
  have hdl : (l.drop n).length = l.toArray.size - n := by simp
  have inv0 : HeadInv .any l.toArray n (Array.replicate l.toArray.size false) :=
    ⟨by simp, fun j oj _ hl => (by rw [getD_replicate_false] at hl; cases hl), fun t _ ht => getD_in (by simpa using ht) (getD_replicate_false _ _)⟩
  have H := anyHead_lex (md := .any) (g := l.toArray.size - n) (shuf_end _) hsel (fun i listed hin inv hun j hj => Nat.lt_of_not_le fun h => tail_waits hs hc hn inv _ i rfl hin hun j h hj) (l.take n) 0 _ a [] (fun j hj => by
    have hj' : j < n := by rw [htl] at hj; exact hj
    simp [hj']) (by simpa using htl) inv0 (by rw [htl]; exact hlex) h
  refine wp_region_any hm ?_
  have := wpAny_of_anyHead (Q' := Q) (g := l.toArray.size - n) (fun listed a' G w' hw' hG hL => by
    have := wpAny_of_seq (md := .any) (Q' := Q) (l.drop n) n listed a' w' (fun j => by simp [List.getElem?_drop]) (by rw [hdl]; exact hL.1) (hL.2 w' hw' hG)
    rwa [hdl] at this) _ _ _ _ _ hC (by intro p hp; cases hp) H
  rw [htl, show n + (l.toArray.size - n) = l.toArray.size by omega] at this
  exact this

theorem lexHead_of_lex : ∀ (f k : Nat) (listed : Array Bool), Region.lexFrom md ops f k listed = true → Region.lexHead md ops 0 f k listed = true
  | 0, k, listed, h => by simpa [Region.lexHead, Region.lexFrom, Region.seqB] using h
  | f + 1, k, listed, h => by
    simp only [Region.lexFrom, Region.lexHead, Bool.and_eq_true] at *
    exact ⟨h.1, lexHead_of_lex f _ _ h.2⟩

/-- All operations in the order of the text. -/
theorem wp_region_rel {id : Nat} {Q : Exit → Act → World → Prop} {a : Act} {w : World} {l : List Oper} (R : FuncId → Array Value → Value → Prop) (hm : P.follows .mixedOrders = true)
    (hB : Region.lexB .any l.toArray = true)
    (h : wpRel P l.toArray w R (fun a' G => ∀ w', Below w.heap.size w w' → holds G w' → Q .normal a' w') l a []) : (Code.region id l.toArray true).wp P Q a w := by
  simp only [Region.lexB, Bool.and_eq_true] at hB
  have hC : Cl w { w with drawn := w.drawn + 1 } := Below.drew (Below.refl _ _)
  have inv0 : HeadInv .any l.toArray l.length (Array.replicate l.toArray.size false) :=
    ⟨by simp, fun j oj _ hl => (by rw [getD_replicate_false] at hl; cases hl), fun t ht ht' => absurd ht (by simpa using ht')⟩
  have H := anyHead_lex (md := .any) (n := l.length) (g := 0) (shuf_end _) hB.1 (fun i listed _ _ _ j hj => by
    obtain ⟨_, oj, hoj, _⟩ := mem_ready.1 hj
    have := (Array.getElem?_eq_some_iff.1 hoj).1
    simpa using this) l 0 _ a [] (fun j _ => by simp) (by simp) inv0 (lexHead_of_lex _ _ _ (by simpa using hB.2)) h
  refine wp_region_any hm ?_
  have := wpAny_of_anyHead (Q' := Q) (g := 0) (fun listed a' G w' hw' hG hL => by
    exact ⟨by simpa [Region.seqB] using hL.1, hL.2 w' hw' hG⟩) _ _ _ _ _ hC (by intro p hp; cases hp) H
  simpa using this

end
end Go.Rel
