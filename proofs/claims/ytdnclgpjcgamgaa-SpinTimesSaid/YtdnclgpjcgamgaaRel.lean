/- Regions whose order is open and whose operations may give one of several values (a NaN's bits are left open): one walk in the order of the text, each value behind what is known of it. Nothing of a program stands here. -/
import Derived.Test.YtdnclgpjcgamgaaGrow
namespace Go.Rel
open Go Go.RowKit Go.Grow

section
variable {P : Program} {ops : Array Oper} {md : Region.Mode} {C : World → Prop} {R : FuncId → Array Value → Value → Prop}

/-- What an operation that is no call of a Go function gives: a value of T, in a world of C. -/
def got (C : World → Prop) (T : Value → Prop) : Result Next → Prop
  | .ok (.value u) w' => C w' ∧ T u
  | .ok .skip w' => C w' ∧ T undef
  | _ => False

def valAt (P : Program) (o : Oper) (a : Act) (C : World → Prop) (T : Value → Prop) : Prop := ∀ w, C w → got C T ((execOp a.eval o).run P w)
def callAt (P : Program) (o : Oper) (a : Act) (C : World → Prop) (f : FuncId) (args : Array Value) : Prop := ∀ w, C w → (execOp a.eval o).run P w = .ok (.enter f args) w
def keeps (P : Program) (C : World → Prop) (R : FuncId → Array Value → Value → Prop) (f : FuncId) (args : Array Value) : Prop :=
  ∀ w, C w → Calls P f args w fun e w' => ∃ v, e = .returned v ∧ R f args v ∧ C w'

/-- One operation: wanted, and one of a set of values comes; or passed over. -/
def rOp (P : Program) (ops : Array Oper) (C : World → Prop) (R : FuncId → Array Value → Value → Prop) (o : Oper) (K : Act → Prop) (a : Act) : Prop :=
  if Region.wanted o (yielded ops a.tmps) then
    (∃ T : Value → Prop, valAt P o a C T ∧ ∀ v, T v → K (a.put o.dst v)) ∨
    (∃ f args, callAt P o a C f args ∧ keeps P C R f args ∧ ∀ v, R f args v → K (a.put o.dst v))
  else K (a.put o.dst undef)

/-- The walk in the order of the text. -/
def wpRel (P : Program) (ops : Array Oper) (C : World → Prop) (R : FuncId → Array Value → Value → Prop) (Q : Act → Prop) : List Oper → Act → Prop
  | [], a => Q a
  | o :: rest, a => rOp P ops C R o (wpRel P ops C R Q rest) a

theorem wpRel_nil {Q : Act → Prop} {a : Act} (h : Q a) : wpRel P ops C R Q [] a := h

/-- The operation gives a value of S. -/
def yields (P : Program) (ops : Array Oper) (C : World → Prop) (R : FuncId → Array Value → Value → Prop) (o : Oper) (S : Value → Prop) (a : Act) : Prop :=
  (Region.wanted o (yielded ops a.tmps) = true ∧ (valAt P o a C S ∨ ∃ f args, callAt P o a C f args ∧ keeps P C R f args ∧ ∀ v, R f args v → S v)) ∨
  (Region.wanted o (yielded ops a.tmps) = false ∧ S undef)

theorem rOp_mono {o : Oper} {K K' : Act → Prop} {a : Act} (h : ∀ a, K a → K' a) (hh : rOp P ops C R o K a) : rOp P ops C R o K' a := by
  unfold rOp at *
  split
  · rename_i hw
    rw [if_pos hw] at hh
    rcases hh with ⟨T, h1, h2⟩ | ⟨f, args, h1, h2, h3⟩
    · exact .inl ⟨T, h1, fun v hv => h _ (h2 v hv)⟩
    · exact .inr ⟨f, args, h1, h2, fun v hv => h _ (h3 v hv)⟩
  · rename_i hw
    rw [if_neg hw] at hh
    exact h _ hh

theorem yields_of_rOp {o : Oper} {K : Act → Prop} {a : Act} (h : rOp P ops C R o K a) : ∃ S : Value → Prop, yields P ops C R o S a ∧ ∀ v, S v → K (a.put o.dst v) := by
  unfold rOp at h
  split at h
  · rename_i hw
    rcases h with ⟨T, h1, h2⟩ | ⟨f, args, h1, h2, h3⟩
    · exact ⟨T, .inl ⟨hw, .inl h1⟩, h2⟩
    · exact ⟨R f args, .inl ⟨hw, .inr ⟨f, args, h1, h2, fun _ h => h⟩⟩, h3⟩
  · rename_i hw
    exact ⟨fun v => v = undef, .inr ⟨by simpa using hw, rfl⟩, fun v hv => by rw [hv]; exact h⟩

theorem rOp_of_yields {o : Oper} {K : Act → Prop} {a : Act} {S : Value → Prop} (hy : yields P ops C R o S a) (h : ∀ v, S v → K (a.put o.dst v)) : rOp P ops C R o K a := by
  unfold rOp
  rcases hy with ⟨hw, h1 | ⟨f, args, h1, h2, h3⟩⟩ | ⟨hw, h1⟩
  · rw [if_pos hw]; exact .inl ⟨S, h1, h⟩
  · rw [if_pos hw]; exact .inr ⟨f, args, h1, h2, fun v hv => h v (h3 v hv)⟩
  · rw [if_neg (by rw [hw]; exact Bool.false_ne_true)]; exact h _ h1

theorem yields_some {o : Oper} {a : Act} {S : Value → Prop} (hC : ∃ w, C w) (hy : yields P ops C R o S a) : ∃ v, S v := by
  obtain ⟨w, hw⟩ := hC
  rcases hy with ⟨_, h1 | ⟨f, args, h1, h2, h3⟩⟩ | ⟨_, h1⟩
  · have := h1 w hw
    revert this
    cases (execOp a.eval o).run P w with
    | ok n w' => cases n <;> intro h <;> first | exact ⟨_, h.2⟩ | exact h.elim
    | halt _ _ => exact fun h => h.elim
  · obtain ⟨e, w', fr, ⟨v, _, hv, _⟩, _⟩ := h2 w hw []
    exact ⟨v, h3 v hv⟩
  · exact ⟨_, h1⟩

theorem yields_same {o : Oper} {a a' : Act} {S : Value → Prop} (hy : yields P ops C R o S a) (he : execOp a'.eval o = execOp a.eval o)
    (hw : Region.wanted o (yielded ops a'.tmps) = Region.wanted o (yielded ops a.tmps)) : yields P ops C R o S a' := by
  unfold yields valAt callAt at *
  rw [he, hw]
  exact hy

/-- An operation that is apart from another one may come up ahead of it. -/
theorem rOp_put {oi oj : Oper} {S : Value → Prop} (hC : ∃ w, C w) (hap : oi.apart ops oj = true)
    (hsi : ∀ cs b, oi.op ≠ .select cs b) (hsj : ∀ cs b, oj.op ≠ .select cs b) {K : Value → Act → Prop} {a : Act}
    (hy : yields P ops C R oi S a) (h : ∀ v, S v → rOp P ops C R oj (K v) (a.put oi.dst v)) :
    rOp P ops C R oj (fun a' => yields P ops C R oi S a' ∧ ∀ v, S v → K v (a'.put oi.dst v)) a := by
  obtain ⟨h1, h2, h3⟩ := Oper.apart_spec hap
  obtain ⟨v0, hv0⟩ := yields_some hC hy
  obtain ⟨w0, hw0⟩ := hC
  have keep : ∀ u, yields P ops C R oi S (a.put oj.dst u) := fun u =>
    yields_same hy (execOp_put oi hsi a oj.dst u h3) (wanted_put oi a oj.dst u h3)
  have ex : ∀ v, execOp (a.put oi.dst v).eval oj = execOp a.eval oj := fun v => execOp_put oj hsj a oi.dst v h1
  unfold rOp at *
  have hwant : ∀ v, Region.wanted oj (yielded ops (a.put oi.dst v).tmps) = Region.wanted oj (yielded ops a.tmps) := fun v => wanted_put oj a oi.dst v h1
  by_cases hw : Region.wanted oj (yielded ops a.tmps) = true
  · rw [if_pos hw]
    have h' : ∀ v, S v → (∃ T : Value → Prop, valAt P oj a C T ∧ ∀ u, T u → K v ((a.put oi.dst v).put oj.dst u)) ∨
        (∃ f args, callAt P oj a C f args ∧ keeps P C R f args ∧ ∀ u, R f args u → K v ((a.put oi.dst v).put oj.dst u)) := fun v hv => by
      have := h v hv
      rw [if_pos (by rw [hwant]; exact hw)] at this
      unfold valAt callAt at this ⊢
      simp only [ex] at this
      exact this
    rcases h' v0 hv0 with ⟨T, g1, g2⟩ | ⟨f, args, g1, g2, g3⟩
    · refine .inl ⟨fun u => ∀ v, S v → K v ((a.put oj.dst u).put oi.dst v), fun w hw => ?_, fun u hu => ⟨keep u, hu⟩⟩
      have k0 := g1 w hw
      have kv : ∀ v, S v → ∃ T : Value → Prop, got C T ((execOp a.eval oj).run P w) ∧ ∀ u, T u → K v ((a.put oi.dst v).put oj.dst u) := fun v hv => by
        rcases h' v hv with ⟨T', q1, q2⟩ | ⟨f, args, q1, _, _⟩
        · exact ⟨T', q1 w hw, q2⟩
        · rw [q1 w hw] at k0; exact k0.elim
      revert k0 kv
      cases (execOp a.eval oj).run P w with
      | ok n w' =>
        cases n <;> intro k0 kv <;> first | exact k0.elim | skip
        · exact ⟨k0.1, fun v hv => by obtain ⟨T', q1, q2⟩ := kv v hv; rw [← Act.put_comm a v _ h2]; exact q2 _ q1.2⟩
        · exact ⟨k0.1, fun v hv => by obtain ⟨T', q1, q2⟩ := kv v hv; rw [← Act.put_comm a v _ h2]; exact q2 _ q1.2⟩
      | halt _ _ => exact fun k0 _ => k0.elim
    · refine .inr ⟨f, args, g1, g2, fun u hu => ⟨keep u, fun v hv => ?_⟩⟩
      rw [← Act.put_comm a v u h2]
      rcases h' v hv with ⟨T', q1, q2⟩ | ⟨f', args', q1, q2, q3⟩
      · have := q1 w0 hw0
        rw [g1 w0 hw0] at this
        exact this.elim
      · have := (g1 w0 hw0).symm.trans (q1 w0 hw0)
        injection this with this
        injection this with e1 e2
        subst e1 e2
        exact q3 u hu
  · rw [if_neg hw]
    refine ⟨keep _, fun v hv => ?_⟩
    have := h v hv
    rw [if_neg (by rw [hwant]; exact hw)] at this
    rw [← Act.put_comm a v undef h2]
    exact this

/-- Operation number i. -/
def rAt (P : Program) (ops : Array Oper) (C : World → Prop) (R : FuncId → Array Value → Value → Prop) (i : Nat) (K : Act → Prop) (a : Act) : Prop :=
  match ops[i]? with
  | none => K a
  | some o => rOp P ops C R o K a

theorem rAt_mono {i : Nat} {a : Act} {K K' : Act → Prop} (h : ∀ a, K a → K' a) (hh : rAt P ops C R i K a) : rAt P ops C R i K' a := by
  unfold rAt at *
  cases ho : ops[i]? with
  | none => simp only [ho] at hh; exact h _ hh
  | some o => simp only [ho] at hh; exact rOp_mono h hh

theorem wpOp_of_rAt {i : Nat} {a : Act} {K : Act → Prop} {K' : Act → World → Prop} {Q' : Exit → Act → World → Prop} {w : World} (hC : C w)
    (h : ∀ a w', C w' → K a → K' a w') (hh : rAt P ops C R i K a) : wpOp P ops Q' i K' a w := by
  unfold rAt at hh
  unfold wpOp
  cases ho : ops[i]? with
  | none => simp only [ho] at hh; exact h _ _ hC hh
  | some o =>
    simp only [ho] at hh
    unfold rOp at hh
    dsimp only
    split
    · rename_i hw
      rw [if_pos hw] at hh
      refine .inl ?_
      unfold Oper.wp
      rcases hh with ⟨T, h1, h2⟩ | ⟨f, args, h1, h2, h3⟩
      · have := h1 w hC
        revert this
        cases (execOp a.eval o).run P w with
        | ok n w' =>
          cases n <;> intro k <;> first | exact k.elim | skip
          · exact h _ _ k.1 (h2 _ k.2)
          · exact h _ _ k.1 (h2 _ k.2)
        | halt _ _ => exact fun k => k.elim
      · rw [h1 w hC]
        exact (h2 w hC).mono fun e w'' ⟨v, he, hv, hw''⟩ => by subst he; exact h _ _ hw'' (h3 v hv)
    · rename_i hw
      rw [if_neg hw] at hh
      exact h _ _ hC hh

/-- Whatever order is picked, the first n operations come up first, and then L holds. -/
def anyHead (P : Program) (md : Region.Mode) (ops : Array Oper) (C : World → Prop) (R : FuncId → Array Value → Value → Prop) (n : Nat) (L : Array Bool → Act → Prop) : Nat → Array Bool → Act → Prop
  | 0, listed, a => L listed a
  | f + 1, listed, a =>
    Region.ready md ops listed ≠ [] ∧ ∀ i ∈ Region.ready md ops listed, i < n ∧ rAt P ops C R i (anyHead P md ops C R n L f (listed.setIfInBounds i true)) a

theorem wpAny_of_anyHead {n g : Nat} {L : Array Bool → Act → Prop} {Q' : Exit → Act → World → Prop}
    (hL : ∀ listed a w, C w → L listed a → wpAny P md ops Q' g listed a w) :
    ∀ (f : Nat) (listed : Array Bool) (a : Act) (w : World), C w → anyHead P md ops C R n L f listed a → wpAny P md ops Q' (f + g) listed a w
  | 0, listed, a, w, hC, h => by rw [Nat.zero_add]; exact hL _ _ _ hC h
  | f + 1, listed, a, w, hC, h => by
    rw [Nat.add_right_comm f 1 g]
    exact ⟨fun h0 => absurd h0 h.1, fun i hi => wpOp_of_rAt hC (fun a' w' hw' h' => wpAny_of_anyHead hL f _ a' w' hw' h') (h.2 i hi).2⟩

theorem anyHead_first {n i : Nat} {oi : Oper} {S : Value → Prop} {L : Array Bool → Act → Prop} (hC : ∃ w, C w) (hi : ops[i]? = some oi)
    (hsel : ∀ (j : Nat) (o : Oper) cs b, ops[j]? = some o → o.op ≠ .select cs b)
    (hall : ∀ (listed : Array Bool), HeadInv md ops n listed → listed.getD i true = false → ∀ j ∈ Region.ready md ops listed, j < n)
    (hin : i < n) (hdone : ∀ listed a, L listed a → ∀ j ∈ Region.ready md ops listed, n ≤ j) :
    ∀ (f : Nat) (listed : Array Bool) (a : Act), HeadInv md ops n listed →
      (∀ j oj, ops[j]? = some oj → j ≠ i → listed.getD j true = false → (∀ e ∈ oj.after, Region.binds md e = true → e.on ≠ i) → oi.apart ops oj = true) →
      i ∈ Region.ready md ops listed → yields P ops C R oi S a →
      (∀ v, S v → anyHead P md ops C R n L f (listed.setIfInBounds i true) (a.put oi.dst v)) → anyHead P md ops C R n L (f + 1) listed a := by
  intro f
  induction f with
  | zero =>
    intro listed a inv _ hr hy H
    have hun := (mem_ready.1 hr).1
    refine ⟨fun h => (by rw [h] at hr; cases hr), fun j hj => ?_⟩
    have hjn := hall listed inv hun j hj
    refine ⟨hjn, ?_⟩
    by_cases hji : j = i
    · subst hji; unfold rAt; rw [hi]; exact rOp_of_yields hy H
    · obtain ⟨v, hv⟩ := yields_some hC hy
      exact absurd (hdone _ _ (H v hv) j (ready_mono hj hji)) (Nat.not_le_of_lt hjn)
  | succ f ih =>
    intro listed a inv hfree hr hy H
    have hun := (mem_ready.1 hr).1
    refine ⟨fun h => (by rw [h] at hr; cases hr), fun j hj => ?_⟩
    have hjn := hall listed inv hun j hj
    refine ⟨hjn, ?_⟩
    by_cases hji : j = i
    · subst hji; unfold rAt; rw [hi]; exact rOp_of_yields hy H
    · obtain ⟨hjun, oj, hoj, hafter⟩ := mem_ready.1 hj
      have h1 : ∀ v, S v → rOp P ops C R oj (anyHead P md ops C R n L f ((listed.setIfInBounds i true).setIfInBounds j true)) (a.put oi.dst v) := fun v hv => by
        have := ((H v hv).2 j (ready_mono hj hji)).2
        unfold rAt at this
        rw [hoj] at this
        exact this
      have hnot : ∀ e ∈ oj.after, Region.binds md e = true → e.on ≠ i := fun e he hb heq => by
        have h2 := hafter e he hb
        rw [heq, getD_both hun] at h2
        cases h2
      have h2 := rOp_put hC (hfree j oj hoj hji hjun hnot) (fun cs b => hsel i oi cs b hi) (fun cs b => hsel j oj cs b hoj) hy
        (K := fun _ => anyHead P md ops C R n L f ((listed.setIfInBounds i true).setIfInBounds j true)) h1
      have hfree' : ∀ k ok, ops[k]? = some ok → k ≠ i → (listed.setIfInBounds j true).getD k true = false →
          (∀ e ∈ ok.after, Region.binds md e = true → e.on ≠ i) → oi.apart ops ok = true := fun k ok hk hki hu hno => by
        refine hfree k ok hk hki ?_ hno
        by_cases hjk : j = k
        · subst hjk; exact hjun
        · rw [getD_set_ne true hjk] at hu; exact hu
      unfold rAt
      rw [hoj]
      refine rOp_mono (fun a' h3 => ih (listed.setIfInBounds j true) a' (inv.set hj hjn) hfree' (ready_mono hr (Ne.symm hji)) h3.1 ?_) h2
      rw [Array.setIfInBounds_comm _ _ hji]
      exact h3.2

theorem anyHead_lex {n g : Nat} {Lq : Act → Prop} (hC : ∃ w, C w) (hsel : Region.noSelect ops = true)
    (hall : ∀ (i : Nat) (listed : Array Bool), i < n → HeadInv md ops n listed → listed.getD i true = false → ∀ j ∈ Region.ready md ops listed, j < n) :
    ∀ (l : List Oper) (k : Nat) (listed : Array Bool) (a : Act), (∀ j, j < l.length → l[j]? = ops[k + j]?) → k + l.length = n → HeadInv md ops n listed →
    Region.lexHead md ops g l.length k listed = true → wpRel P ops C R Lq l a →
    anyHead P md ops C R n (fun listed' a' => Region.seqB md ops g n listed' = true ∧ Lq a') l.length listed a
  | [], k, listed, a, _, hk, _, hB, h => by
    obtain rfl : k = n := by simpa using hk
    exact ⟨by simpa [Region.lexHead] using hB, h⟩
  | o :: l, k, listed, a, hl, hk, inv, hB, h => by
    have h0 : ops[k]? = some o := by simpa using (hl 0 (by simp)).symm
    simp only [List.length_cons, Region.lexHead, Bool.and_eq_true] at hB
    obtain ⟨⟨hr, hf⟩, hB'⟩ := hB
    have hkn : k < n := by simp only [List.length_cons] at hk; omega
    have hr' : k ∈ Region.ready md ops listed := by simpa using hr
    obtain ⟨S, hy, hK⟩ := yields_of_rOp h
    exact anyHead_first hC h0 (Region.noSelect_spec hsel) (fun listed => hall k listed hkn) hkn (fun listed' a' hL => seqB_ready hL.1) l.length listed a inv (Region.free_spec h0 hf) hr' hy
      (fun v hv => anyHead_lex hC hsel hall l (k + 1) _ _ (fun j hj => by have := hl (j + 1) (by simp; omega); simpa [Nat.add_assoc, Nat.add_comm 1 j] using this) (by simp only [List.length_cons] at hk; omega) (inv.set hr' hkn) hB' (hK v hv))

/-- The first n operations in the order of the text; the others, which must come last, one behind the other. -/
theorem wp_region_rel_tail {id : Nat} {Q : Exit → Act → World → Prop} {a : Act} {w : World} {l : List Oper} (R : FuncId → Array Value → Value → Prop) (n : Nat) (hm : P.follows .mixedOrders = true)
    (hB : Region.lexTailB .any l.toArray n = true)
    (h : wpRel P l.toArray (fun w' => ∃ x, w' = over w x) R (fun a' => ∀ x, w.heap.size ≤ (over w x).heap.size → wpList P l.toArray Q (l.drop n) a' (over w x)) (l.take n) a) : (Code.region id l.toArray true).wp P Q a w := by
  simp only [Region.lexTailB, Bool.and_eq_true, decide_eq_true_eq] at hB
  obtain ⟨⟨⟨⟨hsel, hn⟩, hs⟩, hc⟩, hlex⟩ := hB
  have hC : ∃ x, ({ w with drawn := w.drawn + 1 } : World) = over w x := (over_iff _ _).2 (Below.drew (Below.refl _ _))
  have htl : (l.take n).length = n := by have : n < l.length := by simpa using hn
                                         simp; omega
  have hdl : (l.drop n).length = l.toArray.size - n := by simp
  have inv0 : HeadInv .any l.toArray n (Array.replicate l.toArray.size false) :=
    ⟨by simp, fun j oj _ hl => (by rw [getD_replicate_false] at hl; cases hl), fun t _ ht => getD_in (by simpa using ht) (getD_replicate_false _ _)⟩
  have H := anyHead_lex (md := .any) (g := l.toArray.size - n) ⟨_, hC⟩ hsel (fun i listed hin inv hun j hj => Nat.lt_of_not_le fun h => tail_waits hs hc hn inv _ i rfl hin hun j h hj) (l.take n) 0 _ a (fun j hj => by
    have hj' : j < n := by rw [htl] at hj; exact hj
    simp [hj']) (by simpa using htl) inv0 (by rw [htl]; exact hlex) h
  refine wp_region_any hm ?_
  have := wpAny_of_anyHead (Q' := Q) (g := l.toArray.size - n) (fun listed a' w' hw' hL => by
    obtain ⟨x, rfl⟩ := hw'
    have := wpAny_of_seq (md := .any) (Q' := Q) (l.drop n) n listed a' (over w x) (fun j => by simp [List.getElem?_drop]) (by rw [hdl]; exact hL.1) (hL.2 x (size_over w x))
    rwa [hdl] at this) _ _ _ _ hC H
  rw [htl, show n + (l.toArray.size - n) = l.toArray.size by omega] at this
  exact this

theorem lexHead_of_lex : ∀ (f k : Nat) (listed : Array Bool), Region.lexFrom md ops f k listed = true → Region.lexHead md ops 0 f k listed = true
  | 0, k, listed, h => by simpa [Region.lexHead, Region.lexFrom, Region.seqB] using h
  | f + 1, k, listed, h => by
    simp only [Region.lexFrom, Region.lexHead, Bool.and_eq_true] at *
    exact ⟨h.1, lexHead_of_lex f _ _ h.2⟩

/-- All operations in the order of the text. -/
theorem wp_region_rel {id : Nat} {Q : Exit → Act → World → Prop} {a : Act} {w : World} {l : List Oper} (R : FuncId → Array Value → Value → Prop) (hm : P.follows .mixedOrders = true)
    (hB : Region.lexB .any l.toArray = true)
    (h : wpRel P l.toArray (fun w' => ∃ x, w' = over w x) R (fun a' => ∀ x, w.heap.size ≤ (over w x).heap.size → Q .normal a' (over w x)) l a) : (Code.region id l.toArray true).wp P Q a w := by
  simp only [Region.lexB, Bool.and_eq_true] at hB
  have hC : ∃ x, ({ w with drawn := w.drawn + 1 } : World) = over w x := (over_iff _ _).2 (Below.drew (Below.refl _ _))
  have inv0 : HeadInv .any l.toArray l.length (Array.replicate l.toArray.size false) :=
    ⟨by simp, fun j oj _ hl => (by rw [getD_replicate_false] at hl; cases hl), fun t ht ht' => absurd ht (by simpa using ht')⟩
  have H := anyHead_lex (md := .any) (n := l.length) (g := 0) ⟨_, hC⟩ hB.1 (fun i listed _ _ _ j hj => by
    obtain ⟨_, oj, hoj, _⟩ := mem_ready.1 hj
    have := (Array.getElem?_eq_some_iff.1 hoj).1
    simpa using this) l 0 _ a (fun j _ => by simp) (by simp) inv0 (lexHead_of_lex _ _ _ (by simpa using hB.2)) h
  refine wp_region_any hm ?_
  have := wpAny_of_anyHead (Q' := Q) (g := 0) (fun listed a' w' hw' hL => by
    obtain ⟨x, rfl⟩ := hw'
    exact ⟨by simpa [Region.seqB] using hL.1, hL.2 x (size_over w x)⟩) _ _ _ _ hC H
  simpa using this

end
end Go.Rel
