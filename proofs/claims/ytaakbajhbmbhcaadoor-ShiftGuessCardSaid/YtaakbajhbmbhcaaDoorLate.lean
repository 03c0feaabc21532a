/- A region in which the second component of a result may be taken after the store of the first: as if the store waited for it. Nothing of a program stands here. -/
import Derived.Test.YtaakbajhbmbhcaaDoorFl
namespace Go.Rel
open Go Go.RowKit Go.Grow

section
variable {P : Program} {ops : Array Oper} {md : Region.Mode} {Q : Exit → Act → World → Prop}

/-- Number j waits for number i, too. -/
def later (ops : Array Oper) (i j : Nat) : Array Oper := ops.modify j fun o => { o with after := o.after.push ⟨i, .data⟩ }

theorem later_at (i j k : Nat) : (later ops i j)[k]? = (ops[k]?).map fun o => if j = k then { o with after := o.after.push ⟨i, .data⟩ } else o := by
  unfold later
  rw [Array.getElem?_modify]
  split
  · rfl
  · cases ops[k]? <;> rfl
theorem later_size (i j : Nat) : (later ops i j).size = ops.size := by simp [later]
theorem later_yielded (i j : Nat) : yielded (later ops i j) = yielded ops := by
  funext tmps k
  unfold yielded
  rw [later_at]
  cases ops[k]? with
  | none => rfl
  | some o => by_cases e : j = k <;> simp [e]
theorem later_wpOp (i j k : Nat) (K : Act → World → Prop) (a : Act) (w : World) : wpOp P (later ops i j) Q k K a w = wpOp P ops Q k K a w := by
  unfold wpOp
  rw [later_at, later_yielded]
  cases ops[k]? with
  | none => rfl
  | some o => simp only [Option.map_some]; split <;> rfl

/-- The edges as the lemma wants them. -/
def lateB (md : Region.Mode) (ops : Array Oper) (i j : Nat) : Bool :=
  match ops[i]?, ops[j]? with
  | some oi, some oj => (match oi.op with | .extract _ _ => true | .move _ => true | _ => false) && oi.guard.isNone && !(i == j) && (depsOf md oi).all (fun d => (depsOf md oj).contains d) &&
      (List.range ops.size).all fun k => k == i || (depsOf md oi).contains k || (match ops[k]? with | some ok => (depsOf md ok).contains i || oi.apart ops ok | none => true)
  | _, _ => false

theorem ready_later {i j : Nat} {listed : Array Bool} {k : Nat} :
    k ∈ Region.ready md (later ops i j) listed ↔ k ∈ Region.ready md ops listed ∧ (k = j → listed.getD i false = true) := by
  rw [mem_ready, mem_ready, later_at]
  constructor
  · rintro ⟨h0, o', ho', h⟩
    cases hk : ops[k]? with
    | none => rw [hk] at ho'; cases ho'
    | some o =>
      rw [hk] at ho'
      simp only [Option.map_some, Option.some.injEq] at ho'
      subst ho'
      by_cases e : j = k
      · subst e
        simp only [if_true] at h
        exact ⟨⟨h0, o, rfl, fun x hx hb => h x (by simp [hx]) hb⟩, fun _ => h ⟨i, .data⟩ (by simp) rfl⟩
      · simp only [e, if_false] at h
        exact ⟨⟨h0, o, rfl, h⟩, fun e' => absurd e'.symm e⟩
  · rintro ⟨⟨h0, o, ho, h⟩, hi⟩
    refine ⟨h0, _, by rw [ho]; rfl, fun x hx hb => ?_⟩
    by_cases e : j = k
    · subst e
      simp only [if_true, Array.mem_push] at hx
      rcases hx with hx | hx
      · exact h x hx hb
      · subst hx; exact hi rfl
    · simp only [e, if_false] at hx
      exact h x hx hb

theorem extract_yields {i : Nat} {oi : Oper} (hi : ops[i]? = some oi) {x : Operand} {n : Nat} (hop : oi.op = .extract x n) (hg : oi.guard = none) {K : Act → World → Prop} {a : Act} {w : World}
    (h : wpOp P ops Q i K a w) : ∃ v, Yields P ops oi v a ∧ K (a.put oi.dst v) w := by
  have hw : Region.wanted oi (yielded ops a.tmps) = true := by unfold Region.wanted; rw [hg]
  unfold wpOp at h
  simp only [hi, hw, if_true] at h
  have he : execOp a.eval oi = (do pure (Next.value (← Instr.extract (a.eval x) n))) := by unfold execOp; rw [hop]
  have key : (∃ v, Instr.extract (a.eval x) n = pure v) ∨ ∃ s, Instr.extract (a.eval x) n = stuck s := by
    unfold Instr.extract
    cases a.eval x <;> first | exact .inr ⟨_, rfl⟩ | skip
    rename_i vs
    dsimp only
    cases vs[n]? with
    | none => exact .inr ⟨_, rfl⟩
    | some v => exact .inl ⟨v, rfl⟩
  rcases key with ⟨v, hv⟩ | ⟨s, hs⟩
  · have hr : ∀ w, (execOp a.eval oi).run P w = .ok (.value v) w := fun w => by rw [he, hv]; rfl
    refine ⟨v, .inl ⟨hw, hr⟩, ?_⟩
    rcases h with h | ⟨⟨h1, _⟩, _⟩
    · unfold Oper.wp at h
      rw [hr] at h
      exact h
    · exfalso
      rw [he, hv] at h1
      revert h1
      exact fun h1 => by change noRoomEvent ∈ (#[] : Array _) at h1; simp at h1
  · exfalso
    rcases h with h | ⟨⟨h1, _⟩, _⟩
    · unfold Oper.wp at h
      rw [he, hs] at h
      exact h
    · rw [he, hs] at h1
      revert h1
      exact fun h1 => by change noRoomEvent ∈ (#[] : Array _) at h1; simp at h1

theorem move_yields {i : Nat} {oi : Oper} (hi : ops[i]? = some oi) {x : Operand} (hop : oi.op = .move x) (hg : oi.guard = none) {K : Act → World → Prop} {a : Act} {w : World}
    (h : wpOp P ops Q i K a w) : ∃ v, Yields P ops oi v a ∧ K (a.put oi.dst v) w := by
  have hw : Region.wanted oi (yielded ops a.tmps) = true := by unfold Region.wanted; rw [hg]
  unfold wpOp at h
  simp only [hi, hw, if_true] at h
  have hr : ∀ w, (execOp a.eval oi).run P w = .ok (.value (a.eval x)) w := fun w => by unfold execOp; rw [hop]; rfl
  refine ⟨_, .inl ⟨hw, hr⟩, ?_⟩
  rcases h with h | ⟨⟨h1, _⟩, _⟩
  · unfold Oper.wp at h
    rw [hr] at h
    exact h
  · exfalso
    have he : execOp a.eval oi = pure (Next.value (a.eval x)) := by unfold execOp; rw [hop]
    rw [he] at h1
    revert h1
    exact fun h1 => by change noRoomEvent ∈ (#[] : Array _) at h1; simp at h1

theorem wpAny_later {i j : Nat} (hl : lateB md ops i j = true) (hsel : Region.noSelect ops = true) (hQ : ∀ c a w d v, Q (.panic c) (Act.put a d v) w → Q (.panic c) a w) :
    ∀ (f : Nat) (listed : Array Bool) (a : Act) (w : World), listed.size = ops.size → wpAny P md (later ops i j) Q f listed a w → wpAny P md ops Q f listed a w := by
  unfold lateB at hl
  cases hi : ops[i]? with
  | none => rw [hi] at hl; cases hl
  | some oi =>
    cases hj : ops[j]? with
    | none => rw [hi, hj] at hl; cases hl
    | some oj =>
      rw [hi, hj] at hl
      simp only [Bool.and_eq_true, List.all_eq_true, Bool.or_eq_true, Bool.not_eq_true', beq_eq_false_iff_ne] at hl
      obtain ⟨⟨⟨⟨hx, hg⟩, hne⟩, hdeps⟩, hfree⟩ := hl
      have hop : (∃ x n, oi.op = .extract x n) ∨ ∃ x, oi.op = .move x := by
        revert hx; cases oi.op <;> intro hx <;> first | exact .inl ⟨_, _, rfl⟩ | exact .inr ⟨_, rfl⟩ | cases hx
      have hg : oi.guard = none := by revert hg; cases oi.guard <;> simp
      have hin : i < ops.size := (Array.getElem?_eq_some_iff.1 hi).1
      have hgd : ∀ listed : Array Bool, listed.size = ops.size → ∀ b b', listed.getD i b = listed.getD i b' := fun listed hs b b' => by
        rw [Array.getD_eq_getD_getElem?, Array.getD_eq_getD_getElem?, Array.getElem?_eq_getElem (by rw [hs]; exact hin)]; rfl
      -- where j is ready and i is not listed, i is ready
      have hji : ∀ listed : Array Bool, j ∈ Region.ready md ops listed → listed.getD i true = false → i ∈ Region.ready md ops listed := fun listed h h0 => by
        obtain ⟨_, oj', hoj', hall⟩ := mem_ready.1 h
        obtain rfl : oj = oj' := Option.some.inj (hj.symm.trans hoj')
        refine mem_ready.2 ⟨h0, oi, hi, fun e he hb => ?_⟩
        have h1 := hdeps _ (mem_depsOf.2 ⟨e, he, hb, rfl⟩)
        obtain ⟨e', he', hb', hon⟩ := mem_depsOf.1 (by simpa using h1)
        rw [← hon]; exact hall e' he' hb'
      have hiff : ∀ (listed : Array Bool) (k : Nat), k ∈ Region.ready md (later ops i j) listed ↔ k ∈ Region.ready md ops listed ∧ (k = j → listed.getD i false = true) := fun listed k => ready_later
      -- where i is not ready, the two have the same operations ready
      have hsame : ∀ listed : Array Bool, listed.size = ops.size → i ∉ Region.ready md ops listed → ∀ k, k ∈ Region.ready md (later ops i j) listed ↔ k ∈ Region.ready md ops listed := fun listed hs hno k => by
        rw [hiff]
        refine ⟨fun h => h.1, fun h => ⟨h, fun e => ?_⟩⟩
        subst e
        cases h0 : listed.getD i true with
        | true => rw [hgd listed hs false true]; exact h0
        | false => exact absurd (hji listed h h0) hno
      intro f
      induction f with
      | zero =>
        intro listed a w hs H
        have hno : ∀ k, k ∉ Region.ready md (later ops i j) listed := by rw [H.1]; simp
        have hni : i ∉ Region.ready md ops listed := fun h => hno i ((hiff listed i).2 ⟨h, fun e => absurd e hne⟩)
        refine ⟨?_, H.2⟩
        rw [List.eq_nil_iff_forall_not_mem]
        exact fun k hk => hno k ((hsame listed hs hni k).2 hk)
      | succ f ih =>
        intro listed a w hs H
        have hset : ∀ k : Nat, (listed.setIfInBounds k true).size = ops.size := fun k => by simpa using hs
        by_cases hri : i ∈ Region.ready md ops listed
        · have h1 := H.2 i ((hiff listed i).2 ⟨hri, fun e => absurd e hne⟩)
          rw [later_wpOp] at h1
          obtain ⟨v, hy, h2⟩ : ∃ v, Yields P ops oi v a ∧ wpAny P md (later ops i j) Q f (listed.setIfInBounds i true) (a.put oi.dst v) w := by
            rcases hop with ⟨x, n, hop⟩ | ⟨x, hop⟩
            · exact extract_yields hi hop hg h1
            · exact move_yields hi hop hg h1
          refine wpAny_first hi (Region.noSelect_spec hsel) (fun c a w h => hQ c a w _ _ h) f listed a w ?_ hri hy (ih _ _ _ (hset i) h2)
          intro k ok hk hki hun hno
          rcases hfree k (List.mem_range.2 (Array.getElem?_eq_some_iff.1 hk).1) with (h | h) | h
          · exact absurd (by simpa using h) hki
          · exfalso
            obtain ⟨e, he, hb, hon⟩ := mem_depsOf.1 (show k ∈ depsOf md oi by simpa using h)
            obtain ⟨_, oi', hoi', hall⟩ := mem_ready.1 hri
            obtain rfl : oi = oi' := Option.some.inj (hi.symm.trans hoi')
            have h3 := hall e he hb
            rw [hon] at h3
            have hk' : k < listed.size := by rw [hs]; exact (Array.getElem?_eq_some_iff.1 hk).1
            rw [Array.getD_eq_getD_getElem?, Array.getElem?_eq_getElem hk'] at h3 hun
            simp only [Option.getD_some] at h3 hun
            rw [h3] at hun; cases hun
          · rw [hk] at h
            have h := (Bool.or_eq_true (a := (depsOf md ok).contains i) (b := oi.apart ops ok)) ▸ h
            rcases h with h | h
            · exfalso
              obtain ⟨e, he, hb, hon⟩ := mem_depsOf.1 (show i ∈ depsOf md ok by simpa using h)
              exact hno e he hb hon
            · exact h
        · have hs' := hsame listed hs hri
          refine ⟨fun h => H.1 (by rw [List.eq_nil_iff_forall_not_mem] at h ⊢; exact fun k hk => h k ((hs' k).1 hk)), fun k hk => ?_⟩
          have h1 := H.2 k ((hs' k).2 hk)
          rw [later_wpOp] at h1
          exact wpOp_mono (fun a' w' h => ih _ _ _ (hset k) h) h1

theorem later_wpRel {w0 : World} {R : FuncId → Array Value → Value → Prop} {i j : Nat} {Qr : Act → List (Nat × Obj) → Prop} :
    ∀ (l : List Oper) (a : Act) (G : List (Nat × Obj)), wpRel P ops w0 R Qr l a G → wpRel P (later ops i j) w0 R Qr l a G
  | [], _, _, h => h
  | o :: l, a, G, h => by
    obtain ⟨Y, h1, h2⟩ := h
    refine ⟨Y, ?_, cont_mono (fun a' G' h' => later_wpRel l a' G' h') h2⟩
    unfold yields at *
    rw [later_yielded]
    exact h1
theorem wpList_after (f : Oper → Array Edge) : ∀ (l : List Oper) (k : Nat) (a : Act) (w : World), wpList P ops Q l a w → wpList P ops Q (l.modify k fun o => { o with after := f o }) a w
  | [], k, a, w, h => by simpa using h
  | o :: l, 0, a, w, h => by
    show wpList P ops Q ({ o with after := f o } :: l) a w
    unfold wpList at h ⊢
    exact h
  | o :: l, k + 1, a, w, h => by
    have ih := fun a w => wpList_after f l k a w
    rw [List.modify_succ_cons]
    unfold wpList at h ⊢
    split
    · rename_i hw
      rw [if_pos hw] at h
      exact h.imp (Oper.wp_mono ih) id
    · rename_i hw
      rw [if_neg hw] at h
      exact ih _ _ h
theorem wpList_later (i j : Nat) : ∀ (l : List Oper) (a : Act) (w : World), wpList P ops Q l a w → wpList P (later ops i j) Q l a w
  | [], a, w, h => h
  | o :: l, a, w, h => by
    have ih := fun a w => wpList_later i j l a w
    unfold wpList at h ⊢
    rw [later_yielded]
    split
    · rename_i hw
      rw [if_pos hw] at h
      exact h.imp (Oper.wp_mono ih) id
    · rename_i hw
      rw [if_neg hw] at h
      exact ih _ _ h

/-- The first n operations in the order of the text; the others one behind the other, but for the second component of a result. -/
theorem wp_region_rel_late {id : Nat} {Q : Exit → Act → World → Prop} {a : Act} {w : World} {l : List Oper} (R : FuncId → Array Value → Value → Prop) (n i j : Nat) (hm : P.follows .mixedOrders = true)
    (hl : lateB .any l.toArray i j = true) (hB0 : Region.lexTailB .any (l.modify j fun o => { o with after := o.after.push ⟨i, .data⟩ }).toArray n = true) (hnj : n ≤ j)
    (hQ0 : ∀ c a w d v, Q (.panic c) (Act.put a (some d) v) w → Q (.panic c) a w)
    (h : wpRel P l.toArray w R (fun a' G => ∀ w', Below w.heap.size w w' → holds G w' → wpList P l.toArray Q (l.drop n) a' w') (l.take n) a []) : (Code.region id l.toArray true).wp P Q a w := by
  have hQ : ∀ c a w d v, Q (.panic c) (Act.put a d v) w → Q (.panic c) a w := fun c a w d v h => by
    cases d with
    | none => exact h
    | some d => exact hQ0 c a w d v h
  have hsz : (l.modify j fun o => { o with after := o.after.push ⟨i, .data⟩ }).length = l.length := by simp
  have hsel0 : Region.noSelect l.toArray = true := by
    simp only [Region.lexTailB, Bool.and_eq_true] at hB0
    have := hB0.1.1.1.1
    unfold Region.noSelect at this ⊢
    rw [Array.all_eq_true'] at this ⊢
    intro o ho
    obtain ⟨k, hk⟩ := List.mem_iff_getElem?.1 (Array.mem_toList_iff.2 ho)
    simp only at hk
    have h2 := this (if j = k then { o with after := o.after.push ⟨i, .data⟩ } else o) (Array.mem_toList_iff.1 (List.mem_iff_getElem?.2 ⟨k, by
      simp only [List.getElem?_modify, hk]
      rfl⟩))
    by_cases e : j = k
    · rw [if_pos e] at h2; exact h2
    · rw [if_neg e] at h2; exact h2
  obtain ⟨l', hl'⟩ : ∃ l', l' = l.modify j fun o => { o with after := o.after.push ⟨i, .data⟩ } := ⟨_, rfl⟩
  have hops : l'.toArray = later l.toArray i j := by
    apply Array.ext_getElem?
    intro k
    rw [later_at, hl']
    simp only [List.getElem?_toArray, List.getElem?_modify]
    cases l[k]? with
    | none => rfl
    | some o => by_cases e : j = k <;> simp [e]
  rw [← hl'] at hB0 hsz
  have htake : l'.take n = l.take n := by
    apply List.ext_getElem?
    intro k
    simp only [List.getElem?_take]
    split
    · have e : ¬ j = k := by omega
      rw [hl', List.getElem?_modify]; simp only [e, if_false]; cases l[k]? <;> rfl
    · rfl
  have hdrop : l'.drop n = (l.drop n).modify (j - n) fun o => { o with after := o.after.push ⟨i, .data⟩ } := by
    apply List.ext_getElem?
    intro k
    rw [hl']
    simp only [List.getElem?_drop, List.getElem?_modify]
    by_cases e : j = n + k
    · subst e
      have e2 : n + k - n = k := by omega
      simp only [e2, if_true]
    · have e2 : ¬ j - n = k := by omega
      simp only [e, e2, if_false]
  have h' : wpRel P l'.toArray w R (fun a' G => ∀ w', Below w.heap.size w w' → holds G w' → wpList P l'.toArray Q (l'.drop n) a' w') (l'.take n) a [] := by
    rw [hops, htake, hdrop]
    refine later_wpRel _ _ _ ?_
    have mono : ∀ (l0 : List Oper) (a : Act) (G : List (Nat × Obj)) {Q1 Q2 : Act → List (Nat × Obj) → Prop}, (∀ a G, Q1 a G → Q2 a G) → wpRel P l.toArray w R Q1 l0 a G → wpRel P l.toArray w R Q2 l0 a G := by
      intro l0
      induction l0 with
      | nil => exact fun a G _ _ hm h => hm a G h
      | cons o l0 ih => exact fun a G _ _ hm h => rOp_mono (fun a' G' h' => ih a' G' hm h') h
    exact mono _ _ _ (fun a' G hq w' h1 h2 => wpList_later i j _ _ _ (wpList_after _ _ _ _ _ (hq w' h1 h2))) h
  simp only [Region.lexTailB, Bool.and_eq_true, decide_eq_true_eq] at hB0
  obtain ⟨⟨⟨⟨hsel, hn⟩, hs⟩, hc⟩, hlex⟩ := hB0
  have hC : Cl w { w with drawn := w.drawn + 1 } := Below.drew (Below.refl _ _)
  have htl : (l'.take n).length = n := by have : n < l'.length := by simpa using hn
                                          simp; omega
  have hdl : (l'.drop n).length = l'.toArray.size - n := by simp
  have inv0 : HeadInv .any l'.toArray n (Array.replicate l'.toArray.size false) :=
    ⟨by simp, fun j oj _ hl => (by rw [getD_replicate_false] at hl; cases hl), fun t _ ht => getD_in (by simpa using ht) (getD_replicate_false _ _)⟩
  have H := anyHead_lex (md := .any) (g := l'.toArray.size - n) (shuf_end _) hsel (fun i listed hin inv hun j hj => Nat.lt_of_not_le fun h => tail_waits hs hc hn inv _ i rfl hin hun j h hj) (l'.take n) 0 _ a [] (fun j hj => by
    have hj' : j < n := by rw [htl] at hj; exact hj
    simp [hj']) (by simpa using htl) inv0 (by rw [htl]; exact hlex) h'
  refine wp_region_any hm ?_
  refine wpAny_later hl hsel0 hQ _ _ _ _ (by simp) ?_
  have := wpAny_of_anyHead (Q' := Q) (g := l'.toArray.size - n) (fun listed a' G w' hw' hG hL => by
    have := wpAny_of_seq (md := .any) (Q' := Q) (l'.drop n) n listed a' w' (fun j => by simp [List.getElem?_drop]) (by rw [hdl]; exact hL.1) (hL.2 w' hw' hG)
    rwa [hdl] at this) _ _ _ _ _ hC (by intro p hp; cases hp) H
  rw [htl, show n + (l'.toArray.size - n) = l'.toArray.size by omega] at this
  rw [← hops]
  simpa [hsz] using this
end
end Go.Rel
