/- A region in which the two components of a result are taken in any order, the second after the store of the first too. Nothing of a program stands here. -/
import Derived.Test.YtlfpfeidaohjmaaDoorLate
namespace Go.Rel
open Go Go.RowKit Go.Grow
section
variable {P : Program} {ops : Array Oper} {md : Region.Mode} {Q : Exit → Act → World → Prop}
/-- As lateB; number i waits for what j waits for, itself or through another. -/
def lateC (md : Region.Mode) (ops : Array Oper) (i j : Nat) : Bool :=
  match ops[i]?, ops[j]? with
  | some oi, some oj => (match oi.op with | .extract _ _ => true | .move _ => true | _ => false) && oi.guard.isNone && !(i == j) &&
      (depsOf md oi).all (fun d => (depsOf md oj).contains d || (depsOf md oj).any fun m => match ops[m]? with | some om => (depsOf md om).contains d | none => false) &&
      (List.range ops.size).all fun k => k == i || (depsOf md oi).contains k || (match ops[k]? with | some ok => (depsOf md ok).contains i || oi.apart ops ok | none => true)
  | _, _ => false
theorem wpAny_laterC {i j : Nat} (hl : lateC md ops i j = true) (hsel : Region.noSelect ops = true) (hQ : ∀ c a w d v, Q (.panic c) (Act.put a d v) w → Q (.panic c) a w) :
    ∀ (f : Nat) (listed : Array Bool) (a : Act) (w : World), HeadInv md ops ops.size listed → wpAny P md (later ops i j) Q f listed a w → wpAny P md ops Q f listed a w := by
  unfold lateC at hl
  cases hi : ops[i]? with
  | none => rw [hi] at hl; cases hl
  | some oi =>
    cases hj : ops[j]? with
    | none => rw [hi, hj] at hl; cases hl
    | some oj =>
      rw [hi, hj] at hl
      simp only [Bool.and_eq_true, List.all_eq_true, Bool.or_eq_true, Bool.not_eq_true', beq_eq_false_iff_ne] at hl
      obtain ⟨⟨⟨⟨hx, hg⟩, hne⟩, hdeps⟩, hfree⟩ := hl
      have hop : (∃ x n, oi.op = .extract x n) ∨ ∃ x, oi.op = .move x := by
        revert hx; cases oi.op <;> intro hx <;> first | exact .inl ⟨_, _, rfl⟩ | exact .inr ⟨_, rfl⟩ | cases hx
      have hg : oi.guard = none := by revert hg; cases oi.guard <;> simp
      have hin : i < ops.size := (Array.getElem?_eq_some_iff.1 hi).1
      have hgd : ∀ listed : Array Bool, listed.size = ops.size → ∀ b b', listed.getD i b = listed.getD i b' := fun listed hs b b' => by
        rw [Array.getD_eq_getD_getElem?, Array.getD_eq_getD_getElem?, Array.getElem?_eq_getElem (by rw [hs]; exact hin)]; rfl
      -- where j is ready and i is not listed, i is ready
      have hji : ∀ listed : Array Bool, HeadInv md ops ops.size listed → j ∈ Region.ready md ops listed → listed.getD i true = false → i ∈ Region.ready md ops listed := fun listed inv h h0 => by
        obtain ⟨_, oj', hoj', hall⟩ := mem_ready.1 h
        obtain rfl : oj = oj' := Option.some.inj (hj.symm.trans hoj')
        refine mem_ready.2 ⟨h0, oi, hi, fun e he hb => ?_⟩
        rcases hdeps _ (mem_depsOf.2 ⟨e, he, hb, rfl⟩) with h1 | h1
        · obtain ⟨e', he', hb', hon⟩ := mem_depsOf.1 (by simpa using h1)
          rw [← hon]; exact hall e' he' hb'
        · obtain ⟨m, hm, h2⟩ := List.any_eq_true.1 h1
          obtain ⟨e', he', hb', hon⟩ := mem_depsOf.1 hm
          cases hom : ops[m]? with
          | none => rw [hom] at h2; cases h2
          | some om =>
            rw [hom] at h2
            obtain ⟨e2, he2, hb2, hon2⟩ := mem_depsOf.1 (by simpa using h2)
            rw [← hon2]
            exact inv.closed m om hom (by rw [← hon]; exact hall e' he' hb') e2 he2 hb2
      have hiff : ∀ (listed : Array Bool) (k : Nat), k ∈ Region.ready md (later ops i j) listed ↔ k ∈ Region.ready md ops listed ∧ (k = j → listed.getD i false = true) := fun listed k => ready_later
      -- where i is not ready, the two have the same operations ready
      have hsame : ∀ listed : Array Bool, HeadInv md ops ops.size listed → i ∉ Region.ready md ops listed → ∀ k, k ∈ Region.ready md (later ops i j) listed ↔ k ∈ Region.ready md ops listed := fun listed hs hno k => by
        rw [hiff]
        refine ⟨fun h => h.1, fun h => ⟨h, fun e => ?_⟩⟩
        subst e
        cases h0 : listed.getD i true with
        | true => rw [hgd listed hs.size false true]; exact h0
        | false => exact absurd (hji listed hs h h0) hno
      intro f
      induction f with
      | zero =>
        intro listed a w hs H
        have hno : ∀ k, k ∉ Region.ready md (later ops i j) listed := by rw [H.1]; simp
        have hni : i ∉ Region.ready md ops listed := fun h => hno i ((hiff listed i).2 ⟨h, fun e => absurd e hne⟩)
        refine ⟨?_, H.2⟩
        rw [List.eq_nil_iff_forall_not_mem]
        exact fun k hk => hno k ((hsame listed hs hni k).2 hk)
      | succ f ih =>
        intro listed a w hs H
        have hset : ∀ k : Nat, k ∈ Region.ready md ops listed → HeadInv md ops ops.size (listed.setIfInBounds k true) := fun k hk => hs.set hk (by obtain ⟨_, o, ho, _⟩ := mem_ready.1 hk; exact (Array.getElem?_eq_some_iff.1 ho).1)
        by_cases hri : i ∈ Region.ready md ops listed
        · have h1 := H.2 i ((hiff listed i).2 ⟨hri, fun e => absurd e hne⟩)
          rw [later_wpOp] at h1
          obtain ⟨v, hy, h2⟩ : ∃ v, Yields P ops oi v a ∧ wpAny P md (later ops i j) Q f (listed.setIfInBounds i true) (a.put oi.dst v) w := by
            rcases hop with ⟨x, n, hop⟩ | ⟨x, hop⟩
            · exact extract_yields hi hop hg h1
            · exact move_yields hi hop hg h1
          refine wpAny_first hi (Region.noSelect_spec hsel) (fun c a w h => hQ c a w _ _ h) f listed a w ?_ hri hy (ih _ _ _ (hset i hri) h2)
          intro k ok hk hki hun hno
          rcases hfree k (List.mem_range.2 (Array.getElem?_eq_some_iff.1 hk).1) with (h | h) | h
          · exact absurd (by simpa using h) hki
          · exfalso
            obtain ⟨e, he, hb, hon⟩ := mem_depsOf.1 (show k ∈ depsOf md oi by simpa using h)
            obtain ⟨_, oi', hoi', hall⟩ := mem_ready.1 hri
            obtain rfl : oi = oi' := Option.some.inj (hi.symm.trans hoi')
            have h3 := hall e he hb
            rw [hon] at h3
            have hk' : k < listed.size := by rw [hs.size]; exact (Array.getElem?_eq_some_iff.1 hk).1
            rw [Array.getD_eq_getD_getElem?, Array.getElem?_eq_getElem hk'] at h3 hun
            simp only [Option.getD_some] at h3 hun
            rw [h3] at hun; cases hun
          · rw [hk] at h
            have h := (Bool.or_eq_true (a := (depsOf md ok).contains i) (b := oi.apart ops ok)) ▸ h
            rcases h with h | h
            · exfalso
              obtain ⟨e, he, hb, hon⟩ := mem_depsOf.1 (show i ∈ depsOf md ok by simpa using h)
              exact hno e he hb hon
            · exact h
        · have hs' := hsame listed hs hri
          refine ⟨fun h => H.1 (by rw [List.eq_nil_iff_forall_not_mem] at h ⊢; exact fun k hk => h k ((hs' k).1 hk)), fun k hk => ?_⟩
          have h1 := H.2 k ((hs' k).2 hk)
          rw [later_wpOp] at h1
          exact wpOp_mono (fun a' w' h => ih _ _ _ (hset k hk) h) h1


def lt1 (l : List Oper) (i j : Nat) : List Oper := l.modify j fun o => { o with after := o.after.push ⟨i, .data⟩ }
theorem lt1_later (l : List Oper) (i j : Nat) : (lt1 l i j).toArray = later l.toArray i j := by
  apply Array.ext_getElem?
  intro k
  rw [later_at]
  unfold lt1
  simp only [List.getElem?_toArray, List.getElem?_modify]
  cases l[k]? with
  | none => rfl
  | some o => by_cases e : j = k <;> simp [e]
theorem lt1_rel {a : Act} {w : World} {l : List Oper} (R : FuncId → Array Value → Value → Prop) (n i j : Nat) (hnj : n ≤ j)
    (h : wpRel P l.toArray w R (fun a' G => ∀ w', Below w.heap.size w w' → holds G w' → wpList P l.toArray Q (l.drop n) a' w') (l.take n) a []) :
    wpRel P (lt1 l i j).toArray w R (fun a' G => ∀ w', Below w.heap.size w w' → holds G w' → wpList P (lt1 l i j).toArray Q ((lt1 l i j).drop n) a' w') ((lt1 l i j).take n) a [] := by
  have htake : (lt1 l i j).take n = l.take n := by
    apply List.ext_getElem?
    intro k
    simp only [List.getElem?_take]
    split
    · have e : ¬ j = k := by omega
      unfold lt1
      rw [List.getElem?_modify]; simp only [e, if_false]; cases l[k]? <;> rfl
    · rfl
  have hdrop : (lt1 l i j).drop n = (l.drop n).modify (j - n) fun o => { o with after := o.after.push ⟨i, .data⟩ } := by
    apply List.ext_getElem?
    intro k
    unfold lt1
    simp only [List.getElem?_drop, List.getElem?_modify]
    by_cases e : j = n + k
    · subst e
      have e2 : n + k - n = k := by omega
      simp only [e2, if_true]
    · have e2 : ¬ j - n = k := by omega
      simp only [e, e2, if_false]
  rw [lt1_later, htake, hdrop]
  refine later_wpRel _ _ _ ?_
  have mono : ∀ (l0 : List Oper) (a : Act) (G : List (Nat × Obj)) {Q1 Q2 : Act → List (Nat × Obj) → Prop}, (∀ a G, Q1 a G → Q2 a G) → wpRel P l.toArray w R Q1 l0 a G → wpRel P l.toArray w R Q2 l0 a G := by
    intro l0
    induction l0 with
    | nil => exact fun a G _ _ hm h => hm a G h
    | cons o l0 ih => exact fun a G _ _ hm h => rOp_mono (fun a' G' h' => ih a' G' hm h') h
  exact mono _ _ _ (fun a' G hq w' h1 h2 => wpList_later i j _ _ _ (wpList_after _ _ _ _ _ (hq w' h1 h2))) h
/-- The first n operations in the order of the text; the others one behind the other once two of them wait for one more. -/
theorem wp_region_rel_late2 {id : Nat} {a : Act} {w : World} {l : List Oper} (R : FuncId → Array Value → Value → Prop) (n i j i2 j2 : Nat) (hm : P.follows .mixedOrders = true)
    (hl : lateB .any l.toArray i j = true) (hl2 : lateC .any (lt1 l i j).toArray i2 j2 = true) (hs0 : Region.noSelect l.toArray = true) (hs1 : Region.noSelect (lt1 l i j).toArray = true)
    (hB0 : Region.lexTailB .any (lt1 (lt1 l i j) i2 j2).toArray n = true) (hnj : n ≤ j) (hnj2 : n ≤ j2)
    (hQ0 : ∀ c a w d v, Q (.panic c) (Act.put a (some d) v) w → Q (.panic c) a w)
    (h : wpRel P l.toArray w R (fun a' G => ∀ w', Below w.heap.size w w' → holds G w' → wpList P l.toArray Q (l.drop n) a' w') (l.take n) a []) : (Code.region id l.toArray true).wp P Q a w := by
  have hQ : ∀ c a w d v, Q (.panic c) (Act.put a d v) w → Q (.panic c) a w := fun c a w d v h => by
    cases d with
    | none => exact h
    | some d => exact hQ0 c a w d v h
  have h' := lt1_rel R n i2 j2 hnj2 (lt1_rel R n i j hnj h)
  have hz1 : (lt1 l i j).length = l.length := by unfold lt1; simp
  have hsz : (lt1 (lt1 l i j) i2 j2).length = l.length := by unfold lt1; simp
  have inv1 : HeadInv .any (lt1 l i j).toArray (lt1 l i j).toArray.size (Array.replicate l.toArray.size false) :=
    ⟨by simp [hz1], fun j oj _ hl => (by rw [getD_replicate_false] at hl; cases hl), fun t ht ht' => absurd ht (by simpa using ht')⟩
  have e1 := lt1_later l i j
  have e2 := lt1_later (lt1 l i j) i2 j2
  generalize lt1 (lt1 l i j) i2 j2 = l' at h' hB0 hsz e2
  simp only [Region.lexTailB, Bool.and_eq_true, decide_eq_true_eq] at hB0
  obtain ⟨⟨⟨⟨hsel, hn⟩, hs⟩, hc⟩, hlex⟩ := hB0
  have hC : Cl w { w with drawn := w.drawn + 1 } := Below.drew (Below.refl _ _)
  have htl : (l'.take n).length = n := by have : n < l'.length := by simpa using hn
                                          simp; omega
  have hdl : (l'.drop n).length = l'.toArray.size - n := by simp
  have inv0 : HeadInv .any l'.toArray n (Array.replicate l'.toArray.size false) :=
    ⟨by simp, fun j oj _ hl => (by rw [getD_replicate_false] at hl; cases hl), fun t _ ht => getD_in (by simpa using ht) (getD_replicate_false _ _)⟩
  have H := anyHead_lex (md := .any) (g := l'.toArray.size - n) (shuf_end _) hsel (fun i listed hin inv hun j hj => Nat.lt_of_not_le fun h => tail_waits hs hc hn inv _ i rfl hin hun j h hj) (l'.take n) 0 _ a [] (fun j hj => by
    have hj' : j < n := by rw [htl] at hj; exact hj
    simp [hj']) (by simpa using htl) inv0 (by rw [htl]; exact hlex) h'
  refine wp_region_any hm ?_
  refine wpAny_later hl hs0 hQ _ _ _ _ (by simp) ?_
  rw [← e1]
  refine wpAny_laterC hl2 hs1 hQ _ _ _ _ inv1 ?_
  rw [← e2]
  have := wpAny_of_anyHead (Q' := Q) (g := l'.toArray.size - n) (fun listed a' G w' hw' hG hL => by
    have := wpAny_of_seq (md := .any) (Q' := Q) (l'.drop n) n listed a' w' (fun j => by simp [List.getElem?_drop]) (by rw [hdl]; exact hL.1) (hL.2 w' hw' hG)
    rwa [hdl] at this) _ _ _ _ _ hC (by intro p hp; cases hp) H
  rw [htl, show n + (l'.toArray.size - n) = l'.toArray.size by omega] at this
  simpa [hsz] using this
end
end Go.Rel
