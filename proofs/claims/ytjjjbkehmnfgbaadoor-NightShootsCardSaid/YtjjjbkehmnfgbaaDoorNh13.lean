/- The night's house: a new house; a house kept while rows grow. -/
import Derived.Test.YtjjjbkehmnfgbaaDoorNh12
import Derived.Test.YtjjjbkehmnfgbaaDoorNs2
import Derived.Test.YtjjjbkehmnfgbaaDoorCs5
set_option linter.unusedSimpArgs false
set_option linter.unusedVariables false
namespace Go.Proofs.YtjjjbkehmnfgbaaDoor
open Go.RowKit Go.Grow Go.Hs Go.Maps

theorem newHouse_walk (w : World) :
    Calls Tryd.prog 31 #[] w fun e w' => e = .returned (.pointer (some ⟨w.heap.size + 1, 0, none⟩)) ∧ HAt w' (w.heap.size + 1) w.heap.size [] [] ∧ Below w.heap.size w w' ∧ w'.heap.size = w.heap.size + 2 := by
  have hmm := @run_makeMap Tryd.prog
  go_enter Tryd.func31, Tryd.ntmps31
  go_wp2
  go_ret
  refine ⟨rfl, ⟨?_, ⟨.map [], ?_, HMap.start⟩, fun k h => absurd h (by simp), by omega⟩, grow_alloc (grow_alloc (grow_refl _) _) _, by simp⟩
  · exact Known.new' (by simp)
  · exact ownsMap_turn (World.ownsMap_made _ _ _ _) (grow_alloc (grow_refl _) _)
theorem HAt.row {w w' : World} {g m : Nat} {fs : List Tl} {V : List Value} {B e1 s1 n1 : Nat} {v1 : Value} {xs1 : List Value} (h : HAt w g m fs V) (h1 : w.ownsRow B e1 s1 v1 n1 xs1) (hg : g < B) (hm : m < B) (he1 : e1 ≠ 3) (he2 : e1 ≠ 92) (gr : w.grownBy w' v1.ownBlock) : HAt w' g m fs V := by
  obtain ⟨k1, ⟨D, k2, k3⟩, k4, k5⟩ := h
  have hne : ∀ b, b < B → some b ≠ v1.ownBlock := fun b hb => own_ne h1 hb
  refine ⟨?_, ⟨D, k2.kept gr (hne m hm), k3⟩, fun k hk => (k4 k hk).grown h1 he1 he2 gr, k5⟩
  have e := gr.block g k1.lt (hne g hg)
  refine ⟨fun i => ?_, fun i => ?_, Nat.lt_of_lt_of_le k1.lt gr.size⟩
  · rw [← k1.cell i]; unfold World.cell?; simp only [e]
  · rw [← k1.frozen i]; unfold World.frozen?; simp only [e]
theorem HAt.isMap {w : World} {g m : Nat} {fs : List Tl} {V : List Value} (h : HAt w g m fs V) : ∃ es c, w.heap[m]? = some (.map es c) := by
  obtain ⟨D, ⟨es, c, hb, _⟩, _⟩ := h.map'
  exact ⟨es, c, hb⟩
theorem HAt.lens {w : World} {g m : Nat} {fs : List Tl} {V : List Value} (h : HAt w g m fs V) : V.length = fs.length := by
  obtain ⟨D, _, hm⟩ := h.map'
  exact hm.len
theorem HAt.apart {w : World} {g m : Nat} {fs : List Tl} {V : List Value} (h : HAt w g m fs V) : fs.Pairwise (fun x y => x.name ≠ y.name) := by
  obtain ⟨D, _, hm⟩ := h.map'
  exact hm.apart
def namesB (fs : List Tl) : List ByteArray := fs.map Tl.name
theorem namesB_length (fs : List Tl) : (namesB fs).length = fs.length := by simp [namesB]
/-- Whether one of the first j names is s. -/
def seenUp (fs : List Tl) (s : ByteArray) : Nat → Bool
  | 0 => false
  | j + 1 => seenUp fs s j || decide ((tl fs j).name = s)
theorem seenUp_all (fs : List Tl) (s : ByteArray) : ∀ j, j ≤ fs.length → seenUp fs s j = namedT (fs.take j) s
  | 0, _ => rfl
  | j + 1, h => by
    rw [seenUp, seenUp_all fs s j (by omega), List.take_succ_eq_append_getElem (show j < fs.length by omega), namedT_snoc, tl_get (show j < fs.length by omega)]
theorem seen_named (fs : List Tl) (s : ByteArray) : seenUp fs s fs.length = namedT fs s := by rw [seenUp_all fs s _ (Nat.le_refl _), List.take_length]
/-- The law's own number. -/
def eUp (fs : List Tl) (t : Tl) (j : Nat) : Nat := if seenUp fs t.name j = true then 10 else if ¬ (1 ≤ t.kind ∧ t.kind ≤ 4) then 5 else if fs.length = 12 then 2 else 0
theorem eUp_zero (fs : List Tl) (t : Tl) : eUp fs t 0 = if ¬ (1 ≤ t.kind ∧ t.kind ≤ 4) then 5 else if fs.length = 12 then 2 else 0 := by unfold eUp; simp [seenUp]
theorem eUp_hit {fs : List Tl} {t : Tl} {j : Nat} (h : (tl fs j).name = t.name) : eUp fs t (j + 1) = 10 := by unfold eUp; rw [seenUp]; simp [h]
theorem eUp_miss {fs : List Tl} {t : Tl} {j : Nat} (h : ¬ (tl fs j).name = t.name) : eUp fs t (j + 1) = eUp fs t j := by unfold eUp; rw [seenUp]; simp [h]
theorem eUp_fit {fs : List Tl} {t : Tl} (h : ¬ t.name = .empty) : eUp fs t fs.length = fitE fs t := by unfold eUp fitE; rw [seen_named]; simp [h]
theorem fitE_empty {fs : List Tl} {t : Tl} (h : t.name = .empty) : fitE fs t = 10 := by unfold fitE; rw [if_pos (.inr h)]
def Small (t : Tl) : Prop := t.name.size ≤ 100 ∧ t.counts.length ≤ 100 ∧ t.opens.length ≤ 30
theorem snL_get {fs : List Tl} {j : Nat} (h : j < fs.length) : (snL (namesB fs))[j]? = some (.string (tl fs j).name) := by simp [snL, namesB, tl_get h, h]
theorem fit_walk (a : Nat → Addr) (w : World) (g m : Nat) (fs : List Tl) (V : List Value) (t : Tl) (x : Value) (hs : Sen a [2, 5, 10] w) (h : HAt w g m fs V) (hi : InsAt w t x) (hn : t.name.size ≤ maxLen) (hl : fs.length ≤ 12) :
    Calls Tryd.prog 33 #[.pointer (some ⟨g, 0, none⟩), .string t.name, x] w fun e w' => FitPost a w g m fs t e w' := by
  by_cases h1 : namedT fs t.name = true ∨ t.name = .empty
  · exact fit_name a w g m fs V t x hs h hi hn h1
  · have h1' : namedT fs t.name = false ∧ ¬ t.name = .empty := by
      refine ⟨?_, fun he => h1 (.inr he)⟩
      cases hn : namedT fs t.name
      · rfl
      · exact absurd (.inl hn) h1
    by_cases h2 : 1 ≤ t.kind ∧ t.kind ≤ 4
    · by_cases h3 : fs.length = 12
      · exact fit_full a w g m fs V t x hs h hi hn h1' h2 h3
      · exact fit_good a w g m fs V t x hs h hi hn h1' h2 (by omega)
    · exact fit_shape a w g m fs V t x hs h hi hn h1' h2
set_option maxRecDepth 100000 in
set_option maxHeartbeats 8000000 in
theorem kindF_walk (p q : Int) (w : World) :
    Calls Tryd.prog 29 #[.iface 142 (.agg #[.int .i64 p, .int .i64 q])] w fun e w' => e = .returned (.string kPtr) ∧ Below w.heap.size w w' := by
  have hm := kind_fixed
  go_enter Tryd.func29, Tryd.ntmps29
  go_wp2
  go_ret
  exact ⟨rfl, (by (repeat (with_reducible first | exact grow_refl _ | refine Grow.grow_drewN ?_ _ | refine Grow.grow_drew ?_ | refine Grow.grow_alloc ?_ _)))⟩
theorem names_of_owns {w : World} {base n : Nat} {v : Value} {fs : List Tl} {e : TypeId} (h : w.ownsRow base e 1 v n (snL (namesB fs))) : ∃ r cap, v = .slice r fs.length cap ∧ (fs = [] ∨ ∃ b, r = some ⟨b, 0, none⟩ ∧ ∀ k, k < fs.length → w.cell? ⟨b, k, none⟩ = some (.string (tl fs k).name)) := by
  obtain ⟨r, cap, hv, hc⟩ := sn_of_owns h
  refine ⟨r, cap, by rw [hv, namesB_length], ?_⟩
  rcases hc with hc | ⟨b, hb, hc⟩
  · exact .inl (by simpa [namesB] using hc)
  · refine .inr ⟨b, hb, fun k hk => ?_⟩
    rw [hc k (by rw [namesB_length]; exact hk), tl_get hk]
    simp [namesB]
theorem toList_decT (a b : ByteArray) : (a.toList == b.toList) = decide (a = b) := by
  rw [ByteArray.toList_eq, ByteArray.toList_eq]
  obtain ⟨⟨x⟩⟩ := a
  obtain ⟨⟨y⟩⟩ := b
  simp only [Bool.beq_eq_decide_eq, ByteArray.mk.injEq, Array.mk.injEq]
theorem namesB_snoc (fs : List Tl) (t : Tl) : snL (namesB (fs ++ [t])) = snL (namesB fs) ++ [.string t.name] := by simp [snL, namesB]
theorem fit_turn {w w' W0 : World} {m : Nat} (hb : Below W0.heap.size W0 w) (hm : W0.heap.size ≤ m) (gr : w.grownBy w' (some m)) : Below W0.heap.size W0 w' := below_grownS hb hb.size gr (fun k hk => by cases hk; exact hm)
end Go.Proofs.YtjjjbkehmnfgbaaDoor
