/- Cells of directions: the program's atlas in memory; what its Add refuses. -/
import Derived.Test.YtlnbeildplafbaaGreatDoorGm
import Derived.Test.YtlnbeildplafbaaGreatDoorPln
import Derived.Maps.OwnOps
import Derived.Maps.OwnSet
set_option linter.unusedSimpArgs false
set_option linter.unusedVariables false
namespace Go.Proofs.YtlnbeildplafbaaGreatDoor
open Go.RowKit Go.Grow Go.Atl Go.Maps

/-- The program's atlas whole: its fields, its row, the map of its names, the map of its cells. -/
structure PAt (w : World) (B g m1 m2 : Nat) (lev : Int) (es : List En) (v : Value) : Prop where
  at' : AAt w B g m1 m2 lev es v
  names : ∃ D, w.ownsMap Tryz.prog 9 (plainElem Tryz.prog 3) m1 es.length D ∧ Nms D es
  cells : ∃ D : DataW Unit, w.ownsGroups Tryz.prog 87 B 3 .i64 m2 es.length D
  low : m1 < B
  ne : m1 ≠ m2
  ne1 : g ≠ m1
  ne2 : g ≠ m2
def PSet (w : World) (B g m1 m2 : Nat) (v : Value) : Nat → Prop := fun k => k = g ∨ k = m1 ∨ k = m2 ∨ v.ownBlock = some k ∨ (B ≤ k ∧ ∃ cur, w.heap[k]? = some (.cells cur 3))
theorem PAt.off {X : Nat → Prop} {w w' : World} {B g m1 m2 : Nat} {lev : Int} {es : List En} {v : Value} (h : PAt w B g m1 m2 lev es v) (o : Off X w w') (hg : ¬ X g) (h1 : ¬ X m1) (h2 : ¬ X m2) (hv : ∀ k, v.ownBlock = some k → ¬ X k) (hX : ∀ k, X k → B ≤ k → ∀ cur, w.heap[k]? ≠ some (.cells cur 3)) : PAt w' B g m1 m2 lev es v := by
  obtain ⟨ha, ⟨D, hn, hd⟩, ⟨E, hc⟩, hl, hne, hn1, hn2⟩ := h
  exact ⟨ha.off o hg hv, ⟨D, map_off hn o h1, hd⟩, ⟨E, groups_off hc o h2 hX⟩, hl, hne, hn1, hn2⟩
theorem PAt.below {w w' : World} {B g m1 m2 : Nat} {lev : Int} {es : List En} {v : Value} (h : PAt w B g m1 m2 lev es v) (o : Below w.heap.size w w') : PAt w' B g m1 m2 lev es v :=
  h.off (X := fun _ => False) (Off.of_below o) (fun f => f) (fun f => f) (fun f => f) (fun _ _ f => f) (fun _ f => f.elim)
/-- What Add leaves. -/
def PAdd (a : Nat → Addr) (w : World) (B g m1 m2 : Nat) (lev : Int) (es : List En) (v : Value) (e : En) (en' : Ending) (w' : World) : Prop :=
  en' = .returned (errV a (addE es e)) ∧ Off (PSet w B g m1 m2 v) w w' ∧ ∃ v', PAt w' B g m1 m2 lev (addL es e) v'
theorem padd_no {a : Nat → Addr} {w w' : World} {B g m1 m2 : Nat} {lev : Int} {es : List En} {v : Value} {e : En} {x : Nat} {u : Value} (h : PAt w B g m1 m2 lev es v) (hx : addE es e = x) (h0 : x ≠ 0) (hu : u = errV a x) (hb : Below w.heap.size w w') : PAdd a w B g m1 m2 lev es v e (.returned u) w' :=
  ⟨by rw [hx, hu], Off.of_below hb, v, by
    unfold addL
    rw [if_neg (by rw [hx]; exact h0)]
    exact h.below hb⟩
theorem look_ok {H : Type} {P : Program} (w : World) {ops : Array Oper} {rest : List Oper} {o : Oper} {a : Act} {Q : Exit → Act → World → Prop}
    (hg : o.guard = none) (m x : Operand) (t : TypeId) (hop : o.op = Op.lookup t m x true)
    (k e : TypeId) (q : IntKind) (K : Keyed P k) (ht : P.underlying t = some (.map k e)) (he : P.underlying e = some (.int q)) (hz : (zeroValue e).run P w = .ok (.int q 0) w) (b n : Nat) (D : DataW H)
    (hm : a.eval m = .map (some b)) (hown : w.ownsMap P k (plainElem P e) b n D) (key : Value) (kl : Lit) (hx : a.eval x = key) (hkey : keyOf P k key = some kl) (y : Bool) (hy : Maps.has D kl = y)
    (hK : ∀ c : Int, wpList P ops Q rest (a.put o.dst (.tuple #[.int q c, .bool y])) w) :
    wpList P ops Q (o :: rest) a w :=
  wpList_lookup_own_ok_int w hg m x t hop k e q K ht he hz b n D hm hown key kl hx hkey (fun c _ _ => by rw [hy]; exact hK c)
def anV (e : En) : Value := .agg #[.string e.name, .int .i64 e.at'.x, .int .i64 e.at'.y, .int .i64 e.at'.z, .int .i64 e.light]
set_option maxRecDepth 100000 in
set_option maxHeartbeats 32000000 in
theorem padd_name (a : Nat → Addr) (w : World) (B g m1 m2 : Nat) (lev : Int) (es : List En) (v : Value) (e : En) (hs : Sen a [2, 5, 10] w) (h : PAt w B g m1 m2 lev es v) (hn : e.name.size ≤ maxLen) (hx : hadUp e es es.length = true) :
    Calls Tryz.prog 37 #[.pointer (some ⟨g, 0, none⟩), anV e] w fun en' w' => PAdd a w B g m1 m2 lev es v e en' w' := by
  have HE := Lib.hid (show addE es e = 10 by unfold addE; rw [if_pos hx])
  have HH := Lib.hid h
  have hgw : g < w.heap.size := by have := h.at'.2.1; have := h.at'.2.2.1; omega
  have h1w : m1 < w.heap.size := by have := h.low; have := h.at'.2.2.1; omega
  have HU := Lib.hid (errV_pos a (show 10 ≠ 0 by decide))
  have SX := Lib.hid ((hs 10 (by decide)).1)
  obtain ⟨D, hown0, hnm0⟩ := h.names
  have OW := Lib.hid (map_off (X := fun _ => False) hown0 (Off.of_below (grow_drew (grow_alloc (grow_refl w) (.cells #[.string e.name, .int .i64 e.at'.x, .int .i64 e.at'.y, .int .i64 e.at'.z, .int .i64 e.light] 93)))) (fun f => f))
  have NM := Lib.hid hnm0
  have KG := Lib.hid (h.at'.1.alloc (.cells #[.string e.name, .int .i64 e.at'.x, .int .i64 e.at'.y, .int .i64 e.at'.z, .int .i64 e.light] 93))
  have KB := Lib.hid (Known.new w #[.string e.name, .int .i64 e.at'.x, .int .i64 e.at'.y, .int .i64 e.at'.z, .int .i64 e.light] 93)
  have g5 := SX.out
  have hkey := Lib.hid (WideMaps.keyOf_string_mk (P := Tryz.prog) Tryz.underlying9 (s := e.name) hn)
  simp only [gOf] at g5
  have l5 := lt_of_cell g5
  simp only at l5
  clear hs h hown0 hnm0
  have k1 := KG.out.cell 1
  have b0 := KB.out.cell 0
  have lg := KG.out.lt
  have lb := KB.out.lt
  simp only [List.getElem?_toArray, List.getElem?_cons_zero, List.getElem?_cons_succ] at k1 b0
  have hcase : (named es e.name = true ∨ (named es e.name = false ∧ e.name = .empty)) ∨ (named es e.name = false ∧ ¬ e.name = .empty ∧ 40 < e.name.size) := by
    rw [hadUp_all] at hx
    simp only [Bool.or_eq_true, decide_eq_true_eq] at hx
    cases hq : named es e.name
    · rw [hq] at hx
      by_cases h1 : e.name = .empty
      · exact .inl (.inr ⟨rfl, h1⟩)
      · exact .inr ⟨rfl, h1, by rcases hx with (h | h) | h; exact absurd h h1; exact h; cases h⟩
    · exact .inl (.inl rfl)
  clear hx
  unfold anV
  go_enter Tryz.func37, Tryz.ntmps37
  go_wp2
  refine Grow.wp_region_plan (.quiet [0, 1, 2, 4] (.reads [3, 5] (.one 6 (.quiet [7, 8, 9, 10, 11] (.tail []))))) (by kernel_rfl) (by kernel_rfl) (by kernel_rfl) (by kernel_rfl) ?_ ?_
  · intro c aa d v ww h
    simp (config := {zetaDelta := true}) only [Exit.then, Exit.inBlock] at h ⊢
    exact Grow.bodyPost_blind h
  simp only [Grow.Plan.wp, Grow.pick, List.getElem?_cons_zero, List.getElem?_cons_succ, List.cons_append, List.nil_append]
  repeat (go_big_quiet_step (fail))
  refine wpQuiet_nil ?_
  repeat (go_big_quiet_step (fail))
  refine wpQuiet_nil ?_
  unfold oneK
  have BX := Lib.hid (grow_drew (grow_alloc (grow_refl w) (.cells #[.string e.name, .int .i64 e.at'.x, .int .i64 e.at'.y, .int .i64 e.at'.z, .int .i64 e.light] 93)))
  rcases hcase with (hc | ⟨hc, he⟩) | ⟨hc, he, h4⟩
  · have hh := Lib.hid ((NM.out.1 e.name).trans hc)
    go_wp2_with (at_lookup; refine look_ok _ rfl _ _ 97 rfl 9 3 .i64 lawSt Tryz.underlying97 Tryz.underlying3 (zeroIn _) m1 es.length D rfl OW.out _ _ rfl hkey.out true hh.out ?_; intro c)
    repeat (go_big_quiet_step (fail))
    refine wpQuiet_nil ?_
    go_wp2
    go_ret
    exact padd_no HH.out HE.out (by decide) (by rw [HU.out]; rfl) BX.out
  · have hh := Lib.hid ((NM.out.1 e.name).trans hc)
    have d1 : e.name.toList.isEmpty = true := by rw [← decide_eq_emptyBytes]; exact decide_eq_true he
    clear he
    go_wp2_with (at_lookup; refine look_ok _ rfl _ _ 97 rfl 9 3 .i64 lawSt Tryz.underlying97 Tryz.underlying3 (zeroIn _) m1 es.length D rfl OW.out _ _ rfl hkey.out false hh.out ?_; intro c)
    repeat (go_big_quiet_step (fail))
    refine wpQuiet_nil ?_
    go_wp2
    go_ret
    exact padd_no HH.out HE.out (by decide) (by rw [HU.out]; rfl) BX.out
  · have hh := Lib.hid ((NM.out.1 e.name).trans hc)
    have d1 : e.name.toList.isEmpty = false := by rw [← decide_eq_emptyBytes]; exact decide_eq_false he
    have d2 : decide ((40 : Int) < (e.name.size : Int)) = true := decide_eq_true (by omega)
    go_wp2_with (at_lookup; refine look_ok _ rfl _ _ 97 rfl 9 3 .i64 lawSt Tryz.underlying97 Tryz.underlying3 (zeroIn _) m1 es.length D rfl OW.out _ _ rfl hkey.out false hh.out ?_; intro c)
    repeat (go_big_quiet_step (fail))
    refine wpQuiet_nil ?_
    go_wp2
    go_ret
    exact padd_no HH.out HE.out (by decide) (by rw [HU.out]; rfl) BX.out
set_option maxRecDepth 100000 in
set_option maxHeartbeats 32000000 in
theorem padd_shape (a : Nat → Addr) (w : World) (B g m1 m2 : Nat) (lev : Int) (es : List En) (v : Value) (e : En) (hs : Sen a [2, 5, 10] w) (h : PAt w B g m1 m2 lev es v) (hn : e.name.size ≤ maxLen) (hx : hadUp e es es.length = false) (hd : isDir e.at' = false) :
    Calls Tryz.prog 37 #[.pointer (some ⟨g, 0, none⟩), anV e] w fun en' w' => PAdd a w B g m1 m2 lev es v e en' w' := by
  have HE := Lib.hid (show addE es e = 5 by unfold addE; rw [if_neg (by rw [hx]; decide), if_pos hd])
  have HH := Lib.hid h
  have hgw : g < w.heap.size := by have := h.at'.2.1; have := h.at'.2.2.1; omega
  have h1w : m1 < w.heap.size := by have := h.low; have := h.at'.2.2.1; omega
  have HU := Lib.hid (errV_pos a (show 5 ≠ 0 by decide))
  have SX := Lib.hid ((hs 5 (by decide)).1)
  obtain ⟨D, hown0, hnm0⟩ := h.names
  have OW := Lib.hid (map_off (X := fun _ => False) hown0 (Off.of_below (grow_drew (grow_alloc (grow_refl w) (.cells #[.string e.name, .int .i64 e.at'.x, .int .i64 e.at'.y, .int .i64 e.at'.z, .int .i64 e.light] 93)))) (fun f => f))
  have NM := Lib.hid hnm0
  have KG := Lib.hid (h.at'.1.alloc (.cells #[.string e.name, .int .i64 e.at'.x, .int .i64 e.at'.y, .int .i64 e.at'.z, .int .i64 e.light] 93))
  have KB := Lib.hid (Known.new w #[.string e.name, .int .i64 e.at'.x, .int .i64 e.at'.y, .int .i64 e.at'.z, .int .i64 e.light] 93)
  have g5 := SX.out
  have hkey := Lib.hid (WideMaps.keyOf_string_mk (P := Tryz.prog) Tryz.underlying9 (s := e.name) hn)
  simp only [gOf] at g5
  have l5 := lt_of_cell g5
  simp only at l5
  clear hs h hown0 hnm0
  have k1 := KG.out.cell 1
  have b0 := KB.out.cell 0
  have lg := KG.out.lt
  have lb := KB.out.lt
  simp only [List.getElem?_toArray, List.getElem?_cons_zero, List.getElem?_cons_succ] at k1 b0
  have hcase : named es e.name = false ∧ ¬ e.name = .empty ∧ ¬ 40 < e.name.size := by
    rw [hadUp_all] at hx
    simp only [Bool.or_eq_false_iff, decide_eq_false_iff_not] at hx
    exact ⟨hx.2, hx.1.1, hx.1.2⟩
  have HNF := Lib.hid hcase.1
  clear hx
  have DX := Lib.hid (fun X => direction_walk e.at' X)
  rw [hd] at DX
  unfold drV at DX
  have b1 := KB.out.cell 1
  have b2 := KB.out.cell 2
  have b3 := KB.out.cell 3
  simp only [List.getElem?_toArray, List.getElem?_cons_zero, List.getElem?_cons_succ] at b1 b2 b3
  unfold anV
  go_enter Tryz.func37, Tryz.ntmps37
  go_wp2
  refine Grow.wp_region_plan (.quiet [0, 1, 2, 4] (.reads [3, 5] (.one 6 (.quiet [7, 8, 9, 10, 11] (.tail []))))) (by kernel_rfl) (by kernel_rfl) (by kernel_rfl) (by kernel_rfl) ?_ ?_
  · intro c aa d v ww h
    simp (config := {zetaDelta := true}) only [Exit.then, Exit.inBlock] at h ⊢
    exact Grow.bodyPost_blind h
  simp only [Grow.Plan.wp, Grow.pick, List.getElem?_cons_zero, List.getElem?_cons_succ, List.cons_append, List.nil_append]
  repeat (go_big_quiet_step (fail))
  refine wpQuiet_nil ?_
  repeat (go_big_quiet_step (fail))
  refine wpQuiet_nil ?_
  unfold oneK
  have BX := Lib.hid (grow_drew (grow_alloc (grow_refl w) (.cells #[.string e.name, .int .i64 e.at'.x, .int .i64 e.at'.y, .int .i64 e.at'.z, .int .i64 e.light] 93)))
  obtain ⟨hc, he, h4⟩ := hcase
  have hh := Lib.hid ((NM.out.1 e.name).trans hc)
  have d1 : e.name.toList.isEmpty = false := by rw [← decide_eq_emptyBytes]; exact decide_eq_false he
  have d2 : decide ((40 : Int) < (e.name.size : Int)) = false := decide_eq_false (by omega)
  go_wp2_with (at_lookup; refine look_ok _ rfl _ _ 97 rfl 9 3 .i64 lawSt Tryz.underlying97 Tryz.underlying3 (zeroIn _) m1 es.length D rfl OW.out _ _ rfl hkey.out false hh.out ?_; intro c)
  repeat (go_big_quiet_step (fail))
  refine wpQuiet_nil ?_
  go_wp2_with (go_at_call 73; (with_reducible refine (DX.out _).mono ?_); rintro e2 w2 ⟨rfl, hb⟩; have HB2 := Lib.hid (grow_trans BX.out hb); clear hb; have y5 := (HB2.out.cell (p := ⟨0, 0, none⟩) l5).trans g5)
  go_ret
  exact padd_no HH.out HE.out (by decide) (by rw [HU.out]; rfl) HB2.out
end Go.Proofs.YtlnbeildplafbaaGreatDoor
