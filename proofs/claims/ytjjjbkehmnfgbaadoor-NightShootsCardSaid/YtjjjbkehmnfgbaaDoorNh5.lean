/- The night's house: a house in memory, what is fitted. -/
import Derived.Test.YtjjjbkehmnfgbaaDoorNh4
import Derived.Maps.OwnOps
import Derived.Maps.OwnSet
import Derived.Maps.Views
import Derived.Carry
set_option linter.unusedSimpArgs false
set_option linter.unusedVariables false
namespace Go.Proofs.YtjjjbkehmnfgbaaDoor
open Go.RowKit Go.Grow Go.Hs Go.Maps

theorem lawNk : Keyed Tryd.prog 9 := string_keyed Tryd.underlying9
theorem zeroIx (w : World) : (zeroValue 71).run Tryd.prog w = .ok .nilIface w := by kernel_rfl
def nkL (s : ByteArray) : Lit := .string s.data.toList
theorem nkL_inj {a b : ByteArray} (h : nkL a = nkL b) : a = b := by
  obtain ⟨⟨x⟩⟩ := a
  obtain ⟨⟨y⟩⟩ := b
  unfold nkL at h
  simpa using h
/-- Each element is told by itself. -/
def insR (v : Value) : Option (DataW Value × List MemPlace) := some (.held v, [])
def namedT (fs : List Tl) (s : ByteArray) : Bool := fs.any (fun t => decide (t.name = s))
/-- What the map of a house reads as. -/
structure HMap (D : DataW Value) (fs : List Tl) (V : List Value) : Prop where
  len : V.length = fs.length
  size : Maps.size D = fs.length
  names : ∀ s : ByteArray, Maps.has D (nkL s) = namedT fs s
  vals : ∀ k (h : k < V.length), D.atKey (nkL (tl fs k).name) (.held .nilIface) = .held V[k]
  apart : fs.Pairwise (fun x y => x.name ≠ y.name)
theorem HMap.start : HMap (.map []) [] [] := ⟨rfl, rfl, fun _ => rfl, fun k h => absurd h (by simp), .nil⟩
theorem namedT_snoc (fs : List Tl) (t : Tl) (s : ByteArray) : namedT (fs ++ [t]) s = (namedT fs s || decide (t.name = s)) := by simp [namedT]
theorem tl_snoc_lt {fs : List Tl} {t : Tl} {k : Nat} (h : k < fs.length) : tl (fs ++ [t]) k = tl fs k := by unfold tl; simp [List.getElem?_append_left h]
theorem tl_snoc_eq (fs : List Tl) (t : Tl) : tl (fs ++ [t]) fs.length = t := by unfold tl; simp
theorem named_of {fs : List Tl} {k : Nat} (h : k < fs.length) : namedT fs (tl fs k).name = true := by
  rw [tl_get h]
  exact List.any_eq_true.2 ⟨fs[k], List.getElem_mem h, decide_eq_true rfl⟩
theorem HMap.put {D : DataW Value} {fs : List Tl} {V : List Value} (h : HMap D fs V) (hD : IsMap D) (hT : Tidy D) (t : Tl) (x : Value) (hn : namedT fs t.name = false) : HMap (D.put (nkL t.name) (.held x)) (fs ++ [t]) (V ++ [x]) := by
  have hk : WideAt.IsKeyLit (nkL t.name) := by simp [WideAt.IsKeyLit, nkL]
  have hno : Maps.has D (nkL t.name) = false := (h.names t.name).trans hn
  refine ⟨by simp [h.len], ?_, fun s => ?_, fun k hk' => ?_, ?_⟩
  · rw [size_put hT, hno, h.size]
    simp
  · rw [namedT_snoc]
    by_cases he : s = t.name
    · subst he
      rw [has_put_same hD hk, decide_eq_true rfl, Bool.or_true]
    · rw [has_put_other (fun hx => he (nkL_inj hx)), h.names s, decide_eq_false (fun hx => he hx.symm), Bool.or_false]
  · by_cases hlt : k < V.length
    · have hf : k < fs.length := by rw [← h.len]; exact hlt
      have hne : (tl fs k).name ≠ t.name := fun he => by
        have := named_of hf
        rw [he, hn] at this
        cases this
      rw [tl_snoc_lt hf, atKey_put_other (fun hx => hne (nkL_inj hx)), h.vals k hlt, List.getElem_append_left hlt]
    · obtain rfl : k = V.length := by simp at hk'; omega
      have e : tl (fs ++ [t]) V.length = t := by rw [h.len]; exact tl_snoc_eq fs t
      rw [e, atKey_put_same hD hk]
      simp
  · rw [List.pairwise_append]
    refine ⟨h.apart, by simp, fun a ha b hb he => ?_⟩
    obtain rfl : b = t := by simpa using hb
    have : namedT fs b.name = true := List.any_eq_true.2 ⟨a, ha, decide_eq_true he⟩
    rw [hn] at this
    cases this
structure HAt (w : World) (g m : Nat) (fs : List Tl) (V : List Value) : Prop where
  box : Known w g #[.map (some m)]
  map' : ∃ D : DataW Value, w.ownsMap Tryd.prog 9 insR m fs.length D ∧ HMap D fs V
  ins : ∀ k (h : k < V.length), InsAt w (tl fs k) V[k]
  ne : g ≠ m
theorem ownsMap_turn {w w' : World} {P : Program} {k : TypeId} {H : Type} {R : Value → Option (DataW H × List MemPlace)} {b n : Nat} {D : DataW H} (h : w.ownsMap P k R b n D) (hb : Below w.heap.size w w') : w'.ownsMap P k R b n D :=
  h.kept (row := none) ⟨hb.os, hb.tape, hb.output, hb.size, fun k hk _ => hb.block k hk⟩ (by simp)
theorem HAt.below {w w' : World} {g m : Nat} {fs : List Tl} {V : List Value} (h : HAt w g m fs V) (hb : Below w.heap.size w w') : HAt w' g m fs V := by
  obtain ⟨h1, ⟨D, h2, h3⟩, h4, h5⟩ := h
  exact ⟨h1.below hb, ⟨D, ownsMap_turn h2 hb, h3⟩, fun k hk => (h4 k hk).below hb, h5⟩
def fitE (fs : List Tl) (t : Tl) : Nat := if namedT fs t.name = true ∨ t.name = .empty then 10 else if ¬ (1 ≤ t.kind ∧ t.kind ≤ 4) then 5 else if fs.length = 12 then 2 else 0
def fitL (fs : List Tl) (t : Tl) : List Tl := if fitE fs t = 0 then fs ++ [t] else fs
theorem look_okH {H : Type} {P : Program} (w : World) {ops : Array Oper} {rest : List Oper} {o : Oper} {a : Act} {Q : Exit → Act → World → Prop}
    (hg : o.guard = none) (m x : Operand) (t : TypeId) (hop : o.op = Op.lookup t m x true)
    (k e : TypeId) (K : Keyed P k) (ht : P.underlying t = some (.map k e)) (R : Value → Option (DataW H × List MemPlace)) {z : Value} (hz : (zeroValue e).run P w = .ok z w) (zd : DataW H) (zp : List MemPlace) (hzd : R z = some (zd, zp)) (b n : Nat) (D : DataW H)
    (hm : a.eval m = .map (some b)) (hown : w.ownsMap P k R b n D) (key : Value) (kl : Lit) (hx : a.eval x = key) (hkey : keyOf P k key = some kl) (y : Bool) (hy : Maps.has D kl = y)
    (hK : ∀ v, wpList P ops Q rest (a.put o.dst (.tuple #[v, .bool y])) w) :
    wpList P ops Q (o :: rest) a w :=
  wpList_lookup_own_ok w hg m x t hop k e K ht R hz zd zp hzd b n D hm hown key kl hx hkey (fun v ps _ => by rw [hy]; exact hK v)
theorem len_okH {H : Type} {P : Program} (w : World) {ops : Array Oper} {rest : List Oper} {o : Oper} {a : Act} {Q : Exit → Act → World → Prop}
    (hg : o.guard = none) (m : Operand) (t : TypeId) (hop : o.op = Op.call { callee := Callee.builtin Builtin.len, args := #[m], argTypes := #[t] })
    (k e : TypeId) (ht : P.underlying t = some (.map k e)) (R : Value → Option (DataW H × List MemPlace)) (b n : Nat) (D : DataW H) (hm : a.eval m = .map (some b)) (hown : w.ownsMap P k R b n D) (q : Nat) (hq : Maps.size D = q)
    (hK : wpList P ops Q rest (a.put o.dst (.int .i64 q)) w) : wpList P ops Q (o :: rest) a w :=
  wpList_len_own w hg m t hop k e ht R b n D hm hown (by rw [hq]; exact hK)
theorem known_grown {w w' : World} {b m : Nat} {c : Array Value} (h : Known w b c) (g : w.grownBy w' (some m)) (hne : b ≠ m) : Known w' b c := by
  have e := g.block b h.lt (fun he => hne (by simpa using he))
  refine ⟨fun i => ?_, fun i => ?_, Nat.lt_of_lt_of_le h.lt g.size⟩
  · rw [← h.cell i]; unfold World.cell?; simp only [e]
  · rw [← h.frozen i]; unfold World.frozen?; simp only [e]
theorem cell_not_map {w : World} {m i : Nat} {v : Value} {es : Array MapEntry} {c : Nat} (hm : w.heap[m]? = some (.map es c)) (h : w.cell? ⟨m, i, none⟩ = some v) : False := by
  unfold World.cell? at h
  rw [hm] at h
  simp at h
theorem cell_turn {w w' : World} {m b i : Nat} {v : Value} {es : Array MapEntry} {c : Nat} (hm : w.heap[m]? = some (.map es c)) (g : w.grownBy w' (some m)) (h : w.cell? ⟨b, i, none⟩ = some v) : w'.cell? ⟨b, i, none⟩ = some v := by
  by_cases e : b = m
  · subst e
    exact (cell_not_map hm h).elim
  · have := g.block b (lt_of_cellS h) (fun he => e (by simpa using he))
    unfold World.cell? at *
    rw [this]
    exact h
theorem nr_turn {w w' : World} {m : Nat} {es : Array MapEntry} {c : Nat} {r : Option Addr} {l : List Int} (hm : w.heap[m]? = some (.map es c)) (g : w.grownBy w' (some m)) (h : NrAt w r l) : NrAt w' r l := by
  rcases h with h | ⟨b, o, hr, h⟩
  · exact .inl h
  · exact .inr ⟨b, o, hr, fun k hk => cell_turn hm g (h k hk)⟩
theorem sp_turn {w w' : World} {m : Nat} {es : Array MapEntry} {c : Nat} {r : Option Addr} {l : List (Int × Int)} (hm : w.heap[m]? = some (.map es c)) (g : w.grownBy w' (some m)) (h : SpAt w r l) : SpAt w' r l := by
  rcases h with h | ⟨b, o, hr, h⟩
  · exact .inl h
  · exact .inr ⟨b, o, hr, fun k hk => ⟨cell_turn hm g (h k hk).1, cell_turn hm g (h k hk).2⟩⟩
theorem owns_turn {w w' : World} {m base e sz n : Nat} {v : Value} {xs : List Value} {es : Array MapEntry} {c : Nat} (hm : w.heap[m]? = some (.map es c)) (g : w.grownBy w' (some m)) (h : w.ownsRow base e sz v n xs) : w'.ownsRow base e sz v n xs := by
  obtain ⟨hl, ⟨hv, hn⟩ | ⟨g2, cap, cur, hv, hb, hh, hr⟩⟩ := h
  · exact ⟨hl, .inl ⟨hv, hn⟩⟩
  · refine ⟨hl, .inr ⟨g2, cap, cur, hv, hb, ?_, hr⟩⟩
    rw [g.block g2 (Array.getElem?_eq_some_iff.1 hh).1 (fun he => ?_), hh]
    cases he
    rw [hm] at hh
    cases hh
theorem ins_turn {w w' : World} {m : Nat} {es : Array MapEntry} {c : Nat} {t : Tl} {x : Value} (hm : w.heap[m]? = some (.map es c)) (g : w.grownBy w' (some m)) (h : InsAt w t x) : InsAt w' t x := by
  cases h with
  | still h r c hr => exact .still h r c (owns_turn hm g hr)
  | hours h r c hr => exact .hours h r c (owns_turn hm g hr)
  | fixed h => exact .fixed h
  | roof h r c hr => exact .roof h r c (owns_turn hm g hr)
  | none h => exact .none h
/-- What Fit leaves. -/
def FitPost (a : Nat → Addr) (w : World) (g m : Nat) (fs : List Tl) (t : Tl) (e : Ending) (w' : World) : Prop :=
  e = .returned (errV a (fitE fs t)) ∧ w.grownBy w' (some m) ∧ ∃ V', HAt w' g m (fitL fs t) V'
theorem fit_no {a : Nat → Addr} {w w' : World} {g m : Nat} {fs : List Tl} {V : List Value} {t : Tl} {x : Nat} {u : Value} (h : HAt w g m fs V) (hx : fitE fs t = x) (h0 : x ≠ 0) (hu : u = errV a x) (hb : Below w.heap.size w w') : FitPost a w g m fs t (.returned u) w' :=
  ⟨by rw [hx, hu], ⟨hb.os, hb.tape, hb.output, hb.size, fun k hk _ => hb.block k hk⟩, V, by
    unfold fitL
    rw [if_neg (by rw [hx]; exact h0)]
    exact h.below hb⟩
set_option maxRecDepth 100000 in
set_option maxHeartbeats 16000000 in
theorem fit_name (a : Nat → Addr) (w : World) (g m : Nat) (fs : List Tl) (V : List Value) (t : Tl) (x : Value) (hs : Sen a [2, 5, 10] w) (h : HAt w g m fs V) (hi : InsAt w t x) (hn : t.name.size ≤ maxLen) (hx : namedT fs t.name = true ∨ t.name = .empty) :
    Calls Tryd.prog 33 #[.pointer (some ⟨g, 0, none⟩), .string t.name, x] w fun e w' => FitPost a w g m fs t e w' := by
  obtain ⟨D, hown, hm⟩ := h.map'
  have HH := Lib.hid h
  have OW := Lib.hid hown
  have HM := Lib.hid hm
  have k0 := h.box.cell 0
  have lg := h.box.lt
  simp only [List.getElem?_toArray, List.getElem?_cons_zero, List.getElem?_cons_succ] at k0
  have hkey := Lib.hid (WideMaps.keyOf_string_mk (P := Tryd.prog) Tryd.underlying9 (s := t.name) hn)
  have OR := Lib.hid (fun X (hX : Below w.heap.size w X) => ours_walk t x X (hi.below hX))
  have HI := Lib.hid hi
  have HU := Lib.hid (errV_pos a (show 10 ≠ 0 by decide))
  have g5 := (hs 10 (by decide)).1
  simp only [gOf] at g5
  have l5 := lt_of_cell g5
  simp only at l5
  clear hs h hown hm hi
  have HE := Lib.hid (show fitE fs t = 10 by unfold fitE; rw [if_pos hx])
  cases hc : namedT fs t.name
  rotate_left
  · have hh := Lib.hid ((HM.out.names t.name).trans hc)
    clear hx hc
    go_enter Tryd.func33, Tryd.ntmps33
    go_wp2_with (at_lookup; refine look_okH _ rfl _ _ 143 rfl 9 71 lawNk Tryd.underlying143 insR (zeroIx _) (.held .nilIface) [] rfl m fs.length D rfl OW.out _ _ rfl hkey.out true hh.out ?_; intro vv)
    go_ret
    exact fit_no HH.out HE.out (by decide) (by rw [HU.out]; rfl) (grow_refl _)
  · have hh := Lib.hid ((HM.out.names t.name).trans hc)
    have d1 : t.name.toList.isEmpty = true := by
      rw [← decide_eq_emptyBytes]
      exact decide_eq_true (by rcases hx with h | h; rw [hc] at h; cases h; exact h)
    clear hx hc
    go_enter Tryd.func33, Tryd.ntmps33
    go_wp2_with (at_lookup; refine look_okH _ rfl _ _ 143 rfl 9 71 lawNk Tryd.underlying143 insR (zeroIx _) (.held .nilIface) [] rfl m fs.length D rfl OW.out _ _ rfl hkey.out false hh.out ?_; intro vv)
    go_ret
    exact fit_no HH.out HE.out (by decide) (by rw [HU.out]; rfl) (grow_refl _)
set_option maxRecDepth 100000 in
set_option maxHeartbeats 16000000 in
theorem fit_shape (a : Nat → Addr) (w : World) (g m : Nat) (fs : List Tl) (V : List Value) (t : Tl) (x : Value) (hs : Sen a [2, 5, 10] w) (h : HAt w g m fs V) (hi : InsAt w t x) (hn : t.name.size ≤ maxLen) (hx : namedT fs t.name = false ∧ ¬ t.name = .empty) (hk : ¬ (1 ≤ t.kind ∧ t.kind ≤ 4)) :
    Calls Tryd.prog 33 #[.pointer (some ⟨g, 0, none⟩), .string t.name, x] w fun e w' => FitPost a w g m fs t e w' := by
  obtain ⟨D, hown, hm⟩ := h.map'
  have HH := Lib.hid h
  have OW := Lib.hid hown
  have HM := Lib.hid hm
  have k0 := h.box.cell 0
  have lg := h.box.lt
  simp only [List.getElem?_toArray, List.getElem?_cons_zero, List.getElem?_cons_succ] at k0
  have hkey := Lib.hid (WideMaps.keyOf_string_mk (P := Tryd.prog) Tryd.underlying9 (s := t.name) hn)
  have OR := Lib.hid (fun X (hX : Below w.heap.size w X) => ours_walk t x X (hi.below hX))
  have HI := Lib.hid hi
  have HU := Lib.hid (errV_pos a (show 5 ≠ 0 by decide))
  have g5 := (hs 5 (by decide)).1
  simp only [gOf] at g5
  have l5 := lt_of_cell g5
  simp only at l5
  clear hs h hown hm hi
  have HE := Lib.hid (show fitE fs t = 5 by unfold fitE; rw [if_neg (by rw [hx.1]; rintro (h | h); cases h; exact hx.2 h), if_pos hk])
  have hh := Lib.hid ((HM.out.names t.name).trans hx.1)
  have d1 : t.name.toList.isEmpty = false := by rw [← decide_eq_emptyBytes]; exact decide_eq_false hx.2
  rw [decide_eq_false hk] at OR
  clear hx hk
  go_enter Tryd.func33, Tryd.ntmps33
  go_wp2_with (first
    | (at_lookup; refine look_okH _ rfl _ _ 143 rfl 9 71 lawNk Tryd.underlying143 insR (zeroIx _) (.held .nilIface) [] rfl m fs.length D rfl OW.out _ _ rfl hkey.out false hh.out ?_; intro vv)
    | (go_at_call 67; (with_reducible refine (OR.out _ (grow_refl _)).mono ?_); rintro e1 w1 ⟨rfl, hb⟩; have B1 := Lib.hid hb; clear hb; have y5 := (B1.out.cell (p := ⟨2, 0, none⟩) l5).trans g5))
  go_ret
  exact fit_no HH.out HE.out (by decide) (by rw [HU.out]; rfl) B1.out
set_option maxRecDepth 100000 in
set_option maxHeartbeats 16000000 in
theorem fit_full (a : Nat → Addr) (w : World) (g m : Nat) (fs : List Tl) (V : List Value) (t : Tl) (x : Value) (hs : Sen a [2, 5, 10] w) (h : HAt w g m fs V) (hi : InsAt w t x) (hn : t.name.size ≤ maxLen) (hx : namedT fs t.name = false ∧ ¬ t.name = .empty) (hk : 1 ≤ t.kind ∧ t.kind ≤ 4) (hl : fs.length = 12) :
    Calls Tryd.prog 33 #[.pointer (some ⟨g, 0, none⟩), .string t.name, x] w fun e w' => FitPost a w g m fs t e w' := by
  obtain ⟨D, hown, hm⟩ := h.map'
  have HH := Lib.hid h
  have OW := Lib.hid hown
  have HM := Lib.hid hm
  have k0 := h.box.cell 0
  have lg := h.box.lt
  simp only [List.getElem?_toArray, List.getElem?_cons_zero, List.getElem?_cons_succ] at k0
  have hkey := Lib.hid (WideMaps.keyOf_string_mk (P := Tryd.prog) Tryd.underlying9 (s := t.name) hn)
  have OR := Lib.hid (fun X (hX : Below w.heap.size w X) => ours_walk t x X (hi.below hX))
  have HI := Lib.hid hi
  have HU := Lib.hid (errV_pos a (show 2 ≠ 0 by decide))
  have g5 := (hs 2 (by decide)).1
  simp only [gOf] at g5
  have l5 := lt_of_cell g5
  simp only at l5
  clear hs h hown hm hi
  have HE := Lib.hid (show fitE fs t = 2 by unfold fitE; rw [if_neg (by rw [hx.1]; rintro (h | h); cases h; exact hx.2 h), if_neg (by simp [hk]), if_pos hl])
  have hh := Lib.hid ((HM.out.names t.name).trans hx.1)
  have d1 : t.name.toList.isEmpty = false := by rw [← decide_eq_emptyBytes]; exact decide_eq_false hx.2
  rw [decide_eq_true hk] at OR
  have d2 : decide ((fs.length : Int) = 12) = true := decide_eq_true (by omega)
  clear hx hk
  go_enter Tryd.func33, Tryd.ntmps33
  go_wp2_with (first
    | (at_lookup; refine look_okH _ rfl _ _ 143 rfl 9 71 lawNk Tryd.underlying143 insR (zeroIx _) (.held .nilIface) [] rfl m fs.length D rfl OW.out _ _ rfl hkey.out false hh.out ?_; intro vv)
    | (go_at_call 67; (with_reducible refine (OR.out _ (grow_refl _)).mono ?_); rintro e1 w1 ⟨rfl, hb⟩; have B1 := Lib.hid hb; clear hb; have y5 := (B1.out.cell (p := ⟨0, 0, none⟩) l5).trans g5; have O1 := Lib.hid (ownsMap_turn OW.out B1.out); have K1 := Lib.hid (HH.out.box.below B1.out); have k1 := K1.out.cell 0; have l1 := K1.out.lt; simp only [List.getElem?_toArray, List.getElem?_cons_zero, List.getElem?_cons_succ] at k1)
    | (at_len; refine len_okH _ rfl _ 143 rfl 9 71 Tryd.underlying143 insR m fs.length D rfl O1.out fs.length HM.out.size ?_))
  go_ret
  exact fit_no HH.out HE.out (by decide) (by rw [HU.out]; rfl) B1.out
set_option maxRecDepth 100000 in
set_option maxHeartbeats 16000000 in
theorem fit_good (a : Nat → Addr) (w : World) (g m : Nat) (fs : List Tl) (V : List Value) (t : Tl) (x : Value) (hs : Sen a [2, 5, 10] w) (h : HAt w g m fs V) (hi : InsAt w t x) (hn : t.name.size ≤ maxLen) (hx : namedT fs t.name = false ∧ ¬ t.name = .empty) (hk : 1 ≤ t.kind ∧ t.kind ≤ 4) (hl : fs.length < 12) :
    Calls Tryd.prog 33 #[.pointer (some ⟨g, 0, none⟩), .string t.name, x] w fun e w' => FitPost a w g m fs t e w' := by
  obtain ⟨D, hown, hm⟩ := h.map'
  have HH := Lib.hid h
  have OW := Lib.hid hown
  have HM := Lib.hid hm
  have k0 := h.box.cell 0
  have lg := h.box.lt
  simp only [List.getElem?_toArray, List.getElem?_cons_zero, List.getElem?_cons_succ] at k0
  have hkey := Lib.hid (WideMaps.keyOf_string_mk (P := Tryd.prog) Tryd.underlying9 (s := t.name) hn)
  have OR := Lib.hid (fun X (hX : Below w.heap.size w X) => ours_walk t x X (hi.below hX))
  have HI := Lib.hid hi
  clear hs h hown hm hi
  have HE := Lib.hid (show fitE fs t = 0 by unfold fitE; rw [if_neg (by rw [hx.1]; rintro (h | h); cases h; exact hx.2 h), if_neg (by simp [hk]), if_neg (by omega)])
  have HX := Lib.hid hx.1
  have hh := Lib.hid ((HM.out.names t.name).trans hx.1)
  have d1 : t.name.toList.isEmpty = false := by rw [← decide_eq_emptyBytes]; exact decide_eq_false hx.2
  rw [decide_eq_true hk] at OR
  have d2 : decide ((fs.length : Int) = 12) = false := decide_eq_false (by omega)
  clear hx hk
  go_enter Tryd.func33, Tryd.ntmps33
  go_wp2_with (first
    | (at_lookup; refine look_okH _ rfl _ _ 143 rfl 9 71 lawNk Tryd.underlying143 insR (zeroIx _) (.held .nilIface) [] rfl m fs.length D rfl OW.out _ _ rfl hkey.out false hh.out ?_; intro vv)
    | (go_at_call 67; (with_reducible refine (OR.out _ (grow_refl _)).mono ?_); rintro e1 w1 ⟨rfl, hb⟩; have B1 := Lib.hid hb; clear hb; have O1 := Lib.hid (ownsMap_turn OW.out B1.out); have K1 := Lib.hid (HH.out.box.below B1.out); have k1 := K1.out.cell 0; have l1 := K1.out.lt; simp only [List.getElem?_toArray, List.getElem?_cons_zero, List.getElem?_cons_succ] at k1)
    | (at_len; refine len_okH _ rfl _ 143 rfl 9 71 Tryd.underlying143 insR m fs.length D rfl O1.out fs.length HM.out.size ?_)
    | (at_mapUpdate; refine wpList_mapUpdate_own _ rfl _ _ _ 143 rfl 9 71 lawNk Tryd.underlying143 insR m fs.length D rfl O1.out (by unfold maxLen; omega) _ _ _ rfl rfl hkey.out (.held x) [] rfl ?_; intro w4 hown4 hgrow4))
  have O4 := Lib.hid hown4
  have G4 := Lib.hid hgrow4
  clear hown4 hgrow4
  go_ret
  refine ⟨by rw [HE.out]; rfl, ⟨G4.out.os.trans B1.out.os, G4.out.tape.trans B1.out.tape, G4.out.output.trans B1.out.output, Nat.le_trans B1.out.size G4.out.size, fun k hk hne => (G4.out.block k (Nat.lt_of_lt_of_le hk B1.out.size) hne).trans (B1.out.block k hk)⟩, V ++ [x], ?_⟩
  obtain ⟨es0, ck0, hmm, _⟩ := O1.out
  unfold fitL
  rw [if_pos HE.out]
  refine ⟨known_grown K1.out G4.out HH.out.ne, ⟨_, by rw [List.length_append]; exact O4.out, HM.out.put O1.out.isMap (O1.out.tidy lawNk) t x HX.out⟩, ?_, HH.out.ne⟩
  intro k hk
  by_cases hlt : k < V.length
  · rw [tl_snoc_lt (by rw [← HM.out.len]; exact hlt), List.getElem_append_left hlt]
    exact ins_turn hmm G4.out ((HH.out.ins k hlt).below B1.out)
  · obtain rfl : k = V.length := by simp at hk; omega
    have e : tl (fs ++ [t]) V.length = t := by rw [HM.out.len]; exact tl_snoc_eq fs t
    rw [e, List.getElem_append_right (Nat.le_refl _)]
    simp only [Nat.sub_self, List.getElem_cons_zero]
    exact ins_turn hmm G4.out (HI.out.below B1.out)
end Go.Proofs.YtjjjbkehmnfgbaaDoor
