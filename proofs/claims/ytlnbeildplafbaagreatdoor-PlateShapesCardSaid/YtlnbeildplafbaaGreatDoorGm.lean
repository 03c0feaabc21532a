/- Maps whose elements are rows of numbers: an entry, written in two steps; what leaves them as they are. -/
import Derived.Test.YtlnbeildplafbaaGreatDoorAc17
import Derived.Maps.OwnRows
import Derived.Maps.OwnSet
import Derived.WideKeyEntry
import Derived.Maps.Views
import Derived.DeepKeys4
set_option linter.unusedSimpArgs false
set_option linter.unusedVariables false
namespace Go.Proofs.YtlnbeildplafbaaGreatDoor
open Go.ChangeMaps Go.MapKept Go.RowKit Go.WideElems Go.Maps

section
variable {H : Type} {P : Program} {t k E e : TypeId} {q : IntKind} {b n base : Nat} {D : DataW H}
theorem setBlock_inj {w : World} {b : Nat} {e1 e2 : Array MapEntry} {c1 c2 : Nat} {e0 : Array MapEntry} {c0 : Nat} (hb : w.heap[b]? = some (.map e0 c0)) (he : setBlock w b (.map e1 c1) = setBlock w b (.map e2 c2)) : e1 = e2 ∧ c1 = c2 := by
  have h1 := heap_setBlock_same hb (.map e1 c1)
  have h2 := heap_setBlock_same hb (.map e2 c2)
  rw [he, h2] at h1
  simp at h1
  exact ⟨h1.1.symm, h1.2.symm⟩
theorem key_once {es : Array MapEntry} {clock : Nat} (hs : Stamped es clock) {i j : Nat} {x y : MapEntry} (hi : es.toList[i]? = some x) (hj : es.toList[j]? = some y) (hk : x.key = y.key) : i = j := by
  obtain ⟨_, _, s3⟩ := hs
  have hi' : (es.toList.map (·.key))[i]? = some x.key := by rw [List.getElem?_map, hi]; rfl
  have hj' : (es.toList.map (·.key))[j]? = some x.key := by rw [List.getElem?_map, hj, hk]; rfl
  obtain ⟨li, ei⟩ := List.getElem?_eq_some_iff.1 hi'
  obtain ⟨lj, ej⟩ := List.getElem?_eq_some_iff.1 hj'
  have hp := List.pairwise_iff_getElem.1 s3
  rcases Nat.lt_trichotomy i j with h | h | h
  · exact absurd (ei.trans ej.symm) (hp i j li lj h)
  · exact h
  · exact absurd (ej.trans ei.symm) (hp j i lj li h)
/-- What a store makes of a map hangs on that map alone. -/
theorem update_here {R : Value → Option (DataW H × List MemPlace)} {es : Array MapEntry} {clock : Nat} {w w1 : World} {key val : Value} {kl : Lit} (K : Keyed P k) (ht : P.underlying t = some (.map k E)) (hb : w.heap[b]? = some (.map es clock)) (hb1 : w1.heap[b]? = some (.map es clock)) (F : Fit P k R es clock) (hkey : keyOf P k key = some kl)
    {x : Array MapEntry} {c : Nat} (h : (Instr.mapUpdate t (.map (some b)) key val).run P w = .ok () (setBlock w b (.map x c))) : (Instr.mapUpdate t (.map (some b)) key val).run P w1 = .ok () (setBlock w1 b (.map x c)) := by
  rcases K.find w hkey es.toList F.keys with ⟨h1, h2⟩ | ⟨j, e0, h1, h2, h3⟩
  · rcases K.find w1 hkey es.toList F.keys with ⟨g1, _⟩ | ⟨i, e1, g1, g2, g3⟩
    · have hx : (Instr.mapUpdate t (.map (some b)) key val).run P w = .ok () (setBlock w b (.map (es.push ⟨key, val, clock⟩) (clock + 1))) := by
        simp [Instr.mapUpdate, run_underlying ht, MapKept.run_getObj_map hb, K.check w false hkey, h1, MapKept.run_setObj_map _ hb, Result.andThen, setBlock]
      rw [hx] at h
      obtain ⟨rfl, rfl⟩ := setBlock_inj hb (by simpa using h)
      simp [Instr.mapUpdate, run_underlying ht, MapKept.run_getObj_map hb1, K.check w1 false hkey, g1, MapKept.run_setObj_map _ hb1, Result.andThen, setBlock]
    · exact absurd g3 (h2 e1 (List.mem_of_getElem? g2))
  · rcases K.find w1 hkey es.toList F.keys with ⟨g1, g2⟩ | ⟨i, e1, g1, g2, g3⟩
    · exact absurd h3 (g2 e0 (List.mem_of_getElem? h2))
    · obtain rfl : j = i := key_once F.stamped h2 g2 (h3.trans g3.symm)
      have hj : es[j]? = some e0 := by simpa using h2
      have hx : (Instr.mapUpdate t (.map (some b)) key val).run P w = .ok () (setBlock w b (.map (es.modify j (fun e' => { e' with key := key, val := val })) clock)) := by
        simp [Instr.mapUpdate, run_underlying ht, MapKept.run_getObj_map hb, K.check w false hkey, h1, hj, h3, K.stays w hkey, MapKept.run_setObj_map _ hb, Result.andThen, setBlock]
      rw [hx] at h
      obtain ⟨rfl, rfl⟩ := setBlock_inj hb (by simpa using h)
      simp [Instr.mapUpdate, run_underlying ht, MapKept.run_getObj_map hb1, K.check w1 false hkey, g1, hj, h3, K.stays w1 hkey, MapKept.run_setObj_map _ hb1, Result.andThen, setBlock]
theorem set_grown (w : World) {e0 : Array MapEntry} {c0 : Nat} {o' : Obj} (hb : w.heap[b]? = some (.map e0 c0)) : w.grownBy (setBlock w b o') (some b) :=
  ⟨rfl, rfl, rfl, by simp [setBlock], fun i _ hi => heap_setBlock_other hb _ (fun e1 => hi (by rw [e1]))⟩
/-- 'm[k] = append(m[k], ..)': the entry; and what its store leaves. -/
theorem groups_entry {w : World} {key : Value} {kl : Lit} (h : w.ownsGroups P k base e q b n D) (KL : WideMaps.KeyLaw P k) (ht : P.underlying t = some (.map k E)) (hz : ∀ u : World, (zeroValue E).run P u = .ok (.slice none 0 0) u) (hn : n < maxLen) (hkey : keyOf P k key = some kl) :
    ∃ v zs st wa, (Instr.mapEntry t (.map (some b)) key).run P w = .ok (.tuple #[v, goInt st]) wa ∧ w.grownBy wa (some b) ∧ wa.heap.size = w.heap.size ∧ wa.ownsInts base e q v zs ∧ zs.length ≤ n ∧
      (∀ N : Nat, (∀ es clock, w.heap[b]? = some (.map es clock) → ∀ x ∈ es.toList, ∀ g, x.val.ownBlock = some g → g < N) → ∀ g, v.ownBlock = some g → g < N) ∧
      ∀ (w1 : World) (v' : Value) (zs' : List Int), wa.grownBy w1 v.ownBlock → w1.ownsInts base e q v' zs' → zs'.length ≤ n + 1 → (v'.ownBlock = v.ownBlock ∨ ∃ g, v'.ownBlock = some g ∧ w.heap.size ≤ g) →
        ∃ w2 D', (Instr.entryStore t (.map (some b)) (goInt st) v').run P w1 = .ok () w2 ∧ w2.ownsGroups (H := H) P k base e q b (n + 1) D' ∧ w1.grownBy w2 (some b) := by
  obtain ⟨es, clock, hb, F, hs, rfl, hbb, hlen, hap⟩ := h
  obtain ⟨v, st, es1, clock1, hrun, hcase, hstore⟩ := entry_then_store KL ht hz hb F hkey
  have hblt : b < w.heap.size := (Array.getElem?_eq_some_iff.1 hb).1
  have hw : ∃ zs, w.ownsInts base e q v zs ∧ zs.length ≤ n := by
    rcases hcase with ⟨e0, hm, _, rfl⟩ | ⟨_, rfl⟩
    · obtain ⟨y, hy⟩ := F.reads e0 hm
      obtain ⟨z, hz', _⟩ := rd_val hy
      obtain ⟨zs, ho, _⟩ := rowElem_inv hz'
      exact ⟨zs, ho, hlen e0 hm zs ho⟩
    · exact ⟨[], World.ownsInts_nil _ _ _ _, Nat.zero_le _⟩
  obtain ⟨zs, ho, hzl⟩ := hw
  have hvb : v.ownBlock ≠ some b := fun e1 => by have := (ho.1.lt b e1).1; omega
  have hvx : ∀ x ∈ es.toList, x.key ≠ key → x.val.ownBlock = none ∨ x.val.ownBlock ≠ v.ownBlock := by
    rcases hcase with ⟨e0, hm, hk, rfl⟩ | ⟨_, rfl⟩
    · exact fun x hx hne => hap x hx e0 hm (by rw [hk]; exact hne)
    · intro x _ _
      cases x.val.ownBlock <;> simp [Value.ownBlock]
  have hback := groups_back (Keyed.of_law KL) ht hb F hs hn hbb hlen hap hkey hvx hvb
  have hga := set_grown w hb (o' := .map es1 clock1)
  have own_ne : ∀ {W : World} {u : Value} {ys : List Int}, W.ownsInts base e q u ys → u.ownBlock = none ∨ u.ownBlock ≠ some b := fun {W u ys} hu => by
    cases h1 : u.ownBlock with
    | none => exact .inl rfl
    | some g => exact .inr (fun e1 => by have := (hu.1.lt g h1).1; cases e1; omega)
  refine ⟨v, zs, st, _, hrun, hga, by simp [setBlock], ho.kept hga (own_ne ho), hzl, fun N hN g hg => ?_, ?_⟩
  · rcases hcase with ⟨e0, hm, _, rfl⟩ | ⟨_, rfl⟩
    · exact hN _ _ hb e0 hm g hg
    · simp [Value.ownBlock] at hg
  intro w1 v' zs' hg hown' hl' hloc
  have hb1 : w1.heap[b]? = some (.map es1 clock1) := (hg.block b (by simp [setBlock]; exact hblt) (fun e1 => hvb e1.symm)).trans (heap_setBlock_same hb _)
  obtain ⟨es', clock', hr1, hr2⟩ := hstore w1 v' hb1
  have hg1 := set_grown w1 hb1 (o' := .map es clock)
  have hV : (setBlock w1 b (.map es clock)).heap[b]? = some (.map es clock) := heap_setBlock_same hb1 _
  have hgV : w.grownBy (setBlock w1 b (.map es clock)) v.ownBlock := by
    refine ⟨hg.os, hg.tape, hg.output, by have := hg.size; simp [setBlock] at this ⊢; exact this, fun i hi hne => ?_⟩
    by_cases e1 : i = b
    · subst e1
      rw [hV, hb]
    · rw [heap_setBlock_other hb1 _ e1, hg.block i (by simp [setBlock]; exact hi) hne, heap_setBlock_other hb _ e1]
  obtain ⟨w2, hu, hd, _⟩ := hback _ v' zs' hgV (hown'.kept hg1 (own_ne hown')) hl' hloc
  have hu2 := update_here (w1 := setBlock w1 b (.map es clock)) (Keyed.of_law KL) ht hb hV F hkey hr2
  rw [hu] at hu2
  obtain rfl : w2 = setBlock w1 b (.map es' clock') := by simpa [setBlock] using hu2
  exact ⟨_, _, hr1, hd, set_grown w1 hb1⟩
theorem owns_blockT {w : World} {base : Nat} {e : TypeId} {size : Nat} {v : Value} {n : Nat} {xs : List Value} (h : w.ownsRow base e size v n xs) {k : Nat} (hk : v.ownBlock = some k) : base ≤ k ∧ k < w.heap.size ∧ ∃ cur, w.heap[k]? = some (.cells cur e) := by
  obtain ⟨hl, ⟨rfl, hn⟩ | ⟨g, cap, cur, rfl, hb, hh, hr⟩⟩ := h
  · simp [Value.ownBlock] at hk
  · obtain rfl : g = k := by simpa [Value.ownBlock] using hk
    exact ⟨hb, (Array.getElem?_eq_some_iff.1 hh).1, cur, hh⟩
theorem rows_lt {w : World} (h : w.ownsGroups P k base e q b n D) : ∀ es clock, w.heap[b]? = some (.map es clock) → ∀ x ∈ es.toList, ∀ g, x.val.ownBlock = some g → g < w.heap.size := by
  intro es clock hb x hx g hg
  obtain ⟨es', clock', hb', F, _⟩ := h
  rw [hb'] at hb
  cases hb
  obtain ⟨y, hy⟩ := F.reads x hx
  obtain ⟨z, hz, _⟩ := rd_val hy
  obtain ⟨zs, ho, _⟩ := rowElem_inv hz
  exact (owns_blockT ho.1 hg).2.1
/-- Such a map stays where neither it nor a row of its kind is written. -/
theorem groups_off {X : Nat → Prop} {w w' : World} (h : w.ownsGroups P k base e q b n D) (o : Off X w w') (hb' : ¬ X b) (hX : ∀ k, X k → base ≤ k → ∀ cur, w.heap[k]? ≠ some (.cells cur e)) : w'.ownsGroups P k base e q b n D := by
  obtain ⟨es, clock, hb, F, hs, rfl, hbb, hlen, hap⟩ := h
  have hblt : b < w.heap.size := (Array.getElem?_eq_some_iff.1 hb).1
  have keep : ∀ {u : Value} {zs : List Int}, w.ownsInts base e q u zs → w'.ownsInts base e q u zs := fun {u zs} ho =>
    ⟨owns_off ho.1 o (fun k hk hx => by
      obtain ⟨h1, _, cur, h2⟩ := owns_blockT ho.1 hk
      exact hX k hx h1 cur h2), ho.2⟩
  have hst : ∀ x ∈ es.toList, ∀ z, rowElem (H := H) w base e q x.val = some z → rowElem w' base e q x.val = some z := fun x hx z hz => by
    obtain ⟨zs, ho, rfl⟩ := rowElem_inv hz
    exact rowElem_mk (keep ho)
  obtain ⟨F1, hmap, _⟩ := F.stay hst
  refine ⟨es, clock, (o.block b hblt hb').trans hb, F1, hs, by rw [hmap], hbb, fun x hx zs ho => ?_, hap⟩
  obtain ⟨y, hy⟩ := F.reads x hx
  obtain ⟨z, hz, _⟩ := rd_val hy
  obtain ⟨zs0, ho0, _⟩ := rowElem_inv hz
  rw [ho.unique (keep ho0)]
  exact hlen x hx zs0 ho0
/-- The entry, at its operation. -/
theorem entry_here (w : World) {ops : Array Oper} {rest : List Oper} {o : Oper} {a : Act} {Q : Exit → Act → World → Prop}
    (hg : o.guard = none) (m x : Operand) (t : TypeId) (hop : o.op = Op.mapEntry t m x) (KL : WideMaps.KeyLaw P k) (ht : P.underlying t = some (.map k E)) (hz : ∀ u : World, (zeroValue E).run P u = .ok (.slice none 0 0) u) (hn : n < maxLen)
    (hm : a.eval m = .map (some b)) (hown : w.ownsGroups P k base e q b n D) (key : Value) (kl : Lit) (hx : a.eval x = key) (hkey : keyOf P k key = some kl)
    (hK : ∀ v zs st wa, w.grownBy wa (some b) → wa.heap.size = w.heap.size → wa.ownsInts base e q v zs → zs.length ≤ n →
      (∀ N : Nat, (∀ es clock, w.heap[b]? = some (.map es clock) → ∀ x ∈ es.toList, ∀ g, x.val.ownBlock = some g → g < N) → ∀ g, v.ownBlock = some g → g < N) →
      (∀ (w1 : World) (v' : Value) (zs' : List Int), wa.grownBy w1 v.ownBlock → w1.ownsInts base e q v' zs' → zs'.length ≤ n + 1 → (v'.ownBlock = v.ownBlock ∨ ∃ g, v'.ownBlock = some g ∧ w.heap.size ≤ g) →
        ∃ w2 D', (Instr.entryStore t (.map (some b)) (goInt st) v').run P w1 = .ok () w2 ∧ w2.ownsGroups (H := H) P k base e q b (n + 1) D' ∧ w1.grownBy w2 (some b)) →
      wpList P ops Q rest (a.put o.dst (.tuple #[v, goInt st])) wa) :
    wpList P ops Q (o :: rest) a w := by
  refine wpList_plain hg fun K' hK' => ?_
  obtain ⟨v, zs, st, wa, hrun, h1, h2, h3, h4, h5, h6⟩ := groups_entry hown KL ht hz hn hkey
  unfold Oper.wp
  simp [execOp, hop, hm, hx, hrun, Result.andThen]
  exact hK' _ _ (hK v zs st wa h1 h2 h3 h4 h5 h6)
theorem store_here (w : World) {ops : Array Oper} {rest : List Oper} {o : Oper} {a : Act} {Q : Exit → Act → World → Prop}
    (hg : o.guard = none) (m x v : Operand) (t : TypeId) (hop : o.op = Op.entryStore t m x v) {mv xv vv : Value} (hm : a.eval m = mv) (hx : a.eval x = xv) (hv : a.eval v = vv) {w2 : World}
    (hrun : (Instr.entryStore t mv xv vv).run P w = .ok () w2) (hK : wpList P ops Q rest (a.put o.dst undef) w2) : wpList P ops Q (o :: rest) a w := by
  refine wpList_plain hg fun K' hK' => ?_
  unfold Oper.wp
  simp [execOp, hop, hm, hx, hv, hrun, Result.andThen]
  exact hK' _ _ hK
theorem map_off {X : Nat → Prop} {w w' : World} {R : Value → Option (DataW H × List MemPlace)} (h : w.ownsMap P k R b n D) (o : Off X w w') (hb' : ¬ X b) : w'.ownsMap P k R b n D := by
  obtain ⟨es, clock, hb, r⟩ := h
  exact ⟨es, clock, (o.block b (Array.getElem?_eq_some_iff.1 hb).1 hb').trans hb, r⟩
end
/-! the names of an atlas -/
theorem news_of {w : World} {b : Nat} {c : List Value} (K : Grow.Known w b c.toArray) : ∀ j u, c[j]? = some u → w.cell? ((⟨b, 0, none⟩ : Addr).add j) = some u := fun j u h => by
  have := K.cell j
  rw [show (⟨b, 0, none⟩ : Addr).add j = ⟨b, j, none⟩ by unfold Addr.add; split <;> simp_all, this]
  simpa using h
theorem info_int : (Tryz.prog.info? 3).map (fun i => (i.zero, i.size, i.bytes)) = some (some (.int .i64 0), 1, 8) := by kernel_rfl
theorem info_an : (Tryz.prog.info? 93).map (fun i => (i.zero, i.size, i.bytes)) = some (some (.agg #[.string .empty, .int .i64 0, .int .i64 0, .int .i64 0, .int .i64 0]), 5, 48) := by kernel_rfl
theorem lawSt : Keyed Tryz.prog 9 := string_keyed Tryz.underlying9
theorem zeroIn (w : World) : (zeroValue 3).run Tryz.prog w = .ok (.int .i64 0) w := by kernel_rfl
theorem zeroInts (w : World) : (zeroValue 70).run Tryz.prog w = .ok (.slice none 0 0) w := by kernel_rfl
def nameL (s : ByteArray) : Lit := .string s.data.toList
theorem nameL_inj {a b : ByteArray} (h : nameL a = nameL b) : a = b := by
  obtain ⟨⟨x⟩⟩ := a
  obtain ⟨⟨y⟩⟩ := b
  unfold nameL at h
  simpa using h
def named (es : List Go.Atl.En) (s : ByteArray) : Bool := es.any (fun x => decide (x.name = s))
def Nms (D : DataW Unit) (es : List Go.Atl.En) : Prop := (∀ s : ByteArray, Maps.has D (nameL s) = named es s) ∧ ∀ k, k < es.length → ∀ z, D.atKey (nameL (Go.Atl.en es k).name) z = .lit (.int .i64 (k : Nat))
theorem Nms.start : Nms (.map []) [] := ⟨fun s => rfl, fun k h => absurd h (by simp)⟩
theorem named_at {es : List Go.Atl.En} {k : Nat} (hk : k < es.length) : named es (Go.Atl.en es k).name = true := by
  unfold named
  rw [Go.Atl.en_get hk]
  exact List.any_eq_true.2 ⟨es[k], List.getElem_mem hk, decide_eq_true rfl⟩
theorem Nms.put {D : DataW Unit} {es : List Go.Atl.En} (h : Nms D es) (hD : IsMap D) (e : Go.Atl.En) (hn : named es e.name = false) : Nms (D.put (nameL e.name) (.lit (.int .i64 (es.length : Nat)))) (es ++ [e]) := by
  refine ⟨fun s => ?_, fun k hk z => ?_⟩
  · unfold named
    rw [List.any_append, List.any_cons, List.any_nil, Bool.or_false]
    by_cases he : s = e.name
    · subst he
      rw [has_put_same hD (by simp [WideAt.IsKeyLit, nameL]), decide_eq_true rfl, Bool.or_true]
    · rw [has_put_other (fun hx => he (nameL_inj hx)), h.1 s, decide_eq_false (fun hx => he hx.symm), Bool.or_false]
      rfl
  · rw [List.length_append, List.length_singleton] at hk
    by_cases hke : k = es.length
    · subst hke
      have e1 : Go.Atl.en (es ++ [e]) es.length = e := by rw [Go.Atl.en_get (by simp)]; simp
      rw [e1]
      exact atKey_put_same hD (by simp [WideAt.IsKeyLit, nameL]) _ _
    · have hk2 : k < es.length := by omega
      have e1 : Go.Atl.en (es ++ [e]) k = Go.Atl.en es k := by rw [Go.Atl.en_get (by simp; omega), Go.Atl.en_get hk2, List.getElem_append_left hk2]
      rw [e1, atKey_put_other (fun hx => ?_)]
      · exact h.2 k hk2 z
      · have := named_at hk2
        rw [nameL_inj hx, hn] at this
        cases this
theorem hadUp_named (es : List Go.Atl.En) (e : Go.Atl.En) : ∀ k, k ≤ es.length → hadUp e es k = ((decide (e.name = .empty) || decide (40 < e.name.size)) || (es.take k).any (fun x => decide (x.name = e.name)))
  | 0, _ => by simp [hadUp]
  | k + 1, hk => by
    rw [hadUp, hadUp_named es e k (by omega), List.take_add_one, List.any_append, Go.Atl.en_get (show k < es.length by omega), List.getElem?_eq_getElem (show k < es.length by omega)]
    simp [Bool.or_assoc]
theorem hadUp_all (es : List Go.Atl.En) (e : Go.Atl.En) : hadUp e es es.length = ((decide (e.name = .empty) || decide (40 < e.name.size)) || named es e.name) := by
  rw [hadUp_named es e _ (Nat.le_refl _), List.take_length]
  rfl
/-! cells as keys -/
set_option maxRecDepth 100000 in
theorem laidOutA : laidOutB Tryz.prog = true := by kernel_rfl
set_option maxRecDepth 100000 in
theorem wideSp : (match Tryz.prog.underlying 87 with | some (.array _ _) | some (.struct _) => true | _ => false) = true := by kernel_rfl
theorem rowSp : (87 : TypeId) < Tryz.prog.types.size := of_decide_eq_true (by kernel_rfl)
set_option maxRecDepth 100000 in
theorem lawSp : WideMaps.KeyLaw Tryz.prog 87 := deep_law_laid laidOutA (m := 2) (by omega) rowSp (by kernel_rfl) wideSp
set_option maxRecDepth 100000 in
theorem keyT_sp : Tryz.prog.keyType 87 = true := by kernel_rfl
theorem formed_sp (s : Go.Atl.Sp) : (spV s).formed Tryz.prog 87 = true := by kernel_rfl
theorem keyLits_int (d : Nat) {n : Int} (h : (Lit.int .i64 n).wf = true) : Tryz.prog.keyLits (d + 1) 3 [.int .i64 n] = some [.int .i64 n] := by
  unfold Program.keyLits
  rw [Tryz.underlying3]
  simp [h]
theorem keyOf_sp (s : Go.Atl.Sp) (h1 : (Lit.int .i64 s.face).wf = true) (h2 : (Lit.int .i64 s.level).wf = true) (h3 : (Lit.int .i64 s.col).wf = true) (h4 : (Lit.int .i64 s.row).wf = true) : ∃ kl, keyOf Tryz.prog 87 (spV s) = some kl := by
  have hc : Tryz.prog.cellsOf 87 = 4 := by kernel_rfl
  have hi : Tryz.prog.cellsOf 3 = 1 := by kernel_rfl
  have H : ∃ ls, Tryz.prog.keyLits (Tryz.prog.types.size + 1) 87 (spV s).cells.toList = some ls := by
    have hsz : ∃ d, Tryz.prog.types.size + 1 = d + 1 + 1 := ⟨394 - 1, by kernel_rfl⟩
    obtain ⟨d, hd⟩ := hsz
    rw [hd]
    unfold Program.keyLits
    rw [Tryz.underlying87]
    simp [spV, Value.cells, hc, hi, keyLits_int, h1, h2, h3, h4]
  obtain ⟨ls, hls⟩ := H
  unfold keyOf
  rw [Tryz.underlying87]
  simp only [keyT_sp, formed_sp, Bool.and_self, if_true]
  rw [hls]
  exact ⟨_, rfl⟩
end Go.Proofs.YtlnbeildplafbaaGreatDoor
