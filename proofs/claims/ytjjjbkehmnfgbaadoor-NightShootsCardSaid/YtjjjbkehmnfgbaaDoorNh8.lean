/- The night's house: Shoot. -/
import Derived.Test.YtjjjbkehmnfgbaaDoorNh7
import Derived.Deep.DeepCutAuto
import Derived.Deep.CutBlock
import Derived.Outline
set_option linter.unusedSimpArgs false
set_option linter.unusedVariables false
namespace Go.Proofs.YtjjjbkehmnfgbaaDoor
open Go.RowKit Go.Grow Go.Hs Go.Maps

def sortB (ns : List ByteArray) : List ByteArray := ((ns.map ByteArray.toList).mergeSort fun x y => decide (x ≤ y)).map fun l => ⟨l.toArray⟩
theorem toList_mk (l : List UInt8) : (ByteArray.mk l.toArray).toList = l := by rw [ByteArray.toList_eq]
theorem sortB_map (ns : List ByteArray) : (sortB ns).map ByteArray.toList = (ns.map ByteArray.toList).mergeSort fun x y => decide (x ≤ y) := by
  unfold sortB
  rw [List.map_map]
  conv => rhs; rw [← List.map_id ((ns.map ByteArray.toList).mergeSort fun x y => decide (x ≤ y))]
  exact List.map_congr_left fun l _ => toList_mk l
theorem sortB_length (ns : List ByteArray) : (sortB ns).length = ns.length := by unfold sortB; simp
theorem sortB_mem (ns : List ByteArray) (s : ByteArray) : s ∈ sortB ns ↔ s ∈ ns := by
  have hinj : ∀ a b : ByteArray, a.toList = b.toList → a = b := fun a b h => by
    rw [ByteArray.toList_eq, ByteArray.toList_eq] at h
    obtain ⟨⟨x⟩⟩ := a
    obtain ⟨⟨y⟩⟩ := b
    simpa using h
  have key : ∀ l : List ByteArray, s ∈ l ↔ s.toList ∈ l.map ByteArray.toList := fun l => by
    constructor
    · intro h; exact List.mem_map.2 ⟨s, h, rfl⟩
    · intro h
      obtain ⟨x, hx, e⟩ := List.mem_map.1 h
      rw [← hinj x s e]; exact hx
  rw [key (sortB ns), key ns, sortB_map]
  exact (List.mergeSort_perm _ _).mem_iff
/-- What the sort of names leaves. -/
def SortsN : Prop := ∀ (X : World) (base : Nat) (v : Value) (l : List ByteArray), X.ownsRow base 9 1 v l.length (snL l) → l.length ≤ 4000 → Calls Tryd.prog 68 #[v, .func (.func 69) #[] #[]] X fun e w' => e = .returned (.tuple #[]) ∧ w'.ownsRow base 9 1 v (sortB l).length (snL (sortB l)) ∧ X.grownBy w' v.ownBlock
theorem sn_cell (x : ByteArray) : ∀ u ∈ [Value.string x], u.oneCell' = true := fun u h => by simp at h; subst h; rfl
theorem sn_of_owns {w : World} {base n : Nat} {v : Value} {l : List ByteArray} {e : TypeId} (h : w.ownsRow base e 1 v n (snL l)) : ∃ r cap, v = .slice r l.length cap ∧ (l = [] ∨ ∃ b, r = some ⟨b, 0, none⟩ ∧ ∀ k (h : k < l.length), w.cell? ⟨b, k, none⟩ = some (.string l[k])) := by
  have hlen : n = l.length := by have := h.1; simp [snL] at this; omega
  subst hlen
  obtain ⟨hl, ⟨hv, hn⟩ | ⟨g, cap, cur, hv, hg⟩⟩ := h
  · exact ⟨none, 0, by rw [hv, hn], .inl (List.length_eq_zero_iff.1 hn)⟩
  · subst hv
    have hc := owns_cellsS (w := w) (base := base) (e := e) (size := 1) (g := g) (n := l.length) (cap := cap) (xs := snL l) ⟨hl, .inr ⟨g, cap, cur, rfl, hg⟩⟩
    exact ⟨some ⟨g, 0, none⟩, cap, rfl, .inr ⟨g, rfl, fun k hk => hc _ _ (by simp [snL, hk])⟩⟩
theorem own_apart {w : World} {base : Nat} {e : TypeId} {size : Nat} {v : Value} {n : Nat} {xs : List Value} (h : w.ownsRow base e size v n xs) {r : Nat} (hr : r < base) : v.ownBlock = none ∨ v.ownBlock ≠ some r := by
  cases hb : v.ownBlock with
  | none => exact .inl rfl
  | some b => exact .inr (fun e => by have := (h.lt b hb).1; cases e; omega)
theorem own_ne {w : World} {base : Nat} {e : TypeId} {size : Nat} {v : Value} {n : Nat} {xs : List Value} (h : w.ownsRow base e size v n xs) {r : Nat} (hr : r < base) : some r ≠ v.ownBlock := fun e => by have := (h.lt r e.symm).1; omega
theorem look_val {H : Type} {P : Program} (w : World) {ops : Array Oper} {rest : List Oper} {o : Oper} {a : Act} {Q : Exit → Act → World → Prop}
    (hg : o.guard = none) (m x : Operand) (t : TypeId) (hop : o.op = Op.lookup t m x false)
    (k e : TypeId) (K : Keyed P k) (ht : P.underlying t = some (.map k e)) (R : Value → Option (DataW H × List MemPlace)) {z : Value} (hz : (zeroValue e).run P w = .ok z w) (zd : DataW H) (zp : List MemPlace) (hzd : R z = some (zd, zp)) (b n : Nat) (D : DataW H)
    (hm : a.eval m = .map (some b)) (hown : w.ownsMap P k R b n D) (key : Value) (kl : Lit) (hx : a.eval x = key) (hkey : keyOf P k key = some kl)
    (hK : ∀ v ps, R v = some (D.atKey kl zd, ps) → wpList P ops Q rest (a.put o.dst v) w) : wpList P ops Q (o :: rest) a w := by
  refine wpList_plain hg fun K' hK' => ?_
  obtain ⟨v, ps, hrun, hv⟩ := hown.lookup K ht hz hzd hkey
  unfold Oper.wp
  simp [execOp, hop, hm, hx, hrun, Result.andThen]
  exact hK' _ _ (hK v ps hv)
theorem look_ins (w : World) {ops : Array Oper} {rest : List Oper} {o : Oper} {a : Act} {Q : Exit → Act → World → Prop}
    (hg : o.guard = none) (m x : Operand) (hop : o.op = Op.lookup 143 m x false) (b n : Nat) (D : DataW Value)
    (hm : a.eval m = .map (some b)) (hown : w.ownsMap Tryd.prog 9 insR b n D) (s : ByteArray) (hx : a.eval x = .string s) (hs : s.size ≤ maxLen) (v : Value) (hat : D.atKey (nkL s) (.held .nilIface) = .held v)
    (hK : wpList Tryd.prog ops Q rest (a.put o.dst v) w) : wpList Tryd.prog ops Q (o :: rest) a w :=
  look_val w hg m x _ hop 9 71 lawNk Tryd.underlying143 insR (zeroIx _) (.held .nilIface) [] rfl b n D hm hown _ (nkL s) hx (WideMaps.keyOf_string_mk Tryd.underlying9 hs) (fun v' ps hv => by
    have hv' : some ((DataW.held v' : DataW Value), ([] : List MemPlace)) = some (D.atKey (nkL s) (.held .nilIface), ps) := hv
    rw [hat] at hv'
    simp only [Option.some.injEq, Prod.mk.injEq, DataW.held.injEq] at hv'
    rw [hv'.1]
    exact hK)
theorem pics_base {w : World} {B B' : Nat} {v : Value} {ts : List Tl} {S : List (Option Addr × Nat)} (h : PicsAt w B v ts S) (hb : B' ≤ B) : PicsAt w B' v ts S := ⟨h.len, ownsRow_base h.row hb, fun k hk hS => ownsRow_base (h.own k hk hS) hb⟩
def LoopRel (fs : List Tl) (ms : List ByteArray) (x : Int) (W5 : World) (v8 v37 : Value) (wr : World) : Prop :=
  ∃ k S, k ≤ ms.length ∧ v37 = .int .i64 (k : Nat) ∧ (∀ j, j < k → shutT x (toolAt fs (nm ms j)) = false) ∧ PicsAt wr W5.heap.size v8 (camsUp fs ms k) S ∧ Below W5.heap.size W5 wr
def RangeRel (w : World) (D : DataW Value) (W1 : World) (m r n : Nat) (v6 : Value) (wr : World) : Prop :=
  ∃ left cnt ns, wr.ranges Tryd.prog 9 insR m r n D left cnt ∧ wr.ownsRow W1.heap.size 9 1 v6 ns.length (snL ns) ∧ NI D ns left ∧ ns.length + cnt ≤ n ∧ Below w.heap.size w wr ∧ W1.heap.size ≤ wr.heap.size
def ShootPost (a : Nat → Addr) (w : World) (fs : List Tl) (ns : List ByteArray) (x : Int) (e : Ending) (w' : World) : Prop :=
  Below w.heap.size w w' ∧
    (((∃ k, k < (sortB ns).length ∧ shutT x (toolAt fs (nm (sortB ns) k)) = true) ∧ e = .returned (.tuple #[.slice none 0 0, errV a 7])) ∨
     ((∀ k, k < (sortB ns).length → shutT x (toolAt fs (nm (sortB ns) k)) = false) ∧ ∃ v S, e = .returned (.tuple #[v, .nilIface]) ∧ PicsAt w' w.heap.size v (camsUp fs (sortB ns) (sortB ns).length) S))
set_option maxRecDepth 100000 in
set_option maxHeartbeats 64000000 in
theorem shootH_walk (a : Nat → Addr) (w : World) (g m : Nat) (fs : List Tl) (V : List Value) (x : Int) (hs : Sen a [7] w) (h : HAt w g m fs V) (hl : fs.length ≤ 12) (hk : ∀ k, k < fs.length → (tl fs k).opens.length ≤ 1000000 ∧ (tl fs k).counts.length ≤ 1000000 ∧ (tl fs k).name.size ≤ maxLen ∧ 1 ≤ (tl fs k).kind ∧ (tl fs k).kind ≤ 4) (SW : SortsN) :
    Calls Tryd.prog 36 #[.pointer (some ⟨g, 0, none⟩), .int .i64 x] w fun e w' => ∃ ns : List ByteArray, ns.Nodup ∧ (∀ s, s ∈ ns ↔ namedT fs s = true) ∧ ShootPost a w fs ns x e w' := by
  obtain ⟨i0, hi, hz0, hz1, hz2⟩ := info_parts info_sn
  have HI := Lib.hid hi
  have HZ0 := Lib.hid hz0
  have HZ1 := Lib.hid hz1
  have HZ2 := Lib.hid hz2
  obtain ⟨p0, pi, pz0, pz1, pz2⟩ := info_parts info_pic
  have PI := Lib.hid pi
  have PZ0 := Lib.hid pz0
  have PZ1 := Lib.hid pz1
  have PZ2 := Lib.hid pz2
  clear hi hz0 hz1 hz2 pi pz0 pz1 pz2
  obtain ⟨D, hown, hm⟩ := h.map'
  have HH := Lib.hid h
  have OW := Lib.hid hown
  have HM := Lib.hid hm
  have HSW := Lib.hid SW
  have HK := Lib.hid hk
  have HU := Lib.hid (errV_pos a (show 7 ≠ 0 by decide))
  have HS := Lib.hid hs
  have k0 := h.box.cell 0
  have lg := h.box.lt
  simp only [List.getElem?_toArray, List.getElem?_cons_zero, List.getElem?_cons_succ] at k0
  have hmw : m < w.heap.size := by obtain ⟨es, ck, hb, _⟩ := OW.out; exact (Array.getElem?_eq_some_iff.1 hb).1
  clear hs h hown hm hk SW
  go_enter Tryd.func36, Tryd.ntmps36
  go_wp2_with (at_range; refine wpList_range_own _ rfl _ 143 rfl 9 71 lawNk Tryd.underlying143 insR m fs.length D rfl OW.out ?_; intro w0 hrg0 hg0 hs0)
  have R0 := Lib.hid hrg0
  have B0 := Lib.hid (show Below w.heap.size w w0 from ⟨hg0.os, hg0.tape, hg0.output, hg0.size, fun k hk => hg0.block k hk (by simp)⟩)
  have S0 := Lib.hid hs0
  have hms : Maps.size D = fs.length := HM.out.size
  clear hrg0 hg0 hs0
  go_frame
  go_loopw [6] (fun v6 wr => RangeRel w D w0 m w.heap.size fs.length v6 wr) (fun _ wr => wr.rangeLeft m w.heap.size)
  case atStart => exact ⟨_, _, [], R0.out, World.ownsRow_nil _ _ _ _, NI.start D, by rw [hms]; simp, B0.out, Nat.le_refl _⟩
  case round =>
    obtain ⟨left, cnt, ns, hrg, hown, hni, hcn, hbw, hsz⟩ := hrel
    have RG := Lib.hid hrg
    have O := Lib.hid hown
    have N := Lib.hid hni
    have G := Lib.hid hbw
    clear hrg hown hni hbw
    go_wp2_with (at_next; refine wpList_next_ranges _ rfl _ rfl 9 lawNk insR Value.string (fun c : Value => c) (fun key kl h => key_str h) (fun v y _ => ⟨v, rfl⟩) m w.heap.size fs.length D left cnt rfl RG.out ?_ ?_)
    rotate_left
    · intro xn xv kl y pl w1 cnt' hkey hlk hR hat hrg' hlt hgr hsz' hen
      obtain ⟨rfl, hxs⟩ := key_strL hkey
      have RG1 := Lib.hid hrg'
      have O1 := Lib.hid (O.out.kept hgr (own_apart O.out (by have := S0.out; omega)))
      have G1 := Lib.hid (G.out.trans (show Below w.heap.size wr w1 from ⟨hgr.os, hgr.tape, hgr.output, hgr.size, fun k hk => hgr.block k (Nat.lt_of_lt_of_le hk G.out.size) (fun e => by cases e; omega)⟩))
      have N1 := Lib.hid (N.out.step hlk (Maps.has_true_of_atKey hat))
      clear hkey hrg' hR hat hgr
      obtain ⟨r6, c6, rfl, _⟩ := sn_of_owns O1.out
      have hw1 : w0.heap.size ≤ w1.heap.size := by rw [hsz']; exact hsz
      clear hsz'
      have C3 := Lib.hid (show ns.length + 1 ≤ maxLen by unfold maxLen; omega)
      have C4 := Lib.hid (show (ns.length + 1) * 16 ≤ 140737488355328 by omega)
      have O2 := Lib.hid (fun (o : Obj) => O1.out.alloc o)
      have NS := Lib.hid (fun (tt : TypeId) => news_sp w1 [Value.string xn] tt)
      have C5 := Lib.hid (fun (o : Obj) => show w0.heap.size ≤ (w1.alloc o).heap.size by simp; omega)
      go_wp2_with (at_builtin; refine wpList_append_own _ rfl _ _ 63 rfl w0.heap.size 9 i0 (.string .empty) 1 16 Tryd.underlying63 HI.out HZ0.out HZ1.out HZ2.out rfl (by decide) _ _ _ rfl (O2.out _) ⟨w1.heap.size, 0, none⟩ 1 1 [.string xn] rfl rfl (NS.out _) (sn_cell _) C3.out C4.out (C5.out _) ?_; intro v7 w7 hown7 hg7 _)
      have G7 := Lib.hid (below_grownS (grow_alloc G1.out _) (by have := G1.out.size; simp; omega) hg7 (fun j hj => by have := (O1.out.lt j hj).1; have := S0.out; omega))
      have OW7 := Lib.hid hown7
      have hz7 : w0.heap.size ≤ w7.heap.size := by have := hg7.size; simp at this; omega
      have hg8 : (w1.alloc (.cells #[.string xn] 9)).grownBy w7 (Value.slice r6 ns.length c6).ownBlock := hg7
      have RG7 := Lib.hid ((RG1.out.alloc (.cells #[.string xn] 9)).kept hg8 (own_ne O1.out (by have := S0.out; omega)) (own_ne O1.out (by have := S0.out; omega)))
      clear hown7 hg7 hg8
      go_roundw
      case rel => exact ⟨_, cnt', ns ++ [xn], RG7.out, by rw [List.length_append]; unfold snL; rw [List.map_append]; exact OW7.out, N1.out, by rw [List.length_append, List.length_singleton]; omega, G7.out, hz7⟩
      case measure => rw [RG7.out.left_eq, RG.out.left_eq]; exact hlt
    · intro hc0 hl0
      have hns := Lib.hid (fun s => N.out.done hl0 HM.out s)
      have hnl : ns.length ≤ 12 := by omega
      have SC := Lib.hid (HSW.out wr w0.heap.size _ ns O.out (by omega))
      have BO := Lib.hid (fun j hj => (O.out.lt j hj).1)
      clear hc0 hl0 hcn RG
      go_upto_region 7 with (go_at_call 68; (with_reducible refine (SC.out).mono ?_); rintro e5 w5 ⟨rfl, hown5, hg5⟩; have O5 := Lib.hid hown5; have G5 := Lib.hid (below_grownS G.out (by have := G.out.size; omega) hg5 (fun j hj => by have := BO.out j hj; have := S0.out; omega)); clear hown5 hg5 SC O BO)
      obtain ⟨r5, c5, rfl, hst⟩ := sn_of_owns O5.out
      have hmem := Lib.hid (fun s (h : s ∈ sortB ns) => (hns.out s).1 ((sortB_mem ns s).1 h))
      have hml : (sortB ns).length ≤ 12 := by rw [sortB_length]; exact hnl
      generalize hms5 : sortB ns = ms at *
      have HMS := Lib.hid hms5
      have ST := Lib.hid hst
      have H5 := Lib.hid (HH.out.below G5.out)
      have OM5 := Lib.hid (ownsMap_turn OW.out G5.out)
      have S5 := Lib.hid (HS.out.below G5.out)
      have HND := Lib.hid N.out.1
      have g7 := (S5.out 7 (by decide)).1
      simp only [gOf] at g7
      have l7 := lt_of_cell g7
      simp only at l7
      have Y7 := Lib.hid (fun X (hX : Below w5.heap.size w5 X) => (hX.cell (p := ⟨3, 0, none⟩) l7).trans g7)
      clear hms5 hst N G R0 B0 g7 HS S5
      go_wp2
      go_loopw [8, 37] (fun v8 v37 wr2 => LoopRel fs ms x w5 v8 v37 wr2) (fun _ i _ => ms.length - (intOf i).toNat)
      case atStart => exact ⟨0, [], Nat.zero_le _, rfl, fun j hj => absurd hj (by omega), PicsAt.nil _ _, Below.refl _ _⟩
      case round =>
        obtain ⟨k, S, hk, rfl, hno, hpics, hb2⟩ := hrel
        have NO := Lib.hid hno
        have PP := Lib.hid hpics
        have B2 := Lib.hid hb2
        clear hno hpics hb2
        by_cases hlt : k < ms.length
        · have hi0 : (0 : Int) ≤ (k : Int) := by omega
          have hi1 : (k : Int) < (ms.length : Int) := by omega
          obtain ⟨b5, rfl, hcc⟩ := ST.out.resolve_left (by intro h; rw [h] at hlt; exact absurd hlt (by simp))
          have e0 : wr.cell? ⟨b5, k, none⟩ = some (.string (nm ms k)) := by
            have h1 := hcc k hlt
            rw [nm_get hlt, ← h1]
            exact B2.out.cell (p := ⟨b5, k, none⟩) (lt_of_cellS h1)
          obtain ⟨j, hj, htl, hjn⟩ := toolAt_spec HM.out.apart (hmem.out (nm ms k) (by rw [nm_get hlt]; exact List.getElem_mem hlt))
          have hVj : j < V.length := by rw [HM.out.len]; exact hj
          have hat := Lib.hid (show D.atKey (nkL (nm ms k)) (.held .nilIface) = .held V[j] by have := HM.out.vals j hVj; rw [hjn] at this; exact this)
          have hins : InsAt wr (toolAt fs (nm ms k)) V[j] := by have := (H5.out.ins j hVj).below B2.out; rw [htl] at this; exact this
          have hkj := HK.out j hj
          have hnsz := Lib.hid (show (nm ms k).size ≤ maxLen by rw [← hjn]; exact hkj.2.2.1)
          rw [htl] at hkj
          have OMr := Lib.hid (ownsMap_turn OM5.out B2.out)
          have KB := Lib.hid (H5.out.box.below B2.out)
          have q0 := KB.out.cell 0
          have lq := KB.out.lt
          simp only [List.getElem?_toArray, List.getElem?_cons_zero, List.getElem?_cons_succ] at q0
          have CU := Lib.hid (show camsUp fs ms (k + 1) = if (toolAt fs (nm ms k)).kind = 1 then camsUp fs ms k ++ [toolAt fs (nm ms k)] else camsUp fs ms k from rfl)
          have hcl := camsUp_len fs ms k
          have NX := Lib.hid (fun (hsx : shutT x (toolAt fs (nm ms k)) = false) j (hj : j < k + 1) => show shutT x (toolAt fs (nm ms j)) = false from by
            by_cases he : j < k
            · exact NO.out j he
            · obtain rfl : j = k := by omega
              exact hsx)
          clear hcc htl hjn
          generalize hte : toolAt fs (nm ms k) = t at *
          have HTE := Lib.hid hte
          clear hte
          generalize hsn : nm ms k = sn at *
          have HSNM := Lib.hid hsn
          clear hsn
          generalize V[j] = iv at *
          clear hVj hj
          obtain ⟨ho1, hc1, _, hk1, hk4⟩ := hkj
          have yy := Y7.out wr B2.out
          have ly : 3 < wr.heap.size := lt_of_cellS yy
          cases hins with
          | still h r c hr =>
            have f1 := as_still_dome
            have f2 := as_still_pointer
            have f3 := as_still_camera
            have f4 := shoot_still
            have HSH := Lib.hid (show shutT x t = false by unfold shutT; rw [h]; rfl)
            have SHO := Lib.hid (shoot_walk t.wide t.high x r t.counts c wr hc1 hr.at')
            have C3 := Lib.hid (show (camsUp fs ms k).length + 1 ≤ maxLen by unfold maxLen; omega)
            have C4 := Lib.hid (show ((camsUp fs ms k).length + 1) * 40 ≤ 140737488355328 by omega)
            have hw5 := B2.out.size
            clear hr
            go_wp2_with (first
              | (at_lookup; refine look_ins _ rfl _ _ rfl m fs.length D rfl OMr.out sn rfl hnsz.out _ hat.out ?_)
              | (go_at_call 146; (with_reducible refine (SHO.out).mono ?_); rintro e6 w6 ⟨r6, c6, rfl, ho6, hb6⟩; have B6 := Lib.hid hb6; have P6 := Lib.hid (fun (o : Obj) => PP.out.below (grow_alloc hb6 o)); have O6 := Lib.hid (fun (o : Obj) => (ownsRow_base ho6 hw5).alloc o); have NS := Lib.hid (fun (tt : TypeId) => news_sp w6 (picC t (r6, c6)) tt); have C5 := Lib.hid (fun (o : Obj) => show w5.heap.size ≤ (w6.alloc o).heap.size by have := hb6.size; simp; omega); clear hb6 ho6 SHO)
              | (at_builtin; refine wpList_append_own _ rfl _ _ 86 rfl w5.heap.size 77 p0 (.agg #[.int .i64 0, .int .i64 0, .slice none 0 0]) 3 40 Tryd.underlying86 PI.out PZ0.out PZ1.out PZ2.out rfl (by decide) _ _ _ rfl (P6.out _).row ⟨w6.heap.size, 0, none⟩ 1 1 (picC t (r6, c6)) rfl rfl (NS.out _) (pic_cell _ _) C3.out C4.out (C5.out _) ?_; intro v7 w7 hown7 hg7 _))
            have P7 := Lib.hid (PicsAt.snoc (P6.out _) (O6.out _) hown7 hg7)
            have B7 := Lib.hid (below_grownS (grow_alloc (B2.out.trans (B6.out.mono B2.out.size)) _) (C5.out _) hg7 (fun j hj => ((P6.out (.cells #[] 0)).row.lt j hj).1))
            clear hown7 hg7
            go_roundw
            case rel => exact ⟨k + 1, S ++ [(r6, c6)], by omega, by go_num, NX.out HSH.out, by rw [CU.out, if_pos h]; exact P7.out, B7.out⟩
            case measure => simp [intOf]; omega
          | hours h r c hr =>
            have f1 := as_hours_dome
            have f2 := as_hours_pointer
            have f3 := as_hours_camera
            have f4 := open_hours
            have OPN := Lib.hid (open_walk r t.opens c x wr ho1 hr.at')
            clear hr
            cases hopen : t.opens.any (inB1 x)
            · rw [hopen] at OPN
              have HSH := Lib.hid (show shutT x t = true by unfold shutT; rw [h, hopen]; rfl)
              go_wp2_with (first
                | (at_lookup; refine look_ins _ rfl _ _ rfl m fs.length D rfl OMr.out sn rfl hnsz.out _ hat.out ?_)
                | (go_at_call 148; (with_reducible refine (OPN.out).mono ?_); rintro e6 w6 ⟨rfl, hb⟩; have B6 := Lib.hid hb; have y6 := Y7.out w6 (B2.out.trans (hb.mono B2.out.size)); clear hb))
              go_quiet (fail)
              go_wp2
              go_ret2
              refine ⟨ns, HND.out, hns.out, ?_⟩
              unfold ShootPost
              rw [HMS.out]
              exact ⟨grow_trans G5.out (B2.out.trans ((show Below wr.heap.size wr _ from (by (repeat (with_reducible first | exact B6.out | refine Grow.grow_drewN ?_ _ | refine Grow.grow_drew ?_ | refine Grow.grow_alloc ?_ _)))).mono B2.out.size)), .inl ⟨⟨k, hlt, by rw [HSNM.out, HTE.out]; exact HSH.out⟩, by rw [HU.out]; rfl⟩⟩
            · rw [hopen] at OPN
              have HSH := Lib.hid (show shutT x t = false by unfold shutT; rw [h, hopen]; rfl)
              go_wp2_with (first
                | (at_lookup; refine look_ins _ rfl _ _ rfl m fs.length D rfl OMr.out sn rfl hnsz.out _ hat.out ?_)
                | (go_at_call 148; (with_reducible refine (OPN.out).mono ?_); rintro e6 w6 ⟨rfl, hb⟩; have B6 := Lib.hid hb; have y6 := Y7.out w6 (B2.out.trans (hb.mono B2.out.size)); clear hb))
              go_roundw
              case rel => exact ⟨k + 1, S, by omega, by go_num, NX.out HSH.out, by rw [CU.out, if_neg (by omega)]; exact PP.out.below (B6.out), B2.out.trans ((B6.out).mono B2.out.size)⟩
              case measure => simp [intOf]; omega
          | fixed h =>
            have f1 := as_fixed_dome
            have f2 := as_fixed_pointer
            have f3 := as_fixed_camera
            have f4 := point_fixed
            have PNT := Lib.hid (fun X => point_walk t.alt 0 x X)
            by_cases ha : t.alt ≤ 0
            · have d1 : decide (t.alt ≤ 0) = true := decide_eq_true ha
              have HSH := Lib.hid (show shutT x t = true by unfold shutT; rw [h, d1]; rfl)
              go_wp2_with (first
                | (at_lookup; refine look_ins _ rfl _ _ rfl m fs.length D rfl OMr.out sn rfl hnsz.out _ hat.out ?_)
                | (go_at_call 142; (with_reducible refine (PNT.out _).mono ?_); rintro e7 w7 ⟨rfl, hb⟩; have B7 := Lib.hid (hb); have y7 := Y7.out w7 (B2.out.trans (B7.out.mono B2.out.size)); clear hb))
              go_quiet (fail)
              go_wp2
              go_ret2
              refine ⟨ns, HND.out, hns.out, ?_⟩
              unfold ShootPost
              rw [HMS.out]
              exact ⟨grow_trans G5.out (B2.out.trans ((show Below wr.heap.size wr _ from (by (repeat (with_reducible first | exact B7.out | refine Grow.grow_drewN ?_ _ | refine Grow.grow_drew ?_ | refine Grow.grow_alloc ?_ _)))).mono B2.out.size)), .inl ⟨⟨k, hlt, by rw [HSNM.out, HTE.out]; exact HSH.out⟩, by rw [HU.out]; rfl⟩⟩
            · have d1 : decide (t.alt ≤ 0) = false := decide_eq_false ha
              have HSH := Lib.hid (show shutT x t = false by unfold shutT; rw [h, d1]; rfl)
              go_wp2_with (first
                | (at_lookup; refine look_ins _ rfl _ _ rfl m fs.length D rfl OMr.out sn rfl hnsz.out _ hat.out ?_)
                | (go_at_call 142; (with_reducible refine (PNT.out _).mono ?_); rintro e7 w7 ⟨rfl, hb⟩; have B7 := Lib.hid (hb); have y7 := Y7.out w7 (B2.out.trans (B7.out.mono B2.out.size)); clear hb))
              go_roundw
              case rel => exact ⟨k + 1, S, by omega, by go_num, NX.out HSH.out, by rw [CU.out, if_neg (by omega)]; exact PP.out.below (B7.out), B2.out.trans ((B7.out).mono B2.out.size)⟩
              case measure => simp [intOf]; omega
          | roof h r c hr =>
            have f1 := as_roof_dome
            have f2 := as_roof_pointer
            have f3 := as_roof_camera
            have f4 := open_roof
            have f5 := point_roof
            have OPN := Lib.hid (open_walk r t.opens c x wr ho1 hr.at')
            have PNT := Lib.hid (fun X => point_walk t.alt 0 x X)
            clear hr
            cases hopen : t.opens.any (inB1 x)
            · rw [hopen] at OPN
              have HSH := Lib.hid (show shutT x t = true by unfold shutT; rw [h, hopen]; simp)
              go_wp2_with (first
                | (at_lookup; refine look_ins _ rfl _ _ rfl m fs.length D rfl OMr.out sn rfl hnsz.out _ hat.out ?_)
                | (go_at_call 148; (with_reducible refine (OPN.out).mono ?_); rintro e6 w6 ⟨rfl, hb⟩; have B6 := Lib.hid hb; have y6 := Y7.out w6 (B2.out.trans (hb.mono B2.out.size)); clear hb))
              go_quiet (fail)
              go_wp2
              go_ret2
              refine ⟨ns, HND.out, hns.out, ?_⟩
              unfold ShootPost
              rw [HMS.out]
              exact ⟨grow_trans G5.out (B2.out.trans ((show Below wr.heap.size wr _ from (by (repeat (with_reducible first | exact B6.out | refine Grow.grow_drewN ?_ _ | refine Grow.grow_drew ?_ | refine Grow.grow_alloc ?_ _)))).mono B2.out.size)), .inl ⟨⟨k, hlt, by rw [HSNM.out, HTE.out]; exact HSH.out⟩, by rw [HU.out]; rfl⟩⟩
            · rw [hopen] at OPN
              by_cases ha : t.alt ≤ 0
              · have d1 : decide (t.alt ≤ 0) = true := decide_eq_true ha
                have HSH := Lib.hid (show shutT x t = true by unfold shutT; rw [h, hopen, d1]; rfl)
                go_wp2_with (first
                  | (at_lookup; refine look_ins _ rfl _ _ rfl m fs.length D rfl OMr.out sn rfl hnsz.out _ hat.out ?_)
                  | (go_at_call 148; (with_reducible refine (OPN.out).mono ?_); rintro e6 w6 ⟨rfl, hb⟩; have B6 := Lib.hid hb; have y6 := Y7.out w6 (B2.out.trans (hb.mono B2.out.size)); clear hb)
                  | (go_at_call 142; (with_reducible refine (PNT.out _).mono ?_); rintro e7 w7 ⟨rfl, hb⟩; have B7 := Lib.hid (grow_trans B6.out hb); have y7 := Y7.out w7 (B2.out.trans (B7.out.mono B2.out.size)); clear hb))
                go_quiet (fail)
                go_wp2
                go_ret2
                refine ⟨ns, HND.out, hns.out, ?_⟩
                unfold ShootPost
                rw [HMS.out]
                exact ⟨grow_trans G5.out (B2.out.trans ((show Below wr.heap.size wr _ from (by (repeat (with_reducible first | exact B7.out | refine Grow.grow_drewN ?_ _ | refine Grow.grow_drew ?_ | refine Grow.grow_alloc ?_ _)))).mono B2.out.size)), .inl ⟨⟨k, hlt, by rw [HSNM.out, HTE.out]; exact HSH.out⟩, by rw [HU.out]; rfl⟩⟩
              · have d1 : decide (t.alt ≤ 0) = false := decide_eq_false ha
                have HSH := Lib.hid (show shutT x t = false by unfold shutT; rw [h, hopen, d1]; rfl)
                go_wp2_with (first
                  | (at_lookup; refine look_ins _ rfl _ _ rfl m fs.length D rfl OMr.out sn rfl hnsz.out _ hat.out ?_)
                  | (go_at_call 148; (with_reducible refine (OPN.out).mono ?_); rintro e6 w6 ⟨rfl, hb⟩; have B6 := Lib.hid hb; have y6 := Y7.out w6 (B2.out.trans (hb.mono B2.out.size)); clear hb)
                  | (go_at_call 142; (with_reducible refine (PNT.out _).mono ?_); rintro e7 w7 ⟨rfl, hb⟩; have B7 := Lib.hid (grow_trans B6.out hb); have y7 := Y7.out w7 (B2.out.trans (B7.out.mono B2.out.size)); clear hb))
                go_roundw
                case rel => exact ⟨k + 1, S, by omega, by go_num, NX.out HSH.out, by rw [CU.out, if_neg (by omega)]; exact PP.out.below (B7.out), B2.out.trans ((B7.out).mono B2.out.size)⟩
                case measure => simp [intOf]; omega
          | none h => omega
        · obtain rfl : k = ms.length := by omega
          go_wp2
          go_ret2
          refine ⟨ns, HND.out, hns.out, ?_⟩
          unfold ShootPost
          rw [HMS.out]
          refine ⟨grow_trans G5.out B2.out, .inr ⟨NO.out, _, S, rfl, ?_⟩⟩
          exact pics_base PP.out G5.out.size
end Go.Proofs.YtjjjbkehmnfgbaaDoor
