/- Waves by halves: the program's. -/
import Derived.Test.YtaakbajhbmbhcaaDoorWf2
set_option linter.unusedSimpArgs false
set_option linter.unusedVariables false
namespace Go.Proofs.YtaakbajhbmbhcaaDoor
open Go.RowKit Go.Fl Go.Grow Go.Tr

/-- At the head of the loop that parts a row. -/
def SplitRel (X : Nat → C2) (n : Nat) (w : World) (v6 v7 v21 : Value) (wr : World) : Prop :=
  ∃ (k : Nat) (E O : List (Nat × Nat)), k ≤ n ∧ v21 = .int .i64 k ∧ E.map cb = (List.range ((k + 1) / 2)).map (fun i => X (2 * i)) ∧ O.map cb = (List.range (k / 2)).map (fun i => X (2 * i + 1)) ∧
    wr.ownsRow w.heap.size 36 1 v6 E.length (cvL E) ∧ wr.ownsRow w.heap.size 36 1 v7 O.length (cvL O) ∧ (∀ b, v6.ownBlock = some b → v7.ownBlock ≠ some b) ∧ Below w.heap.size w wr
theorem len_map {l : List (Nat × Nat)} {T : List C2} (h : l.map cb = T) : l.length = T.length := by have := congrArg List.length h; simpa using this
theorem cin_of_owns {w : World} {base : Nat} {v : Value} {l : List (Nat × Nat)} {e : TypeId} {n : Nat} {Y : Nat → C2} (h : w.ownsRow base e 1 v l.length (cvL l)) (hm : l.map cb = (List.range n).map Y) : ∃ r c, v = .slice r n c ∧ CIn w r n Y := by
  have hl : l.length = n := by have := len_map hm; simpa using this
  obtain ⟨r, c, hv, hx⟩ := cx_of_owns h
  refine ⟨r, c, by rw [hv, hl], ?_⟩
  rcases hx with hx | ⟨b, o, rfl, hc⟩
  · exact .inl (by rw [← hl, hx]; rfl)
  · refine .inr ⟨b, o, rfl, fun k hk => ⟨_, _, hc k (by omega), ?_⟩⟩
    have h2 : (l.map cb)[k]? = ((List.range n).map Y)[k]? := by rw [hm]
    rw [List.getElem?_map, List.getElem?_map, List.getElem?_range hk, List.getElem?_eq_getElem (by omega)] at h2
    have h3 : cb l[k] = Y k := by simpa using h2
    exact ⟨by rw [← h3]; rfl, by rw [← h3]; rfl⟩
theorem snoc_even {X : Nat → C2} {k : Nat} {E : List (Nat × Nat)} {x : Nat × Nat} (hE : E.map cb = (List.range ((k + 1) / 2)).map (fun i => X (2 * i))) (hx : cb x = X k) (h : k % 2 = 0) : (E ++ [x]).map cb = (List.range ((k + 1 + 1) / 2)).map (fun i => X (2 * i)) := by
  rw [show (k + 1 + 1) / 2 = (k + 1) / 2 + 1 by omega, List.range_succ, List.map_append, List.map_append, hE]
  congr 1
  simp only [List.map_cons, List.map_nil, hx]
  rw [show 2 * ((k + 1) / 2) = k by omega]
theorem snoc_odd {X : Nat → C2} {k : Nat} {O : List (Nat × Nat)} {x : Nat × Nat} (hO : O.map cb = (List.range (k / 2)).map (fun i => X (2 * i + 1))) (hx : cb x = X k) (h : ¬ k % 2 = 0) : (O ++ [x]).map cb = (List.range ((k + 1) / 2)).map (fun i => X (2 * i + 1)) := by
  rw [show (k + 1) / 2 = k / 2 + 1 by omega, List.range_succ, List.map_append, List.map_append, hO]
  congr 1
  simp only [List.map_cons, List.map_nil, hx]
  rw [show 2 * (k / 2) + 1 = k by omega]
def HRel (back : Bool) (m g h n : Nat) (X : Nat → C2) (w : World) (g6 g7 : Nat) (v48 : Value) (wr : World) : Prop :=
  ∃ k : Nat, k ≤ h ∧ v48 = .int .i64 k ∧ CRow wr g n (fun i => if i < k then fastZ back (m + 1) X i else if h ≤ i ∧ i < h + k then fastZ back (m + 1) X i else ⟨some 0, some 0⟩) ∧
    CRow wr g6 h (fastZ back m (fun i => X (2 * i))) ∧ CRow wr g7 h (fastZ back m (fun i => X (2 * i + 1))) ∧ Below w.heap.size w wr
set_option maxRecDepth 100000 in
set_option maxHeartbeats 16000000 in
theorem halves_one (back : Bool) (r : Option Addr) (cap : Nat) (X : Nat → C2) (w : World) (hr : CIn w r 1 X) :
    Calls Tryd.prog 33 #[.slice r 1 cap, .bool back] w (HalvPost 1 X w) := by
  have CW := Lib.hid (clone1_walk r cap X w hr)
  clear hr
  go_enter Tryd.func33, Tryd.ntmps33
  go_wp2_with (go_at_call 50; (with_reducible refine CW.out.mono ?_); rintro e w1 ⟨g, c, rfl, h1, h2, h3⟩; have H2 := Lib.hid h2; have H3 := Lib.hid h3; clear h2 h3)
  go_ret
  exact ⟨g, c, rfl, h1, H2.out, H3.out⟩
theorem CRow.but {w w' : World} {g g2 n : Nat} {X : Nat → C2} (h : CRow w g n X) (hb : But g2 w w') (hne : g ≠ g2) : CRow w' g n X :=
  ⟨Nat.lt_of_lt_of_le h.lt hb.size, fun i => by rw [← h.frozen i]; unfold World.frozen?; rw [hb.block g h.lt hne], fun k hk => by
    obtain ⟨a, b, h1, h2, h3⟩ := h.cell k hk
    exact ⟨a, b, (cell?_but hb (p := ⟨g, k, none⟩) h.lt hne).trans h1, h2, h3⟩⟩
theorem HRel.next {back : Bool} {m g h n j g6 g7 : Nat} {X : Nat → C2} {w w9 wA wB : World} {a1 a2 s1 s2 : Nat}
    (hR : CRow w9 g n (fun i => if i < j then fastZ back (m + 1) X i else if h ≤ i ∧ i < h + j then fastZ back (m + 1) X i else ⟨some 0, some 0⟩))
    (h6 : CRow w9 g6 h (fastZ back m (fun i => X (2 * i)))) (h7 : CRow w9 g7 h (fastZ back m (fun i => X (2 * i + 1)))) (hG : Below w.heap.size w w9) (hg : w.heap.size ≤ g) (n6 : g6 ≠ g) (n7 : g7 ≠ g) (hj : j < h) (hn : 2 * h = n)
    (e1 : fl a1 = (fastZ back (m + 1) X j).re) (e2 : fl a2 = (fastZ back (m + 1) X j).im) (e3 : fl s1 = (fastZ back (m + 1) X (j + h)).re) (e4 : fl s2 = (fastZ back (m + 1) X (j + h)).im)
    (hA : Below w9.heap.size w9 wA) (hB : Below (wA.setCell ⟨g, j, none⟩ (.complex .f64 a1 a2)).heap.size (wA.setCell ⟨g, j, none⟩ (.complex .f64 a1 a2)) wB) {v : Value} (hv : v = .int .i64 ((j + 1 : Nat) : Int)) :
    HRel back m g h n X w g6 g7 v (wB.setCell ⟨g, j + h, none⟩ (.complex .f64 s1 s2)) := by
  refine ⟨j + 1, hj, hv, ?_, ?_, ?_, ?_⟩
  · refine ((((hR.below hA).set (i := j) (by omega) _ e1 e2).below hB).set (i := j + h) (by omega) _ e3 e4).at fun i hi => ?_
    unfold updC
    dsimp only
    by_cases c1 : i = j + h
    · subst c1
      rw [if_pos rfl, if_neg (by omega), if_pos (by omega)]
    · rw [if_neg c1]
      by_cases c2 : i = j
      · subst c2
        rw [if_pos rfl, if_pos (by omega)]
      · rw [if_neg c2]
        by_cases c3 : i < j
        · rw [if_pos c3, if_pos (by omega)]
        · rw [if_neg c3, if_neg (show ¬ i < j + 1 by omega)]
          by_cases c4 : h ≤ i ∧ i < h + j
          · rw [if_pos c4, if_pos (by omega)]
          · rw [if_neg c4, if_neg (by omega)]
  · exact (((h6.below hA).but ((But.refl _ _).setCell j _) n6).below hB).but ((But.refl _ _).setCell (j + h) _) n6
  · exact (((h7.below hA).but ((But.refl _ _).setCell j _) n7).below hB).but ((But.refl _ _).setCell (j + h) _) n7
  · exact grow_setCell (grow_trans (grow_setCell (grow_trans hG hA) hg _) hB) hg _
theorem fast_lo (back : Bool) {m h n k : Nat} (X : Nat → C2) (hh : 2 ^ m = h) (hn : 2 * h = n) (hk : k < h) :
    fastZ back (m + 1) X k = cadd (fastZ back m (fun i => X (2 * i)) k) (cmul (fastZ back m (fun i => X (2 * i + 1)) k) (wav (angH n k : Nat) back)) := by
  rw [show n = 2 ^ (m + 1) by rw [Nat.pow_succ, hh]; omega]
  show (if k < 2 ^ m then _ else _) = _
  rw [if_pos (by rw [hh]; exact hk)]
theorem fast_hi (back : Bool) {m h n k : Nat} (X : Nat → C2) (hh : 2 ^ m = h) (hn : 2 * h = n) (hk : k < h) :
    fastZ back (m + 1) X (k + h) = csub (fastZ back m (fun i => X (2 * i)) k) (cmul (fastZ back m (fun i => X (2 * i + 1)) k) (wav (angH n k : Nat) back)) := by
  rw [show n = 2 ^ (m + 1) by rw [Nat.pow_succ, hh]; omega]
  show (if k + h < 2 ^ m then _ else _) = _
  rw [if_neg (by rw [hh]; omega), hh, Nat.add_sub_cancel]
set_option maxRecDepth 100000 in
set_option maxHeartbeats 16000000 in
theorem halves_more (back : Bool) (m h : Nat) (hh : 2 ^ m = h) (hm : h ≤ 128) (ih : ∀ (r : Option Addr) (cap : Nat) (X : Nat → C2) (w : World), CIn w r h X → Calls Tryd.prog 33 #[.slice r h cap, .bool back] w (HalvPost h (fastZ back m X) w))
    (r : Option Addr) (cap : Nat) (X : Nat → C2) (w : World) (hr : CIn w r (2 * h) X) :
    Calls Tryd.prog 33 #[.slice r (2 * h : Nat) cap, .bool back] w (HalvPost (2 * h) (fastZ back (m + 1) X) w) := by
  have hpos : 0 < h := by rw [← hh]; exact Nat.two_pow_pos m
  obtain ⟨i0, hi, hz0, hz1, hz2⟩ := info_parts info_cx
  have HI := Lib.hid hi
  have HZ0 := Lib.hid hz0
  have HZ1 := Lib.hid hz1
  have HZ2 := Lib.hid hz2
  have IH := Lib.hid ih
  have HH := Lib.hid hh
  obtain ⟨b1, o1, rfl, hc⟩ := hr.resolve_left (by omega)
  have hb1 : b1 < w.heap.size := by obtain ⟨p, q, h, _⟩ := hc 0 (by omega); exact lt_of_cell h
  have HC := Lib.hid hc
  obtain ⟨n, hn⟩ : ∃ n, 2 * h = n := ⟨_, rfl⟩
  rw [hn] at HC ⊢
  have HN := Lib.hid hn
  have hmk := mk_cx n (by omega)
  have hn1 : n ≠ 1 := by omega
  have hn2 : n ≤ 256 := by omega
  have d1 : ((n : Int) == 1) = false := by simp; omega
  clear hi hz0 hz1 hz2 ih hr hc hh
  go_enter Tryd.func33, Tryd.ntmps33
  go_wp2
  go_loopw [6, 7, 21] (fun v6 v7 v21 wr => SplitRel X n w v6 v7 v21 wr) (fun _ _ i _ => n - (intOf i).toNat)
  case atStart => exact ⟨0, [], [], Nat.zero_le _, rfl, rfl, rfl, World.ownsRow_nil _ _ _ _, World.ownsRow_nil _ _ _ _, fun b h => (by cases h), Below.refl _ _⟩
  case round =>
    obtain ⟨k, E, O, hk, rfl, hE, hO, hoe, hoo, hdis, hg⟩ := hrel
    have lE : E.length = (k + 1) / 2 := by have := len_map hE; simpa using this
    have lO : O.length = k / 2 := by have := len_map hO; simpa using this
    have ME := Lib.hid hE
    have MO := Lib.hid hO
    have OE := Lib.hid hoe
    have OO := Lib.hid hoo
    have HD := Lib.hid hdis
    have G := Lib.hid hg
    clear hE hO hoe hoo hdis hg
    have hz := G.out.size
    by_cases hlt : k < n
    · obtain ⟨p, q, c0, h1, h2⟩ := HC.out k hlt
      replace c0 := (G.out.cell (p := ⟨b1, o1 + k, none⟩) hb1).trans c0
      have HX := Lib.hid (show cb (p, q) = X k by show (⟨fl p, fl q⟩ : C2) = X k; rw [h1, h2])
      clear h1 h2
      have C5 := Lib.hid (show w.heap.size ≤ (wr.alloc (.cells #[Value.complex .f64 p q] 36)).heap.size by simp; omega)
      by_cases hp : k % 2 = 0
      · have d2 : ((k : Int) % 2 == 0) = true := by simp; omega
        have C3 := Lib.hid (show E.length + 1 ≤ maxLen by unfold maxLen; omega)
        have C4 := Lib.hid (show (E.length + 1) * 16 ≤ 140737488355328 by omega)
        clear lE lO
        go_wp2_with (at_builtin; refine wpList_append_own_at _ rfl _ _ 30 rfl w.heap.size 36 i0 (.complex .f64 0 0) 1 16 Tryd.underlying30 HI.out HZ0.out HZ1.out HZ2.out rfl (by decide) _ _ _ rfl (OE.out.alloc _) ⟨wr.heap.size, 0, none⟩ 1 1 [.complex .f64 p q] rfl rfl (one_new _ _ _) (one_cx _ _) C3.out C4.out C5.out ?_)
        intro v' w1 hown' hg' _ hat
        have HO2 := Lib.hid hown'
        have HG2 := Lib.hid hg'
        have HAT := Lib.hid hat
        have O2 := Lib.hid (show w1.ownsRow w.heap.size 36 1 u7 O.length (cvL O) from (OO.out.alloc _).kept (row := u6.ownBlock) hg' (by
          cases hu : u7.ownBlock with
          | none => exact .inl rfl
          | some z => exact .inr (fun e => HD.out z e.symm hu)))
        clear hown' hg' hat
        go_wp2
        go_roundw
        case rel =>
          refine ⟨k + 1, E ++ [(p, q)], O, by omega, by go_num, snoc_even ME.out HX.out hp, by rw [MO.out, show (k + 1) / 2 = k / 2 by omega], by rw [cvL_append, List.length_append]; exact HO2.out, O2.out, fun b hb hb7 => ?_, below_grown (G.out.alloc hz _) (by simp; omega) HG2.out (fun k hk => (OE.out.lt k hk).1)⟩
          rcases HAT.out with h | h
          · exact HD.out b (h ▸ hb) hb7
          · have h3 := (OO.out.lt b hb7).2
            rw [h] at hb
            simp at hb
            omega
        case measure => simp [intOf]; omega
      · have d2 : ((k : Int) % 2 == 0) = false := by simp; omega
        have C3 := Lib.hid (show O.length + 1 ≤ maxLen by unfold maxLen; omega)
        have C4 := Lib.hid (show (O.length + 1) * 16 ≤ 140737488355328 by omega)
        clear lE lO
        go_wp2_with (at_builtin; refine wpList_append_own_at _ rfl _ _ 30 rfl w.heap.size 36 i0 (.complex .f64 0 0) 1 16 Tryd.underlying30 HI.out HZ0.out HZ1.out HZ2.out rfl (by decide) _ _ _ rfl (OO.out.alloc _) ⟨wr.heap.size, 0, none⟩ 1 1 [.complex .f64 p q] rfl rfl (one_new _ _ _) (one_cx _ _) C3.out C4.out C5.out ?_)
        intro v' w1 hown' hg' _ hat
        have HO2 := Lib.hid hown'
        have HG2 := Lib.hid hg'
        have HAT := Lib.hid hat
        have O2 := Lib.hid (show w1.ownsRow w.heap.size 36 1 u6 E.length (cvL E) from (OE.out.alloc _).kept (row := u7.ownBlock) hg' (by
          cases hu : u6.ownBlock with
          | none => exact .inl rfl
          | some z => exact .inr (fun e => HD.out z hu e.symm)))
        clear hown' hg' hat
        go_wp2
        go_roundw
        case rel =>
          refine ⟨k + 1, E, O ++ [(p, q)], by omega, by go_num, by rw [ME.out, show (k + 1 + 1) / 2 = (k + 1) / 2 by omega], snoc_odd MO.out HX.out hp, O2.out, by rw [cvL_append, List.length_append]; exact HO2.out, fun b hb6 hb => ?_, below_grown (G.out.alloc hz _) (by simp; omega) HG2.out (fun k hk => (OO.out.lt k hk).1)⟩
          rcases HAT.out with h | h
          · exact HD.out b hb6 (h ▸ hb)
          · have h3 := (OE.out.lt b hb6).2
            rw [h] at hb
            simp at hb
            omega
        case measure => simp [intOf]; omega
    · obtain rfl : k = n := by omega
      have me := ME.out
      have mo := MO.out
      rw [show (k + 1) / 2 = h by omega] at me
      rw [show k / 2 = h by omega] at mo
      obtain ⟨r6, c6, hv6, hi6⟩ := cin_of_owns OE.out me
      obtain ⟨r7, c7, hv7, hi7⟩ := cin_of_owns OO.out mo
      subst hv6
      subst hv7
      have I6 := Lib.hid hi6
      have I7 := Lib.hid hi7
      clear hi6 hi7 me mo ME MO OE OO HD lE lO
      have e2 : (k : Int) / 2 = (h : Int) := by omega
      have s0 := trivial
      go_wp2_with (first
        | (clear s0; go_at_call 33; refine (IH.out r6 c6 (fun i => X (2 * i)) _ I6.out).mono ?_; rintro e w2 ⟨g6, c6', rfl, hg6, hr6, hb6⟩; have R6 := Lib.hid hr6; have I72 := Lib.hid (I7.out.below hb6); have G2 := Lib.hid (grow_trans G.out hb6); clear hr6 hb6; have s1 := trivial)
        | (clear s1; go_at_call 33; refine (IH.out r7 c7 (fun i => X (2 * i + 1)) _ I72.out).mono ?_; rintro e w3 ⟨g7, c7', rfl, hg7, hr7, hb7⟩; have R63 := Lib.hid (R6.out.below hb7); have HG7 := Lib.hid hg7; have R7 := Lib.hid hr7; have G3 := Lib.hid (grow_trans G2.out hb7); clear hr7 hb7))
      go_upto_block 0 with (fail)
      have lt6 := R63.out.lt
      have lt7 := R7.out.lt
      have L6 := Lib.hid (Nat.lt_of_lt_of_le R6.out.lt (Nat.le_refl _))
      have NE : Hid (g6 ≠ g7) := Lib.hid (fun e => by have := HG7.out; have := L6.out; omega)
      obtain ⟨g, hge⟩ : ∃ g, w3.heap.size = g := ⟨_, rfl⟩
      have NG6 := Lib.hid (show g6 ≠ g by omega)
      have NG7 := Lib.hid (show g7 ≠ g by omega)
      have NW := Lib.hid (show w.heap.size ≤ g by have := G3.out.size; omega)
      go_loopw [48] (fun v48 wr => HRel back m w3.heap.size h k X w g6 g7 v48 wr) (fun i _ => h - (intOf i).toNat)
      case atStart =>
        refine ⟨0, Nat.zero_le _, rfl, (CRow.made _ _ _).at fun i hi => ?_, R63.out.below (grow_alloc (grow_refl _) _), R7.out.below (grow_alloc (grow_refl _) _), grow_alloc G3.out _⟩
        rw [if_neg (by omega), if_neg (by omega)]
      case round =>
        clear hmk
        obtain ⟨j, hj, rfl, hrow, h6, h7, hb⟩ := hrel
        have R := Lib.hid hrow
        have S6 := Lib.hid h6
        have S7 := Lib.hid h7
        have G := Lib.hid hb
        clear hrow h6 h7 hb G2 G3 R6 R63 R7 I6 I7 I72
        rw [hge] at R ⊢
        by_cases hjl : j < h
        · obtain ⟨xa, xb, c1, x1, x2⟩ := S7.out.cell j hjl
          have X1 := Lib.hid x1
          have X2 := Lib.hid x2
          clear x1 x2 lt6 lt7
          have l7 := S7.out.lt
          have FL := Lib.hid (fast_lo back X HH.out HN.out hjl)
          have FH := Lib.hid (fast_hi back X HH.out HN.out hjl)
          have e5 : (1296000000000 * (j : Int)).tdiv (k : Int) = ((angH k j : Nat) : Int) := by
            unfold angH
            rw [Int.natCast_ediv, Int.natCast_mul, Int.tdiv_eq_ediv_of_nonneg (by omega)]; rfl
          have ht : angH k j ≤ 331776000000000 := by
            unfold angH
            refine Nat.le_trans (Nat.div_le_self _ _) ?_
            have := Nat.mul_le_mul (Nat.le_refl 1296000000000) (show j ≤ 256 by omega)
            omega
          generalize angH k j = t at e5 FL FH ht
          have e4 : IntKind.i64.wrap (1296000000000 * (j : Int)) = 1296000000000 * (j : Int) := IntWalk.i64_in _ (by omega)
          have e6 : IntKind.i64.wrap (t : Int) = (t : Int) := IntWalk.i64_in _ (by omega)
          have hn1 : ¬ ((k : Int) = 0) := by omega
          have hj0 : (0 : Int) ≤ (j : Int) := by omega
          have hj1 : (j : Int) < (h : Int) := by omega
          go_wp2
          refine Rel.wp_region_rel SpecC (by rfl) (Grow.lexB_of_fast (by kernel_rfl) (by kernel_rfl)) ?_
          repeat (first
            | (refine rel_call (f := 36) (args := #[.int .i64 _, .bool _]) (by rfl) rfl (callAt_func rfl Tryd.func36 (by kernel_rfl) (by kernel_rfl) rfl) (keeps_over (fun v h => h) fun x => wave_walk _ _ _) ?_; rintro _ ⟨wa, wb, rfl, hw1, hw2⟩; have W1 := Lib.hid hw1; have W2 := Lib.hid hw2; clear hw1 hw2; simp only [Act.put, List.setIfInBounds_toArray, List.set_cons_zero, List.set_cons_succ])
            | (refine rel_call (f := 35) (args := #[.complex .f64 _ _, .complex .f64 _ _]) (by rfl) rfl (callAt_func rfl Tryd.func35 (by kernel_rfl) (by kernel_rfl) rfl) (keepsD_over (fun v h => h) fun x => times_walk _ _ _ _ _) ?_; rintro _ ⟨ta, tb, rfl, ht1, ht2⟩; have T1 := Lib.hid ht1; have T2 := Lib.hid ht2; clear ht1 ht2; simp only [Act.put, List.setIfInBounds_toArray, List.set_cons_zero, List.set_cons_succ])
            | (refine rel_plain (by rfl) rfl ?_; intro K hK; go_big_quiet_op; go_big_quiet_on)
            | (refine rel_skip (by rfl) ?_; simp only [Act.put, List.setIfInBounds_toArray, List.set_cons_zero, List.set_cons_succ]))
          refine Rel.wpRel_nil ?_
          intro w9 hB9 hG9
          clear hG9 c1 l7
          have R9 := Lib.hid (R.out.below hB9)
          have S69 := Lib.hid (S6.out.below hB9)
          have S79 := Lib.hid (S7.out.below hB9)
          have G9 := Lib.hid (grow_trans G.out hB9)
          clear hB9 R S6 S7 G
          obtain ⟨ya, yb, c1, y1, y2⟩ := S69.out.cell j hjl
          have l6 := S69.out.lt
          obtain ⟨z0, z1, c2, _⟩ := R9.out.cell j (by omega)
          obtain ⟨z2, z3, c3, _⟩ := R9.out.cell (j + h) (by omega)
          have f2 := R9.out.frozen j
          have f3 := R9.out.frozen (j + h)
          have l2 := R9.out.lt
          have ne6 : g6 ≠ g := NG6.out
          have ne7 : g7 ≠ g := NG7.out
          have Y1 := Lib.hid y1
          have Y2 := Lib.hid y2
          clear y1 y2
          have LO1 := Lib.hid (show fadd (fl ya) (fl ta) = (fastZ back (m + 1) X j).re by
            rw [FL.out]; unfold cadd
            rw [Y1.out, T1.out, X1.out, X2.out, W1.out, W2.out])
          have LO2 := Lib.hid (show fadd (fl yb) (fl tb) = (fastZ back (m + 1) X j).im by
            rw [FL.out]; unfold cadd
            rw [Y2.out, T2.out, X1.out, X2.out, W1.out, W2.out])
          have HI1 := Lib.hid (show fsub (fl ya) (fl ta) = (fastZ back (m + 1) X (j + h)).re by
            rw [FH.out]; unfold csub
            rw [Y1.out, T1.out, X1.out, X2.out, W1.out, W2.out])
          have HI2 := Lib.hid (show fsub (fl yb) (fl tb) = (fastZ back (m + 1) X (j + h)).im by
            rw [FH.out]; unfold csub
            rw [Y2.out, T2.out, X1.out, X2.out, W1.out, W2.out])
          clear FL FH T1 T2 X1 X2 W1 W2 Y1 Y2
          have e8 : IntKind.i64.wrap ((j : Int) + (h : Int)) = ((j + h : Nat) : Int) := by rw [IntWalk.i64_in _ (by omega)]; omega
          go_wp2
          refine Grow.wp_region_orders [0, 1, 2, 3, 4, 5, 6, 7, 8, 9, 11, 13, 14, 15, 17] 8 [[10, 12, 16, 18, 19, 20, 21, 22], [10, 12, 16, 19, 18, 20, 21, 22], [10, 12, 16, 19, 20, 18, 21, 22], [10, 16, 12, 18, 19, 20, 21, 22], [10, 16, 12, 19, 18, 20, 21, 22], [10, 16, 12, 19, 20, 18, 21, 22], [10, 16, 18, 12, 19, 20, 21, 22], [16, 10, 12, 18, 19, 20, 21, 22], [16, 10, 12, 19, 18, 20, 21, 22], [16, 10, 12, 19, 20, 18, 21, 22], [16, 10, 18, 12, 19, 20, 21, 22], [16, 18, 10, 12, 19, 20, 21, 22]] (by kernel_rfl) (by kernel_rfl) (by kernel_rfl) (by kernel_rfl) (by kernel_rfl) (by kernel_rfl) ?_ ?_
          · intro c aa d v ww h
            simp (config := {zetaDelta := true}) only [Exit.then, Exit.inBlock] at h ⊢
            exact Grow.bodyPost_blind h
          simp only [Grow.pick, List.getElem?_cons_zero, List.getElem?_cons_succ, List.cons_append, List.nil_append]
          repeat (go_big_quiet_step (fail))
          refine wpQuiet_nil ?_
          intro t ht
          simp only [List.mem_cons, List.not_mem_nil, or_false] at ht
          rcases ht with rfl | rfl | rfl | rfl | rfl | rfl | rfl | rfl | rfl | rfl | rfl | rfl
          all_goals
            simp only [Grow.pick, List.getElem?_cons_zero, List.getElem?_cons_succ, List.cons_append, List.nil_append]
            go_wp2_with (first
              | (refine wpList_carith (bop := .add) rfl rfl (by rfl) rfl rfl ?_; intro a1 a2 n1 A1 A2)
              | (refine wpList_carith (bop := .sub) rfl rfl (by rfl) rfl rfl ?_; intro s1 s2 n2 S1 S2))
            go_roundw
            case rel =>
              exact HRel.next R9.out S69.out S79.out G9.out NW.out NG6.out NG7.out hjl HN.out (A1.out.trans LO1.out) (A2.out.trans LO2.out) (S1.out.trans HI1.out) (S2.out.trans HI2.out) (grow_drewN (grow_refl _) _) (by (repeat (with_reducible first | exact grow_refl _ | refine Grow.grow_drewN ?_ _ | refine Grow.grow_drew ?_))) (by go_num)
            case measure => simp [intOf]; omega
        · obtain rfl : j = h := by omega
          go_wp2
          go_ret
          exact ⟨g, k, rfl, NW.out, R.out.at fun i hi => by
            by_cases c : i < j
            · rw [if_pos c]
            · rw [if_neg c, if_pos (by omega)], G.out⟩
end Go.Proofs.YtaakbajhbmbhcaaDoor
