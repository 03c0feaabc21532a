/- The program's windows. -/
import Derived.Test.YtlfpfeidaohjmaaDoorEc5
import Derived.Test.YtlfpfeidaohjmaaDoorWe
set_option linter.unusedSimpArgs false
set_option linter.unusedVariables false
namespace Go.Proofs.YtlfpfeidaohjmaaDoor
open Go.RowKit Go.Grow Go.Fl Go.Bg

theorem alloc_box (w : World) : (Instr.alloc 92 true (.tuple #[])).run Tryd.prog w = .ok (.pointer (some ⟨w.heap.size, 0, none⟩)) (w.alloc (.cells #[.slice none 0 0] 92)) := by kernel_rfl
def WiPost (W : List (Int × Int)) (w : World) (e : Ending) (w' : World) : Prop := ∃ r c, e = .returned (.tuple #[.slice r W.length c, .nilIface]) ∧ SpAt w' r W ∧ Below w.heap.size w w'
theorem evL_get : ∀ (l : List Ev) (k : Nat) (h : k < l.length), (evL l)[k * 3]? = some (.int .i64 l[k].k) ∧ (evL l)[k * 3 + 1]? = some (.int .i64 l[k].at') ∧ (evL l)[k * 3 + 2]? = some (.int .i64 l[k].ix)
  | [], k, h => absurd h (by simp)
  | x :: l, 0, h => ⟨rfl, rfl, rfl⟩
  | x :: l, k + 1, h => by
    have := evL_get l k (by simpa using h)
    rw [show evL (x :: l) = .int .i64 x.k :: .int .i64 x.at' :: .int .i64 x.ix :: evL l from rfl, show (k + 1) * 3 = k * 3 + 1 + 1 + 1 by omega]
    simpa using this
/-- Events lie in w, from block base on. -/
def EvAt (w : World) (base : Nat) (r : Option Addr) (l : List Ev) : Prop := l = [] ∨ ∃ g, base ≤ g ∧ g < w.heap.size ∧ r = some ⟨g, 0, none⟩ ∧ ∀ k (h : k < l.length), w.cell? ⟨g, k * 3, none⟩ = some (.int .i64 l[k].k) ∧ w.cell? ⟨g, k * 3 + 1, none⟩ = some (.int .i64 l[k].at') ∧ w.cell? ⟨g, k * 3 + 2, none⟩ = some (.int .i64 l[k].ix)
theorem ev_of_owns {w : World} {base n : Nat} {v : Value} {l : List Ev} {e : TypeId} (h : w.ownsRow base e 3 v n (evL l)) : ∃ r cap, v = .slice r l.length cap ∧ EvAt w base r l := by
  have hlen : n = l.length := by have := h.1; rw [evL_length] at this; omega
  subst hlen
  obtain ⟨hl, ⟨hv, hn⟩ | ⟨g, cap, cur, hv, hg⟩⟩ := h
  · exact ⟨none, 0, by rw [hv, hn], .inl (List.length_eq_zero_iff.1 hn)⟩
  · subst hv
    have hc := owns_cellsS (w := w) (base := base) (e := e) (size := 3) (g := g) (n := l.length) (cap := cap) (xs := evL l) ⟨hl, .inr ⟨g, cap, cur, rfl, hg⟩⟩
    refine ⟨some ⟨g, 0, none⟩, cap, rfl, .inr ⟨g, hg.1, (Array.getElem?_eq_some_iff.1 hg.2.1).1, rfl, fun k hk => ?_⟩⟩
    obtain ⟨e0, e1, e2⟩ := evL_get l k hk
    exact ⟨hc _ _ e0, hc _ _ e1, hc _ _ e2⟩
def WRel (s0 : WSt) (l : List Ev) (base b8 : Nat) (W : World) (v10 v11 v37 : Value) (wr : World) : Prop :=
  ∃ k : Nat, k ≤ l.length ∧ v37 = .int .i64 k ∧ v10 = .int .i64 (wfold s0 (l.take k)).f ∧ v11 = .bool (wfold s0 (l.take k)).up ∧ (wfold s0 (l.take k)).W.length ≤ k ∧ Box wr base b8 (wfold s0 (l.take k)).W ∧ Out base b8 W wr
set_option maxRecDepth 100000 in
set_option maxHeartbeats 16000000 in
theorem windows_walk (a : Nat → Addr) (F : Int) (S : Nat) (r : Option Addr) (c : Nat) (L : List Int) (n : Int) (w : World) (hs : Sen a [2, 3, 5] w) (hl : L.length ≤ 9223372036854775807) (hr : InAt w r L) (h0 : trE F S L = 0) (hn : bigH n = false) :
    Calls Tryd.prog 66 #[.agg #[.int .i64 F, .int .i64 S, .slice r L.length c], .int .i64 n] w (WiPost (windows F S n L) w) := by
  have FT := fit_of h0
  have FTH := Lib.hid FT
  obtain ⟨p0, p1, p2⟩ := fit_prod FT
  obtain ⟨two, most, f1, f2, s1, l1, hh⟩ := FT
  have hn1 : -1099511627776 ≤ n ∧ n ≤ 1099511627776 := by
    unfold bigH at hn
    simp at hn
    omega
  have VW := Lib.hid (fun X (hX : Below w.heap.size w X) => valid_ok a F S r L c X (hs.below hX) hl (hr.below hX) h0)
  have LV := Lib.hid (fun X (hX : Below w.heap.size w X) => show Calls Tryd.prog 95 #[.int .i64 n] X fun e w' => e = .returned .nilIface ∧ Below X.heap.size X w' from by
    have h := level_walk a n X (hs.below hX)
    rw [hn] at h
    exact h)
  have CR := Lib.hid (fun X (hX : Below w.heap.size w X) => crossings_walk F S r c L n X FTH.out (hr.below hX) hn1.1 hn1.2)
  unfold CrossPost at CR
  have FA := Lib.hid (far_up (F := F) (n := n) (L := L) (S := S) (by omega) f1 (L.length - 1) (by omega) (by unfold lastT at l1; rw [show ((L.length - 1 : Nat) : Int) = (L.length : Int) - 1 by omega]; exact l1))
  have LE := Lib.hid (evUp_le F S n L (L.length - 1))
  have FIN := Lib.hid (show (wUp F S n L (L.length - 1)).up = true → (wUp F S n L (L.length - 1)).f < lastT F S L.length + 1 ∧ -300000000000000000 ≤ (wUp F S n L (L.length - 1)).f ∧ ∀ p ∈ (wUp F S n L (L.length - 1)).W, p.2 < (wUp F S n L (L.length - 1)).f from fun h => by
    have h2 := (WInv.all (F := F) (n := n) (L := L) (S := S) (by omega) (L.length - 1) (by omega)).fr h
    rw [show ((L.length - 1 : Nat) : Int) = (L.length : Int) - 1 by omega] at h2
    obtain ⟨h3, h4, h5⟩ := h2
    exact ⟨by unfold lastT; omega, by omega, h5⟩)
  have WN := Lib.hid (show windows F S n L = if (wUp F S n L (L.length - 1)).up then putW (wUp F S n L (L.length - 1)).W (wUp F S n L (L.length - 1)).f (lastT F S L.length + 1) else (wUp F S n L (L.length - 1)).W from rfl)
  unfold wUp at FIN WN
  generalize evUp F S n L (L.length - 1) = EVS at FA LE FIN WN CR
  obtain ⟨WW, hWW⟩ : ∃ WW, windows F S n L = WW := ⟨_, rfl⟩
  rw [hWW] at WN ⊢
  clear hWW
  obtain ⟨b1, o1, rfl, hc⟩ := hr.resolve_left (by intro h; rw [h] at two; exact absurd two (by simp))
  have hb1 : b1 < w.heap.size := lt_of_cellS (hc 0 (by omega))
  have E0 := Lib.hid (show w.cell? ⟨b1, o1, none⟩ = some (.int .i64 L[0]) from hc 0 (by omega))
  generalize hlast : lastT F S L.length = last at FIN WN
  have LA := Lib.hid (fun w1 => show Calls Tryd.prog 107 #[.agg #[.int .i64 F, .int .i64 S, .slice (some ⟨b1, o1, none⟩) L.length c]] w1 fun e w' => e = .returned (.int .i64 last) ∧ Below w1.heap.size w1 w' from by rw [← hlast]; exact last_walk F S (some ⟨b1, o1, none⟩) L.length c w1 (by omega) (by omega) f1 f2 p0 p1)
  rw [hlast] at l1
  have hz0 : (0 : Int) < (L.length : Int) := by omega
  have hz1 : 0 < L.length := by omega
  have hz2 : decide (0 < L.length) = true := decide_eq_true hz1
  have g : Hid (Below w.heap.size w w) := Lib.hid (grow_refl w)
  obtain ⟨l0, hl0⟩ : ∃ l0, L[0] = l0 := ⟨_, rfl⟩
  have HL0 := Lib.hid (show L.getD 0 0 = l0 by rw [← hl0]; simp [show 0 < L.length by omega])
  rw [hl0] at E0
  rw [HL0.out] at FA FIN WN
  clear hs hr hc hh hl0
  go_enter Tryd.func66, Tryd.ntmps66
  go_wp2_with (first
    | (go_at_call 65; (with_reducible refine (VW.out _ (grow_alloc g.out _)).mono ?_); rintro e w1 ⟨rfl, hb9⟩; have KK := Lib.hid ((Known.new w #[.int .i64 F, .int .i64 S, .slice (some ⟨b1, o1, none⟩) L.length c] 111).below hb9); have GG := Lib.hid (grow_trans (grow_alloc g.out _) hb9); have hk1 := hb9.size; simp only [World.size_alloc] at hk1; clear hb9)
    | (go_at_call 95; (with_reducible refine (LV.out _ GG.out).mono ?_); rintro e w2 ⟨rfl, hb9⟩; replace KK := Lib.hid (KK.out.below hb9); replace GG := Lib.hid (grow_trans GG.out hb9); have hk2 := hb9.size; clear hb9; have k0 := KK.out.cell 0; have k1 := KK.out.cell 1; have k2 := KK.out.cell 2; have kl := KK.out.lt; have bl := Nat.lt_of_lt_of_le hb1 GG.out.size; have g0 := (GG.out.cell (p := ⟨b1, _, none⟩) hb1).trans E0.out))
  go_quiet (fail)
  obtain ⟨X, hX⟩ : ∃ X, (w2.alloc (.cells #[.slice none 0 0] 92)).drewN nq = X := ⟨_, rfl⟩
  have KX := Lib.hid (show Known X w.heap.size #[.int .i64 F, .int .i64 S, .slice (some ⟨b1, o1, none⟩) L.length c] by rw [← hX]; exact (KK.out.alloc _).drewN _)
  have KB := Lib.hid (show Known X w2.heap.size #[.slice none 0 0] by rw [← hX]; exact (Known.new _ _ _).drewN _)
  have GX := Lib.hid (show Below w.heap.size w X by rw [← hX]; exact grow_drewN (grow_alloc GG.out _) _)
  have hXs : w2.heap.size < X.heap.size := KB.out.lt
  rw [hX]
  obtain ⟨b8, hb8⟩ : ∃ b8, w2.heap.size = b8 := ⟨_, rfl⟩
  have hb8' : w.heap.size < b8 := by omega
  rw [hb8] at KB hXs ⊢
  clear hX KK GG k0 k1 k2 kl bl g0 hk2 hb8
  have k0 := KX.out.cell 0
  have k1 := KX.out.cell 1
  have k2 := KX.out.cell 2
  have kl := KX.out.lt
  go_wp2_with (go_at_call 96; (with_reducible refine (CR.out _ GX.out).mono ?_); rintro e w4 ⟨v, rfl, ho, hb9⟩; obtain ⟨rE, cE, rfl, hE⟩ := ev_of_owns ho; have HE := Lib.hid hE; have KY := Lib.hid (KX.out.below hb9); have KC := Lib.hid (KB.out.below hb9); have GY := Lib.hid (grow_trans GX.out hb9); have hb9s := hb9.size; clear hb9 ho hE k0 k1 k2 kl)
  go_loopw [10, 11, 37] (fun v10 v11 v37 wr => WRel ⟨[], F, decide (n < l0)⟩ EVS w4.heap.size b8 w4 v10 v11 v37 wr) (fun _ _ v _ => EVS.length - (intOf v).toNat)
  case atStart => exact ⟨0, Nat.zero_le _, rfl, rfl, rfl, Nat.zero_le _, ⟨KC.out.lt, Nat.le_refl _, KC.out.frozen, _, KC.out.cell 0, World.ownsRow_nil _ _ _ _⟩, Out.refl _ _ _⟩
  case round =>
    obtain ⟨k, hk, rfl, rfl, rfl, hWl, hbox, hout⟩ := hrel
    have BX := Lib.hid hbox
    have OU := Lib.hid hout
    clear hbox hout
    have hb8w := KC.out.lt
    have hle : EVS.length ≤ 4000 := by have := LE.out; omega
    by_cases hlt : k < EVS.length
    · obtain ⟨gE, hg1, hg2, rfl, hc⟩ := HE.out.resolve_left (by intro h; rw [h] at hlt; exact absurd hlt (by simp))
      obtain ⟨q0, q1, q2⟩ := hc k hlt
      have FI := FA.out.at k hlt
      have WS := Lib.hid (wfold_succ ⟨[], F, decide (n < l0)⟩ EVS k hlt)
      have WL := Lib.hid (wstep_length (wfold ⟨[], F, decide (n < l0)⟩ (EVS.take k)) EVS[k])
      rw [← WS.out] at WL
      have egE := OU.out.block gE hg2 (by omega)
      have c0 := (World.cell?_of_block (a := ⟨gE, k * 3, none⟩) egE).trans q0
      have c1 := (World.cell?_of_block (a := ⟨gE, k * 3 + 1, none⟩) egE).trans q1
      have c2 := (World.cell?_of_block (a := ⟨gE, k * 3 + 2, none⟩) egE).trans q2
      clear hc q0 q1 q2
      generalize EVS[k] = ev at c0 c1 c2 FI WS
      obtain ⟨ek, ea, ex⟩ := ev
      simp only at c0 c1 c2
      generalize wfold ⟨[], F, decide (n < l0)⟩ (EVS.take k) = s at FI WS WL hWl BX ⊢
      obtain ⟨sW, sf, su⟩ := s
      obtain ⟨e1, e2, e3⟩ := FI
      simp only at e1 e2 e3 hWl BX
      have hi0 : (0 : Int) ≤ (k : Int) := by omega
      have hi1 : (k : Int) < (EVS.length : Int) := by omega
      rcases e3 with rfl | ⟨rfl, e3, e4⟩
      · have W1 := Lib.hid (show wfold ⟨[], F, decide (n < l0)⟩ (EVS.take (k + 1)) = ⟨sW, ea + 1, true⟩ from WS.out)
        rw [W1.out] at WL
        have wl := WL.out
        simp only at wl
        go_wp2
        go_roundw
        case rel =>
          refine ⟨k + 1, by omega, by go_num, by rw [W1.out], by rw [W1.out], by rw [W1.out]; simp only; omega, by rw [W1.out]; exact BX.out.below (grow_alloc (grow_refl _) _), OU.out.trans (Out.of_below (grow_alloc (grow_refl _) _) BX.out.le)⟩
        case measure => simp [intOf]; omega
      · have W1 := Lib.hid (show wfold ⟨[], F, decide (n < l0)⟩ (EVS.take (k + 1)) = ⟨sW ++ [(sf, ea)], sf, false⟩ by
          rw [WS.out]
          show WSt.mk (putW sW sf ea) sf false = _
          rw [putW_far e4 e3])
        have PU := Lib.hid (fun X (hB : Box X w4.heap.size b8 sW) => put_walk w4.heap.size b8 sW sf ea X hB (by have := LE.out; omega) e4 e3)
        unfold PutPost at PU
        clear WS WL e4
        go_wp2_with (go_at_call 113; (with_reducible refine (PU.out _ (BX.out.below (grow_alloc (grow_refl _) _))).mono ?_); rintro e w5 ⟨rfl, hbx, hou⟩; have BY := Lib.hid hbx; have OY := Lib.hid ((OU.out.trans (Out.of_below (grow_alloc (grow_refl _) _) BX.out.le)).trans hou); clear hbx hou)
        go_roundw
        case rel =>
          refine ⟨k + 1, by omega, by go_num, by rw [W1.out], by rw [W1.out], by rw [W1.out]; simp; omega, by rw [W1.out]; exact BY.out, OY.out⟩
        case measure => simp [intOf]; omega
    · obtain rfl : k = EVS.length := by omega
      rw [List.take_length] at hWl BX ⊢
      generalize wfold ⟨[], F, decide (n < l0)⟩ EVS = s at hWl BX FIN WN ⊢
      obtain ⟨sW, sf, su⟩ := s
      simp only at hWl BX FIN WN
      have GF := Lib.hid (show Below w.heap.size w wr from GY.out.trans (OU.out.below (by omega) (by have := GY.out.size; omega)))
      have KZ := Lib.hid (Known.out KY.out OU.out (by have := KY.out.lt; omega) (by omega))
      cases su
      · have WE := Lib.hid (show WW = sW from WN.out)
        obtain ⟨v, cb, hob⟩ := BX.out.row
        obtain ⟨r9, c9, rfl, hsp⟩ := sp_of_owns hob
        have lb := BX.out.lt
        clear hob
        go_wp2
        go_ret2
        exact ⟨r9, c9, by rw [WE.out]; rfl, by rw [WE.out]; exact hsp, GF.out⟩
      · obtain ⟨t1, t2, t3⟩ := FIN.out rfl
        have WE := Lib.hid (show WW = sW ++ [(sf, last + 1)] from by rw [WN.out]; simp only [if_true]; exact putW_far t3 t1)
        have PU := Lib.hid (fun X (hB : Box X w4.heap.size b8 sW) => put_walk w4.heap.size b8 sW sf (last + 1) X hB (by have := LE.out; omega) t3 t1)
        unfold PutPost at PU
        have k0 := KZ.out.cell 0
        have k1 := KZ.out.cell 1
        have k2 := KZ.out.cell 2
        have kl := KZ.out.lt
        have lb2 : -300000000000000000 ≤ last := by omega
        go_wp2_with (first
          | (go_at_call 107; (with_reducible refine (LA.out _).mono ?_); rintro e w5 ⟨rfl, hb9⟩; have BY := Lib.hid (BX.out.below hb9); have GZ := Lib.hid (grow_trans GF.out hb9); clear hb9 k0 k1 k2 kl)
          | (go_at_call 113; (with_reducible refine (PU.out _ BY.out).mono ?_); rintro e w6 ⟨rfl, hbx, hou⟩; have BZ := Lib.hid hbx; have G9 := Lib.hid (GZ.out.trans (hou.below (by omega) (by have := GY.out.size; omega))); obtain ⟨v, cb, hob⟩ := BZ.out.row; obtain ⟨r9, c9, rfl, hsp⟩ := sp_of_owns hob; have lb3 := BZ.out.lt; clear hob hbx hou))
        go_ret2
        exact ⟨r9, c9, by rw [WE.out]; simp, by rw [WE.out]; exact hsp, G9.out⟩
end Go.Proofs.YtlfpfeidaohjmaaDoor
