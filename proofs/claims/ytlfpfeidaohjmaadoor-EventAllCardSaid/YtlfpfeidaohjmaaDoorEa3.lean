/- The program's peaks and dips, walked. -/
import Derived.Test.YtlfpfeidaohjmaaDoorEa1
import Derived.Test.YtlfpfeidaohjmaaDoorEc2
set_option linter.unusedSimpArgs false
set_option linter.unusedVariables false
namespace Go.Proofs.YtlfpfeidaohjmaaDoor
open Go.RowKit Go.Grow Go.Fl Go.Bg

def TurnPost (F : Int) (S : Nat) (n : Int) (L : List Int) (w : World) (e : Ending) (w' : World) : Prop :=
  ∃ v, e = .returned v ∧ w'.ownsRow w.heap.size 115 3 v (trUp F S n L (L.length - 1)).length (evL (trUp F S n L (L.length - 1))) ∧ Below w.heap.size w w'
def TuRel (F : Int) (S : Nat) (n : Int) (L : List Int) (W : World) (v5 v6 : Value) (wr : World) : Prop :=
  ∃ a : Nat, 1 ≤ a ∧ a ≤ L.length ∧ v6 = .int .i64 a ∧ wr.ownsRow W.heap.size 115 3 v5 (trUp F S n L a).length (evL (trUp F S n L a)) ∧ Below W.heap.size W wr
theorem turn_next {F : Int} {S : Nat} {n : Int} {L : List Int} {a b : Nat} (ha : 1 ≤ a) (hab : a ≤ b) (hb : b < L.length) (h : ∀ j (h : j < L.length), a < j → j ≤ b → L[j] = L.getD a 0) {E : List Ev} (hE : turn1 F S n L a = E) : trUp F S n L (b + 1) = trUp F S n L a ++ E := by
  rw [trUp_run ha b hab hb h, hE]
theorem turn1_val {F : Int} {S : Nat} {n : Int} {L : List Int} {i b : Nat} {x y h : Int} (hp : platE L i = b) (hb : b + 1 < L.length) (h0 : L.getD (i - 1) 0 = y) (h1 : L.getD i 0 = h) (h2 : L.getD (b + 1) 0 = x) (hyh : y ≠ h) :
    turn1 F S n L i = if y < h ∧ x < h ∧ n < h then [⟨3, F + (i : Int) * S, i⟩] else if h < y ∧ h < x ∧ h ≤ n then [⟨4, F + (i : Int) * S, i⟩] else [] := by
  unfold turn1
  rw [hp, h0, h1, h2, if_pos ⟨hb, hyh⟩]
set_option maxRecDepth 100000 in
set_option maxHeartbeats 32000000 in
theorem turns_walk (F : Int) (S : Nat) (r : Option Addr) (c : Nat) (L : List Int) (n : Int) (w : World) (FT : Fit F S L) (hr : InAt w r L) :
    Calls Tryd.prog 97 #[.agg #[.int .i64 F, .int .i64 S, .slice r L.length c], .int .i64 n] w (TurnPost F S n L w) := by
  obtain ⟨i1, hi, hz0, hz1, hz2⟩ := info_parts info_ev
  have HIS := Lib.hid hi
  have HIS0 := Lib.hid hz0
  have HIS1 := Lib.hid hz1
  have HIS2 := Lib.hid hz2
  obtain ⟨p0, p1, p2⟩ := fit_prod FT
  obtain ⟨two, most, f1, f2, s1, l1, hh⟩ := FT
  have WW := Lib.hid (fun (i : Nat) (w1 : World) h0 h1 => when_walk F S r L.length c i w1 f1 f2 h0 h1)
  unfold trk at WW
  unfold lastT at l1
  obtain ⟨P, hP⟩ : ∃ P, ((L.length : Int) - 1) * S = P := ⟨_, rfl⟩
  rw [hP] at p0 p1 l1
  have LE := Lib.hid (fun k => trUp_le F S n L k)
  have TL := Lib.hid (trUp_last (F := F) (S := S) (n := n) two)
  obtain ⟨b1, o1, rfl, hc⟩ := hr.resolve_left (by intro h; rw [h] at two; exact absurd two (by simp))
  have hb1 : b1 < w.heap.size := lt_of_cellS (hc 0 (by omega))
  have CC := Lib.hid hc
  have SL := Lib.hid (show ∀ k m : Nat, k ≤ m → (k : Int) * (S : Int) ≤ (m : Int) * (S : Int) from fun k m h => (step_le (S := (S : Int)) s1 h).1)
  clear hi hz0 hz1 hz2 hr hh hc
  go_enter Tryd.func97, Tryd.ntmps97
  go_wp2
  obtain ⟨W, hW⟩ : ∃ W, w.alloc (.cells #[.int .i64 F, .int .i64 S, .slice (some ⟨b1, o1, none⟩) L.length c] 111) = W := ⟨_, rfl⟩
  have K := Lib.hid (show Known W w.heap.size #[.int .i64 F, .int .i64 S, .slice (some ⟨b1, o1, none⟩) L.length c] by rw [← hW]; exact Known.new _ _ _)
  have GW := Lib.hid (show Below w.heap.size w W by rw [← hW]; exact grow_alloc (grow_refl _) _)
  rw [hW]
  clear hW
  have hbW : b1 < W.heap.size := Nat.lt_of_lt_of_le hb1 GW.out.size
  have CW := Lib.hid (fun k (h : k < L.length) => (GW.out.cell (p := ⟨b1, o1 + k, none⟩) hb1).trans (CC.out k h))
  clear CC
  have GS := Lib.hid (show ∀ k (h : k < L.length), L.getD k 0 = L[k] from fun k h => by simp [h])
  go_loopw [5, 6] (fun v5 v6 wr => TuRel F S n L W v5 v6 wr) (fun _ v _ => L.length - (intOf v).toNat)
  case atStart => exact ⟨1, Nat.le_refl _, by omega, rfl, World.ownsRow_nil _ _ _ _, Below.refl _ _⟩
  case round =>
    obtain ⟨a, ha, hal, rfl, hown, hg⟩ := hrel
    have O := Lib.hid hown
    have G := Lib.hid hg
    clear hown hg
    by_cases hlt : a < L.length - 1
    · have hi1 : (a : Int) < (L.length : Int) - 1 := by omega
      have ha0 : (0 : Int) ≤ (a : Int) := by omega
      have ha1 : (a : Int) < (L.length : Int) := by omega
      have ha2 : a < L.length := by omega
      obtain ⟨w0, hw0⟩ : ∃ w0, wr = w0 := ⟨_, rfl⟩
      rw [hw0] at O G ⊢
      clear hw0
      have K1 := Lib.hid (K.out.below G.out)
      have hW0 := G.out.size
      have hbw0 : b1 < w0.heap.size := by omega
      have CX := Lib.hid (fun k (h : k < L.length) => (G.out.cell (p := ⟨b1, o1 + k, none⟩) hbW).trans (CW.out k h))
      have k2 := K1.out.cell 2
      have kl := K1.out.lt
      go_wp2
      clear k2 kl
      go_loopw [7] (fun v7 wr => ∃ b : Nat, a ≤ b ∧ b < L.length ∧ v7 = .int .i64 b ∧ (∀ j (h : j < L.length), a < j → j ≤ b → L[j] = L.getD a 0) ∧ Below w0.heap.size w0 wr) (fun v _ => L.length - (intOf v).toNat)
      case atStart => exact ⟨a, Nat.le_refl _, ha2, rfl, fun j h h1 h2 => absurd h2 (by omega), Below.refl _ _⟩
      case round =>
        obtain ⟨b, hab, hbl, rfl, hsame, hg⟩ := hrel
        have G1 := Lib.hid hg
        have SM := Lib.hid hsame
        clear hg hsame
        have hG1 := G1.out.size
        have hb0 : (0 : Int) ≤ (b : Int) := by omega
        have K2 := Lib.hid (K1.out.below G1.out)
        have CY := Lib.hid (fun k (h : k < L.length) => (G1.out.cell (p := ⟨b1, o1 + k, none⟩) hbw0).trans (CX.out k h))
        have bl : b1 < wr.heap.size := by omega
        have ga := CY.out a ha2
        obtain ⟨h, hh⟩ : ∃ h, L[a] = h := ⟨_, rfl⟩
        have HH := Lib.hid (show L.getD a 0 = h by rw [GS.out a ha2]; exact hh)
        rw [hh] at ga
        clear hh
        have k0 := K2.out.cell 0
        have k1 := K2.out.cell 1
        have k2 := K2.out.cell 2
        have kl := K2.out.lt
        by_cases hb2 : b + 1 < L.length
        · have hb3 : (b : Int) < (L.length : Int) - 1 := by omega
          have d0 : decide ((b : Int) < (L.length : Int) - 1) = true := decide_eq_true hb3
          have hb4 : (b : Int) + 1 < (L.length : Int) := by omega
          have gb := CY.out (b + 1) hb2
          obtain ⟨x, hx⟩ : ∃ x, L[b + 1] = x := ⟨_, rfl⟩
          have HX := Lib.hid hx
          have HX2 := Lib.hid (show L.getD (b + 1) 0 = x by rw [GS.out _ hb2]; exact hx)
          rw [hx] at gb
          clear hx
          by_cases hxh : x = h
          · subst hxh
            go_wp2
            go_quiet (fail)
            go_wp2
            go_roundw
            case rel =>
              refine ⟨b + 1, by omega, by omega, by go_num, fun j h1 h2 h3 => ?_, grow_drewN G1.out _⟩
              by_cases h4 : j = b + 1
              · subst h4; rw [HX.out, HH.out]
              · exact SM.out j h1 h2 (by omega)
            case measure => simp [intOf]; omega
          · have PL := Lib.hid (show platE L a = b from platE_eq hab hbl SM.out (fun _ => by rw [HX.out, HH.out]; exact hxh))
            have d1 : decide (x = h) = false := decide_eq_false hxh
            obtain ⟨j, hj⟩ : ∃ j, j + 1 = a := ⟨a - 1, by omega⟩
            have hjl : j < L.length := by omega
            have e4 : (a : Int) - 1 = (j : Int) := by omega
            have hj0 : (0 : Int) ≤ (j : Int) := by omega
            have hj1 : (j : Int) < (L.length : Int) := by omega
            have gj := CY.out j hjl
            obtain ⟨y, hy⟩ : ∃ y, L[j] = y := ⟨_, rfl⟩
            have HY := Lib.hid (show L.getD (a - 1) 0 = y by rw [show a - 1 = j by omega, GS.out j hjl]; exact hy)
            rw [hy] at gj
            clear hy
            obtain ⟨pk, hpk⟩ : ∃ pk, (a : Int) * (S : Int) = pk := ⟨_, rfl⟩
            have q0 : 0 ≤ pk := by rw [← hpk]; exact Int.mul_nonneg (by omega) (by omega)
            have q1 : pk ≤ P := by
              have h := SL.out a (L.length - 1) (by omega)
              rw [show ((L.length - 1 : Nat) : Int) = (L.length : Int) - 1 by omega, hP, hpk] at h
              exact h
            have WK := Lib.hid (fun w1 => WW.out a w1 (by rw [hpk]; exact q0) (by rw [hpk]; omega))
            rw [hpk] at WK
            have PKH := Lib.hid hpk
            clear hpk
            go_wp2
            go_quiet (fail)
            have KK := Lib.hid (K2.out.below (grow_drewN (grow_refl wr) nq))
            have GG := Lib.hid (grow_trans (G.out.trans (G1.out.mono hW0)) (grow_drewN (grow_refl wr) nq))
            have OO := Lib.hid (ownsRow_belowS (ownsRow_belowS O.out G1.out) (grow_drewN (grow_refl wr) nq))
            have GA := Lib.hid (((grow_drewN (grow_refl wr) nq).cell (p := ⟨b1, o1 + a, none⟩) bl).trans ga)
            have GB := Lib.hid (((grow_drewN (grow_refl wr) nq).cell (p := ⟨b1, o1 + (b + 1), none⟩) bl).trans gb)
            have GJ := Lib.hid (((grow_drewN (grow_refl wr) nq).cell (p := ⟨b1, o1 + j, none⟩) bl).trans gj)
            clear K2 G1 G O k0 k1 k2 kl ga gb gj CY bl
            generalize wr.drewN nq = X at KK GG OO GA GB GJ ⊢
            have bl : b1 < X.heap.size := by have := GG.out.size; omega
            have k0 := KK.out.cell 0
            have k1 := KK.out.cell 1
            have k2 := KK.out.cell 2
            have kl := KK.out.lt
            have ga := GA.out
            have gb := GB.out
            have gj := GJ.out
            by_cases hyh : y = h
            · have TN := Lib.hid (show turn1 F S n L a = [] from turn1_same (by rw [HY.out, HH.out]; exact hyh))
              subst hyh
              have hgl := GG.out.size
              go_wp2
              go_roundw
              case rel =>
                refine ⟨b + 1, by omega, by omega, by go_num, ?_, GG.out⟩
                rw [turn_next ha hab hbl SM.out (E := []) TN.out, List.append_nil]
                exact OO.out
              case measure => simp [intOf]; omega
            · have TVH := Lib.hid (turn1_val (F := F) (S := S) (n := n) PL.out hb2 HY.out HH.out HX2.out hyh)
              have d5 : decide (y = h) = false := decide_eq_false hyh
              have LR := hyh
              by_cases hy1 : y < h
              · by_cases hx1 : x < h
                · by_cases hn1 : n < h
                  · have d6 : decide (y < h) = true := decide_eq_true (by omega)
                    have d7 : decide (x < h) = true := decide_eq_true (by omega)
                    have d8 : decide (n < h) = true := decide_eq_true (by omega)
                    go_wp2
                    go_quiet (fail)
                    have KK2 := Lib.hid (KK.out.below (grow_drewN (grow_refl X) nq))
                    have GG2 := Lib.hid (grow_trans GG.out (grow_drewN (grow_refl X) nq))
                    have OO2 := Lib.hid (ownsRow_belowS OO.out (grow_drewN (grow_refl X) nq))
                    clear KK GG OO GA GB GJ k0 k1 k2 kl ga gb gj bl
                    generalize X.drewN nq = Y at KK2 GG2 OO2 ⊢
                    have KK := KK2
                    have GG := GG2
                    have OO := OO2
                    clear KK2 GG2 OO2
                    have k0 := KK.out.cell 0
                    have k1 := KK.out.cell 1
                    have k2 := KK.out.cell 2
                    have kl := KK.out.lt
                    have TV := Lib.hid (TVH.out.trans (if_pos ⟨by omega, by omega, by omega⟩))
                    have C3 := Lib.hid (show (trUp F S n L a).length + 1 ≤ maxLen by have := LE.out a; unfold maxLen; omega)
                    have C4 := Lib.hid (show ((trUp F S n L a).length + 1) * 24 ≤ 140737488355328 by have := LE.out a; omega)
                    go_wp2_with (first
                      | (go_at_call 109; (with_reducible refine (WK.out _).mono ?_); rintro e w2 ⟨rfl, hb9⟩; replace KK := Lib.hid (KK.out.below hb9); replace GG := Lib.hid (grow_trans GG.out hb9); replace OO := Lib.hid (ownsRow_belowS OO.out hb9); clear hb9 k0 k1 k2 kl; have k0 := KK.out.cell 0; have k1 := KK.out.cell 1; have k2 := KK.out.cell 2; have kl := KK.out.lt; have hz2 := GG.out.size)
                      | (at_builtin; refine wpList_append_own _ rfl _ _ 109 rfl W.heap.size 115 i1 (.agg #[.int .i64 0, .int .i64 0, .int .i64 0]) 3 24 Tryd.underlying109 HIS.out HIS0.out HIS1.out HIS2.out rfl (by decide) _ _ _ rfl (OO.out.alloc _) ⟨w2.heap.size, 0, none⟩ 1 1 [.int .i64 3, .int .i64 (F + pk), .int .i64 a] rfl rfl (news_ev w2 [.int .i64 3, .int .i64 (F + pk), .int .i64 a] 115) (ev_cell _ _ _) C3.out C4.out (by simp; omega) ?_))
                    intro v' w6 hown' hgr' _
                    have HO2 := Lib.hid hown'
                    have HG2 := Lib.hid (below_grownS (GG.out.alloc (by omega) _) (by simp; omega) hgr' (fun k hk => (OO.out.lt k hk).1))
                    clear hown' hgr'
                    go_wp2
                    go_roundw
                    case rel =>
                      refine ⟨b + 1, by omega, by omega, by go_num, ?_, HG2.out⟩
                      rw [turn_next ha hab hbl SM.out TV.out, List.length_append, evL_append, PKH.out]
                      exact HO2.out
                    case measure => simp [intOf]; omega
                  · have d6 : decide (y < h) = true := decide_eq_true (by omega)
                    have d7 : decide (x < h) = true := decide_eq_true (by omega)
                    have d8 : decide (n < h) = false := decide_eq_false (by omega)
                    go_wp2
                    go_quiet (fail)
                    have KK2 := Lib.hid (KK.out.below (grow_drewN (grow_refl X) nq))
                    have GG2 := Lib.hid (grow_trans GG.out (grow_drewN (grow_refl X) nq))
                    have OO2 := Lib.hid (ownsRow_belowS OO.out (grow_drewN (grow_refl X) nq))
                    clear KK GG OO GA GB GJ k0 k1 k2 kl ga gb gj bl
                    generalize X.drewN nq = Y at KK2 GG2 OO2 ⊢
                    have KK := KK2
                    have GG := GG2
                    have OO := OO2
                    clear KK2 GG2 OO2
                    have k0 := KK.out.cell 0
                    have k1 := KK.out.cell 1
                    have k2 := KK.out.cell 2
                    have kl := KK.out.lt
                    have hgl := GG.out.size
                    go_wp2
                    go_roundw
                    case rel =>
                      refine ⟨b + 1, by omega, by omega, by go_num, ?_, GG.out⟩
                      rw [turn_next ha hab hbl SM.out (E := []) (TVH.out.trans ((if_neg (by omega)).trans (if_neg (by omega)))), List.append_nil]
                      exact OO.out
                    case measure => simp [intOf]; omega
                · have d6 : decide (y < h) = true := decide_eq_true (by omega)
                  have d7 : decide (x < h) = false := decide_eq_false (by omega)
                  go_wp2
                  go_quiet (fail)
                  have KK2 := Lib.hid (KK.out.below (grow_drewN (grow_refl X) nq))
                  have GG2 := Lib.hid (grow_trans GG.out (grow_drewN (grow_refl X) nq))
                  have OO2 := Lib.hid (ownsRow_belowS OO.out (grow_drewN (grow_refl X) nq))
                  clear KK GG OO GA GB GJ k0 k1 k2 kl ga gb gj bl
                  generalize X.drewN nq = Y at KK2 GG2 OO2 ⊢
                  have KK := KK2
                  have GG := GG2
                  have OO := OO2
                  clear KK2 GG2 OO2
                  have k0 := KK.out.cell 0
                  have k1 := KK.out.cell 1
                  have k2 := KK.out.cell 2
                  have kl := KK.out.lt
                  have hgl := GG.out.size
                  go_wp2
                  go_roundw
                  case rel =>
                    refine ⟨b + 1, by omega, by omega, by go_num, ?_, GG.out⟩
                    rw [turn_next ha hab hbl SM.out (E := []) (TVH.out.trans ((if_neg (by omega)).trans (if_neg (by omega)))), List.append_nil]
                    exact OO.out
                  case measure => simp [intOf]; omega
              · by_cases hx1 : x < h
                · have d6 : decide (y < h) = false := decide_eq_false (by omega)
                  have d7 : decide (x < h) = true := decide_eq_true (by omega)
                  go_wp2
                  go_quiet (fail)
                  have KK2 := Lib.hid (KK.out.below (grow_drewN (grow_refl X) nq))
                  have GG2 := Lib.hid (grow_trans GG.out (grow_drewN (grow_refl X) nq))
                  have OO2 := Lib.hid (ownsRow_belowS OO.out (grow_drewN (grow_refl X) nq))
                  clear KK GG OO GA GB GJ k0 k1 k2 kl ga gb gj bl
                  generalize X.drewN nq = Y at KK2 GG2 OO2 ⊢
                  have KK := KK2
                  have GG := GG2
                  have OO := OO2
                  clear KK2 GG2 OO2
                  have k0 := KK.out.cell 0
                  have k1 := KK.out.cell 1
                  have k2 := KK.out.cell 2
                  have kl := KK.out.lt
                  have hgl := GG.out.size
                  go_wp2
                  go_roundw
                  case rel =>
                    refine ⟨b + 1, by omega, by omega, by go_num, ?_, GG.out⟩
                    rw [turn_next ha hab hbl SM.out (E := []) (TVH.out.trans ((if_neg (by omega)).trans (if_neg (by omega)))), List.append_nil]
                    exact OO.out
                  case measure => simp [intOf]; omega
                · by_cases hn1 : h ≤ n
                  · have d9 : decide (h ≤ n) = true := decide_eq_true hn1
                    have d6 : decide (y < h) = false := decide_eq_false (by omega)
                    have d7 : decide (x < h) = false := decide_eq_false (by omega)
                    have d8 : decide (n < h) = false := decide_eq_false (by omega)
                    go_wp2
                    go_quiet (fail)
                    have KK2 := Lib.hid (KK.out.below (grow_drewN (grow_refl X) nq))
                    have GG2 := Lib.hid (grow_trans GG.out (grow_drewN (grow_refl X) nq))
                    have OO2 := Lib.hid (ownsRow_belowS OO.out (grow_drewN (grow_refl X) nq))
                    clear KK GG OO GA GB GJ k0 k1 k2 kl ga gb gj bl
                    generalize X.drewN nq = Y at KK2 GG2 OO2 ⊢
                    have KK := KK2
                    have GG := GG2
                    have OO := OO2
                    clear KK2 GG2 OO2
                    have k0 := KK.out.cell 0
                    have k1 := KK.out.cell 1
                    have k2 := KK.out.cell 2
                    have kl := KK.out.lt
                    have TV := Lib.hid (TVH.out.trans ((if_neg (by omega)).trans (if_pos ⟨by omega, by omega, by omega⟩)))
                    have C3 := Lib.hid (show (trUp F S n L a).length + 1 ≤ maxLen by have := LE.out a; unfold maxLen; omega)
                    have C4 := Lib.hid (show ((trUp F S n L a).length + 1) * 24 ≤ 140737488355328 by have := LE.out a; omega)
                    go_wp2_with (first
                      | (go_at_call 109; (with_reducible refine (WK.out _).mono ?_); rintro e w2 ⟨rfl, hb9⟩; replace KK := Lib.hid (KK.out.below hb9); replace GG := Lib.hid (grow_trans GG.out hb9); replace OO := Lib.hid (ownsRow_belowS OO.out hb9); clear hb9 k0 k1 k2 kl; have k0 := KK.out.cell 0; have k1 := KK.out.cell 1; have k2 := KK.out.cell 2; have kl := KK.out.lt; have hz2 := GG.out.size)
                      | (at_builtin; refine wpList_append_own _ rfl _ _ 109 rfl W.heap.size 115 i1 (.agg #[.int .i64 0, .int .i64 0, .int .i64 0]) 3 24 Tryd.underlying109 HIS.out HIS0.out HIS1.out HIS2.out rfl (by decide) _ _ _ rfl (OO.out.alloc _) ⟨w2.heap.size, 0, none⟩ 1 1 [.int .i64 4, .int .i64 (F + pk), .int .i64 a] rfl rfl (news_ev w2 [.int .i64 4, .int .i64 (F + pk), .int .i64 a] 115) (ev_cell _ _ _) C3.out C4.out (by simp; omega) ?_))
                    intro v' w6 hown' hgr' _
                    have HO2 := Lib.hid hown'
                    have HG2 := Lib.hid (below_grownS (GG.out.alloc (by omega) _) (by simp; omega) hgr' (fun k hk => (OO.out.lt k hk).1))
                    clear hown' hgr'
                    go_wp2
                    go_roundw
                    case rel =>
                      refine ⟨b + 1, by omega, by omega, by go_num, ?_, HG2.out⟩
                      rw [turn_next ha hab hbl SM.out TV.out, List.length_append, evL_append, PKH.out]
                      exact HO2.out
                    case measure => simp [intOf]; omega
                  · have d9 : decide (h ≤ n) = false := decide_eq_false hn1
                    have d6 : decide (y < h) = false := decide_eq_false (by omega)
                    have d7 : decide (x < h) = false := decide_eq_false (by omega)
                    have d8 : decide (n < h) = true := decide_eq_true (by omega)
                    go_wp2
                    go_quiet (fail)
                    have KK2 := Lib.hid (KK.out.below (grow_drewN (grow_refl X) nq))
                    have GG2 := Lib.hid (grow_trans GG.out (grow_drewN (grow_refl X) nq))
                    have OO2 := Lib.hid (ownsRow_belowS OO.out (grow_drewN (grow_refl X) nq))
                    clear KK GG OO GA GB GJ k0 k1 k2 kl ga gb gj bl
                    generalize X.drewN nq = Y at KK2 GG2 OO2 ⊢
                    have KK := KK2
                    have GG := GG2
                    have OO := OO2
                    clear KK2 GG2 OO2
                    have k0 := KK.out.cell 0
                    have k1 := KK.out.cell 1
                    have k2 := KK.out.cell 2
                    have kl := KK.out.lt
                    have hgl := GG.out.size
                    go_wp2
                    go_roundw
                    case rel =>
                      refine ⟨b + 1, by omega, by omega, by go_num, ?_, GG.out⟩
                      rw [turn_next ha hab hbl SM.out (E := []) (TVH.out.trans ((if_neg (by omega)).trans (if_neg (by omega)))), List.append_nil]
                      exact OO.out
                    case measure => simp [intOf]; omega
        · have hbe : b + 1 = L.length := by omega
          have hb3 : ¬ (b : Int) < (L.length : Int) - 1 := by omega
          have d0 : decide ((b : Int) < (L.length : Int) - 1) = false := decide_eq_false hb3
          have PL := Lib.hid (show platE L a = b from platE_eq hab hbl SM.out (fun h => absurd h hb2))
          have TN := Lib.hid (show turn1 F S n L a = [] from turn1_end (by rw [PL.out]; omega))
          go_wp2
          go_quiet (fail)
          have KK := Lib.hid (K2.out.below (grow_drewN (grow_refl wr) nq))
          have GG := Lib.hid (grow_trans (G.out.trans (G1.out.mono hW0)) (grow_drewN (grow_refl wr) nq))
          have OO := Lib.hid (ownsRow_belowS (ownsRow_belowS O.out G1.out) (grow_drewN (grow_refl wr) nq))
          have GA := Lib.hid (((grow_drewN (grow_refl wr) nq).cell (p := ⟨b1, o1 + a, none⟩) bl).trans ga)
          clear K2 G1 G O k0 k1 k2 kl ga CY bl
          generalize wr.drewN nq = X at KK GG OO GA ⊢
          have bl : b1 < X.heap.size := by have := GG.out.size; omega
          have k0 := KK.out.cell 0
          have k1 := KK.out.cell 1
          have k2 := KK.out.cell 2
          have kl := KK.out.lt
          have ga := GA.out
          have hgl := GG.out.size
          go_wp2
          go_roundw
          case rel =>
            refine ⟨b + 1, by omega, by omega, by go_num, ?_, GG.out⟩
            rw [turn_next ha hab hbl SM.out (E := []) TN.out, List.append_nil]
            exact OO.out
          case measure => simp [intOf]; omega
    · have hi1 : ¬ (a : Int) < (L.length : Int) - 1 := by omega
      have K1 := Lib.hid (K.out.below G.out)
      have k2 := K1.out.cell 2
      have kl := K1.out.lt
      go_wp2
      go_ret
      refine ⟨_, rfl, ?_, GW.out.trans (G.out.mono GW.out.size)⟩
      have e1 : trUp F S n L a = trUp F S n L (L.length - 1) := by
        by_cases h : a = L.length
        · rw [h, TL.out]
        · rw [show a = L.length - 1 by omega]
      rw [← e1]
      exact owns_base O.out GW.out.size
end Go.Proofs.YtlfpfeidaohjmaaDoor
