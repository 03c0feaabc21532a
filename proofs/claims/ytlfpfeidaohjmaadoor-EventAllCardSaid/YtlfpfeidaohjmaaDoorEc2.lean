/- The program's tracks: where a level is crossed, walked. -/
import Derived.Test.YtlfpfeidaohjmaaDoorEc1
set_option linter.unusedSimpArgs false
set_option linter.unusedVariables false
namespace Go.Proofs.YtlfpfeidaohjmaaDoor
open Go.RowKit Go.Grow Go.Fl Go.Bg

theorem evUp_succ (F : Int) (S : Nat) (n : Int) (L : List Int) (k : Nat) (h : k + 1 < L.length) : evUp F S n L (k + 1) = evUp F S n L k ++ ev1 F S n L[k] L[k + 1] k := by
  show evUp F S n L k ++ ev1 F S n (L.getD k 0) (L.getD (k + 1) 0) k = _
  rw [show L.getD k 0 = L[k] by simp [show k < L.length by omega], show L.getD (k + 1) 0 = L[k + 1] by simp [h]]
theorem owns_base {w : World} {base base' : Nat} {e : TypeId} {sz : Nat} {v : Value} {n : Nat} {xs : List Value} (h : w.ownsRow base e sz v n xs) (hb : base' ≤ base) : w.ownsRow base' e sz v n xs := by
  obtain ⟨hl, h | ⟨g, cap, cur, hv, hg, r⟩⟩ := h
  · exact ⟨hl, .inl h⟩
  · exact ⟨hl, .inr ⟨g, cap, cur, hv, Nat.le_trans hb hg, r⟩⟩
theorem quo_le {S x c : Nat} (h : x ≤ c) (hc : 0 < c) : S * x / c ≤ S := by
  refine Nat.div_le_of_le_mul ?_
  rw [Nat.mul_comm c]
  exact Nat.mul_le_mul_left _ h
set_option maxRecDepth 100000 in
set_option maxHeartbeats 16000000 in
theorem crossings_walk (F : Int) (S : Nat) (r : Option Addr) (c : Nat) (L : List Int) (n : Int) (w : World) (FT : Fit F S L) (hr : InAt w r L) (hn1 : -1099511627776 ≤ n) (hn2 : n ≤ 1099511627776) :
    Calls Tryd.prog 96 #[.agg #[.int .i64 F, .int .i64 S, .slice r L.length c], .int .i64 n] w (CrossPost F S n L w) := by
  obtain ⟨i1, hi, hz0, hz1, hz2⟩ := info_parts info_ev
  have HIS := Lib.hid hi
  have HIS0 := Lib.hid hz0
  have HIS1 := Lib.hid hz1
  have HIS2 := Lib.hid hz2
  obtain ⟨p0, p1, p2⟩ := fit_prod FT
  obtain ⟨two, most, f1, f2, s1, l1, hh⟩ := FT
  have HH := Lib.hid hh
  have R := Lib.hid hr
  have WW := Lib.hid (fun (i : Nat) (w1 : World) h0 h1 => when_walk F S r L.length c i w1 f1 f2 h0 h1)
  unfold trk at WW
  unfold lastT at l1
  obtain ⟨P, hP⟩ : ∃ P, ((L.length : Int) - 1) * S = P := ⟨_, rfl⟩
  rw [hP] at p0 p1 l1
  clear hi hz0 hz1 hz2 hr hh
  go_enter Tryd.func96, Tryd.ntmps96
  go_wp2
  obtain ⟨W, hW⟩ : ∃ W, w.alloc (.cells #[.int .i64 F, .int .i64 S, .slice r L.length c] 111) = W := ⟨_, rfl⟩
  have K := Lib.hid (show Known W w.heap.size #[.int .i64 F, .int .i64 S, .slice r L.length c] by rw [← hW]; exact Known.new _ _ _)
  have GW := Lib.hid (show Below w.heap.size w W by rw [← hW]; exact grow_alloc (grow_refl _) _)
  rw [hW]
  clear hW
  go_loopw [5, 18] (fun v5 v18 wr => CrRel F S n L W.heap.size W v5 v18 wr) (fun _ v _ => L.length - (intOf v).toNat)
  case atStart => exact ⟨0, Nat.zero_le _, rfl, World.ownsRow_nil _ _ _ _, Below.refl _ _⟩
  case round =>
    obtain ⟨k, hk, rfl, hown, hg⟩ := hrel
    have O := Lib.hid hown
    have G := Lib.hid hg
    have K1 := Lib.hid (K.out.below G.out)
    clear hown hg
    by_cases hlt : k < L.length - 1
    · have hk1 : k < L.length := by omega
      have hk2 : k + 1 < L.length := by omega
      obtain ⟨b1, o1, rfl, hc⟩ := R.out.resolve_left (by intro h; rw [h] at two; exact absurd two (by simp))
      have hb1 : b1 < w.heap.size := lt_of_cellS (hc k hk1)
      have E0 := Lib.hid (hc k hk1)
      have E1 := Lib.hid (hc (k + 1) hk2)
      obtain ⟨a1, a2⟩ := HH.out _ (List.getElem_mem hk1)
      obtain ⟨b2, b3⟩ := HH.out _ (List.getElem_mem hk2)
      have EV := Lib.hid (evUp_succ F S n L k hk2)
      have LE := Lib.hid (evUp_le F S n L k)
      clear hc
      generalize L[k] = a at E0 a1 a2 EV
      generalize L[k + 1] = b at E1 b2 b3 EV
      generalize evUp F S n L k = J at O EV LE
      obtain ⟨pk, hpk⟩ : ∃ pk, (k : Int) * (S : Int) = pk := ⟨_, rfl⟩
      have q0 : 0 ≤ pk := by rw [← hpk]; exact Int.mul_nonneg (by omega) (by omega)
      have q1 : pk + S ≤ P := by
        have h := (step_le (S := (S : Int)) s1 (show k + 1 ≤ L.length - 1 by omega)).1
        rw [show ((L.length - 1 : Nat) : Int) = (L.length : Int) - 1 by omega, hP, show ((k + 1 : Nat) : Int) = (k : Int) + 1 by omega, Int.add_mul, hpk] at h
        omega
      have WK := Lib.hid (fun w1 => WW.out k w1 (by rw [hpk]; exact q0) (by rw [hpk]; omega))
      rw [hpk] at WK
      have bl1 : b1 < W.heap.size := Nat.lt_of_lt_of_le hb1 GW.out.size
      have bl := Nat.lt_of_lt_of_le bl1 G.out.size
      have g0 := ((G.out.cell (p := ⟨b1, _, none⟩) bl1).trans (GW.out.cell (p := ⟨b1, _, none⟩) hb1)).trans E0.out
      have g1 := ((G.out.cell (p := ⟨b1, _, none⟩) bl1).trans (GW.out.cell (p := ⟨b1, _, none⟩) hb1)).trans E1.out
      have k0 := K1.out.cell 0
      have k1 := K1.out.cell 1
      have k2 := K1.out.cell 2
      have kl := K1.out.lt
      have hi0 : (0 : Int) ≤ (k : Int) := by omega
      have hi1 : (k : Int) < (L.length : Int) := by omega
      have hi2 : (k : Int) + 1 < (L.length : Int) := by omega
      have hi3 : (k : Int) < (L.length : Int) - 1 := by omega
      have C3 := Lib.hid (show J.length + 1 ≤ maxLen by have := LE.out; unfold maxLen; omega)
      have C4 := Lib.hid (show (J.length + 1) * 24 ≤ 140737488355328 by have := LE.out; omega)
      have hzW := G.out.size
      have hzw := GW.out.size
      go_wp2
      go_quiet (fail)
      have KK := Lib.hid (K1.out.below (grow_drewN (grow_refl wr) nq))
      have GG := Lib.hid (grow_trans G.out (grow_drewN (grow_refl wr) nq))
      have OO := Lib.hid (ownsRow_belowS O.out (grow_drewN (grow_refl wr) nq))
      clear K1 G O k0 k1 k2 kl g0 g1 bl
      generalize wr.drewN nq = X at KK GG OO ⊢
      have k0 := KK.out.cell 0
      have k1 := KK.out.cell 1
      have k2 := KK.out.cell 2
      have kl := KK.out.lt
      have hzX := GG.out.size
      by_cases c1 : a ≤ n ∧ n < b
      · obtain ⟨m, hm⟩ : ∃ m : Nat, n - a = (m : Int) := ⟨(n - a).toNat, by omega⟩
        obtain ⟨cc, hcc⟩ : ∃ cc : Nat, b - a = (cc : Int) := ⟨(b - a).toNat, by omega⟩
        have hql : S * m / cc ≤ S := quo_le (by omega) (by omega)
        have OV := Lib.hid (fun w1 => over_walk S m cc w1 (by omega) (by omega) (by omega) (by omega) (by omega))
        have E2 := Lib.hid (show ev1 F S n a b k = [⟨1, F + pk + ((S * m / cc : Nat) : Int), k⟩] by unfold ev1; rw [if_pos c1, hm, hcc, Int.toNat_natCast, Int.toNat_natCast, hpk])
        generalize S * m / cc = q at OV E2 hql
        generalize decide (0 < S * m % cc) = rr at OV
        obtain ⟨c1, c2⟩ := c1
        go_wp2_with (first
          | (go_at_call 108; (with_reducible refine (OV.out _).mono ?_); rintro e w1 ⟨rfl, hb9⟩; replace KK := Lib.hid (KK.out.below hb9); replace GG := Lib.hid (grow_trans GG.out hb9); replace OO := Lib.hid (ownsRow_belowS OO.out hb9); clear hb9 k0 k1 k2 kl; have k0 := KK.out.cell 0; have k1 := KK.out.cell 1; have k2 := KK.out.cell 2; have kl := KK.out.lt)
          | (go_at_call 109; (with_reducible refine (WK.out _).mono ?_); rintro e w2 ⟨rfl, hb9⟩; replace KK := Lib.hid (KK.out.below hb9); replace GG := Lib.hid (grow_trans GG.out hb9); replace OO := Lib.hid (ownsRow_belowS OO.out hb9); clear hb9 k0 k1 k2 kl; have k0 := KK.out.cell 0; have k1 := KK.out.cell 1; have k2 := KK.out.cell 2; have kl := KK.out.lt; have hz2 := GG.out.size)
          | (at_builtin; refine wpList_append_own _ rfl _ _ 109 rfl W.heap.size 115 i1 (.agg #[.int .i64 0, .int .i64 0, .int .i64 0]) 3 24 Tryd.underlying109 HIS.out HIS0.out HIS1.out HIS2.out rfl (by decide) _ _ _ rfl (OO.out.alloc _) ⟨w2.heap.size, 0, none⟩ 1 1 [.int .i64 1, .int .i64 (F + pk + (q : Int)), .int .i64 k] rfl rfl (news_ev w2 [.int .i64 1, .int .i64 (F + pk + (q : Int)), .int .i64 k] 115) (ev_cell _ _ _) C3.out C4.out (by simp; omega) ?_))
        intro v' w6 hown' hgr' _
        have HO2 := Lib.hid hown'
        have HG2 := Lib.hid hgr'
        clear hown' hgr'
        go_wp2
        go_roundw
        case rel =>
          refine ⟨k + 1, by omega, by go_num, ?_, below_grownS (GG.out.alloc (by omega) _) (by simp; omega) HG2.out (fun k hk => (OO.out.lt k hk).1)⟩
          rw [EV.out, E2.out, evL_append, List.length_append]
          exact HO2.out
        case measure => simp [intOf]; omega
      · by_cases c2 : n < a ∧ b ≤ n
        · obtain ⟨m, hm⟩ : ∃ m : Nat, a - n = (m : Int) := ⟨(a - n).toNat, by omega⟩
          obtain ⟨cc, hcc⟩ : ∃ cc : Nat, a - b = (cc : Int) := ⟨(a - b).toNat, by omega⟩
          have hql : S * m / cc ≤ S := quo_le (by omega) (by omega)
          have hqs : S * m % cc ≠ 0 → S * m / cc < S := fun h => by
            have h1 := Nat.div_add_mod (S * m) cc
            have h2 : S * m ≤ S * cc := Nat.mul_le_mul_left _ (by omega)
            have h3 : cc * (S * m / cc) < cc * S := by rw [Nat.mul_comm cc S]; omega
            exact Nat.lt_of_mul_lt_mul_left h3
          have OV := Lib.hid (fun w1 => over_walk S m cc w1 (by omega) (by omega) (by omega) (by omega) (by omega))
          have E2 := Lib.hid (show ev1 F S n a b k = [⟨2, F + pk + ((if S * m % cc = 0 then S * m / cc else S * m / cc + 1 : Nat) : Int), if S * m % cc = 0 ∧ S * m / cc = S then (k : Int) + 1 else k⟩] by unfold ev1 upQ; rw [if_neg c1, if_pos c2, hm, hcc, Int.toNat_natCast, Int.toNat_natCast, hpk])
          generalize S * m / cc = q at OV E2 hql hqs
          generalize S * m % cc = mm at OV E2 hqs
          obtain ⟨c2, c3⟩ := c2
          have c4 : ¬ a ≤ n := by omega
          by_cases hmm : mm = 0
          · subst hmm
            rw [show decide (0 < 0) = false from rfl] at OV
            rw [if_pos rfl] at E2
            by_cases hqS : q = S
            · subst hqS
              rw [if_pos ⟨rfl, rfl⟩] at E2
              go_wp2_with (first
                | (go_at_call 108; (with_reducible refine (OV.out _).mono ?_); rintro e w1 ⟨rfl, hb9⟩; replace KK := Lib.hid (KK.out.below hb9); replace GG := Lib.hid (grow_trans GG.out hb9); replace OO := Lib.hid (ownsRow_belowS OO.out hb9); clear hb9 k0 k1 k2 kl; have k0 := KK.out.cell 0; have k1 := KK.out.cell 1; have k2 := KK.out.cell 2; have kl := KK.out.lt)
                | (go_at_call 109; (with_reducible refine (WK.out _).mono ?_); rintro e w2 ⟨rfl, hb9⟩; replace KK := Lib.hid (KK.out.below hb9); replace GG := Lib.hid (grow_trans GG.out hb9); replace OO := Lib.hid (ownsRow_belowS OO.out hb9); clear hb9 k0 k1 k2 kl; have k0 := KK.out.cell 0; have k1 := KK.out.cell 1; have k2 := KK.out.cell 2; have kl := KK.out.lt; have hz2 := GG.out.size)
                | (at_builtin; refine wpList_append_own _ rfl _ _ 109 rfl W.heap.size 115 i1 (.agg #[.int .i64 0, .int .i64 0, .int .i64 0]) 3 24 Tryd.underlying109 HIS.out HIS0.out HIS1.out HIS2.out rfl (by decide) _ _ _ rfl ((OO.out.alloc _).alloc _) ⟨w2.heap.size + 1, 0, none⟩ 1 1 [.int .i64 2, .int .i64 (F + pk + (q : Int)), .int .i64 ((k : Int) + 1)] rfl rfl (by have := news_ev (w2.alloc (.cells #[.int .i64 2, .int .i64 (F + pk + (q : Int)), .int .i64 ((k : Int) + 1)] 115)) [.int .i64 2, .int .i64 (F + pk + (q : Int)), .int .i64 ((k : Int) + 1)] 115; simpa using this) (ev_cell _ _ _) C3.out C4.out (by simp; omega) ?_))
              intro v' w6 hown' hgr' _
              have HO2 := Lib.hid hown'
              have HG2 := Lib.hid hgr'
              clear hown' hgr'
              go_wp2
              go_roundw
              case rel =>
                refine ⟨k + 1, by omega, by go_num, ?_, below_grownS ((GG.out.alloc (by omega) _).alloc (by simp; omega) _) (by simp; omega) HG2.out (fun k hk => (OO.out.lt k hk).1)⟩
                rw [EV.out, E2.out, evL_append, List.length_append]
                exact HO2.out
              case measure => simp [intOf]; omega
            · rw [if_neg (fun h => hqS h.2)] at E2
              have hqS2 : ¬ ((q : Int) = (S : Int)) := by omega
              go_wp2_with (first
                | (go_at_call 108; (with_reducible refine (OV.out _).mono ?_); rintro e w1 ⟨rfl, hb9⟩; replace KK := Lib.hid (KK.out.below hb9); replace GG := Lib.hid (grow_trans GG.out hb9); replace OO := Lib.hid (ownsRow_belowS OO.out hb9); clear hb9 k0 k1 k2 kl; have k0 := KK.out.cell 0; have k1 := KK.out.cell 1; have k2 := KK.out.cell 2; have kl := KK.out.lt)
                | (go_at_call 109; (with_reducible refine (WK.out _).mono ?_); rintro e w2 ⟨rfl, hb9⟩; replace KK := Lib.hid (KK.out.below hb9); replace GG := Lib.hid (grow_trans GG.out hb9); replace OO := Lib.hid (ownsRow_belowS OO.out hb9); clear hb9 k0 k1 k2 kl; have k0 := KK.out.cell 0; have k1 := KK.out.cell 1; have k2 := KK.out.cell 2; have kl := KK.out.lt; have hz2 := GG.out.size)
                | (at_builtin; refine wpList_append_own _ rfl _ _ 109 rfl W.heap.size 115 i1 (.agg #[.int .i64 0, .int .i64 0, .int .i64 0]) 3 24 Tryd.underlying109 HIS.out HIS0.out HIS1.out HIS2.out rfl (by decide) _ _ _ rfl ((OO.out.alloc _).alloc _) ⟨w2.heap.size + 1, 0, none⟩ 1 1 [.int .i64 2, .int .i64 (F + pk + (q : Int)), .int .i64 (k)] rfl rfl (by have := news_ev (w2.alloc (.cells #[.int .i64 2, .int .i64 (F + pk + (q : Int)), .int .i64 (k)] 115)) [.int .i64 2, .int .i64 (F + pk + (q : Int)), .int .i64 (k)] 115; simpa using this) (ev_cell _ _ _) C3.out C4.out (by simp; omega) ?_))
              intro v' w6 hown' hgr' _
              have HO2 := Lib.hid hown'
              have HG2 := Lib.hid hgr'
              clear hown' hgr'
              go_wp2
              go_roundw
              case rel =>
                refine ⟨k + 1, by omega, by go_num, ?_, below_grownS ((GG.out.alloc (by omega) _).alloc (by simp; omega) _) (by simp; omega) HG2.out (fun k hk => (OO.out.lt k hk).1)⟩
                rw [EV.out, E2.out, evL_append, List.length_append]
                exact HO2.out
              case measure => simp [intOf]; omega
          · have hqs := hqs hmm
            rw [show decide (0 < mm) = true from decide_eq_true (by omega)] at OV
            rw [if_neg hmm, if_neg (fun h => hmm h.1)] at E2
            rw [show (((q + 1 : Nat)) : Int) = (q : Int) + 1 from rfl] at E2
            go_wp2_with (first
              | (go_at_call 108; (with_reducible refine (OV.out _).mono ?_); rintro e w1 ⟨rfl, hb9⟩; replace KK := Lib.hid (KK.out.below hb9); replace GG := Lib.hid (grow_trans GG.out hb9); replace OO := Lib.hid (ownsRow_belowS OO.out hb9); clear hb9 k0 k1 k2 kl; have k0 := KK.out.cell 0; have k1 := KK.out.cell 1; have k2 := KK.out.cell 2; have kl := KK.out.lt)
              | (go_at_call 109; (with_reducible refine (WK.out _).mono ?_); rintro e w2 ⟨rfl, hb9⟩; replace KK := Lib.hid (KK.out.below hb9); replace GG := Lib.hid (grow_trans GG.out hb9); replace OO := Lib.hid (ownsRow_belowS OO.out hb9); clear hb9 k0 k1 k2 kl; have k0 := KK.out.cell 0; have k1 := KK.out.cell 1; have k2 := KK.out.cell 2; have kl := KK.out.lt; have hz2 := GG.out.size)
              | (at_builtin; refine wpList_append_own _ rfl _ _ 109 rfl W.heap.size 115 i1 (.agg #[.int .i64 0, .int .i64 0, .int .i64 0]) 3 24 Tryd.underlying109 HIS.out HIS0.out HIS1.out HIS2.out rfl (by decide) _ _ _ rfl ((OO.out.alloc _).alloc _) ⟨w2.heap.size + 1, 0, none⟩ 1 1 [.int .i64 2, .int .i64 (F + pk + ((q : Int) + 1)), .int .i64 (k)] rfl rfl (by have := news_ev (w2.alloc (.cells #[.int .i64 2, .int .i64 (F + pk + ((q : Int) + 1)), .int .i64 (k)] 115)) [.int .i64 2, .int .i64 (F + pk + ((q : Int) + 1)), .int .i64 (k)] 115; simpa using this) (ev_cell _ _ _) C3.out C4.out (by simp; omega) ?_))
            intro v' w6 hown' hgr' _
            have HO2 := Lib.hid hown'
            have HG2 := Lib.hid hgr'
            clear hown' hgr'
            go_wp2
            go_roundw
            case rel =>
              refine ⟨k + 1, by omega, by go_num, ?_, below_grownS ((GG.out.alloc (by omega) _).alloc (by simp; omega) _) (by simp; omega) HG2.out (fun k hk => (OO.out.lt k hk).1)⟩
              rw [EV.out, E2.out, evL_append, List.length_append]
              exact HO2.out
            case measure => simp [intOf]; omega
        · have e : ev1 F S n a b k = [] := by unfold ev1; rw [if_neg c1, if_neg c2]
          rw [e, List.append_nil] at EV
          by_cases c3 : a ≤ n
          · have c4 : ¬ n < b := fun h => c1 ⟨c3, h⟩
            have c5 : ¬ n < a := by omega
            go_wp2
            go_roundw
            case rel => exact ⟨k + 1, by omega, by go_num, by rw [EV.out]; exact OO.out, GG.out⟩
            case measure => simp [intOf]; omega
          · have c5 : n < a := by omega
            have c4 : ¬ b ≤ n := fun h => c2 ⟨c5, h⟩
            go_wp2
            go_roundw
            case rel => exact ⟨k + 1, by omega, by go_num, by rw [EV.out]; exact OO.out, GG.out⟩
            case measure => simp [intOf]; omega
    · obtain rfl : k = L.length - 1 := by omega
      have hi3 : ¬ ((L.length - 1 : Nat) : Int) < (L.length : Int) - 1 := by omega
      go_wp2
      go_ret
      exact ⟨_, rfl, owns_base O.out GW.out.size, grow_trans GW.out G.out⟩
end Go.Proofs.YtlfpfeidaohjmaaDoor
