/- The document's list of all events, walked. -/
import Derived.Test.YtlfpfeidaohjmaaDoorEa2
import Derived.Test.YtlfpfeidaohjmaaDoorEb6
set_option linter.unusedSimpArgs false
set_option linter.unusedVariables false
namespace Go.Proofs.YtlfpfeidaohjmaaDoor
open Go.RowKit Go.Grow Go.Fl Go.Bg

theorem floor_rise {T : Nat} {n a b : Int} (h1 : a ≤ n) (h2 : n < b) : (T : Int) * (n - a) / (b - a) = ((T * (n - a).toNat / (b - a).toNat : Nat) : Int) := by
  obtain ⟨m, hm⟩ : ∃ m : Nat, n - a = (m : Int) := ⟨(n - a).toNat, by omega⟩
  obtain ⟨c, hc⟩ : ∃ c : Nat, b - a = (c : Int) := ⟨(b - a).toNat, by omega⟩
  rw [hm, hc, Int.toNat_natCast, Int.toNat_natCast, Int.natCast_ediv, Int.natCast_mul]
theorem floor_fall {T : Nat} {n a b : Int} (h1 : n < a) (h2 : b ≤ n) : (T : Int) * (n - a) / (a - b) = -((upQ (T * (a - n).toNat) (a - b).toNat : Nat) : Int) := by
  obtain ⟨m, hm⟩ : ∃ m : Nat, a - n = (m : Int) := ⟨(a - n).toNat, by omega⟩
  obtain ⟨c, hc⟩ : ∃ c : Nat, a - b = (c : Int) := ⟨(a - b).toNat, by omega⟩
  have hc0 : 0 < c := by omega
  rw [show n - a = -(m : Int) by omega, hm, hc, Int.toNat_natCast, Int.toNat_natCast, Int.mul_neg, ← Int.natCast_mul]
  generalize T * m = p
  unfold upQ
  have h1 := Nat.div_add_mod p c
  have h2 := Nat.mod_lt p hc0
  by_cases h0 : p % c = 0
  · rw [if_pos h0, Int.neg_ediv_of_dvd (Int.natCast_dvd_natCast.2 (Nat.dvd_of_mod_eq_zero h0)), Int.natCast_ediv]
  · rw [if_neg h0]
    refine (Int.ediv_eq_iff_of_pos (by omega : (0 : Int) < c)).2 ?_
    have h3 : ((p / c : Nat) : Int) * c + ((p % c : Nat) : Int) = p := by rw [Nat.mul_comm] at h1; exact_mod_cast h1
    generalize p / c = q at h3 ⊢
    have e : -(((q + 1 : Nat) : Int)) * (c : Int) = -((q : Int) * c) - c := by rw [Int.natCast_add, Int.neg_mul, Int.add_mul]; omega
    constructor <;> simp only [Int.add_mul, e] <;> omega
theorem up_ltE {p c d : Nat} (hc : 0 < c) : d < upQ p c ↔ d * c < p := by
  unfold upQ
  have h1 := Nat.div_add_mod p c
  have h2 := Nat.mod_lt p hc
  split
  · rename_i h0
    rw [h0, Nat.add_zero] at h1
    rw [← h1, Nat.mul_div_cancel_left _ hc, Nat.mul_comm c]
    exact ⟨fun h => Nat.mul_lt_mul_of_pos_right h hc, fun h => Nat.lt_of_mul_lt_mul_right h⟩
  · rename_i h0
    constructor
    · intro h
      have h3 : d * c ≤ p / c * c := Nat.mul_le_mul_right _ (by omega)
      rw [Nat.mul_comm c] at h1
      omega
    · intro h
      have h3 : ¬ (p / c + 1 ≤ d) := fun h4 => by
        have h5 : (p / c + 1) * c ≤ d * c := Nat.mul_le_mul_right _ h4
        rw [Nat.add_mul, Nat.one_mul, Nat.mul_comm (p / c)] at h5
        omega
      omega
theorem set_ix {T : Nat} {n a b : Int} (hT : 0 < T) (h1 : n < a) (h2 : b ≤ n) : (T * (a - n).toNat % (a - b).toNat = 0 ∧ T * (a - n).toNat / (a - b).toNat = T) ↔ b = n := by
  obtain ⟨m, hm⟩ : ∃ m : Nat, a - n = (m : Int) := ⟨(a - n).toNat, by omega⟩
  obtain ⟨c, hc⟩ : ∃ c : Nat, a - b = (c : Int) := ⟨(a - b).toNat, by omega⟩
  have hc0 : 0 < c := by omega
  rw [hm, hc, Int.toNat_natCast, Int.toNat_natCast]
  constructor
  · rintro ⟨e1, e2⟩
    have h3 := Nat.div_add_mod (T * m) c
    rw [e1, e2, Nat.add_zero, Nat.mul_comm] at h3
    have := Nat.eq_of_mul_eq_mul_left hT h3
    omega
  · intro e
    have : m = c := by omega
    subst this
    exact ⟨Nat.mul_mod_left _ _, Nat.mul_div_cancel _ hc0⟩
theorem ev1_rise {F : Int} {T : Nat} {n a b : Int} {i : Nat} (h1 : a ≤ n) (h2 : n < b) : ev1 F T n a b i = [⟨1, F + (i : Int) * T + (T : Int) * (n - a) / (b - a), i⟩] := by
  unfold ev1
  rw [if_pos ⟨h1, h2⟩, floor_rise h1 h2]
theorem ev1_fall {F : Int} {T : Nat} {n a b : Int} {i : Nat} (hT : 0 < T) (h1 : n < a) (h2 : b ≤ n) : ev1 F T n a b i = [⟨2, F + (i : Int) * T - (T : Int) * (n - a) / (a - b), if b = n then (i : Int) + 1 else i⟩] := by
  unfold ev1
  rw [if_neg (by omega), if_pos ⟨h1, h2⟩, floor_fall h1 h2]
  by_cases h : b = n
  · rw [if_pos h, if_pos ((set_ix hT h1 h2).2 h), Int.sub_neg]
  · rw [if_neg h, if_neg (fun hh => h ((set_ix hT h1 h2).1 hh)), Int.sub_neg]
theorem ev1_none {F : Int} {T : Nat} {n a b : Int} {i : Nat} (h1 : ¬ (a ≤ n ∧ n < b)) (h2 : ¬ (n < a ∧ b ≤ n)) : ev1 F T n a b i = [] := by
  unfold ev1
  rw [if_neg h1, if_neg h2]
def AllPost (F : Int) (S : Nat) (n : Int) (L : List Int) (w : World) (e : Ending) (w' : World) : Prop :=
  ∃ v, e = .returned v ∧ w'.ownsRow w.heap.size 122 3 v (allE F S n L).length (evL (allE F S n L)) ∧ Below w.heap.size w w'
def EoRel (E : Nat → List Ev) (lo hi : Nat) (w : World) (v5 v7 : Value) (wr : World) : Prop :=
  ∃ k : Nat, lo ≤ k ∧ k ≤ hi ∧ v7 = .int .i64 k ∧ wr.ownsRow w.heap.size 122 3 v5 (sortE (E k)).length (evL (sortE (E k))) ∧ Below w.heap.size w wr
theorem own_base {w : World} {b b' sz n : Nat} {e : TypeId} {v : Value} {xs : List Value} (h : w.ownsRow b' e sz v n xs) (hb : b ≤ b') : w.ownsRow b e sz v n xs := owns_base h hb
theorem turn_next2 {F : Int} {S : Nat} {n : Int} {L : List Int} {i : Nat} (ha : 1 ≤ i) {E X : List Ev} (hE : turn1 F S n L i = X) : sortE (E ++ trUp F S n L (i + 1)) = sortE (E ++ trUp F S n L i ++ X) := by
  rw [trUp_succ _ _ _ _ _ ha, hE, List.append_assoc]
theorem turn1_val2 {F : Int} {S : Nat} {n : Int} {L : List Int} {i b : Nat} {x y h : Int} (hp : platE L i = b) (hb : b + 1 < L.length) (h0 : L.getD (i - 1) 0 = y) (h1 : L.getD i 0 = h) (h2 : L.getD (b + 1) 0 = x) (hyh : y ≠ h) :
    turn1 F S n L i = if y < h ∧ x < h ∧ n < h then [⟨3, F + (i : Int) * S, i⟩] else if h < y ∧ h < x ∧ h ≤ n then [⟨4, F + (i : Int) * S, i⟩] else [] := by
  unfold turn1
  rw [hp, h0, h1, h2, if_pos ⟨hb, hyh⟩]
set_option maxRecDepth 100000 in
set_option maxHeartbeats 32000000 in
theorem eventsOf_walk (b o : Nat) (F : Int) (T : Nat) (r : Option Addr) (c : Nat) (L : List Int) (n : Int) (w : World) (FT : Fit F T L) (h : TrAt w b o F T r c L) (hn1 : -1099511627776 ≤ n) (hn2 : n ≤ 1099511627776) :
    Calls Tryd.prog 62 #[.pointer (some ⟨b, o, none⟩), .int .i64 n] w (AllPost F T n L w) := by
  obtain ⟨p0, p1, p2⟩ := fit_prod FT
  obtain ⟨two, most, f1, f2, s1, l1, hh⟩ := FT
  have HT := Lib.hid h
  unfold lastT at l1
  obtain ⟨P, hP⟩ : ∃ P, ((L.length : Int) - 1) * T = P := ⟨_, rfl⟩
  rw [hP] at p0 p1 l1
  obtain ⟨b1, o1, rfl, hc⟩ := h.row.resolve_left (by intro h; rw [h] at two; exact absurd two (by simp))
  have hb1 : b1 < w.heap.size := lt_of_cellS (hc 0 (by omega))
  have CC := Lib.hid hc
  have HH := Lib.hid hh
  have SL := Lib.hid (show ∀ k m : Nat, k ≤ m → (k : Int) * (T : Int) ≤ (m : Int) * (T : Int) from fun k m h => (step_le (S := (T : Int)) s1 h).1)
  have GS := Lib.hid (show ∀ k (h : k < L.length), L.getD k 0 = L[k] from fun k h => by simp [h])
  have PE := Lib.hid (fun v l ek ea ex X h1 h2 => putE_walk v l ⟨ek, ea, ex⟩ X h1 h2)
  unfold evA PutEPost at PE
  simp only at PE
  have LE1 := Lib.hid (fun k => evUp_le F T n L k)
  have LE2 := Lib.hid (fun k => trUp_le F T n L k)
  have FTW := Lib.hid (show (1 : Int) ≤ T ∧ (T : Int) ≤ 600000000000000000 from ⟨s1, by
    have h1 := SL.out 1 (L.length - 1) (by omega)
    rw [show ((L.length - 1 : Nat) : Int) = (L.length : Int) - 1 by omega, hP] at h1
    omega⟩)
  obtain ⟨s1', s2⟩ := FTW.out
  have AL := Lib.hid (show allE F T n L = sortE (evUp F T n L (L.length - 1) ++ trUp F T n L (L.length - 1)) from rfl)
  have PK := Lib.hid (show ∀ k : Nat, k ≤ L.length - 1 → 0 ≤ (k : Int) * (T : Int) ∧ (k : Int) * (T : Int) ≤ P from fun k hk => by
    refine ⟨Int.mul_nonneg (by omega) (by omega), ?_⟩
    have h1 := SL.out k (L.length - 1) hk
    rw [show ((L.length - 1 : Nat) : Int) = (L.length : Int) - 1 by omega, hP] at h1
    exact h1)
  clear h hh hc hP
  have c2 := HT.out.c2
  have lb := HT.out.lt
  go_enter Tryd.func62, Tryd.ntmps62
  go_wp2
  clear c2 lb
  go_loopw [5, 7] (fun v5 v7 wr => EoRel (evUp F T n L) 0 (L.length - 1) w v5 v7 wr) (fun _ v _ => L.length - (intOf v).toNat)
  case atStart => exact ⟨0, Nat.le_refl _, Nat.zero_le _, rfl, World.ownsRow_nil _ _ _ _, Below.refl _ _⟩
  case round =>
    obtain ⟨k, hk0, hk, rfl, hown, hg⟩ := hrel
    have O := Lib.hid hown
    have G := Lib.hid hg
    clear hown hg
    have TX := Lib.hid (HT.out.below G.out)
    have c0 := TX.out.c0
    have c1 := TX.out.c1
    have c2 := TX.out.c2
    have lb := TX.out.lt
    have bl : b1 < wr.heap.size := Nat.lt_of_lt_of_le hb1 G.out.size
    clear TX
    by_cases hlt : k + 1 < L.length
    · have hk1 : k < L.length := by omega
      have hi0 : (0 : Int) ≤ (k : Int) := by omega
      have hi1 : (k : Int) < (L.length : Int) := by omega
      have hi2 : (k : Int) + 1 < (L.length : Int) := by omega
      obtain ⟨a1, a2⟩ := HH.out _ (List.getElem_mem hk1)
      obtain ⟨b2, b3⟩ := HH.out _ (List.getElem_mem hlt)
      have EV := Lib.hid (evUp_succ F T n L k hlt)
      have ga := (G.out.cell (p := ⟨b1, o1 + k, none⟩) hb1).trans (CC.out k hk1)
      have gb := (G.out.cell (p := ⟨b1, o1 + (k + 1), none⟩) hb1).trans (CC.out (k + 1) hlt)
      generalize L[k] = a at ga a1 a2 EV
      generalize L[k + 1] = bb at gb b2 b3 EV
      have JL := LE1.out k
      generalize evUp F T n L k = J at O EV JL
      have SJ := Lib.hid (sortE_length J)
      obtain ⟨q0, q1⟩ := PK.out k (by omega)
      obtain ⟨pk, hpk⟩ : ∃ pk, (k : Int) * (T : Int) = pk := ⟨_, rfl⟩
      rw [hpk] at q0 q1
      have PKH := Lib.hid hpk
      by_cases c1x : a ≤ n ∧ n < bb
      · have c1 := c1
        obtain ⟨z1, z2⟩ := c1x
        have FO := Lib.hid (fun (x y : Int) (X : World) (hx : x = n - a) (hy : y = bb - a) => show Calls Tryd.prog 106 #[.int .i64 (T : Int), .int .i64 x, .int .i64 y] X fun e w' => e = .returned (.int .i64 ((T : Int) * (n - a) / (bb - a))) ∧ Below X.heap.size X w' from by
          subst hx hy
          obtain ⟨c, hc⟩ : ∃ c : Nat, bb - a = (c : Int) := ⟨(bb - a).toNat, by omega⟩
          rw [hc]
          refine floorOf_walk _ _ c X (by omega) (by omega) (by omega) (by omega) ?_
          rw [Int.natAbs_natCast]
          calc T * (n - a).natAbs ≤ T * c := Nat.mul_le_mul_left _ (by omega)
            _ < 4611686018427387904 * c := Nat.mul_lt_mul_of_pos_right (by omega) (by omega))
        have EE := Lib.hid (show ev1 F T n a bb k = [⟨1, F + pk + (T : Int) * (n - a) / (bb - a), k⟩] by rw [ev1_rise z1 z2, PKH.out])
        have QB := Lib.hid (floor_rise (T := T) z1 z2)
        have hq0 : 0 ≤ (T : Int) * (n - a) / (bb - a) ∧ (T : Int) * (n - a) / (bb - a) ≤ T := by
          rw [QB.out]
          have h1 := quo_le (S := T) (x := (n - a).toNat) (c := (bb - a).toNat) (by omega) (by omega)
          generalize T * (n - a).toNat / (bb - a).toNat = z at h1 ⊢
          omega
        obtain ⟨hq0, hq1⟩ := hq0
        clear QB
        generalize (T : Int) * (n - a) / (bb - a) = q at FO EE hq0 hq1
        have d1 : decide (a - n ≤ 0) = true := decide_eq_true (by omega)
        have d2 : decide (0 < bb - n) = true := decide_eq_true (by omega)
        have d3 : decide (0 < a - n) = false := decide_eq_false (by omega)
        go_wp2
        go_quiet (fail)
        have G2 := Lib.hid (grow_trans G.out (grow_drewN (grow_refl wr) nq))
        have O2 := Lib.hid (ownsRow_belowS O.out (grow_drewN (grow_refl wr) nq))
        clear G O c0 c1 c2 lb bl ga gb
        generalize wr.drewN nq = X at G2 O2 ⊢
        have G := G2
        have O := O2
        clear G2 O2
        have TX := Lib.hid (HT.out.below G.out)
        have c0 := TX.out.c0
        have c1 := TX.out.c1
        have c2 := TX.out.c2
        have lb := TX.out.lt
        have bl : b1 < X.heap.size := Nat.lt_of_lt_of_le hb1 G.out.size
        clear TX
        go_wp2_with (first
          | (go_at_call 106; (with_reducible refine (FO.out _ _ _ (by omega) (by omega)).mono ?_); rintro e w1 ⟨rfl, hb9⟩; have O3 := Lib.hid (ownsRow_belowS O.out hb9); have G3 := Lib.hid (grow_trans G.out hb9); clear hb9)
          | (go_at_call 105; (with_reducible refine (PE.out _ _ _ _ _ _ (by rw [SJ.out]; omega) (EvRow.of_owns O3.out)).mono ?_); rintro e w2 ⟨v2, rfl, ho9, hb9⟩; have O4 := Lib.hid (own_base ho9 G3.out.size); have G4 := Lib.hid (grow_trans G3.out hb9); clear ho9 hb9))
        go_roundw
        case rel =>
          refine ⟨k + 1, by omega, by omega, by go_num, ?_, G4.out⟩
          rw [EV.out, EE.out, sortE_snoc, putE_length]
          exact O4.out
        case measure => simp [intOf]; omega
      · by_cases c2x : n < a ∧ bb ≤ n
        · obtain ⟨z1, z2⟩ := c2x
          have FO := Lib.hid (fun (x y : Int) (X : World) (hx : x = n - a) (hy : y = a - bb) => show Calls Tryd.prog 106 #[.int .i64 (T : Int), .int .i64 x, .int .i64 y] X fun e w' => e = .returned (.int .i64 ((T : Int) * (n - a) / (a - bb))) ∧ Below X.heap.size X w' from by
            subst hx hy
            obtain ⟨c, hc⟩ : ∃ c : Nat, a - bb = (c : Int) := ⟨(a - bb).toNat, by omega⟩
            rw [hc]
            refine floorOf_walk _ _ c X (by omega) (by omega) (by omega) (by omega) ?_
            rw [Int.natAbs_natCast]
            calc T * (n - a).natAbs ≤ T * c := Nat.mul_le_mul_left _ (by omega)
              _ < 4611686018427387904 * c := Nat.mul_lt_mul_of_pos_right (by omega) (by omega))
          have EE := Lib.hid (show ev1 F T n a bb k = [⟨2, F + pk - (T : Int) * (n - a) / (a - bb), if bb = n then (k : Int) + 1 else k⟩] by rw [ev1_fall (by omega) z1 z2, PKH.out])
          have QB := Lib.hid (floor_fall (T := T) z1 z2)
          have hq0 : (T : Int) * (n - a) / (a - bb) ≤ 0 ∧ -(T : Int) ≤ (T : Int) * (n - a) / (a - bb) := by
            rw [QB.out]
            have h1 : upQ (T * (a - n).toNat) (a - bb).toNat ≤ T := by
              rcases Nat.lt_or_ge T (upQ (T * (a - n).toNat) (a - bb).toNat) with h | h
              · have h3 := (up_ltE (show 0 < (a - bb).toNat by omega)).1 h
                have h4 : T * (a - n).toNat ≤ T * (a - bb).toNat := Nat.mul_le_mul_left _ (by omega)
                omega
              · exact h
            omega
          obtain ⟨hq0, hq1⟩ := hq0
          clear QB
          generalize (T : Int) * (n - a) / (a - bb) = q at FO EE hq0 hq1
          have d1 : decide (a - n ≤ 0) = false := decide_eq_false (by omega)
          have d3 : decide (0 < a - n) = true := decide_eq_true (by omega)
          have d4 : decide (bb - n ≤ 0) = true := decide_eq_true (by omega)
          by_cases hbn : bb = n
          · have d9 : decide (bb - n = 0) = true := decide_eq_true (by omega)
            rw [if_pos hbn] at EE
            go_wp2
            go_quiet (fail)
            have G2 := Lib.hid (grow_trans G.out (grow_drewN (grow_refl wr) nq))
            have O2 := Lib.hid (ownsRow_belowS O.out (grow_drewN (grow_refl wr) nq))
            clear G O c0 c1 c2 lb bl ga gb
            generalize wr.drewN nq = X at G2 O2 ⊢
            have G := G2
            have O := O2
            clear G2 O2
            have TX := Lib.hid (HT.out.below G.out)
            have c0 := TX.out.c0
            have c1 := TX.out.c1
            have c2 := TX.out.c2
            have lb := TX.out.lt
            have bl : b1 < X.heap.size := Nat.lt_of_lt_of_le hb1 G.out.size
            clear TX
            go_wp2_with (first
              | (go_at_call 106; (with_reducible refine (FO.out _ _ _ (by omega) (by omega)).mono ?_); rintro e w1 ⟨rfl, hb9⟩; have O3 := Lib.hid (ownsRow_belowS O.out hb9); have G3 := Lib.hid (grow_trans G.out hb9); clear hb9)
              | (go_at_call 105; (with_reducible refine (PE.out _ _ _ _ _ _ (by rw [SJ.out]; omega) (EvRow.of_owns O3.out)).mono ?_); rintro e w2 ⟨v2, rfl, ho9, hb9⟩; have O4 := Lib.hid (own_base ho9 G3.out.size); have G4 := Lib.hid (grow_trans G3.out hb9); clear ho9 hb9))
            go_roundw
            case rel =>
              refine ⟨k + 1, by omega, by omega, by go_num, ?_, G4.out⟩
              rw [EV.out, EE.out, sortE_snoc, putE_length]
              exact O4.out
            case measure => simp [intOf]; omega
          · have d9 : decide (bb - n = 0) = false := decide_eq_false (by omega)
            rw [if_neg hbn] at EE
            go_wp2
            go_quiet (fail)
            have G2 := Lib.hid (grow_trans G.out (grow_drewN (grow_refl wr) nq))
            have O2 := Lib.hid (ownsRow_belowS O.out (grow_drewN (grow_refl wr) nq))
            clear G O c0 c1 c2 lb bl ga gb
            generalize wr.drewN nq = X at G2 O2 ⊢
            have G := G2
            have O := O2
            clear G2 O2
            have TX := Lib.hid (HT.out.below G.out)
            have c0 := TX.out.c0
            have c1 := TX.out.c1
            have c2 := TX.out.c2
            have lb := TX.out.lt
            have bl : b1 < X.heap.size := Nat.lt_of_lt_of_le hb1 G.out.size
            clear TX
            go_wp2_with (first
              | (go_at_call 106; (with_reducible refine (FO.out _ _ _ (by omega) (by omega)).mono ?_); rintro e w1 ⟨rfl, hb9⟩; have O3 := Lib.hid (ownsRow_belowS O.out hb9); have G3 := Lib.hid (grow_trans G.out hb9); clear hb9)
              | (go_at_call 105; (with_reducible refine (PE.out _ _ _ _ _ _ (by rw [SJ.out]; omega) (EvRow.of_owns O3.out)).mono ?_); rintro e w2 ⟨v2, rfl, ho9, hb9⟩; have O4 := Lib.hid (own_base ho9 G3.out.size); have G4 := Lib.hid (grow_trans G3.out hb9); clear ho9 hb9))
            go_roundw
            case rel =>
              refine ⟨k + 1, by omega, by omega, by go_num, ?_, G4.out⟩
              rw [EV.out, EE.out, sortE_snoc, putE_length]
              exact O4.out
            case measure => simp [intOf]; omega
        · have EE := Lib.hid (ev1_none (F := F) (T := T) (i := k) c1x c2x)
          by_cases z1 : a ≤ n
          · have d1 : decide (a - n ≤ 0) = true := decide_eq_true (by omega)
            have d2 : decide (0 < bb - n) = false := decide_eq_false (by omega)
            have d3 : decide (0 < a - n) = false := decide_eq_false (by omega)
            go_wp2
            go_quiet (fail)
            go_wp2
            go_roundw
            case rel =>
              refine ⟨k + 1, by omega, by omega, by go_num, ?_, grow_drewN G.out _⟩
              rw [EV.out, EE.out, List.append_nil]
              exact ownsRow_belowS O.out (grow_drewN (grow_refl wr) nq)
            case measure => simp [intOf]; omega
          · have d1 : decide (a - n ≤ 0) = false := decide_eq_false (by omega)
            have d3 : decide (0 < a - n) = true := decide_eq_true (by omega)
            have d4 : decide (bb - n ≤ 0) = false := decide_eq_false (by omega)
            go_wp2
            go_quiet (fail)
            go_wp2
            go_roundw
            case rel =>
              refine ⟨k + 1, by omega, by omega, by go_num, ?_, grow_drewN G.out _⟩
              rw [EV.out, EE.out, List.append_nil]
              exact ownsRow_belowS O.out (grow_drewN (grow_refl wr) nq)
            case measure => simp [intOf]; omega
    · obtain rfl : k = L.length - 1 := by omega
      have hi2 : ¬ ((L.length - 1 : Nat) : Int) + 1 < (L.length : Int) := by omega
      go_wp2
      obtain ⟨w0, hw0⟩ : ∃ w0, wr = w0 := ⟨_, rfl⟩
      rw [hw0] at O G ⊢
      clear hw0 c0 c1 c2 lb bl
      have JL := LE1.out (L.length - 1)
      generalize evUp F T n L (L.length - 1) = E at O AL JL
      go_loopw [5, 13] (fun v5 v13 wr => EoRel (fun i => E ++ trUp F T n L i) 1 (L.length - 1) w v5 v13 wr) (fun _ v _ => L.length - (intOf v).toNat)
      case atStart => exact ⟨1, Nat.le_refl _, by omega, rfl, by simp only [show trUp F T n L 1 = [] from rfl, List.append_nil]; exact O.out, G.out⟩
      case round =>
        clear O G
        obtain ⟨i, hi0', hi, rfl, hown, hg⟩ := hrel
        have O := Lib.hid hown
        have G := Lib.hid hg
        clear hown hg
        by_cases hlt : i < L.length - 1
        · have hi1 : (i : Int) < (L.length : Int) - 1 := by omega
          have ha0 : (0 : Int) ≤ (i : Int) := by omega
          have ha1 : (i : Int) < (L.length : Int) := by omega
          have ha2 : i < L.length := by omega
          obtain ⟨w1, hw1⟩ : ∃ w1, wr = w1 := ⟨_, rfl⟩
          rw [hw1] at O G ⊢
          clear hw1
          have JL2 := LE2.out i
          have TN2 := Lib.hid (fun X (h : turn1 F T n L i = X) => turn_next2 (E := E) hi0' h)
          go_wp2
          go_loopw [14] (fun v14 wr => ∃ b : Nat, i ≤ b ∧ b < L.length ∧ v14 = .int .i64 b ∧ (∀ j (h : j < L.length), i < j → j ≤ b → L[j] = L.getD i 0) ∧ Below w1.heap.size w1 wr) (fun v _ => L.length - (intOf v).toNat)
          case atStart => exact ⟨i, Nat.le_refl _, ha2, rfl, fun j h h1 h2 => absurd h2 (by omega), Below.refl _ _⟩
          case round =>
            obtain ⟨m, hab, hbl, rfl, hsame, hg⟩ := hrel
            have G1 := Lib.hid hg
            have SM := Lib.hid hsame
            clear hg hsame
            have hG1 := G.out.size
            have GG := Lib.hid (grow_trans G.out G1.out)
            have hb0 : (0 : Int) ≤ (m : Int) := by omega
            have TX := Lib.hid (HT.out.below GG.out)
            have c0 := TX.out.c0
            have c1 := TX.out.c1
            have c2 := TX.out.c2
            have lb := TX.out.lt
            have bl : b1 < wr.heap.size := Nat.lt_of_lt_of_le hb1 GG.out.size
            clear TX
            have CY := Lib.hid (fun k (h : k < L.length) => (GG.out.cell (p := ⟨b1, o1 + k, none⟩) hb1).trans (CC.out k h))
            have ga := CY.out i ha2
            obtain ⟨h, hh⟩ : ∃ h, L[i] = h := ⟨_, rfl⟩
            have HX0 := Lib.hid (show L.getD i 0 = h by rw [GS.out i ha2]; exact hh)
            rw [hh] at ga
            clear hh
            by_cases hb2 : m + 1 < L.length
            · have hb4 : (m : Int) + 1 < (L.length : Int) := by omega
              have d0 : decide ((m : Int) + 1 < (L.length : Int)) = true := decide_eq_true hb4
              have hb3 : ¬ (m : Int) = (L.length : Int) - 1 := by omega
              have d1 : ((m : Int) == (L.length : Int) - 1) = false := beq_eq_false_iff_ne.2 hb3
              have gb := CY.out (m + 1) hb2
              obtain ⟨x, hx⟩ : ∃ x, L[m + 1] = x := ⟨_, rfl⟩
              have HX := Lib.hid hx
              have HX2 := Lib.hid (show L.getD (m + 1) 0 = x by rw [GS.out _ hb2]; exact hx)
              rw [hx] at gb
              clear hx
              by_cases hxh : x = h
              · subst hxh
                go_wp2
                go_quiet (fail)
                go_wp2
                go_roundw
                case rel =>
                  refine ⟨m + 1, by omega, by omega, by go_num, fun j h1 h2 h3 => ?_, grow_drewN G1.out _⟩
                  by_cases h4 : j = m + 1
                  · subst h4; rw [HX.out, HX0.out]
                  · exact SM.out j h1 h2 (by omega)
                case measure => simp [intOf]; omega
              · have PL := Lib.hid (show platE L i = m from platE_eq hab hbl SM.out (fun _ => by rw [HX.out, HX0.out]; exact hxh))
                have d2 : decide (x = h) = false := decide_eq_false hxh
                obtain ⟨j, hj⟩ : ∃ j, j + 1 = i := ⟨i - 1, by omega⟩
                have hjl : j < L.length := by omega
                have e4 : (i : Int) - 1 = (j : Int) := by omega
                have hj0 : (0 : Int) ≤ (j : Int) := by omega
                have hj1 : (j : Int) < (L.length : Int) := by omega
                have gj := CY.out j hjl
                obtain ⟨y, hy⟩ : ∃ y, L[j] = y := ⟨_, rfl⟩
                have HY := Lib.hid (show L.getD (i - 1) 0 = y by rw [show i - 1 = j by omega, GS.out j hjl]; exact hy)
                have HYJ := Lib.hid hy
                rw [hy] at gj
                clear hy
                obtain ⟨q0, q1⟩ := PK.out i (by omega)
                obtain ⟨pk, hpk⟩ : ∃ pk, (i : Int) * (T : Int) = pk := ⟨_, rfl⟩
                rw [hpk] at q0 q1
                have PKH := Lib.hid hpk
                have CJ := Lib.hid (fun X (hX : Below w.heap.size w X) => (hX.cell (p := ⟨b1, o1 + j, none⟩) hb1).trans ((CC.out j hjl).trans (by rw [HYJ.out])))
                have CB := Lib.hid (fun X (hX : Below w.heap.size w X) => (hX.cell (p := ⟨b1, o1 + (m + 1), none⟩) hb1).trans ((CC.out (m + 1) hb2).trans (by rw [HX.out])))
                have CA := Lib.hid (fun X (hX : Below w.heap.size w X) => (hX.cell (p := ⟨b1, o1 + i, none⟩) hb1).trans ((CC.out i ha2).trans (by rw [show L[i] = h by rw [← GS.out i ha2]; exact HX0.out])))
                go_wp2
                go_quiet (fail)
                have G5 := Lib.hid (grow_drewN GG.out nq)
                have O5 := Lib.hid (ownsRow_belowS (ownsRow_belowS O.out G1.out) (grow_drewN (grow_refl wr) nq))
                clear G O GG G1 CY hG1 c0 c1 c2 lb bl ga gb gj
                generalize wr.drewN nq = X at G5 O5 ⊢
                have G := G5
                have O := O5
                clear G5 O5
                have TX := Lib.hid (HT.out.below G.out)
                have c0 := TX.out.c0
                have c1 := TX.out.c1
                have c2 := TX.out.c2
                have lb := TX.out.lt
                have bl : b1 < X.heap.size := Nat.lt_of_lt_of_le hb1 G.out.size
                clear TX
                have ga := CA.out X G.out
                have gb := CB.out X G.out
                have gj := CJ.out X G.out
                by_cases hyh : y = h
                · have TN := Lib.hid (TN2.out [] (turn1_same (by rw [HY.out, HX0.out]; exact hyh)))
                  subst hyh
                  go_wp2
                  go_quiet (fail)
                  have G5 := Lib.hid (grow_drewN G.out nq)
                  have O5 := Lib.hid (ownsRow_belowS O.out (grow_drewN (grow_refl X) nq))
                  clear G O c0 c1 c2 lb bl ga gb gj
                  generalize X.drewN nq = Y at G5 O5 ⊢
                  have G := G5
                  have O := O5
                  clear G5 O5
                  have TX := Lib.hid (HT.out.below G.out)
                  have c0 := TX.out.c0
                  have c1 := TX.out.c1
                  have c2 := TX.out.c2
                  have lb := TX.out.lt
                  have bl : b1 < Y.heap.size := Nat.lt_of_lt_of_le hb1 G.out.size
                  clear TX
                  have ga := CA.out Y G.out
                  have gb := CB.out Y G.out
                  have gj := CJ.out Y G.out
                  go_wp2
                  go_roundw
                  case rel =>
                    refine ⟨i + 1, by omega, by omega, by go_num, ?_, G.out⟩
                    simp only
                    rw [TN.out, List.append_nil]
                    exact O.out
                  case measure => simp [intOf]; omega
                · have TVH := Lib.hid (turn1_val2 (F := F) (S := T) (n := n) PL.out hb2 HY.out HX0.out HX2.out hyh)
                  have d5 : decide (y = h) = false := decide_eq_false hyh
                  go_wp2
                  go_quiet (fail)
                  have G5 := Lib.hid (grow_drewN G.out nq)
                  have O5 := Lib.hid (ownsRow_belowS O.out (grow_drewN (grow_refl X) nq))
                  clear G O c0 c1 c2 lb bl ga gb gj
                  generalize X.drewN nq = Y at G5 O5 ⊢
                  obtain ⟨X, hX⟩ : ∃ X, Y = X := ⟨_, rfl⟩
                  rw [hX] at G5 O5 ⊢
                  clear hX
                  have G := G5
                  have O := O5
                  clear G5 O5
                  have TX := Lib.hid (HT.out.below G.out)
                  have c0 := TX.out.c0
                  have c1 := TX.out.c1
                  have c2 := TX.out.c2
                  have lb := TX.out.lt
                  have bl : b1 < X.heap.size := Nat.lt_of_lt_of_le hb1 G.out.size
                  clear TX
                  have ga := CA.out X G.out
                  have gb := CB.out X G.out
                  have gj := CJ.out X G.out
                  by_cases hy1 : y < h
                  · have d6 : decide (y < h) = true := decide_eq_true hy1
                    have d7 : decide (h < y) = false := decide_eq_false (by omega)
                    by_cases hx1 : x < h
                    · have d8 : decide (x < h) = true := decide_eq_true hx1
                      by_cases hn : n < h
                      · have TN := Lib.hid (TN2.out _ (TVH.out.trans (if_pos ⟨by omega, by omega, by omega⟩)))
                        rw [PKH.out] at TN
                        have LJ := Lib.hid (show (sortE (E ++ trUp F T n L i)).length ≤ 100000 by rw [sortE_length, List.length_append]; omega)
                        have d9 : decide (n < h) = true := decide_eq_true (by omega)
                        go_wp2
                        refine Grow.wp_region_over_tail 14 (by kernel_rfl) (by kernel_rfl) ?_
                        simp only [List.take_succ_cons, List.take_zero, List.drop_succ_cons, List.drop_zero]
                        repeat (go_big_quiet_step (fail))
                        refine wpQuiet_nil ?_
                        intro x9 hz9
                        have G5 := Lib.hid (grow_trans G.out (below_over X x9))
                        have O5 := Lib.hid (ownsRow_belowS O.out (below_over X x9))
                        clear G O c0 c1 c2 lb bl ga gb gj hz9
                        generalize over X x9 = Y at G5 O5 ⊢
                        go_wp2_with (go_at_call 105; (with_reducible refine (PE.out _ _ _ _ _ _ LJ.out (EvRow.of_owns O5.out)).mono ?_); rintro e w5 ⟨v5, rfl, ho9, hb9⟩; have O6 := Lib.hid (own_base ho9 G5.out.size); have G6 := Lib.hid (grow_trans G5.out hb9); clear ho9 hb9; have TX := Lib.hid (HT.out.below G6.out); have c0 := TX.out.c0; have c1 := TX.out.c1; have c2 := TX.out.c2; have lb := TX.out.lt; have ga := CA.out _ G6.out; have gb := CB.out _ G6.out; have gj := CJ.out _ G6.out; clear TX)
                        go_roundw
                        case rel =>
                          refine ⟨i + 1, by omega, by omega, by go_num, ?_, G6.out⟩
                          simp only
                          rw [TN.out, sortE_snoc, putE_length]
                          exact O6.out
                        case measure => simp [intOf]; omega
                      · have TN := Lib.hid (TN2.out [] (TVH.out.trans ((if_neg (by omega)).trans (if_neg (by omega)))))
                        have d9 : decide (n < h) = false := decide_eq_false (by omega)
                        go_wp2
                        go_roundw
                        case rel =>
                          refine ⟨i + 1, by omega, by omega, by go_num, ?_, G.out⟩
                          simp only
                          rw [TN.out, List.append_nil]
                          exact O.out
                        case measure => simp [intOf]; omega
                    · have TN := Lib.hid (TN2.out [] (TVH.out.trans ((if_neg (by omega)).trans (if_neg (by omega)))))
                      have d8 : decide (x < h) = false := decide_eq_false (by omega)
                      go_wp2
                      go_roundw
                      case rel =>
                        refine ⟨i + 1, by omega, by omega, by go_num, ?_, G.out⟩
                        simp only
                        rw [TN.out, List.append_nil]
                        exact O.out
                      case measure => simp [intOf]; omega
                  · have d6 : decide (y < h) = false := decide_eq_false hy1
                    have d7 : decide (h < y) = true := decide_eq_true (by omega)
                    by_cases hx1 : h < x
                    · have d8 : decide (h < x) = true := decide_eq_true hx1
                      by_cases hn : h ≤ n
                      · have TN := Lib.hid (TN2.out _ (TVH.out.trans ((if_neg (by omega)).trans (if_pos ⟨by omega, by omega, by omega⟩))))
                        rw [PKH.out] at TN
                        have LJ := Lib.hid (show (sortE (E ++ trUp F T n L i)).length ≤ 100000 by rw [sortE_length, List.length_append]; omega)
                        have d9 : decide (h ≤ n) = true := decide_eq_true (by omega)
                        go_wp2
                        refine Grow.wp_region_over_tail 14 (by kernel_rfl) (by kernel_rfl) ?_
                        simp only [List.take_succ_cons, List.take_zero, List.drop_succ_cons, List.drop_zero]
                        repeat (go_big_quiet_step (fail))
                        refine wpQuiet_nil ?_
                        intro x9 hz9
                        have G5 := Lib.hid (grow_trans G.out (below_over X x9))
                        have O5 := Lib.hid (ownsRow_belowS O.out (below_over X x9))
                        clear G O c0 c1 c2 lb bl ga gb gj hz9
                        generalize over X x9 = Y at G5 O5 ⊢
                        go_wp2_with (go_at_call 105; (with_reducible refine (PE.out _ _ _ _ _ _ LJ.out (EvRow.of_owns O5.out)).mono ?_); rintro e w5 ⟨v5, rfl, ho9, hb9⟩; have O6 := Lib.hid (own_base ho9 G5.out.size); have G6 := Lib.hid (grow_trans G5.out hb9); clear ho9 hb9; have TX := Lib.hid (HT.out.below G6.out); have c0 := TX.out.c0; have c1 := TX.out.c1; have c2 := TX.out.c2; have lb := TX.out.lt; have ga := CA.out _ G6.out; have gb := CB.out _ G6.out; have gj := CJ.out _ G6.out; clear TX)
                        go_roundw
                        case rel =>
                          refine ⟨i + 1, by omega, by omega, by go_num, ?_, G6.out⟩
                          simp only
                          rw [TN.out, sortE_snoc, putE_length]
                          exact O6.out
                        case measure => simp [intOf]; omega
                      · have TN := Lib.hid (TN2.out [] (TVH.out.trans ((if_neg (by omega)).trans (if_neg (by omega)))))
                        have d9 : decide (h ≤ n) = false := decide_eq_false (by omega)
                        go_wp2
                        go_roundw
                        case rel =>
                          refine ⟨i + 1, by omega, by omega, by go_num, ?_, G.out⟩
                          simp only
                          rw [TN.out, List.append_nil]
                          exact O.out
                        case measure => simp [intOf]; omega
                    · have TN := Lib.hid (TN2.out [] (TVH.out.trans ((if_neg (by omega)).trans (if_neg (by omega)))))
                      have d8 : decide (h < x) = false := decide_eq_false (by omega)
                      go_wp2
                      go_roundw
                      case rel =>
                        refine ⟨i + 1, by omega, by omega, by go_num, ?_, G.out⟩
                        simp only
                        rw [TN.out, List.append_nil]
                        exact O.out
                      case measure => simp [intOf]; omega
            · have hbe : m + 1 = L.length := by omega
              have hb4 : ¬ (m : Int) + 1 < (L.length : Int) := by omega
              have d0 : decide ((m : Int) + 1 < (L.length : Int)) = false := decide_eq_false hb4
              have hb3 : (m : Int) = (L.length : Int) - 1 := by omega
              have d1 : ((m : Int) == (L.length : Int) - 1) = true := beq_iff_eq.2 hb3
              have PL := Lib.hid (show platE L i = m from platE_eq hab hbl SM.out (fun h => absurd h hb2))
              have TN := Lib.hid (TN2.out [] (turn1_end (by rw [PL.out]; omega)))
              go_wp2
              go_quiet (fail)
              have G5 := Lib.hid (grow_drewN GG.out nq)
              have O5 := Lib.hid (ownsRow_belowS (ownsRow_belowS O.out G1.out) (grow_drewN (grow_refl wr) nq))
              clear G O GG G1 c0 c1 c2 lb bl ga CY hG1
              generalize wr.drewN nq = X at G5 O5 ⊢
              have G := G5
              have O := O5
              clear G5 O5
              have TX := Lib.hid (HT.out.below G.out)
              have c0 := TX.out.c0
              have c1 := TX.out.c1
              have c2 := TX.out.c2
              have lb := TX.out.lt
              have bl : b1 < X.heap.size := Nat.lt_of_lt_of_le hb1 G.out.size
              clear TX
              have ga := (G.out.cell (p := ⟨b1, o1 + i, none⟩) hb1).trans ((CC.out i ha2).trans (by rw [show L[i] = h by rw [← GS.out i ha2]; exact HX0.out]))
              go_wp2
              go_quiet (fail)
              go_wp2
              go_roundw
              case rel =>
                refine ⟨i + 1, by omega, by omega, by go_num, ?_, grow_drewN G.out _⟩
                simp only
                rw [TN.out, List.append_nil]
                exact ownsRow_belowS O.out (grow_drewN (grow_refl X) nq)
              case measure => simp [intOf]; omega
        · obtain rfl : i = L.length - 1 := by omega
          have hi1 : ¬ ((L.length - 1 : Nat) : Int) < (L.length : Int) - 1 := by omega
          go_wp2
          go_ret
          refine ⟨_, rfl, ?_, G.out⟩
          rw [AL.out]
          exact O.out
end Go.Proofs.YtlfpfeidaohjmaaDoor
