/- Waves of a row: the program's. -/
import Derived.Test.YtaakbajhbmbhcaaDoorWv3
import Derived.Outline
set_option linter.unusedSimpArgs false
set_option linter.unusedVariables false
namespace Go.Proofs.YtaakbajhbmbhcaaDoor
open Go.RowKit Go.Fl Go.Grow Go.Tr

/-- The angle of a wave. -/
def angW (n j k : Nat) : Nat := 1296000000000 * (j * k % n) / n
def wUp (X : Nat → C2) (n : Nat) (back : Bool) (k : Nat) : Nat → C2
  | 0 => ⟨some 0, some 0⟩
  | j + 1 => cadd (wUp X n back k j) (cmul (X j) (wav (angW n j k : Nat) back))
def wavZ (X : Nat → C2) (n : Nat) (back : Bool) (k : Nat) : C2 := if back then shr n (wUp X n back k n) else wUp X n back k n
/-- The numbers X lie in w. -/
def CIn (w : World) (r : Option Addr) (n : Nat) (X : Nat → C2) : Prop := n = 0 ∨ ∃ b o, r = some ⟨b, o, none⟩ ∧ ∀ k, k < n → ∃ p q, w.cell? ⟨b, o + k, none⟩ = some (.complex .f64 p q) ∧ fl p = (X k).re ∧ fl q = (X k).im
theorem CIn.below {w w' : World} {r : Option Addr} {n : Nat} {X : Nat → C2} (h : CIn w r n X) (hb : Below w.heap.size w w') : CIn w' r n X := by
  rcases h with h | ⟨b, o, rfl, hc⟩
  · exact .inl h
  · refine .inr ⟨b, o, rfl, fun k hk => ?_⟩
    obtain ⟨p, q, h1, h2⟩ := hc k hk
    exact ⟨p, q, (hb.cell (p := ⟨b, o + k, none⟩) (lt_of_cell h1)).trans h1, h2⟩
def SpecC : FuncId → Array Value → Value → Prop
  | 36, #[.int .i64 g, .bool back], v => IsC (wav g back) v
  | 35, #[.complex .f64 a b, .complex .f64 c d], v => IsC (cmul ⟨fl a, fl b⟩ ⟨fl c, fl d⟩) v
  | _, _, _ => False
def WRel (X : Nat → C2) (n g : Nat) (back : Bool) (w : World) (v22 : Value) (wr : World) : Prop :=
  ∃ k : Nat, k ≤ n ∧ v22 = .int .i64 k ∧ CRow wr g n (fun i => if i < k then wUp X n back i n else ⟨some 0, some 0⟩) ∧ Below w.heap.size w wr
def WRel2 (X : Nat → C2) (n g : Nat) (back : Bool) (k : Nat) (w : World) (v27 : Value) (wr : World) : Prop :=
  ∃ j : Nat, j ≤ n ∧ v27 = .int .i64 j ∧ CRow wr g n (fun i => if i < k then wUp X n back i n else if i = k then wUp X n back k j else ⟨some 0, some 0⟩) ∧ Below w.heap.size w wr
def WavesYes (X : Nat → C2) (n : Nat) (back : Bool) (w : World) (e : Ending) (w' : World) : Prop :=
  ∃ g, e = .returned (.tuple #[.slice (some ⟨g, 0, none⟩) n n, .nilIface]) ∧ CRow w' g n (wavZ X n back) ∧ Below w.heap.size w w'
set_option maxRecDepth 100000 in
set_option maxHeartbeats 8000000 in
theorem waves_yes (a : Nat → Addr) (r : Option Addr) (n cap : Nat) (back : Bool) (X : Nat → C2) (w : World) (hs : Sen a [2, 5] w) (hr : CIn w r n X) (hn : n ≤ 256) (hn0 : 0 < n) :
    Calls Tryd.prog 15 #[.slice r n cap, .bool back] w (WavesYes X n back w) := by
  have SZ := Lib.hid (show Calls Tryd.prog 31 #[.int .i64 n] w fun e w' => e = .returned .nilIface ∧ w = w' by
    have h := size_walk a n w hs (by omega)
    rwa [show sizeE n = 0 by unfold sizeE; rw [if_neg (by omega), if_neg (by omega)], errV_zero] at h)
  obtain ⟨b1, o1, rfl, hc⟩ := hr.resolve_left (by omega)
  have hb1 : b1 < w.heap.size := by obtain ⟨p, q, h, _⟩ := hc 0 hn0; exact lt_of_cell h
  have HC := Lib.hid hc
  clear hr hc hs
  have hmk := mk_cx n (by omega)
  go_enter Tryd.func15, Tryd.ntmps15
  go_wp2_with (go_at_call 31; (with_reducible refine SZ.out.mono ?_); rintro e w1 ⟨rfl, rfl⟩)
  obtain ⟨g, hge⟩ : ∃ g, w.heap.size = g := ⟨_, rfl⟩
  go_loopw [22] (fun v22 wr => WRel X n w.heap.size back w v22 wr) (fun i _ => n - (intOf i).toNat)
  case atStart => exact ⟨0, Nat.zero_le _, rfl, (CRow.made _ _ _).at fun k hk => by simp, grow_alloc (grow_refl w) _⟩
  case round =>
    clear hmk SZ
    obtain ⟨k, hk, rfl, hrow, hb⟩ := hrel
    have R := Lib.hid hrow
    have G := Lib.hid hb
    clear hrow hb
    rw [hge] at R ⊢
    by_cases hlt : k < n
    · obtain ⟨wo, hwo⟩ : ∃ wo : World, wo = wr := ⟨_, rfl⟩
      go_wp2
      go_loopw [27] (fun v27 wr => WRel2 X n g back k w v27 wr) (fun i _ => n - (intOf i).toNat)
      case atStart => exact ⟨0, Nat.zero_le _, rfl, R.out.at fun i hi => by simp [wUp], G.out⟩
      case round =>
        clear R G hwo
        obtain ⟨j, hj, rfl, hrow, hb⟩ := hrel
        have R := Lib.hid hrow
        have G := Lib.hid hb
        clear hrow hb
        by_cases hjl : j < n
        · obtain ⟨xa, xb, c1, x1, x2⟩ := HC.out j hjl
          replace c1 := (G.out.cell (p := ⟨b1, o1 + j, none⟩) hb1).trans c1
          obtain ⟨ya, yb, c2, y1, y2⟩ := R.out.cell k hlt
          simp only [Nat.lt_irrefl, if_false, if_true] at y1 y2
          have X1 := Lib.hid x1
          have X2 := Lib.hid x2
          have Y1 := Lib.hid y1
          have Y2 := Lib.hid y2
          clear x1 x2 y1 y2
          have f2 := R.out.frozen k
          have l2 := R.out.lt
          have HS := Lib.hid (show wUp X n back k (j + 1) = cadd (wUp X n back k j) (cmul (X j) (wav (angW n j k : Nat) back)) from rfl)
          have hm : j * k ≤ 65536 := Nat.le_trans (Nat.mul_le_mul (Nat.le_of_lt hjl) (Nat.le_of_lt hlt)) (Nat.mul_le_mul hn hn)
          have hq : j * k % n < n := Nat.mod_lt _ (by omega)
          have e1 : (j : Int) * (k : Int) = ((j * k : Nat) : Int) := (Int.natCast_mul _ _).symm
          have e3 : ((j * k : Nat) : Int).tmod (n : Int) = ((j * k % n : Nat) : Int) := (Int.ofNat_tmod _ _).symm
          have e5 : (1296000000000 * ((j * k % n : Nat) : Int)).tdiv (n : Int) = ((angW n j k : Nat) : Int) := by
            unfold angW
            rw [Int.natCast_ediv, Int.natCast_mul, Int.tdiv_eq_ediv_of_nonneg (by omega)]; rfl
          have ht : angW n j k ≤ 331776000000000 := by
            unfold angW
            refine Nat.le_trans (Nat.div_le_self _ _) ?_
            have := Nat.mul_le_mul (Nat.le_refl 1296000000000) (show j * k % n ≤ 256 by omega)
            omega
          generalize angW n j k = t at e5 HS ht
          generalize j * k % n = q at hq e3 e5
          generalize j * k = m at hm e1 e3
          have e2 : IntKind.i64.wrap (m : Int) = (m : Int) := IntWalk.i64_in _ (by omega)
          have e4 : IntKind.i64.wrap (1296000000000 * (q : Int)) = 1296000000000 * (q : Int) := IntWalk.i64_in _ (by omega)
          have e6 : IntKind.i64.wrap (t : Int) = (t : Int) := IntWalk.i64_in _ (by omega)
          have hn1 : ¬ ((n : Int) = 0) := by omega
          have hj0 : (0 : Int) ≤ (j : Int) := by omega
          have hj1 : (j : Int) < (n : Int) := by omega
          have hk0 : (0 : Int) ≤ (k : Int) := by omega
          have hk1 : (k : Int) < (n : Int) := by omega
          go_wp2
          refine Rel.wp_region_rel_tail SpecC 18 (by kernel_rfl) (lexTailB_of_fast (by kernel_rfl) (by kernel_rfl) (by kernel_rfl)) ?_
          simp only [List.append_eq, List.cons_append, List.nil_append, List.take_succ_cons, List.take_zero, List.drop_succ_cons, List.drop_zero]
          repeat (first
            | (refine rel_carith (by rfl) rfl (by rfl) rfl rfl ?_; intro p1 p2 P1 P2; simp only [Act.put, List.setIfInBounds_toArray, List.set_cons_zero, List.set_cons_succ])
            | (refine rel_call (f := 36) (args := #[.int .i64 _, .bool _]) (by rfl) rfl (callAt_func rfl Tryd.func36 (by kernel_rfl) (by kernel_rfl) rfl) (keeps_over (fun v h => h) fun x => wave_walk _ _ _) ?_; rintro _ ⟨wa, wb, rfl, hw1, hw2⟩; have W1 := Lib.hid hw1; have W2 := Lib.hid hw2; clear hw1 hw2; simp only [Act.put, List.setIfInBounds_toArray, List.set_cons_zero, List.set_cons_succ])
            | (refine rel_call (f := 35) (args := #[.complex .f64 _ _, .complex .f64 _ _]) (by rfl) rfl (callAt_func rfl Tryd.func35 (by kernel_rfl) (by kernel_rfl) rfl) (keepsD_over (fun v h => h) fun x => times_walk _ _ _ _ _) ?_; rintro _ ⟨ta, tb, rfl, ht1, ht2⟩; have T1 := Lib.hid ht1; have T2 := Lib.hid ht2; clear ht1 ht2; simp only [Act.put, List.setIfInBounds_toArray, List.set_cons_zero, List.set_cons_succ])
            | (refine rel_plain (by rfl) rfl ?_; intro K hK; go_big_quiet_op; go_big_quiet_on)
            | (refine rel_skip (by rfl) ?_; simp only [Act.put, List.setIfInBounds_toArray, List.set_cons_zero, List.set_cons_succ]))
          refine Rel.wpRel_nil ?_
          intro w9 hB9 hG9
          clear hG9 c1 c2 f2 l2
          have R9 := Lib.hid (R.out.below hB9)
          have G9 := Lib.hid (grow_trans G.out hB9)
          obtain ⟨za, zb, c2, _⟩ := R9.out.cell k hlt
          have f2 := R9.out.frozen k
          have l2 := R9.out.lt
          clear hB9
          have key1 := Lib.hid (show fl p1 = (wUp X n back k (j + 1)).re by
            rw [HS.out]; unfold cadd
            rw [P1.out, Y1.out, T1.out, X1.out, X2.out, W1.out, W2.out]; rfl)
          have key2 := Lib.hid (show fl p2 = (wUp X n back k (j + 1)).im by
            rw [HS.out]; unfold cadd
            rw [P2.out, Y2.out, T2.out, X1.out, X2.out, W1.out, W2.out]; rfl)
          go_wp2
          go_roundw
          case rel =>
            exact ⟨j + 1, by omega, by go_num, (R9.out.set hlt (wUp X n back k (j + 1)) key1.out key2.out).at fun i hi => by
              unfold updC
              by_cases e : i = k
              · subst e; simp
              · simp [e], grow_setCell G9.out (by omega) _⟩
          case measure => simp [intOf]; omega
        · obtain rfl : j = n := by omega
          go_wp2
          go_roundw
          case rel =>
            exact ⟨k + 1, by omega, by go_num, R.out.at fun i hi => by
              rcases Nat.lt_trichotomy i k with h | h | h
              · simp [h, Nat.lt_succ_of_lt h]
              · subst h; simp
              · rw [if_neg (by omega), if_neg (by omega), if_neg (by omega)], G.out⟩
          case measure => simp [intOf]; omega
    · obtain rfl : k = n := by omega
      cases back with
      | true =>
        go_wp2_with (go_at_call 34; refine (share_walk g k k _ _ hn R.out).mono ?_; rintro e w2 ⟨rfl, hr2, hbut⟩; have R2 := Lib.hid hr2; have B2 := Lib.hid hbut; clear hr2 hbut)
        go_ret2
        exact ⟨g, rfl, R2.out.at fun i hi => by simp [wavZ, hi], B2.out.below G.out (by omega)⟩
      | false =>
        go_wp2
        go_ret2
        exact ⟨g, rfl, R.out.at fun i hi => by simp [wavZ, hi], G.out⟩
set_option maxRecDepth 100000 in
set_option maxHeartbeats 8000000 in
theorem waves_no (a : Nat → Addr) (r : Option Addr) (n cap : Nat) (back : Bool) (w : World) (hs : Sen a [2, 5] w) (hn : n ≤ 9223372036854775807) (hE : sizeE n ≠ 0) :
    Calls Tryd.prog 15 #[.slice r n cap, .bool back] w fun e w' => e = .returned (.tuple #[.slice none 0 0, errV a (sizeE n)]) ∧ w = w' := by
  have SZ := Lib.hid (size_walk a n w hs hn)
  obtain ⟨u, hu⟩ := errV_pos2 a hE
  rw [hu] at SZ ⊢
  clear hs hE hu
  go_enter Tryd.func15, Tryd.ntmps15
  go_wp2_with (go_at_call 31; (with_reducible refine SZ.out.mono ?_); rintro e w1 ⟨rfl, rfl⟩)
  go_ret2
  exact ⟨rfl, rfl⟩
end Go.Proofs.YtaakbajhbmbhcaaDoor
