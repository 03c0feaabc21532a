/- ShiftGuess: the walk of the law. -/
import Derived.Test.YtaakbajhbmbhcaaDoorGu5
import Derived.Test.YtaakbajhbmbhcaaDoorSx8
set_option linter.unusedSimpArgs false
set_option linter.unusedVariables false
namespace Go.Proofs.YtaakbajhbmbhcaaDoor
open Go.RowKit Go.Fl Go.Grow Go.Tr

set_option maxRecDepth 100000 in
set_option maxHeartbeats 8000000 in
theorem gl_skip (a : Nat → Addr) (r1 r2 : Option Addr) (n m cap1 cap2 : Nat) (s : Int) (w : World) (hs : Sen a [2, 5] w) (hn : n ≤ 9223372036854775807) (hm : m ≤ 9223372036854775807) (h : 300 < n ∨ 300 < m) :
    Calls Tryd.prog 8 #[.slice r1 n cap1, .slice r2 m cap2, .int .i64 s] w fun e w' => e = .returned (.bool true) ∧ Below w.heap.size w w' := by
  have BF := Lib.hid (first_guess a w hs)
  unfold W4 at BF
  clear hs
  go_enter Tryd.func8, Tryd.ntmps8
  go_wp2_with (go_at_call 29; (with_reducible refine BF.out.mono ?_); rintro e w1 ⟨rfl, hb⟩; have HB := Lib.hid hb; clear hb)
  all_goals
    go_ret
    exact ⟨rfl, HB.out⟩
set_option maxRecDepth 100000 in
set_option maxHeartbeats 8000000 in
theorem gl_err (a : Nat → Addr) (r1 r2 : Option Addr) (n m cap1 cap2 : Nat) (s : Int) (x y : Nat → Int) (w : World) (hs : Sen a allK w) (hh : Hand w) (hne : ∀ j ∈ allK, ∀ k ∈ allK, j ≠ k → a j ≠ a k) (h1 : IntsAt w r1 n x) (h2 : IntsAt w r2 m y)
    (hn : n ≤ 300) (hm : m ≤ 300) (hE : guessE n m x y ≠ 0) :
    Calls Tryd.prog 8 #[.slice r1 n cap1, .slice r2 m cap2, .int .i64 s] w fun e w' => e = .returned (.bool true) ∧ Below w.heap.size w w' := by
  have hs2 : Sen a [2, 5] w := hs.sub (by decide)
  have BF := Lib.hid (first_guess a w hs2)
  unfold W4 at BF
  have hE10 := guessE_le n m x y
  have GX := Lib.hid (fun X (hX : Below w.heap.size w X) => guess_no a r1 r2 n m cap1 cap2 x y X (by omega) (by omega) (hs2.below hX) (h1.below hX) (h2.below hX) hE)
  have RX := Lib.hid (fun X (hX : Below w.heap.size w X) => rowsError_walk r1 r2 n m cap1 cap2 x y X (by omega) (by omega) (h1.below hX) (h2.below hX))
  have TX := Lib.hid (fun X => isTwo_any 10 n X (show n < 1024 by omega) (by omega))
  have CD := Lib.hid (fun X (hX : Below w.heap.size w X) => coded_same a (guessE n m x y) hE10 X (hs.below hX) (hh.below hX) hne)
  obtain ⟨u, hu⟩ := errV_pos2 a hE
  rw [hu] at GX CD
  clear hu hs hh hne h1 h2 hs2
  by_cases h0 : rowsE n m x y = 0
  · have h5 : guessE n m x y = 5 := by
      unfold guessE at hE ⊢
      rw [if_pos h0] at hE ⊢
      split at hE
      · exact absurd rfl hE
      · rename_i h; rw [if_neg h]
    have hT : halvF 10 n = false := by
      rw [halvF_p2 n (by have := (rowsE_yes h0).2.1; omega)]
      cases h : isP2 n with
      | true => exact absurd (by unfold guessE; rw [if_pos h0, h]; rfl) hE
      | false => rfl
    rw [h0] at RX
    rw [hT] at TX
    rw [h5] at CD
    have CD2 := Lib.hid (fun X (hX : Below w.heap.size w X) => show Calls Tryd.prog 18 #[.iface 138 (.pointer (some u)), .int .i64 5] X fun e w' => e = .returned (.bool true) ∧ Below X.heap.size X w' from CD.out X hX)
    have RX2 := Lib.hid (fun X (hX : Below w.heap.size w X) => show Calls Tryd.prog 23 #[.slice r1 n cap1, .slice r2 m cap2] X fun e w' => e = .returned (.int .i64 0) ∧ X = w' from RX.out X hX)
    clear CD RX hE hE10 h0 h5 hT
    go_enter Tryd.func8, Tryd.ntmps8
    have s0 := trivial
    go_wp2_with (first
      | (clear s0; go_at_call 29; (with_reducible refine BF.out.mono ?_); rintro e w1 ⟨rfl, hb⟩; have HB := Lib.hid hb; clear hb BF)
      | (go_at_call 29; (with_reducible refine (GX.out _ HB.out).mono ?_); rintro e w2 ⟨rfl, hb⟩; have HB2 := Lib.hid (grow_trans HB.out hb); clear hb HB)
      | (go_at_call 23; (with_reducible refine (RX2.out _ HB2.out).mono ?_); rintro e w3 ⟨rfl, rfl⟩)
      | (go_at_call 10; (with_reducible refine (TX.out _).mono ?_); rintro e w4 ⟨rfl, rfl⟩)
      | (go_at_call 18; (with_reducible refine (CD2.out _ HB2.out).mono ?_); rintro e w6 ⟨rfl, hb⟩; have HB6 := Lib.hid (grow_trans HB2.out hb); clear hb))
    all_goals
      go_ret
      exact ⟨rfl, HB6.out⟩
  · have h5 : guessE n m x y = rowsE n m x y := by unfold guessE; rw [if_neg h0]
    rw [h5] at CD hE10
    clear h5 hE
    generalize halvF 10 n = t at TX
    generalize rowsE n m x y = E at CD RX hE10 h0
    have hE0 : 0 < E := by omega
    have d1 : ((E : Int) == 0) = false := by simp; omega
    clear h0
    go_enter Tryd.func8, Tryd.ntmps8
    have s0 := trivial
    go_wp2_with (first
      | (clear s0; go_at_call 29; (with_reducible refine BF.out.mono ?_); rintro e w1 ⟨rfl, hb⟩; have HB := Lib.hid hb; clear hb BF)
      | (go_at_call 29; (with_reducible refine (GX.out _ HB.out).mono ?_); rintro e w2 ⟨rfl, hb⟩; have HB2 := Lib.hid (grow_trans HB.out hb); clear hb HB)
      | (go_at_call 23; (with_reducible refine (RX.out _ HB2.out).mono ?_); rintro e w3 ⟨rfl, rfl⟩)
      | (go_at_call 10; (with_reducible refine (TX.out _).mono ?_); rintro e w4 ⟨rfl, rfl⟩)
      | (go_at_call 18; (with_reducible refine (CD.out _ HB2.out).mono ?_); rintro e w6 ⟨rfl, hb⟩; have HB6 := Lib.hid (grow_trans HB2.out hb); clear hb))
    all_goals
      go_ret
      exact ⟨rfl, HB6.out⟩
set_option maxRecDepth 100000 in
set_option maxHeartbeats 8000000 in
theorem gl_out (a : Nat → Addr) (r1 r2 : Option Addr) (m n cap1 cap2 : Nat) (s : Int) (x y : Nat → Int) (w : World) (hs : Sen a allK w) (hh : Hand w) (hne : ∀ j ∈ allK, ∀ k ∈ allK, j ≠ k → a j ≠ a k) (h1 : IntsAt w r1 n x) (h2 : IntsAt w r2 n y)
    (hE : rowsE n n x y = 0) (hm : 2 ^ m = n) (hp : isP2 n = true) (ho : s < 0 ∨ (n : Int) ≤ s) :
    Calls Tryd.prog 8 #[.slice r1 n cap1, .slice r2 n cap2, .int .i64 s] w fun e w' => e = .returned (.bool true) ∧ Below w.heap.size w w' := by
  have hs2 : Sen a [2, 5] w := hs.sub (by decide)
  obtain ⟨_, hn, hn0⟩ := rowsE_yes hE
  have BF := Lib.hid (first_guess a w hs2)
  unfold W4 at BF
  have GX := Lib.hid (fun X (hX : Below w.heap.size w X) => guess_yes a r1 r2 m n cap1 cap2 x y X (hs2.below hX) (h1.below hX) (h2.below hX) hE hm hp)
  have RX := Lib.hid (fun X (hX : Below w.heap.size w X) => rowsError_walk r1 r2 n n cap1 cap2 x y X (by omega) (by omega) (h1.below hX) (h2.below hX))
  rw [hE] at RX
  have TX := Lib.hid (fun X => show Calls Tryd.prog 10 #[.int .i64 n] X fun e w' => e = .returned (.bool true) ∧ X = w' by
    have h := isTwo_any 10 n X (show n < 1024 by omega) (by omega)
    rwa [halvF_p2 n (by omega), hp] at h)
  have CD := Lib.hid (fun X (hX : Below w.heap.size w X) => show Calls Tryd.prog 18 #[.nilIface, .int .i64 0] X fun e w' => e = .returned (.bool true) ∧ Below X.heap.size X w' from coded_same a 0 (by omega) X (hs.below hX) (hh.below hX) hne)
  have OX := Lib.hid (fun X (hX : Below w.heap.size w X) => guessOf_walk r1 r2 m n cap1 cap2 x y X (h1.below hX) (h2.below hX) hn hn0 hm)
  generalize guessZ m n x y = z at GX OX
  clear hs hh hne h1 h2 hs2 hE hm hp
  rcases ho with ho | ho
  all_goals
    (try have hs0 : ¬ s < 0 := by omega)
    go_enter Tryd.func8, Tryd.ntmps8
    have s0 := trivial
    go_wp2_with (first
      | (clear s0; go_at_call 29; (with_reducible refine BF.out.mono ?_); rintro e w1 ⟨rfl, hb⟩; have HB := Lib.hid hb; clear hb BF)
      | (go_at_call 29; (with_reducible refine (GX.out _ HB.out).mono ?_); rintro e w2 ⟨rfl, hb⟩; have HB2 := Lib.hid (grow_trans HB.out hb); clear hb HB)
      | (go_at_call 23; (with_reducible refine (RX.out _ HB2.out).mono ?_); rintro e w3 ⟨rfl, rfl⟩)
      | (go_at_call 10; (with_reducible refine (TX.out _).mono ?_); rintro e w4 ⟨rfl, rfl⟩)
      | (go_at_call 18; (with_reducible refine (CD.out _ HB2.out).mono ?_); rintro e w6 ⟨rfl, hb⟩; have HB6 := Lib.hid (grow_trans HB2.out hb); clear hb)
      | (go_at_call 30; (with_reducible refine (OX.out _ HB6.out).mono ?_); rintro e w7 ⟨rfl, hb⟩; have HB7 := Lib.hid (grow_trans HB6.out hb); clear hb))
    all_goals
      go_ret
      exact ⟨rfl, HB7.out⟩
end Go.Proofs.YtaakbajhbmbhcaaDoor
/- ShiftGuess: the walk of the law, of a row that was shifted. -/
set_option linter.unusedSimpArgs false
set_option linter.unusedVariables false
namespace Go.Proofs.YtaakbajhbmbhcaaDoor
open Go.RowKit Go.Fl Go.Grow Go.Tr

def ivL (c : Nat → Int) (k : Nat) : List Value := (List.range k).map fun i => Value.int .i64 (c i)
theorem ivL_len (c : Nat → Int) (k : Nat) : (ivL c k).length = k := by simp [ivL]
theorem ivL_next (c : Nat → Int) (k : Nat) : ivL c (k + 1) = ivL c k ++ [.int .i64 (c k)] := by simp [ivL, List.range_succ]
theorem one_iv (z : Int) : ∀ u ∈ [Value.int .i64 z], u.oneCell' = true := fun u h => by simp at h; subst h; rfl
theorem ints_of_owns {w : World} {base n : Nat} {v : Value} {c : Nat → Int} {e : TypeId} (h : w.ownsRow base e 1 v n (ivL c n)) : ∃ r cap, v = .slice r n cap ∧ IntsAt w r n c := by
  obtain ⟨hl, ⟨hv, hn⟩ | ⟨g, cap, cur, hv, hg⟩⟩ := h
  · exact ⟨none, 0, by rw [hv, hn], .inl hn⟩
  · subst hv
    have hc := owns_cells (w := w) (base := base) (e := e) (size := 1) (g := g) (n := n) (cap := cap) (xs := ivL c n) ⟨hl, .inr ⟨g, cap, cur, rfl, hg⟩⟩
    refine ⟨some ⟨g, 0, none⟩, cap, rfl, .inr ⟨g, 0, rfl, fun k hk => ?_⟩⟩
    rw [Nat.zero_add]
    exact hc k _ (by simp [ivL, hk])
def MovRel (c : Nat → Int) (n : Nat) (w : World) (v12 v13 : Value) (wr : World) : Prop :=
  ∃ k : Nat, k ≤ n ∧ v13 = .int .i64 k ∧ wr.ownsRow w.heap.size 3 1 v12 k (ivL c k) ∧ Below w.heap.size w wr
def TopRel (z : Nat → Int) (n j : Nat) (w : World) (v15 : Value) (wr : World) : Prop :=
  ∃ i q : Nat, i ≤ n ∧ v15 = .int .i64 i ∧ (∀ t, t < i → t ≠ j → 2 * z t < z j) ∧ wr = w.drewN q
theorem rowsE_bound {n : Nat} {x y : Nat → Int} (h : rowsE n n x y = 0) : ∀ i, i < n → farB (x i) = false := by
  obtain ⟨_, hn, hn0⟩ := rowsE_yes h
  unfold rowsE at h
  rw [if_neg (by omega), if_neg (by omega)] at h
  cases hx : anyZ farB x n with
  | true => rw [hx] at h; simp at h
  | false => exact anyZ_of hx
theorem rowsE_mov {n s : Nat} {x y : Nat → Int} (h : rowsE n n x y = 0) : rowsE n n x (movZ x n s) = 0 := by
  obtain ⟨_, hn, hn0⟩ := rowsE_yes h
  have b := rowsE_bound h
  have b2 : anyZ farB (movZ x n s) n = false := anyZ_false (fun i hi => b _ (Nat.mod_lt _ hn0))
  unfold rowsE
  rw [if_neg (by omega), if_neg (by omega), anyZ_false b, b2]
  rfl
set_option maxRecDepth 100000 in
set_option maxHeartbeats 16000000 in
theorem gl_in (a : Nat → Addr) (r1 r2 : Option Addr) (m n cap1 cap2 j : Nat) (x y : Nat → Int) (w : World) (hs : Sen a allK w) (hh : Hand w) (hne : ∀ j ∈ allK, ∀ k ∈ allK, j ≠ k → a j ≠ a k) (h1 : IntsAt w r1 n x) (h2 : IntsAt w r2 n y)
    (hE : rowsE n n x y = 0) (hm : 2 ^ m = n) (hp : isP2 n = true) (hj : j < n) :
    Calls Tryd.prog 8 #[.slice r1 n cap1, .slice r2 n cap2, .int .i64 j] w fun e w' => e = .returned (.bool true) ∧ Below w.heap.size w w' := by
  have hs2 : Sen a [2, 5] w := hs.sub (by decide)
  obtain ⟨_, hn, hn0⟩ := rowsE_yes hE
  obtain ⟨i0, hi, hz0, hz1, hz2⟩ := info_parts info_int
  have HI := Lib.hid hi
  have HZ0 := Lib.hid hz0
  have HZ1 := Lib.hid hz1
  have HZ2 := Lib.hid hz2
  have BF := Lib.hid (first_guess a w hs2)
  unfold W4 at BF
  have GX := Lib.hid (fun X (hX : Below w.heap.size w X) => guess_yes a r1 r2 m n cap1 cap2 x y X (hs2.below hX) (h1.below hX) (h2.below hX) hE hm hp)
  have RX := Lib.hid (fun X (hX : Below w.heap.size w X) => rowsError_walk r1 r2 n n cap1 cap2 x y X (by omega) (by omega) (h1.below hX) (h2.below hX))
  have TX := Lib.hid (fun X => show Calls Tryd.prog 10 #[.int .i64 n] X fun e w' => e = .returned (.bool true) ∧ X = w' by
    have h := isTwo_any 10 n X (show n < 1024 by omega) (by omega)
    rwa [halvF_p2 n (by omega), hp] at h)
  have CD := Lib.hid (fun X (hX : Below w.heap.size w X) => show Calls Tryd.prog 18 #[.nilIface, .int .i64 0] X fun e w' => e = .returned (.bool true) ∧ Below X.heap.size X w' from coded_same a 0 (by omega) X (hs.below hX) (hh.below hX) hne)
  have OX := Lib.hid (fun X (hX : Below w.heap.size w X) => guessOf_walk r1 r2 m n cap1 cap2 x y X (h1.below hX) (h2.below hX) hn hn0 hm)
  have hx : ∀ i, i < n → (x i).natAbs ≤ 1048576 := fun i hi => farB_le (rowsE_bound hE i hi)
  have AX := Lib.hid (fun X r c i (hX : Below w.heap.size w X) (hi : i < n) (hr : IntsAt X r n (movZ x n j)) => crossAt_walk r1 r n cap1 c i x (movZ x n j) X hn hi (h1.below hX) hr)
  have FX := Lib.hid (fun X r c (hX : Below w.heap.size w X) (hr : IntsAt X r n (movZ x n j)) (ht : ∀ t, t < n → t ≠ j → 2 * crossZ x (movZ x n j) n t < crossZ x (movZ x n j) n j) =>
    show Calls Tryd.prog 29 #[.slice r1 n cap1, .slice r n c] X fun e w' => e = .returned (.tuple #[.int .i64 j, .nilIface]) ∧ Below X.heap.size X w' by
      have h := guess_yes a r1 r m n cap1 c x (movZ x n j) X (hs2.below hX) (h1.below hX) hr (rowsE_mov hE) hm hp
      rwa [guess_moved hm hn hj hx ht] at h)
  have BD := Lib.hid (fun t => show (crossZ x (movZ x n j) n t).natAbs ≤ 281474976710656 by
    have := (cross_isum (s := t) hx (y := movZ x n j) (fun i hi => hx _ (Nat.mod_lt _ hn0)) hn n (Nat.le_refl n)).2
    unfold crossZ
    have k : n * 1099511627776 ≤ 256 * 1099511627776 := Nat.mul_le_mul_right _ hn
    exact Nat.le_trans this k)
  rw [hE] at RX
  obtain ⟨b1, o1, rfl, hc1⟩ := h1.resolve_left (by omega)
  have hb1 : b1 < w.heap.size := lt_of_cell (hc1 0 hn0)
  have H1 := Lib.hid hc1
  generalize guessZ m n x y = z at GX OX
  generalize crossZ x (movZ x n j) n = Z at AX FX BD
  clear hs hh hne h1 h2 hs2 hE hm hp hi hz0 hz1 hz2 hc1 hx
  have dj0 : decide ((j : Int) < 0) = false := decide_eq_false (by omega)
  have dnj : decide (n ≤ j) = false := decide_eq_false (by omega)
  have dni : decide ((n : Int) ≤ (j : Int)) = false := decide_eq_false (by omega)
  have d300 : decide ((300 : Int) < (n : Int)) = false := decide_eq_false (by omega)
  go_enter Tryd.func8, Tryd.ntmps8
  have s0 := trivial
  go_wp2_with (first
    | (clear s0; go_at_call 29; (with_reducible refine BF.out.mono ?_); rintro e w1 ⟨rfl, hb⟩; have HB := Lib.hid hb; clear hb BF)
    | (go_at_call 29; (with_reducible refine (GX.out _ HB.out).mono ?_); rintro e w2 ⟨rfl, hb⟩; have HB2 := Lib.hid (grow_trans HB.out hb); clear hb HB)
    | (go_at_call 23; (with_reducible refine (RX.out _ HB2.out).mono ?_); rintro e w3 ⟨rfl, rfl⟩)
    | (go_at_call 10; (with_reducible refine (TX.out _).mono ?_); rintro e w4 ⟨rfl, rfl⟩)
    | (go_at_call 18; (with_reducible refine (CD.out _ HB2.out).mono ?_); rintro e w6 ⟨rfl, hb⟩; have HB6 := Lib.hid (grow_trans HB2.out hb); clear hb HB2)
    | (go_at_call 30; (with_reducible refine (OX.out _ HB6.out).mono ?_); rintro e w7 ⟨rfl, hb⟩; have HB7 := Lib.hid (grow_trans HB6.out hb); clear hb HB6))
  clear GX RX TX CD OX
  have hb1w : b1 < w7.heap.size := Nat.lt_of_lt_of_le hb1 HB7.out.size
  go_loopw [12, 13] (fun v12 v13 wr => MovRel (movZ x n j) n w7 v12 v13 wr) (fun _ i _ => n - (intOf i).toNat)
  case atStart => exact ⟨0, Nat.zero_le _, rfl, World.ownsRow_nil _ _ _ _, Below.refl _ _⟩
  case round =>
    obtain ⟨k, hk, rfl, hown, hg⟩ := hrel
    have O := Lib.hid hown
    have G := Lib.hid hg
    clear hown hg
    have hz := G.out.size
    by_cases hlt : k < n
    · obtain ⟨q, hq⟩ : ∃ q, (k + n - j) % n = q := ⟨_, rfl⟩
      have hqn : q < n := by rw [← hq]; exact Nat.mod_lt _ hn0
      have e0 := (G.out.cell (p := ⟨b1, o1 + q, none⟩) hb1w).trans ((HB7.out.cell (p := ⟨b1, o1 + q, none⟩) hb1).trans (H1.out q hqn))
      have MV := Lib.hid (show movZ x n j k = x q by unfold movZ; rw [hq])
      have hb1' : b1 < wr.heap.size := Nat.lt_of_lt_of_le hb1w hz
      have m1 : IntKind.i64.wrap ((k : Int) - (j : Int)) = (k : Int) - (j : Int) := IntWalk.i64_in _ (by omega)
      have m2 : IntKind.i64.wrap ((k : Int) - (j : Int) + (n : Int)) = ((k + n - j : Nat) : Int) := by rw [IntWalk.i64_in _ (by omega)]; omega
      have m3 : ((k + n - j : Nat) : Int).tmod (n : Int) = (q : Int) := by rw [← hq]; exact (Int.ofNat_tmod _ _).symm
      generalize k + n - j = t at m2 m3
      clear hq
      have hn1 : ¬ ((n : Int) = 0) := by omega
      have hi0 : (0 : Int) ≤ (q : Int) := by omega
      have hi1 : (q : Int) < (n : Int) := by omega
      have C3 := Lib.hid (show k + 1 ≤ maxLen by unfold maxLen; omega)
      have C4 := Lib.hid (show (k + 1) * 8 ≤ 140737488355328 by omega)
      have C5 := Lib.hid (fun (b : Int) => show w7.heap.size ≤ (wr.alloc (.cells #[Value.int .i64 b] 3)).heap.size by simp; omega)
      go_wp2_with (at_builtin; refine wpList_append_own _ rfl _ _ 39 rfl w7.heap.size 3 i0 (.int .i64 0) 1 8 Tryd.underlying39 HI.out HZ0.out HZ1.out HZ2.out rfl (by decide) _ _ _ rfl (O.out.alloc _) ⟨wr.heap.size, 0, none⟩ 1 1 [.int .i64 (x q)] rfl rfl (one_new _ _ _) (one_iv _) C3.out C4.out (C5.out _) ?_)
      intro v' w8 hown' hg' _
      have HO2 := Lib.hid hown'
      have HG2 := Lib.hid hg'
      clear hown' hg'
      go_wp2
      go_roundw
      case rel =>
        refine ⟨k + 1, by omega, by go_num, ?_, below_grown (G.out.alloc hz _) (by simp; omega) HG2.out (fun k hk => (O.out.lt k hk).1)⟩
        rw [ivL_next, MV.out]
        exact HO2.out
      case measure => simp [intOf]; omega
    · obtain rfl : k = n := by omega
      obtain ⟨r', c', hv, hri⟩ := ints_of_owns O.out
      subst hv
      have R := Lib.hid hri
      have G8 := Lib.hid (grow_trans HB7.out G.out)
      clear hri O G HB7 H1
      have s1 := trivial
      go_wp2_with (clear s1; go_at_call 24; (with_reducible refine (AX.out _ _ _ _ G8.out hj R.out).mono ?_); rintro e w9 ⟨rfl, q0, rfl⟩)
      go_loopw [15] (fun v15 wo => TopRel Z k j wr v15 wo) (fun i _ => k - (intOf i).toNat)
      case atStart => exact ⟨0, q0, Nat.zero_le _, rfl, fun t ht => absurd ht (by omega), rfl⟩
      case round =>
        obtain ⟨i, q, hi, rfl, ht, rfl⟩ := hrel
        have T := Lib.hid ht
        have GQ := Lib.hid (grow_drewN G8.out q)
        have RQ := Lib.hid (show IntsAt (wr.drewN q) r' k (movZ x k j) from R.out.drewN q)
        clear ht
        by_cases hlt : i < k
        · by_cases hij : i = j
          · subst hij
            go_wp2
            go_roundw
            case rel => exact ⟨i + 1, q, by omega, by go_num, fun t ht hne => T.out t (by omega) hne, rfl⟩
            case measure => simp [intOf]; omega
          · have d1 : ((i : Int) == (j : Int)) = false := by simp; omega
            have AI := Lib.hid (AX.out (wr.drewN q) r' c' i GQ.out hlt RQ.out)
            have bi := BD.out i
            have bj := BD.out j
            have m1 : IntKind.i64.wrap (2 * Z i) = 2 * Z i := IntWalk.i64_in _ (by omega)
            have TN := Lib.hid (fun (h : 2 * Z i < Z j) => show ∀ t, t < i + 1 → t ≠ j → 2 * Z t < Z j from fun t ht hne => by
              rcases Nat.lt_succ_iff_lt_or_eq.1 ht with h2 | h2
              · exact T.out t h2 hne
              · rw [h2]; exact h)
            generalize hzi : Z i = zi at *
            generalize hzj : Z j = zj at *
            by_cases hge : zj ≤ 2 * zi
            · go_wp2_with (go_at_call 24; (with_reducible refine AI.out.mono ?_); rintro e w10 ⟨rfl, q1, rfl⟩)
              go_ret
              exact ⟨rfl, grow_drewN G8.out _⟩
            · go_wp2_with (go_at_call 24; (with_reducible refine AI.out.mono ?_); rintro e w10 ⟨rfl, q1, rfl⟩)
              go_roundw
              case rel => exact ⟨i + 1, q + q1, by omega, by go_num, by rw [hzj]; exact TN.out (by omega), by first | rfl | rw [World.drewN_drewN]⟩
              case measure => simp [intOf]; omega
        · obtain rfl : i = k := by omega
          have FQ := Lib.hid (FX.out (wr.drewN q) r' c' GQ.out RQ.out (fun t h1 h2 => T.out t h1 h2))
          go_wp2_with (go_at_call 29; (with_reducible refine FQ.out.mono ?_); rintro e w10 ⟨rfl, hb⟩; have HB10 := Lib.hid (grow_trans GQ.out hb); clear hb)
          go_ret
          exact ⟨by simp, HB10.out⟩
theorem guess_walk (a : Nat → Addr) (r1 r2 : Option Addr) (n m cap1 cap2 : Nat) (s : Int) (x y : Nat → Int) (w : World) (hs : Sen a allK w) (hh : Hand w) (hne : ∀ j ∈ allK, ∀ k ∈ allK, j ≠ k → a j ≠ a k) (h1 : IntsAt w r1 n x) (h2 : IntsAt w r2 m y) (hn : n ≤ 9223372036854775807) (hm : m ≤ 9223372036854775807) :
    Calls Tryd.prog 8 #[.slice r1 n cap1, .slice r2 m cap2, .int .i64 s] w fun e w' => e = .returned (.bool true) ∧ Below w.heap.size w w' := by
  by_cases h : 300 < n ∨ 300 < m
  · exact gl_skip a r1 r2 n m cap1 cap2 s w (hs.sub (by decide)) hn hm h
  · by_cases hE : guessE n m x y = 0
    · have h0 : rowsE n m x y = 0 := by
        refine Classical.byContradiction fun h0 => ?_
        unfold guessE at hE
        rw [if_neg h0] at hE
        exact h0 hE
      have hp : isP2 n = true := by
        cases hq : isP2 n with
        | true => rfl
        | false => unfold guessE at hE; rw [if_pos h0, hq] at hE; simp at hE
      obtain ⟨rfl, _, _⟩ := rowsE_yes h0
      obtain ⟨p, hp2, _, _⟩ := isP2_pow hp
      by_cases ho : s < 0 ∨ (n : Int) ≤ s
      · exact gl_out a r1 r2 p n cap1 cap2 s x y w hs hh hne h1 h2 h0 hp2 hp ho
      · obtain ⟨j, rfl⟩ : ∃ j : Nat, (j : Int) = s := ⟨s.toNat, by omega⟩
        exact gl_in a r1 r2 p n cap1 cap2 j x y w hs hh hne h1 h2 h0 hp2 hp (by omega)
    · exact gl_err a r1 r2 n m cap1 cap2 s x y w hs hh hne h1 h2 (by omega) (by omega) hE
end Go.Proofs.YtaakbajhbmbhcaaDoor
