/- Rows of whole numbers: slices.IndexFunc, ContainsFunc, Max, Index; the program's own test of two rows. -/
import Derived.Test.YtaakbajhbmbhcaaDoorSen
import Derived.Test.YtaakbajhbmbhcaaDoorKno
import Derived.Deep.LoopGhost
import Derived.Outline
import Derived.Laws.MakeOwn
import Derived.Laws.OwnMore
set_option linter.unusedSimpArgs false
set_option linter.unusedVariables false
namespace Go.Proofs.YtaakbajhbmbhcaaDoor
open Go.RowKit Go.Grow

def IntsAt (w : World) (r : Option Addr) (len : Nat) (z : Nat → Int) : Prop := len = 0 ∨ ∃ b0 o0, r = some ⟨b0, o0, none⟩ ∧ ∀ k, k < len → w.cell? ⟨b0, o0 + k, none⟩ = some (.int .i64 (z k))
theorem IntsAt.below {w w' : World} {r : Option Addr} {len : Nat} {z : Nat → Int} (h : IntsAt w r len z) (hb : Below w.heap.size w w') : IntsAt w' r len z := by
  rcases h with h | ⟨b0, o0, rfl, hc⟩
  · exact .inl h
  · refine .inr ⟨b0, o0, rfl, fun k hk => ?_⟩
    have c := hc k hk
    rw [hb.cell (p := ⟨b0, o0 + k, none⟩) (lt_of_cell c)]
    exact c
theorem IntsAt.drewN {w : World} {r : Option Addr} {len : Nat} {z : Nat → Int} (h : IntsAt w r len z) (n : Nat) : IntsAt (w.drewN n) r len z := h.below (grow_drewN (grow_refl w) n)
def anyZ (p : Int → Bool) (z : Nat → Int) : Nat → Bool
  | 0 => false
  | n + 1 => anyZ p z n || p (z n)
theorem anyZ_false {p : Int → Bool} {z : Nat → Int} : ∀ {n : Nat}, (∀ j, j < n → p (z j) = false) → anyZ p z n = false
  | 0, _ => rfl
  | n + 1, h => by unfold anyZ; rw [anyZ_false fun j hj => h j (by omega), h n (by omega)]; rfl
theorem anyZ_true {p : Int → Bool} {z : Nat → Int} {k : Nat} (hk : p (z k) = true) : ∀ {n : Nat}, k < n → anyZ p z n = true
  | 0, h => absurd h (by omega)
  | n + 1, h => by
    unfold anyZ
    rcases Nat.lt_or_ge k n with h' | h'
    · rw [anyZ_true hk h']; rfl
    · obtain rfl : k = n := by omega
      rw [hk]; simp
theorem anyZ_of {p : Int → Bool} {z : Nat → Int} : ∀ {n : Nat}, anyZ p z n = false → ∀ j, j < n → p (z j) = false
  | 0, _, j, hj => absurd hj (by omega)
  | n + 1, h, j, hj => by
    unfold anyZ at h
    simp only [Bool.or_eq_false_iff] at h
    rcases Nat.lt_or_ge j n with h' | h'
    · exact anyZ_of h.1 j h'
    · obtain rfl : j = n := by omega
      exact h.2
def IdxZ (n : Nat) (p : Int → Bool) (z : Nat → Int) (e : Ending) : Prop := ∃ i : Int, e = .returned (.int .i64 i) ∧ -1 ≤ i ∧ ((0 ≤ i ∧ anyZ p z n = true) ∨ (i = -1 ∧ anyZ p z n = false))

def farB (x : Int) : Bool := decide (1048576 < x) || decide (x < -1048576)
set_option maxRecDepth 100000 in
set_option maxHeartbeats 4000000 in
theorem rows1_walk (x : Int) (W : World) : Calls Tryd.prog 57 #[.int .i64 x] W fun e w' => e = .returned (.bool (farB x)) ∧ W = w' := by
  by_cases h1 : 1048576 < x
  · have e : farB x = true := by unfold farB; rw [decide_eq_true h1]; rfl
    rw [e]; clear e
    go_enter Tryd.func57, Tryd.ntmps57
    go_wp2
    go_ret
    exact ⟨rfl, rfl⟩
  · by_cases h2 : x < -1048576
    · have e : farB x = true := by unfold farB; rw [decide_eq_true h2]; simp
      rw [e]; clear e
      go_enter Tryd.func57, Tryd.ntmps57
      go_wp2
      go_ret
      exact ⟨rfl, rfl⟩
    · have e : farB x = false := by unfold farB; rw [decide_eq_false h1, decide_eq_false h2]; rfl
      rw [e]; clear e
      go_enter Tryd.func57, Tryd.ntmps57
      go_wp2
      go_ret
      exact ⟨rfl, rfl⟩
set_option maxRecDepth 100000 in
set_option maxHeartbeats 4000000 in
theorem index_rows1 (r : Option Addr) (n cap : Nat) (z : Nat → Int) (w : World) (hn : n ≤ 9223372036854775807) (hr : IntsAt w r n z) :
    Calls Tryd.prog 65 #[.slice r n cap, .func (.func 57) #[] #[]] w fun e w' => IdxZ n farB z e ∧ w = w' := by
  have HR := Lib.hid hr
  have HP := Lib.hid rows1_walk
  clear hr
  go_enter Tryd.func65, Tryd.ntmps65
  go_wp2
  go_loop [8] (fun v8 => ∃ k : Nat, k ≤ n ∧ v8 = .int .i64 k ∧ Hid (∀ j, j < k → farB (z j) = false)) (fun i => n - (intOf i).toNat)
  case atStart => exact ⟨0, Nat.zero_le _, rfl, Lib.hid fun j h => absurd h (by omega)⟩
  case round =>
    obtain ⟨k, hk, rfl, HNO⟩ := hrel
    by_cases hlt : k < n
    · obtain ⟨b1, o1, rfl, hc⟩ := HR.out.resolve_left (by omega)
      have c0 := hc k hlt
      clear hc
      have HQ := Lib.hid (fun W => HP.out (z k) W)
      cases hpk : farB (z k) with
      | true =>
        have HPK := Lib.hid hpk
        rw [hpk] at HQ
        clear hpk
        generalize z k = x at c0 HQ
        go_wp2_with (go_at_call 57; (with_reducible refine (HQ.out _).mono ?_); rintro e w1 ⟨rfl, rfl⟩)
        go_ret
        exact ⟨⟨k, rfl, by omega, .inl ⟨by omega, anyZ_true HPK.out hlt⟩⟩, rfl⟩
      | false =>
        have HPK := Lib.hid hpk
        rw [hpk] at HQ
        clear hpk
        generalize z k = x at c0 HQ
        go_wp2_with (go_at_call 57; (with_reducible refine (HQ.out _).mono ?_); rintro e w1 ⟨rfl, rfl⟩)
        go_round
        case rel =>
          refine ⟨k + 1, by omega, by go_num, Lib.hid fun j hj => ?_⟩
          rcases Nat.lt_or_ge j k with h | h
          · exact HNO.out j h
          · obtain rfl : j = k := by omega
            exact HPK.out
        case measure => simp [intOf]; omega
    · obtain rfl : k = n := by omega
      go_wp2
      go_ret
      exact ⟨⟨-1, rfl, by omega, .inr ⟨rfl, anyZ_false HNO.out⟩⟩, rfl⟩
set_option maxRecDepth 100000 in
set_option maxHeartbeats 4000000 in
theorem has_rows1 (r : Option Addr) (n cap : Nat) (z : Nat → Int) (w : World) (hn : n ≤ 9223372036854775807) (hr : IntsAt w r n z) :
    Calls Tryd.prog 53 #[.slice r n cap, .func (.func 57) #[] #[]] w fun e w' => e = .returned (.bool (anyZ farB z n)) ∧ w = w' := by
  have HI := Lib.hid (index_rows1 r n cap z w hn hr)
  clear hr
  go_enter Tryd.func53, Tryd.ntmps53
  go_wp2_with (go_at_call 65; (with_reducible refine HI.out.mono ?_); rintro e w1 ⟨⟨i, rfl, hi1, hi⟩, rfl⟩; have HII := Lib.hid hi; clear hi)
  go_ret
  refine ⟨?_, rfl⟩
  rcases HII.out with ⟨h, h2⟩ | ⟨h, h2⟩
  · rw [h2, decide_eq_true h]; rfl
  · rw [h2, h]; rfl

def badB (x : Int) : Bool := decide (x < 0) || decide (65535 < x)
set_option maxRecDepth 100000 in
set_option maxHeartbeats 4000000 in
theorem valid1_walk (x : Int) (W : World) : Calls Tryd.prog 54 #[.int .i64 x] W fun e w' => e = .returned (.bool (badB x)) ∧ W = w' := by
  by_cases h1 : x < 0
  · have e : badB x = true := by unfold badB; rw [decide_eq_true h1]; rfl
    rw [e]; clear e
    go_enter Tryd.func54, Tryd.ntmps54
    go_wp2
    go_ret
    exact ⟨rfl, rfl⟩
  · by_cases h2 : 65535 < x
    · have e : badB x = true := by unfold badB; rw [decide_eq_true h2]; simp
      rw [e]; clear e
      go_enter Tryd.func54, Tryd.ntmps54
      go_wp2
      go_ret
      exact ⟨rfl, rfl⟩
    · have e : badB x = false := by unfold badB; rw [decide_eq_false h1, decide_eq_false h2]; rfl
      rw [e]; clear e
      go_enter Tryd.func54, Tryd.ntmps54
      go_wp2
      go_ret
      exact ⟨rfl, rfl⟩
set_option maxRecDepth 100000 in
set_option maxHeartbeats 4000000 in
theorem index_valid1 (r : Option Addr) (n cap : Nat) (z : Nat → Int) (w : World) (hn : n ≤ 9223372036854775807) (hr : IntsAt w r n z) :
    Calls Tryd.prog 65 #[.slice r n cap, .func (.func 54) #[] #[]] w fun e w' => IdxZ n badB z e ∧ w = w' := by
  have HR := Lib.hid hr
  have HP := Lib.hid valid1_walk
  clear hr
  go_enter Tryd.func65, Tryd.ntmps65
  go_wp2
  go_loop [8] (fun v8 => ∃ k : Nat, k ≤ n ∧ v8 = .int .i64 k ∧ Hid (∀ j, j < k → badB (z j) = false)) (fun i => n - (intOf i).toNat)
  case atStart => exact ⟨0, Nat.zero_le _, rfl, Lib.hid fun j h => absurd h (by omega)⟩
  case round =>
    obtain ⟨k, hk, rfl, HNO⟩ := hrel
    by_cases hlt : k < n
    · obtain ⟨b1, o1, rfl, hc⟩ := HR.out.resolve_left (by omega)
      have c0 := hc k hlt
      clear hc
      have HQ := Lib.hid (fun W => HP.out (z k) W)
      cases hpk : badB (z k) with
      | true =>
        have HPK := Lib.hid hpk
        rw [hpk] at HQ
        clear hpk
        generalize z k = x at c0 HQ
        go_wp2_with (go_at_call 54; (with_reducible refine (HQ.out _).mono ?_); rintro e w1 ⟨rfl, rfl⟩)
        go_ret
        exact ⟨⟨k, rfl, by omega, .inl ⟨by omega, anyZ_true HPK.out hlt⟩⟩, rfl⟩
      | false =>
        have HPK := Lib.hid hpk
        rw [hpk] at HQ
        clear hpk
        generalize z k = x at c0 HQ
        go_wp2_with (go_at_call 54; (with_reducible refine (HQ.out _).mono ?_); rintro e w1 ⟨rfl, rfl⟩)
        go_round
        case rel =>
          refine ⟨k + 1, by omega, by go_num, Lib.hid fun j hj => ?_⟩
          rcases Nat.lt_or_ge j k with h | h
          · exact HNO.out j h
          · obtain rfl : j = k := by omega
            exact HPK.out
        case measure => simp [intOf]; omega
    · obtain rfl : k = n := by omega
      go_wp2
      go_ret
      exact ⟨⟨-1, rfl, by omega, .inr ⟨rfl, anyZ_false HNO.out⟩⟩, rfl⟩
set_option maxRecDepth 100000 in
set_option maxHeartbeats 4000000 in
theorem has_valid1 (r : Option Addr) (n cap : Nat) (z : Nat → Int) (w : World) (hn : n ≤ 9223372036854775807) (hr : IntsAt w r n z) :
    Calls Tryd.prog 53 #[.slice r n cap, .func (.func 54) #[] #[]] w fun e w' => e = .returned (.bool (anyZ badB z n)) ∧ w = w' := by
  have HI := Lib.hid (index_valid1 r n cap z w hn hr)
  clear hr
  go_enter Tryd.func53, Tryd.ntmps53
  go_wp2_with (go_at_call 65; (with_reducible refine HI.out.mono ?_); rintro e w1 ⟨⟨i, rfl, hi1, hi⟩, rfl⟩; have HII := Lib.hid hi; clear hi)
  go_ret
  refine ⟨?_, rfl⟩
  rcases HII.out with ⟨h, h2⟩ | ⟨h, h2⟩
  · rw [h2, decide_eq_true h]; rfl
  · rw [h2, h]; rfl

end Go.Proofs.YtaakbajhbmbhcaaDoor
/- Rows of whole numbers: slices.Max, Index; the program's test of two rows; the document's. -/
set_option linter.unusedSimpArgs false
set_option linter.unusedVariables false
namespace Go.Proofs.YtaakbajhbmbhcaaDoor
open Go.RowKit Go.Grow

/-- The greatest of z 0, .., z n. -/
def maxUp (z : Nat → Int) : Nat → Int
  | 0 => z 0
  | n + 1 => max (maxUp z n) (z (n + 1))
set_option maxRecDepth 100000 in
set_option maxHeartbeats 4000000 in
theorem max_walk (r : Option Addr) (n cap : Nat) (z : Nat → Int) (w : World) (hn : n + 1 ≤ 9223372036854775807) (hr : IntsAt w r (n + 1) z) :
    Calls Tryd.prog 41 #[.slice r (n + 1) cap] w fun e w' => e = .returned (.int .i64 (maxUp z n)) ∧ w = w' := by
  obtain ⟨b1, o1, rfl, hc⟩ := hr.resolve_left (by omega)
  have HC := Lib.hid hc
  have c0 := hc 0 (by omega)
  clear hc hr
  rw [Nat.add_zero] at c0
  have hn1 : ¬ ((n : Int) + 1 < 1) := by omega
  go_enter Tryd.func41, Tryd.ntmps41
  go_wp2
  go_loop [3, 4] (fun v3 v4 => ∃ k : Nat, k ≤ n ∧ v4 = .int .i64 ((k : Int) + 1) ∧ v3 = .int .i64 (maxUp z k)) (fun _ i => n + 1 - (intOf i).toNat)
  case atStart => exact ⟨0, Nat.zero_le _, rfl, rfl⟩
  case round =>
    obtain ⟨k, hk, rfl, rfl⟩ := hrel
    clear c0
    by_cases hlt : k < n
    · have c1 := HC.out (k + 1) (by omega)
      have HM := Lib.hid (show maxUp z (k + 1) = max (maxUp z k) (z (k + 1)) from rfl)
      generalize maxUp z k = m at HM ⊢
      generalize z (k + 1) = x at HM c1
      go_wp2
      all_goals
        go_round
        case rel => exact ⟨k + 1, by omega, by go_num, by rw [HM.out]; congr 1; omega⟩
        case measure => simp [intOf]; omega
    · obtain rfl : k = n := by omega
      go_wp2
      go_ret
      exact ⟨rfl, rfl⟩
/-- The first at which z is greatest. -/
def bestUp (z : Nat → Int) : Nat → Nat
  | 0 => 0
  | n + 1 => if z (bestUp z n) < z (n + 1) then n + 1 else bestUp z n
theorem bestUp_le (z : Nat → Int) : ∀ n, bestUp z n ≤ n
  | 0 => Nat.le_refl _
  | n + 1 => by
    have := bestUp_le z n
    unfold bestUp; split <;> omega
theorem maxUp_best (z : Nat → Int) : ∀ n, z (bestUp z n) = maxUp z n
  | 0 => rfl
  | n + 1 => by
    have := maxUp_best z n
    unfold bestUp maxUp
    split <;> omega
theorem le_maxUp (z : Nat → Int) : ∀ n j, j ≤ n → z j ≤ maxUp z n
  | 0, j, h => by obtain rfl : j = 0 := by omega
                  exact Int.le_refl _
  | n + 1, j, h => by
    unfold maxUp
    rcases Nat.lt_or_ge j (n + 1) with h' | h'
    · have := le_maxUp z n j (by omega); omega
    · obtain rfl : j = n + 1 := by omega
      omega
theorem bestUp_first (z : Nat → Int) : ∀ n j, j < bestUp z n → z j < maxUp z n
  | 0, j, h => by unfold bestUp at h; omega
  | n + 1, j, h => by
    have e := maxUp_best z n
    unfold bestUp at h
    unfold maxUp
    split at h
    · have := le_maxUp z n j (by omega); omega
    · have := bestUp_first z n j h; omega
set_option maxRecDepth 100000 in
set_option maxHeartbeats 4000000 in
theorem index_walk (r : Option Addr) (n cap : Nat) (z : Nat → Int) (x : Int) (i0 : Nat) (w : World) (hn : n ≤ 9223372036854775807) (hr : IntsAt w r n z) (h0 : i0 < n) (hx : z i0 = x) (hf : ∀ j, j < i0 → z j ≠ x) :
    Calls Tryd.prog 40 #[.slice r n cap, .int .i64 x] w fun e w' => e = .returned (.int .i64 i0) ∧ w = w' := by
  obtain ⟨b1, o1, rfl, hc⟩ := hr.resolve_left (by omega)
  have HC := Lib.hid hc
  have HX := Lib.hid hx
  have HF := Lib.hid hf
  clear hc hr hx hf
  go_enter Tryd.func40, Tryd.ntmps40
  go_wp2
  go_loop [8] (fun v8 => ∃ k : Nat, k ≤ i0 ∧ v8 = .int .i64 k) (fun i => n - (intOf i).toNat)
  case atStart => exact ⟨0, Nat.zero_le _, rfl⟩
  case round =>
    obtain ⟨k, hk, rfl⟩ := hrel
    have hkn : k < n := by omega
    have c1 := HC.out k hkn
    by_cases hlt : k < i0
    · have hne : ¬ (x = z k) := fun e => HF.out k hlt e.symm
      generalize z k = y at c1 hne
      have d0 : (x == y) = false := by simpa using hne
      clear hne
      go_wp2
      go_round
      case rel => exact ⟨k + 1, by omega, by go_num⟩
      case measure => simp [intOf]; omega
    · obtain rfl : k = i0 := by omega
      rw [HX.out] at c1
      go_wp2
      go_ret
      exact ⟨rfl, rfl⟩
/-- The test of two rows: an error's number. -/
def rowsE (n m : Nat) (x y : Nat → Int) : Nat :=
  if 256 < n ∨ 256 < m then 2 else if n = 0 ∨ n ≠ m then 5 else if anyZ farB x n || anyZ farB y n then 2 else 0
end Go.Proofs.YtaakbajhbmbhcaaDoor
/- The program's test of two rows. -/
set_option linter.unusedSimpArgs false
set_option linter.unusedVariables false
namespace Go.Proofs.YtaakbajhbmbhcaaDoor
open Go.RowKit Go.Grow

set_option maxRecDepth 100000 in
set_option maxHeartbeats 8000000 in
theorem rows_far (a : Nat → Addr) (r1 r2 : Option Addr) (n m cap1 cap2 : Nat) (w : World) (hn : n ≤ 9223372036854775807) (hm : m ≤ 9223372036854775807) (hs : Sen a [2, 5] w) (h : 256 < n ∨ 256 < m) :
    Calls Tryd.prog 42 #[.slice r1 n cap1, .slice r2 m cap2] w fun e w' => e = .returned (errV a 2) ∧ Below w.heap.size w w' := by
  have HE := Lib.hid (errV_pos a (show 2 ≠ 0 by decide))
  have c2 := (hs 2 (by decide)).1
  have l2 := (hs.lt (k := 2) (by decide)).1
  simp only [gOf] at c2 l2
  clear hs
  rw [HE.out]
  by_cases h1 : 256 < n
  · clear h
    go_enter Tryd.func42, Tryd.ntmps42
    go_wp2
    go_ret
    exact ⟨rfl, Below.refl _ _⟩
  · have h2 : 256 < m := by omega
    clear h
    go_enter Tryd.func42, Tryd.ntmps42
    go_wp2
    go_ret
    exact ⟨rfl, Below.refl _ _⟩
set_option maxRecDepth 100000 in
set_option maxHeartbeats 8000000 in
theorem rows_odd (a : Nat → Addr) (r1 r2 : Option Addr) (n m cap1 cap2 : Nat) (w : World) (hs : Sen a [2, 5] w) (hn : n ≤ 256) (hm : m ≤ 256) (h : n = 0 ∨ n ≠ m) :
    Calls Tryd.prog 42 #[.slice r1 n cap1, .slice r2 m cap2] w fun e w' => e = .returned (errV a 5) ∧ Below w.heap.size w w' := by
  have HE := Lib.hid (errV_pos a (show 5 ≠ 0 by decide))
  have c2 := (hs 5 (by decide)).1
  have l2 := (hs.lt (k := 5) (by decide)).1
  simp only [gOf] at c2 l2
  clear hs
  rw [HE.out]
  by_cases h1 : n = 0
  · subst h1
    clear h
    go_enter Tryd.func42, Tryd.ntmps42
    go_wp2
    go_ret
    exact ⟨rfl, Below.refl _ _⟩
  · have h2 : n ≠ m := by omega
    clear h
    have d0 : ((n : Int) == 0) = false := by simp; omega
    have d1 : ((n : Int) != (m : Int)) = true := by simp; omega
    clear h1 h2
    go_enter Tryd.func42, Tryd.ntmps42
    go_wp2
    go_ret
    exact ⟨rfl, Below.refl _ _⟩
set_option maxRecDepth 100000 in
set_option maxHeartbeats 8000000 in
theorem rows_in (a : Nat → Addr) (r1 r2 : Option Addr) (n cap1 cap2 : Nat) (x y : Nat → Int) (w : World) (hs : Sen a [2, 5] w) (hn : n ≤ 256) (h0 : n ≠ 0) (h1 : IntsAt w r1 n x) (h2 : IntsAt w r2 n y) :
    Calls Tryd.prog 42 #[.slice r1 n cap1, .slice r2 n cap2] w fun e w' => e = .returned (errV a (if anyZ farB x n || anyZ farB y n then 2 else 0)) ∧ Below w.heap.size w w' := by
  have HE := Lib.hid (errV_pos a (show 2 ≠ 0 by decide))
  have c2 := (hs 2 (by decide)).1
  have l2 := (hs.lt (k := 2) (by decide)).1
  simp only [gOf] at c2 l2
  clear hs
  have HA := Lib.hid (fun X (hX : Below w.heap.size w X) => has_rows1 r1 n cap1 x X (by omega) (h1.below hX))
  have HB := Lib.hid (fun X (hX : Below w.heap.size w X) => has_rows1 r2 n cap2 y X (by omega) (h2.below hX))
  clear h1 h2
  have d0 : ((n : Int) == 0) = false := by simp; omega
  have d1 : ((n : Int) != (n : Int)) = false := by simp
  clear h0
  cases ha : anyZ farB x n with
  | true =>
    have HA2 := HA
    rw [ha] at HA2
    rw [show (if true || anyZ farB y n then 2 else 0) = 2 from rfl, HE.out]
    clear ha HA HB
    go_enter Tryd.func42, Tryd.ntmps42
    go_wp2
    refine wp_loop_rounds 3 ?_
    rw [rounds_succ]
    go_wp2_with (go_at_call 53; (with_reducible refine (HA2.out _ (grow_alloc (grow_refl w) _)).mono ?_); rintro e w1 ⟨rfl, rfl⟩)
    go_ret
    exact ⟨rfl, grow_alloc (grow_refl w) _⟩
  | false =>
    have HA2 := HA
    rw [ha] at HA2
    clear ha HA
    cases hb : anyZ farB y n with
    | true =>
      have HB2 := HB
      rw [hb] at HB2
      rw [show (if false || true then 2 else 0) = 2 from rfl, HE.out]
      clear hb HB
      have s0 := trivial
      go_enter Tryd.func42, Tryd.ntmps42
      go_wp2
      refine wp_loop_rounds 3 ?_
      rw [rounds_succ]
      go_wp2_with (go_at_call 53; (with_reducible refine (HA2.out _ (grow_alloc (grow_refl w) _)).mono ?_); rintro e w1 ⟨rfl, rfl⟩)
      rw [rounds_succ]
      go_wp2_with (go_at_call 53; (with_reducible refine (HB2.out _ (grow_alloc (grow_refl w) _)).mono ?_); rintro e w1 ⟨rfl, rfl⟩)
      go_ret
      exact ⟨rfl, grow_alloc (grow_refl w) _⟩
    | false =>
      have HB2 := HB
      rw [hb] at HB2
      rw [show (if false || false then 2 else 0) = 0 from rfl, errV_zero]
      clear hb HB
      go_enter Tryd.func42, Tryd.ntmps42
      go_wp2
      refine wp_loop_rounds 3 ?_
      rw [rounds_succ]
      go_wp2_with (go_at_call 53; (with_reducible refine (HA2.out _ (grow_alloc (grow_refl w) _)).mono ?_); rintro e w1 ⟨rfl, rfl⟩)
      rw [rounds_succ]
      go_wp2_with (go_at_call 53; (with_reducible refine (HB2.out _ (grow_alloc (grow_refl w) _)).mono ?_); rintro e w1 ⟨rfl, rfl⟩)
      rw [rounds_succ]
      go_wp2
      go_ret
      exact ⟨rfl, grow_alloc (grow_refl w) _⟩
theorem rows_walk (a : Nat → Addr) (r1 r2 : Option Addr) (n m cap1 cap2 : Nat) (x y : Nat → Int) (w : World) (hn : n ≤ 9223372036854775807) (hm : m ≤ 9223372036854775807) (hs : Sen a [2, 5] w) (h1 : IntsAt w r1 n x) (h2 : IntsAt w r2 m y) :
    Calls Tryd.prog 42 #[.slice r1 n cap1, .slice r2 m cap2] w fun e w' => e = .returned (errV a (rowsE n m x y)) ∧ Below w.heap.size w w' := by
  unfold rowsE
  by_cases h : 256 < n ∨ 256 < m
  · rw [if_pos h]; exact rows_far a r1 r2 n m cap1 cap2 w hn hm hs h
  · rw [if_neg h]
    by_cases h0 : n = 0 ∨ n ≠ m
    · rw [if_pos h0]; exact rows_odd a r1 r2 n m cap1 cap2 w hs (by omega) (by omega) h0
    · rw [if_neg h0]
      obtain rfl : n = m := by omega
      exact rows_in a r1 r2 n cap1 cap2 x y w hs (by omega) (by omega) h1 h2
end Go.Proofs.YtaakbajhbmbhcaaDoor
/- How rows go together: plain; a row of the call's own; the document's two functions. -/
set_option linter.unusedSimpArgs false
set_option linter.unusedVariables false
namespace Go.Proofs.YtaakbajhbmbhcaaDoor
open Go.RowKit Go.Grow

/-- How rows go together at a shift, up to a place. -/
def crossUp (x y : Nat → Int) (n s : Nat) : Nat → Int
  | 0 => 0
  | i + 1 => wrap64 (crossUp x y n s i + wrap64 (x i * y ((i + s) % n)))
def crossZ (x y : Nat → Int) (n s : Nat) : Int := crossUp x y n s n

/-- The numbers z lie in block g, which is free to be written. -/
structure IRow (w : World) (g n : Nat) (z : Nat → Int) : Prop where
  lt : g < w.heap.size
  frozen : ∀ i, w.frozen? ⟨g, i, none⟩ = false
  cell : ∀ k, k < n → w.cell? ⟨g, k, none⟩ = some (.int .i64 (z k))
theorem IRow.below {w w' : World} {g n : Nat} {z : Nat → Int} (h : IRow w g n z) (hb : Below w.heap.size w w') : IRow w' g n z :=
  ⟨Nat.lt_of_lt_of_le h.lt hb.size, fun i => (hb.frozen (p := ⟨g, i, none⟩) h.lt).trans (h.frozen i), fun k hk => (hb.cell (p := ⟨g, k, none⟩) h.lt).trans (h.cell k hk)⟩
theorem IRow.at {w : World} {g n : Nat} {z y : Nat → Int} (h : IRow w g n z) (e : ∀ k, k < n → z k = y k) : IRow w g n y := ⟨h.lt, h.frozen, fun k hk => e k hk ▸ h.cell k hk⟩
theorem IRow.ints {w : World} {g n : Nat} {z : Nat → Int} (h : IRow w g n z) : IntsAt w (some ⟨g, 0, none⟩) n z := .inr ⟨g, 0, rfl, fun k hk => by rw [Nat.zero_add]; exact h.cell k hk⟩
def updZ (z : Nat → Int) (i : Nat) (v : Int) : Nat → Int := fun j => if j = i then v else z j
theorem IRow.set {w : World} {g n : Nat} {z : Nat → Int} (h : IRow w g n z) {i : Nat} (hi : i < n) (v : Int) : IRow (w.setCell ⟨g, i, none⟩ (.int .i64 v)) g n (updZ z i v) := by
  refine ⟨by simpa using h.lt, fun j => by rw [frozen?_setCell]; exact h.frozen j, fun k hk => ?_⟩
  rw [cell?_put, h.cell i hi, h.cell k hk]
  unfold updZ
  by_cases e : k = i
  · subst e; simp
  · rw [if_neg (fun h => e h.2.symm), if_neg e]
theorem IRow.made (w : World) (n : Nat) (t : TypeId) : IRow (w.alloc (.cells (madeCells #[.int .i64 0] n) t)) w.heap.size n (fun _ => 0) := by
  have K := Known.new w (madeCells #[.int .i64 0] n) t
  refine ⟨K.lt, K.frozen, fun k hk => ?_⟩
  rw [K.cell k, ← Array.getElem?_toList, toList_madeCells_one]
  simp [hk]
theorem info_int : (Tryd.prog.info? 3).map (fun i => (i.zero, i.size, i.bytes)) = some (some (.int .i64 0), 1, 8) := by kernel_rfl
theorem mk_ints (n : Nat) (hn : n ≤ 100000) (W : World) :
    (Instr.makeSlice 39 (.int .i64 (n : Int)) (.int .i64 (n : Int))).run Tryd.prog W = .ok (.slice (some ⟨W.heap.size, 0, none⟩) n n) (W.alloc (.cells (madeCells #[.int .i64 0] n) 3)) := by
  obtain ⟨i0, hi, hz0, hz1, hz2⟩ := info_parts info_int
  have hr := run_make (P := Tryd.prog) W 39 3 i0 (.int .i64 0) Tryd.underlying39 hi hz0 .i64 .i64 n n (by omega) (Int.le_refl _) (by rw [hz2]; omega) (by omega)
  simp only [Int.toNat_natCast, hz1, Nat.mul_one] at hr
  exact hr

set_option maxRecDepth 100000 in
set_option maxHeartbeats 8000000 in
theorem crossAt_walk (r1 r2 : Option Addr) (n cap1 cap2 s : Nat) (x y : Nat → Int) (w : World) (hn : n ≤ 256) (hs : s < n) (h1 : IntsAt w r1 n x) (h2 : IntsAt w r2 n y) :
    Calls Tryd.prog 24 #[.slice r1 n cap1, .slice r2 n cap2, .int .i64 s] w fun e w' => e = .returned (.int .i64 (crossZ x y n s)) ∧ ∃ q, w' = w.drewN q := by
  obtain ⟨b1, o1, rfl, hc1⟩ := h1.resolve_left (by omega)
  obtain ⟨b2, o2, rfl, hc2⟩ := h2.resolve_left (by omega)
  have HC1 := Lib.hid hc1
  have HC2 := Lib.hid hc2
  clear h1 h2 hc1 hc2
  unfold crossZ
  go_enter Tryd.func24, Tryd.ntmps24
  go_wp2
  go_loopw [8, 9] (fun v8 v9 wr => ∃ (k q : Nat), k ≤ n ∧ v9 = .int .i64 k ∧ v8 = .int .i64 (crossUp x y n s k) ∧ wr = w.drewN q) (fun _ i _ => n - (intOf i).toNat)
  case atStart => exact ⟨0, 0, Nat.zero_le _, rfl, rfl, rfl⟩
  case round =>
    obtain ⟨k, q, hk, rfl, rfl, rfl⟩ := hrel
    by_cases hlt : k < n
    · have c1 := HC1.out k hlt
      have hj : (k + s) % n < n := Nat.mod_lt _ (by omega)
      have c2 := HC2.out ((k + s) % n) hj
      have HS := Lib.hid (show crossUp x y n s (k + 1) = wrap64 (crossUp x y n s k + wrap64 (x k * y ((k + s) % n))) from rfl)
      have ew : IntKind.i64.wrap ((k : Int) + (s : Int)) = (k : Int) + (s : Int) := IntWalk.i64_in _ (by omega)
      have em : ((k : Int) + (s : Int)).tmod (n : Int) = (((k + s) % n : Nat) : Int) := by
        rw [← Int.natCast_add, ← Int.ofNat_tmod]
      generalize (k + s) % n = j at hj c2 HS em
      generalize x k = u at c1 HS
      generalize y j = v at c2 HS
      generalize crossUp x y n s k = t at HS ⊢
      have hj0 : (0 : Int) ≤ (j : Int) := by omega
      have hj1 : (j : Int) < (n : Int) := by omega
      have hk0 : (0 : Int) ≤ (k : Int) := by omega
      have hk1 : (k : Int) < (n : Int) := by omega
      have hn0 : ¬ ((n : Int) = 0) := by omega
      go_wp2
      go_quiet (fail)
      go_wp2
      go_roundw
      case rel => exact ⟨k + 1, _, by omega, by go_num, by rw [HS.out], rfl⟩
      case measure => simp [intOf]; omega
    · obtain rfl : k = n := by omega
      go_wp2
      go_ret
      exact ⟨rfl, _, rfl⟩
/-- At the head of the loop over the shifts. -/
def CrossRel (x y : Nat → Int) (n g : Nat) (w : World) (v23 : Value) (wr : World) : Prop :=
  ∃ s : Nat, s ≤ n ∧ v23 = .int .i64 s ∧ IRow wr g n (fun j => if j < s then crossZ x y n j else 0) ∧ Below w.heap.size w wr
def CrossRel2 (x y : Nat → Int) (n g s : Nat) (w : World) (v28 : Value) (wr : World) : Prop :=
  ∃ i : Nat, i ≤ n ∧ v28 = .int .i64 i ∧ IRow wr g n (fun j => if j < s then crossZ x y n j else if j = s then crossUp x y n s i else 0) ∧ Below w.heap.size w wr
def CrossYes (x y : Nat → Int) (n : Nat) (w : World) (e : Ending) (w' : World) : Prop :=
  ∃ g, e = .returned (.tuple #[.slice (some ⟨g, 0, none⟩) n n, .nilIface]) ∧ w.heap.size ≤ g ∧ IRow w' g n (crossZ x y n) ∧ Below w.heap.size w w'
set_option maxRecDepth 100000 in
set_option maxHeartbeats 8000000 in
theorem cross_yes (a : Nat → Addr) (r1 r2 : Option Addr) (n cap1 cap2 : Nat) (x y : Nat → Int) (w : World) (hs : Sen a [2, 5] w) (h1 : IntsAt w r1 n x) (h2 : IntsAt w r2 n y) (hE : rowsE n n x y = 0) (hn : n ≤ 256) (hn0 : 0 < n) :
    Calls Tryd.prog 21 #[.slice r1 n cap1, .slice r2 n cap2] w (CrossYes x y n w) := by
  have RW := Lib.hid (rows_walk a r1 r2 n n cap1 cap2 x y w (by omega) (by omega) hs h1 h2)
  rw [hE, errV_zero] at RW
  obtain ⟨b1, o1, rfl, hc1⟩ := h1.resolve_left (by omega)
  obtain ⟨b2, o2, rfl, hc2⟩ := h2.resolve_left (by omega)
  have hb1 : b1 < w.heap.size := lt_of_cell (hc1 0 hn0)
  have hb2 : b2 < w.heap.size := lt_of_cell (hc2 0 hn0)
  have HC1 := Lib.hid hc1
  have HC2 := Lib.hid hc2
  clear h1 h2 hc1 hc2 hE hs
  have hmk := mk_ints n (by omega)
  go_enter Tryd.func21, Tryd.ntmps21
  go_wp2_with (go_at_call 42; (with_reducible refine RW.out.mono ?_); rintro e w1 ⟨rfl, hb⟩; have HB := Lib.hid hb; clear hb)
  have hg := HB.out.size
  go_loopw [23] (fun v23 wr => CrossRel x y n w1.heap.size w v23 wr) (fun i _ => n - (intOf i).toNat)
  case atStart => exact ⟨0, Nat.zero_le _, rfl, (IRow.made _ _ _).at fun k hk => by simp, grow_alloc HB.out _⟩
  case round =>
    clear hmk
    obtain ⟨s, hs, rfl, hrow, hb⟩ := hrel
    have R := Lib.hid hrow
    have G := Lib.hid hb
    clear hrow hb HB
    by_cases hlt : s < n
    · obtain ⟨wo, hwo⟩ : ∃ wo : World, wo = wr := ⟨_, rfl⟩
      generalize w1.heap.size = g at *
      go_wp2
      go_loopw [28] (fun v28 wr => CrossRel2 x y n g s w v28 wr) (fun i _ => n - (intOf i).toNat)
      case atStart => exact ⟨0, Nat.zero_le _, rfl, R.out.at fun k hk => by simp [crossUp], G.out⟩
      case round =>
        clear R G hwo
        obtain ⟨i, hi, rfl, hrow, hb⟩ := hrel
        have R := Lib.hid hrow
        have G := Lib.hid hb
        clear hrow hb
        by_cases hil : i < n
        · have c1 := (G.out.cell (p := ⟨b1, o1 + i, none⟩) hb1).trans (HC1.out i hil)
          have hj : (i + s) % n < n := Nat.mod_lt _ (by omega)
          have c2 := (G.out.cell (p := ⟨b2, o2 + (i + s) % n, none⟩) hb2).trans (HC2.out ((i + s) % n) hj)
          have HS := Lib.hid (show crossUp x y n s (i + 1) = wrap64 (crossUp x y n s i + wrap64 (x i * y ((i + s) % n))) from rfl)
          have ew : IntKind.i64.wrap ((i : Int) + (s : Int)) = (i : Int) + (s : Int) := IntWalk.i64_in _ (by omega)
          have em : ((i : Int) + (s : Int)).tmod (n : Int) = (((i + s) % n : Nat) : Int) := by
            rw [← Int.natCast_add, ← Int.ofNat_tmod]
          have cg := R.out.cell s hlt
          have fg := R.out.frozen s
          have lg := R.out.lt
          simp only [Nat.lt_irrefl, if_false, if_true] at cg
          generalize (i + s) % n = j at hj c2 HS em
          generalize x i = u at c1 HS
          generalize y j = v at c2 HS
          generalize crossUp x y n s i = t at HS cg
          have hj0 : (0 : Int) ≤ (j : Int) := by omega
          have hj1 : (j : Int) < (n : Int) := by omega
          have hk0 : (0 : Int) ≤ (i : Int) := by omega
          have hk1 : (i : Int) < (n : Int) := by omega
          have hs0 : (0 : Int) ≤ (s : Int) := by omega
          have hs1 : (s : Int) < (n : Int) := by omega
          have hnn : ¬ ((n : Int) = 0) := by omega
          go_wp2
          go_region
          go_wp2
          go_roundw
          case rel =>
            exact ⟨i + 1, by omega, by go_num, ((R.out.set hlt _).at fun k hk => by
              unfold updZ
              by_cases e : k = s
              · subst e; simp [HS.out]
              · simp [e]).below (grow_drew (grow_refl _)), grow_drew (grow_setCell G.out hg _)⟩
          case measure => simp [intOf]; omega
        · obtain rfl : i = n := by omega
          go_wp2
          go_roundw
          case rel =>
            exact ⟨s + 1, by omega, by go_num, R.out.at fun k hk => by
              rcases Nat.lt_trichotomy k s with h | h | h
              · simp [h, Nat.lt_succ_of_lt h]
              · subst h; simp [crossZ]
              · rw [if_neg (by omega), if_neg (by omega), if_neg (by omega)], G.out⟩
          case measure => simp [intOf]; omega
    · obtain rfl : s = n := by omega
      go_wp2
      go_ret2
      exact ⟨_, rfl, by omega, R.out.at fun k hk => by simp [hk], G.out⟩
theorem errV_pos2 (a : Nat → Addr) {k : Nat} (h : k ≠ 0) : ∃ u, errV a k = .iface 138 (.pointer (some u)) := ⟨_, errV_pos a h⟩
set_option maxRecDepth 100000 in
set_option maxHeartbeats 8000000 in
theorem cross_no (a : Nat → Addr) (r1 r2 : Option Addr) (n m cap1 cap2 : Nat) (x y : Nat → Int) (w : World) (hn : n ≤ 9223372036854775807) (hm : m ≤ 9223372036854775807) (hs : Sen a [2, 5] w) (h1 : IntsAt w r1 n x) (h2 : IntsAt w r2 m y) (hE : rowsE n m x y ≠ 0) :
    Calls Tryd.prog 21 #[.slice r1 n cap1, .slice r2 m cap2] w fun e w' => e = .returned (.tuple #[.slice none 0 0, errV a (rowsE n m x y)]) ∧ Below w.heap.size w w' := by
  have RW := Lib.hid (rows_walk a r1 r2 n m cap1 cap2 x y w hn hm hs h1 h2)
  obtain ⟨u, hu⟩ := errV_pos2 a hE
  rw [hu] at RW ⊢
  clear h1 h2 hE hs hu
  go_enter Tryd.func21, Tryd.ntmps21
  go_wp2_with (go_at_call 42; (with_reducible refine RW.out.mono ?_); rintro e w1 ⟨rfl, hb⟩; have HB := Lib.hid hb; clear hb)
  go_ret2
  exact ⟨rfl, HB.out⟩
end Go.Proofs.YtaakbajhbmbhcaaDoor
