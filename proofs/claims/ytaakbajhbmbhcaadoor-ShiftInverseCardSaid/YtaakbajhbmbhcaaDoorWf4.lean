/- Waves by halves: the program's Fast. -/
import Derived.Test.YtaakbajhbmbhcaaDoorWf3
import Derived.BigQuiet
set_option linter.unusedSimpArgs false
set_option linter.unusedVariables false
namespace Go.Proofs.YtaakbajhbmbhcaaDoor
open Go.RowKit Go.Fl Go.Grow Go.Tr

theorem halves_walk (back : Bool) : ∀ (m h : Nat), 2 ^ m = h → h ≤ 256 → ∀ (r : Option Addr) (cap : Nat) (X : Nat → C2) (w : World), CIn w r h X → Calls Tryd.prog 33 #[.slice r h cap, .bool back] w (HalvPost h (fastZ back m X) w)
  | 0, h, hh, _, r, cap, X, w, hr => by
    obtain rfl : h = 1 := by rw [← hh]
    exact halves_one back r cap X w hr
  | m + 1, h, hh, hl, r, cap, X, w, hr => by
    obtain ⟨q, hq⟩ : ∃ q, 2 ^ m = q := ⟨_, rfl⟩
    have e : 2 * q = h := by rw [← hh, Nat.pow_succ, hq]; omega
    subst e
    exact halves_more back m q hq (by omega) (fun r cap X w hr => halves_walk back m q hq (by omega) r cap X w hr) r cap X w hr
theorem isP2_pow {n : Nat} (h : isP2 n = true) : ∃ m, 2 ^ m = n ∧ n ≤ 256 ∧ 0 < n := by
  simp only [isP2, Bool.or_eq_true, beq_iff_eq] at h
  rcases h with (((((((h | h) | h) | h) | h) | h) | h) | h) | h
  · exact ⟨0, by omega, by omega, by omega⟩
  · exact ⟨1, by omega, by omega, by omega⟩
  · exact ⟨2, by omega, by omega, by omega⟩
  · exact ⟨3, by omega, by omega, by omega⟩
  · exact ⟨4, by omega, by omega, by omega⟩
  · exact ⟨5, by omega, by omega, by omega⟩
  · exact ⟨6, by omega, by omega, by omega⟩
  · exact ⟨7, by omega, by omega, by omega⟩
  · exact ⟨8, by omega, by omega, by omega⟩
def fstZ (n m : Nat) (back : Bool) (X : Nat → C2) (k : Nat) : C2 := if back then shr n (fastZ back m X k) else fastZ back m X k
def FastYes (Y : Nat → C2) (n : Nat) (w : World) (e : Ending) (w' : World) : Prop :=
  ∃ g c, e = .returned (.tuple #[.slice (some ⟨g, 0, none⟩) n c, .nilIface]) ∧ CRow w' g n Y ∧ Below w.heap.size w w'
set_option maxRecDepth 100000 in
set_option maxHeartbeats 8000000 in
theorem fast_yes (a : Nat → Addr) (r : Option Addr) (m n cap : Nat) (back : Bool) (X : Nat → C2) (w : World) (hs : Sen a [2, 5] w) (hr : CIn w r n X) (hn : n ≤ 256) (hn0 : 0 < n) (hm : 2 ^ m = n) (h2 : isP2 n = true) :
    Calls Tryd.prog 13 #[.slice r n cap, .bool back] w (FastYes (fstZ n m back X) n w) := by
  have SZ := Lib.hid (show Calls Tryd.prog 31 #[.int .i64 n] w fun e w' => e = .returned .nilIface ∧ w = w' by
    have h := size_walk a n w hs (by omega)
    rwa [show sizeE n = 0 by unfold sizeE; rw [if_neg (by omega), if_neg (by omega)], errV_zero] at h)
  have TW := Lib.hid (show Calls Tryd.prog 32 #[.int .i64 n] w fun e w' => e = .returned (.bool true) ∧ w = w' by
    have h := two_walk n w hn
    rwa [h2] at h)
  have HW := Lib.hid (halves_walk back m n hm hn r cap X w hr)
  clear hs hr h2 hm
  go_enter Tryd.func13, Tryd.ntmps13
  cases back with
  | true =>
    go_wp2_with (first
      | (go_at_call 31; (with_reducible refine SZ.out.mono ?_); rintro e w1 ⟨rfl, rfl⟩)
      | (go_at_call 32; (with_reducible refine TW.out.mono ?_); rintro e w2 ⟨rfl, rfl⟩)
      | (go_at_call 33; (with_reducible refine HW.out.mono ?_); rintro e w3 ⟨g, c, rfl, hg, hr3, hb3⟩; have HG := Lib.hid hg; have R3 := Lib.hid hr3; have B3 := Lib.hid hb3; clear hg hr3 hb3)
      | (go_at_call 34; refine (share_walk g n c _ _ hn R3.out).mono ?_; rintro e w4 ⟨rfl, hr4, hbut⟩; have R4 := Lib.hid hr4; have B4 := Lib.hid hbut; clear hr4 hbut))
    go_ret2
    exact ⟨g, c, rfl, R4.out, B4.out.below B3.out HG.out⟩
  | false =>
    go_wp2_with (first
      | (go_at_call 31; (with_reducible refine SZ.out.mono ?_); rintro e w1 ⟨rfl, rfl⟩)
      | (go_at_call 32; (with_reducible refine TW.out.mono ?_); rintro e w2 ⟨rfl, rfl⟩)
      | (go_at_call 33; (with_reducible refine HW.out.mono ?_); rintro e w3 ⟨g, c, rfl, hg, hr3, hb3⟩; have HG := Lib.hid hg; have R3 := Lib.hid hr3; have B3 := Lib.hid hb3; clear hg hr3 hb3))
    go_ret2
    exact ⟨g, c, rfl, R3.out, B3.out⟩
def fastE (n : Nat) : Nat := if sizeE n = 0 then (if isP2 n then 0 else 5) else sizeE n
set_option maxRecDepth 100000 in
set_option maxHeartbeats 8000000 in
theorem fast_no (a : Nat → Addr) (r : Option Addr) (n cap : Nat) (back : Bool) (w : World) (hs : Sen a [2, 5] w) (hn : n ≤ 9223372036854775807) (hE : fastE n ≠ 0) :
    Calls Tryd.prog 13 #[.slice r n cap, .bool back] w fun e w' => e = .returned (.tuple #[.slice none 0 0, errV a (fastE n)]) ∧ Below w.heap.size w w' := by
  unfold fastE at hE ⊢
  have SZ := Lib.hid (size_walk a n w hs hn)
  by_cases h0 : sizeE n = 0
  · rw [if_pos h0] at hE ⊢
    rw [h0, errV_zero] at SZ
    have hn2 : n ≤ 256 := by unfold sizeE at h0; split at h0 <;> omega
    have h2 : isP2 n = false := by
      cases h : isP2 n with
      | true => rw [h] at hE; simp at hE
      | false => rfl
    rw [h2]
    simp only [Bool.false_eq_true, if_false]
    have TW := Lib.hid (show Calls Tryd.prog 32 #[.int .i64 n] w fun e w' => e = .returned (.bool false) ∧ w = w' by
      have h := two_walk n w hn2
      rwa [h2] at h)
    have c5 := (hs 5 (by decide)).1
    have HE5 := Lib.hid (errV_pos a (show 5 ≠ 0 by decide))
    rw [HE5.out]
    simp only [gOf] at c5
    clear hs hE h2 h0
    go_enter Tryd.func13, Tryd.ntmps13
    go_wp2_with (first
      | (go_at_call 31; (with_reducible refine SZ.out.mono ?_); rintro e w1 ⟨rfl, rfl⟩)
      | (go_at_call 32; (with_reducible refine TW.out.mono ?_); rintro e w2 ⟨rfl, rfl⟩))
    go_quiet (fail)
    go_wp2
    go_ret2
    exact ⟨rfl, (by (repeat (with_reducible first | exact grow_refl _ | refine Grow.grow_drewN ?_ _ | refine Grow.grow_drew ?_)))⟩
  · rw [if_neg h0]
    obtain ⟨u, hu⟩ := errV_pos2 a h0
    rw [hu] at SZ ⊢
    clear hs hE hu h0
    go_enter Tryd.func13, Tryd.ntmps13
    go_wp2_with (go_at_call 31; (with_reducible refine SZ.out.mono ?_); rintro e w1 ⟨rfl, rfl⟩)
    go_ret2
    exact ⟨rfl, grow_refl _⟩
end Go.Proofs.YtaakbajhbmbhcaaDoor
