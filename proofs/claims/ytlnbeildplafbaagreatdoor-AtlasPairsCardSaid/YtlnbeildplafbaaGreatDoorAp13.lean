/- Pairs of stars: the law where nothing is asked, where the level is none. -/
import Derived.Test.YtlnbeildplafbaaGreatDoorAp10
set_option linter.unusedSimpArgs false
set_option linter.unusedVariables false
namespace Go.Proofs.YtlnbeildplafbaaGreatDoor
open Go.RowKit Go.Grow Go.Atl Go.Maps

/-- What both atlases are, as they are read. -/
structure Got (wr : World) (B g m1 m2 gd : Nat) (L : Int) (es : List En) (r : Option Addr) (cap : Nat) (rd : Option Addr) (capd : Nat) : Prop where
  q : QAt wr g L m1 m2 r cap es 0
  m : MAt wr m1 es
  d : DQ wr gd L rd capd es
  rr : ∀ b, r = some b → B ≤ b.block ∧ b.block < wr.heap.size
  rd' : ∀ b, rd = some b → B ≤ b.block ∧ b.block < wr.heap.size
  le : B ≤ wr.heap.size
theorem both_split {w wr : World} {B g m1 m2 gd L : Nat} {l : List En} {k : Nat} (h : Both w B g m1 m2 gd L l k wr) : ∃ r cap rd capd, Got wr B g m1 m2 gd L (addUp l k) r cap rd capd ∧ Below w.heap.size w wr := by
  obtain ⟨v, vd, hp, hd, hb⟩ := h
  obtain ⟨r, cap, rfl, he⟩ := ens_of_owns hp.at'.2.2.2
  obtain ⟨rd, capd, rfl, hed⟩ := ens_of_owns hd.2.2.2
  have h1 : ∀ b, r = some b → B ≤ b.block ∧ b.block < wr.heap.size := fun b e => by
    subst e
    exact hp.at'.2.2.2.lt b.block rfl
  have h2 : ∀ b, rd = some b → B ≤ b.block ∧ b.block < wr.heap.size := fun b e => by
    subst e
    exact hd.2.2.2.lt b.block rfl
  obtain ⟨D, hm, hn⟩ := hp.names
  exact ⟨r, cap, rd, capd, ⟨⟨hp.at'.1, he, fun b e => by have := h1 b e; have := hp.at'.2.1; omega⟩, ⟨_, D, hm, hn⟩, ⟨hd.1, hed⟩, h1, h2, hp.at'.2.2.1⟩, hb⟩
/-- Is anything asked? -/
def outP (l1 l2 : List En) : Bool := !fewB l1 || !fewB l2 || decide (40 < l1.length) || decide (40 < l2.length)
set_option maxRecDepth 100000 in
set_option maxHeartbeats 32000000 in
theorem pairs_outa (a : Nat → Addr) (r1 r2 : Option Addr) (l1 l2 : List En) (cap1 cap2 : Nat) (lev num den : Int) (w : World) (hs : Sen a allK w) (hh : Hand w) (hne : ∀ j ∈ allK, ∀ k ∈ allK, j ≠ k → a j ≠ a k)
    (hl1 : l1.length ≤ 9223372036854775807) (hl2 : l2.length ≤ 9223372036854775807) (hr1 : EnsAt w r1 l1) (hr2 : EnsAt w r2 l2) (hn1 : ∀ k, k < l1.length → (en l1 k).name.size ≤ maxLen) (hn2 : ∀ k, k < l2.length → (en l2 k).name.size ≤ maxLen) (h1 : fewB l1 = false) (h2 : fewB l2 = false) :
    Calls Tryz.prog 4 #[.slice r1 l1.length cap1, .slice r2 l2.length cap2, .int .i64 lev, .int .i64 num, .int .i64 den] w fun e w' => e = .returned (.bool true) ∧ Below w.heap.size w w' := by
  have LW := Lib.hid (fun X => listed_walk X)
  have F1 := Lib.hid (fun X (hX : Below w.heap.size w X) => few_walk r1 l1 cap1 X hl1 (hr1.below hX) hn1)
  have F2 := Lib.hid (fun X (hX : Below w.heap.size w X) => few_walk r2 l2 cap2 X hl2 (hr2.below hX) hn2)
  clear hr1 hr2 hn1 hn2 hs hh hne
  rw [h1] at F1
  rw [h2] at F2
  go_enter Tryz.func4, Tryz.ntmps4
  go_wp2_with (first
    | (go_at_call 14; (with_reducible refine (LW.out _).mono ?_); rintro e1 w1 ⟨rfl, hb⟩; have B1 := Lib.hid hb; clear hb)
    | (go_at_call 15; (with_reducible refine (F1.out _ B1.out).mono ?_); rintro e2 w2 ⟨rfl, hb⟩; have B2 := Lib.hid (grow_trans B1.out hb); clear hb F1)
    | (go_at_call 15; (with_reducible refine (F2.out _ B2.out).mono ?_); rintro e3 w3 ⟨rfl, hb⟩; have B3 := Lib.hid (grow_trans B2.out hb); clear hb F2))
  go_ret
  exact ⟨rfl, B3.out⟩
set_option maxRecDepth 100000 in
set_option maxHeartbeats 32000000 in
theorem pairs_outb (a : Nat → Addr) (r1 r2 : Option Addr) (l1 l2 : List En) (cap1 cap2 : Nat) (lev num den : Int) (w : World) (hs : Sen a allK w) (hh : Hand w) (hne : ∀ j ∈ allK, ∀ k ∈ allK, j ≠ k → a j ≠ a k)
    (hl1 : l1.length ≤ 9223372036854775807) (hl2 : l2.length ≤ 9223372036854775807) (hr1 : EnsAt w r1 l1) (hr2 : EnsAt w r2 l2) (hn1 : ∀ k, k < l1.length → (en l1 k).name.size ≤ maxLen) (hn2 : ∀ k, k < l2.length → (en l2 k).name.size ≤ maxLen) (h1 : fewB l1 = false) (h2 : fewB l2 = true) :
    Calls Tryz.prog 4 #[.slice r1 l1.length cap1, .slice r2 l2.length cap2, .int .i64 lev, .int .i64 num, .int .i64 den] w fun e w' => e = .returned (.bool true) ∧ Below w.heap.size w w' := by
  have LW := Lib.hid (fun X => listed_walk X)
  have F1 := Lib.hid (fun X (hX : Below w.heap.size w X) => few_walk r1 l1 cap1 X hl1 (hr1.below hX) hn1)
  have F2 := Lib.hid (fun X (hX : Below w.heap.size w X) => few_walk r2 l2 cap2 X hl2 (hr2.below hX) hn2)
  clear hr1 hr2 hn1 hn2 hs hh hne
  rw [h1] at F1
  rw [h2] at F2
  go_enter Tryz.func4, Tryz.ntmps4
  go_wp2_with (first
    | (go_at_call 14; (with_reducible refine (LW.out _).mono ?_); rintro e1 w1 ⟨rfl, hb⟩; have B1 := Lib.hid hb; clear hb)
    | (go_at_call 15; (with_reducible refine (F1.out _ B1.out).mono ?_); rintro e2 w2 ⟨rfl, hb⟩; have B2 := Lib.hid (grow_trans B1.out hb); clear hb F1)
    | (go_at_call 15; (with_reducible refine (F2.out _ B2.out).mono ?_); rintro e3 w3 ⟨rfl, hb⟩; have B3 := Lib.hid (grow_trans B2.out hb); clear hb F2))
  go_ret
  exact ⟨rfl, B3.out⟩
set_option maxRecDepth 100000 in
set_option maxHeartbeats 32000000 in
theorem pairs_outc (a : Nat → Addr) (r1 r2 : Option Addr) (l1 l2 : List En) (cap1 cap2 : Nat) (lev num den : Int) (w : World) (hs : Sen a allK w) (hh : Hand w) (hne : ∀ j ∈ allK, ∀ k ∈ allK, j ≠ k → a j ≠ a k)
    (hl1 : l1.length ≤ 9223372036854775807) (hl2 : l2.length ≤ 9223372036854775807) (hr1 : EnsAt w r1 l1) (hr2 : EnsAt w r2 l2) (hn1 : ∀ k, k < l1.length → (en l1 k).name.size ≤ maxLen) (hn2 : ∀ k, k < l2.length → (en l2 k).name.size ≤ maxLen) (h1 : fewB l1 = true) (h2 : fewB l2 = false) :
    Calls Tryz.prog 4 #[.slice r1 l1.length cap1, .slice r2 l2.length cap2, .int .i64 lev, .int .i64 num, .int .i64 den] w fun e w' => e = .returned (.bool true) ∧ Below w.heap.size w w' := by
  have LW := Lib.hid (fun X => listed_walk X)
  have F1 := Lib.hid (fun X (hX : Below w.heap.size w X) => few_walk r1 l1 cap1 X hl1 (hr1.below hX) hn1)
  have F2 := Lib.hid (fun X (hX : Below w.heap.size w X) => few_walk r2 l2 cap2 X hl2 (hr2.below hX) hn2)
  clear hr1 hr2 hn1 hn2 hs hh hne
  rw [h1] at F1
  rw [h2] at F2
  go_enter Tryz.func4, Tryz.ntmps4
  go_wp2_with (first
    | (go_at_call 14; (with_reducible refine (LW.out _).mono ?_); rintro e1 w1 ⟨rfl, hb⟩; have B1 := Lib.hid hb; clear hb)
    | (go_at_call 15; (with_reducible refine (F1.out _ B1.out).mono ?_); rintro e2 w2 ⟨rfl, hb⟩; have B2 := Lib.hid (grow_trans B1.out hb); clear hb F1)
    | (go_at_call 15; (with_reducible refine (F2.out _ B2.out).mono ?_); rintro e3 w3 ⟨rfl, hb⟩; have B3 := Lib.hid (grow_trans B2.out hb); clear hb F2))
  go_ret
  exact ⟨rfl, B3.out⟩
set_option maxRecDepth 100000 in
set_option maxHeartbeats 32000000 in
theorem pairs_outd (a : Nat → Addr) (r1 r2 : Option Addr) (l1 l2 : List En) (cap1 cap2 : Nat) (lev num den : Int) (w : World) (hs : Sen a allK w) (hh : Hand w) (hne : ∀ j ∈ allK, ∀ k ∈ allK, j ≠ k → a j ≠ a k)
    (hl1 : l1.length ≤ 9223372036854775807) (hl2 : l2.length ≤ 9223372036854775807) (hr1 : EnsAt w r1 l1) (hr2 : EnsAt w r2 l2) (hn1 : ∀ k, k < l1.length → (en l1 k).name.size ≤ maxLen) (hn2 : ∀ k, k < l2.length → (en l2 k).name.size ≤ maxLen) (h1 : fewB l1 = true) (h2 : fewB l2 = true) (h3 : 40 < l1.length) :
    Calls Tryz.prog 4 #[.slice r1 l1.length cap1, .slice r2 l2.length cap2, .int .i64 lev, .int .i64 num, .int .i64 den] w fun e w' => e = .returned (.bool true) ∧ Below w.heap.size w w' := by
  have LW := Lib.hid (fun X => listed_walk X)
  have F1 := Lib.hid (fun X (hX : Below w.heap.size w X) => few_walk r1 l1 cap1 X hl1 (hr1.below hX) hn1)
  have F2 := Lib.hid (fun X (hX : Below w.heap.size w X) => few_walk r2 l2 cap2 X hl2 (hr2.below hX) hn2)
  clear hr1 hr2 hn1 hn2 hs hh hne
  rw [h1] at F1
  rw [h2] at F2
  have u1 : decide ((40 : Int) < (l1.length : Int)) = true := decide_eq_true (by omega)
  have u2 : decide (40 < l1.length) = true := decide_eq_true h3
  go_enter Tryz.func4, Tryz.ntmps4
  go_wp2_with (first
    | (go_at_call 14; (with_reducible refine (LW.out _).mono ?_); rintro e1 w1 ⟨rfl, hb⟩; have B1 := Lib.hid hb; clear hb)
    | (go_at_call 15; (with_reducible refine (F1.out _ B1.out).mono ?_); rintro e2 w2 ⟨rfl, hb⟩; have B2 := Lib.hid (grow_trans B1.out hb); clear hb F1)
    | (go_at_call 15; (with_reducible refine (F2.out _ B2.out).mono ?_); rintro e3 w3 ⟨rfl, hb⟩; have B3 := Lib.hid (grow_trans B2.out hb); clear hb F2))
  go_ret
  exact ⟨rfl, B3.out⟩
set_option maxRecDepth 100000 in
set_option maxHeartbeats 32000000 in
theorem pairs_oute (a : Nat → Addr) (r1 r2 : Option Addr) (l1 l2 : List En) (cap1 cap2 : Nat) (lev num den : Int) (w : World) (hs : Sen a allK w) (hh : Hand w) (hne : ∀ j ∈ allK, ∀ k ∈ allK, j ≠ k → a j ≠ a k)
    (hl1 : l1.length ≤ 9223372036854775807) (hl2 : l2.length ≤ 9223372036854775807) (hr1 : EnsAt w r1 l1) (hr2 : EnsAt w r2 l2) (hn1 : ∀ k, k < l1.length → (en l1 k).name.size ≤ maxLen) (hn2 : ∀ k, k < l2.length → (en l2 k).name.size ≤ maxLen) (h1 : fewB l1 = true) (h2 : fewB l2 = true) (h3 : ¬ 40 < l1.length) (h4 : 40 < l2.length) :
    Calls Tryz.prog 4 #[.slice r1 l1.length cap1, .slice r2 l2.length cap2, .int .i64 lev, .int .i64 num, .int .i64 den] w fun e w' => e = .returned (.bool true) ∧ Below w.heap.size w w' := by
  have LW := Lib.hid (fun X => listed_walk X)
  have F1 := Lib.hid (fun X (hX : Below w.heap.size w X) => few_walk r1 l1 cap1 X hl1 (hr1.below hX) hn1)
  have F2 := Lib.hid (fun X (hX : Below w.heap.size w X) => few_walk r2 l2 cap2 X hl2 (hr2.below hX) hn2)
  clear hr1 hr2 hn1 hn2 hs hh hne
  rw [h1] at F1
  rw [h2] at F2
  have u1 : decide ((40 : Int) < (l1.length : Int)) = false := decide_eq_false (by omega)
  have u2 : decide (40 < l1.length) = false := decide_eq_false h3
  have u3 : decide ((40 : Int) < (l2.length : Int)) = true := decide_eq_true (by omega)
  have u4 : decide (40 < l2.length) = true := decide_eq_true h4
  go_enter Tryz.func4, Tryz.ntmps4
  go_wp2_with (first
    | (go_at_call 14; (with_reducible refine (LW.out _).mono ?_); rintro e1 w1 ⟨rfl, hb⟩; have B1 := Lib.hid hb; clear hb)
    | (go_at_call 15; (with_reducible refine (F1.out _ B1.out).mono ?_); rintro e2 w2 ⟨rfl, hb⟩; have B2 := Lib.hid (grow_trans B1.out hb); clear hb F1)
    | (go_at_call 15; (with_reducible refine (F2.out _ B2.out).mono ?_); rintro e3 w3 ⟨rfl, hb⟩; have B3 := Lib.hid (grow_trans B2.out hb); clear hb F2))
  go_ret
  exact ⟨rfl, B3.out⟩
set_option maxRecDepth 100000 in
set_option maxHeartbeats 32000000 in
theorem pairs_level (a : Nat → Addr) (r1 r2 : Option Addr) (l1 l2 : List En) (cap1 cap2 : Nat) (lev num den : Int) (w : World) (hs : Sen a allK w) (hh : Hand w) (hne : ∀ j ∈ allK, ∀ k ∈ allK, j ≠ k → a j ≠ a k)
    (hl1 : l1.length ≤ 9223372036854775807) (hl2 : l2.length ≤ 9223372036854775807) (hr1 : EnsAt w r1 l1) (hr2 : EnsAt w r2 l2) (hn1 : ∀ k, k < l1.length → (en l1 k).name.size ≤ maxLen) (hn2 : ∀ k, k < l2.length → (en l2 k).name.size ≤ maxLen) (h1 : fewB l1 = true) (h2 : fewB l2 = true) (h3 : l1.length ≤ 40) (h4 : l2.length ≤ 40) (hlv : lev < 0 ∨ 12 < lev) :
    Calls Tryz.prog 4 #[.slice r1 l1.length cap1, .slice r2 l2.length cap2, .int .i64 lev, .int .i64 num, .int .i64 den] w fun e w' => e = .returned (.bool true) ∧ Below w.heap.size w w' := by
  have LW := Lib.hid (fun X => listed_walk X)
  have F1 := Lib.hid (fun X (hX : Below w.heap.size w X) => few_walk r1 l1 cap1 X hl1 (hr1.below hX) hn1)
  have F2 := Lib.hid (fun X (hX : Below w.heap.size w X) => few_walk r2 l2 cap2 X hl2 (hr2.below hX) hn2)
  have E1 := Lib.hid (fun X (hX : Below w.heap.size w X) => entries_no a r1 l1.length cap1 lev X (hs.below hX) (hh.below hX) hne hlv)
  have E2 := Lib.hid (fun X (hX : Below w.heap.size w X) => entries_no a r2 l2.length cap2 lev X (hs.below hX) (hh.below hX) hne hlv)
  rw [h1] at F1
  rw [h2] at F2
  clear hr1 hr2 hn1 hn2 hs hh hne
  have u1 : decide (40 < l1.length) = false := decide_eq_false (by omega)
  have u2 : decide (40 < l2.length) = false := decide_eq_false (by omega)
  go_enter Tryz.func4, Tryz.ntmps4
  go_wp2_with (first
    | (go_at_call 14; (with_reducible refine (LW.out _).mono ?_); rintro e1 w1 ⟨rfl, hb⟩; have B1 := Lib.hid hb; clear hb)
    | (go_at_call 15; (with_reducible refine (F1.out _ B1.out).mono ?_); rintro e2 w2 ⟨rfl, hb⟩; have B2 := Lib.hid (grow_trans B1.out hb); clear hb F1)
    | (go_at_call 15; (with_reducible refine (F2.out _ B2.out).mono ?_); rintro e3 w3 ⟨rfl, hb⟩; have B3 := Lib.hid (grow_trans B2.out hb); clear hb F2)
    | (go_at_call 16; (with_reducible refine (E1.out _ B3.out).mono ?_); rintro e4 w4 ⟨rfl, hb⟩; have B4 := Lib.hid (grow_trans B3.out hb); clear hb E1)
    | (go_at_call 16; (with_reducible refine (E2.out _ B4.out).mono ?_); rintro e5 w5 ⟨rfl, hb⟩; have B5 := Lib.hid (grow_trans B4.out hb); clear hb E2))
  go_ret
  exact ⟨rfl, B5.out⟩
set_option maxRecDepth 100000 in
set_option maxHeartbeats 32000000 in
theorem pairs_cone (a : Nat → Addr) (r1 r2 : Option Addr) (l1 l2 : List En) (cap1 cap2 : Nat) (L : Nat) (num den : Int) (w : World) (hs : Sen a allK w) (hh : Hand w) (hne : ∀ j ∈ allK, ∀ k ∈ allK, j ≠ k → a j ≠ a k)
    (hl1 : l1.length ≤ 9223372036854775807) (hl2 : l2.length ≤ 9223372036854775807) (hr1 : EnsAt w r1 l1) (hr2 : EnsAt w r2 l2) (hn1 : ∀ k, k < l1.length → (en l1 k).name.size ≤ maxLen) (hn2 : ∀ k, k < l2.length → (en l2 k).name.size ≤ maxLen) (h1 : fewB l1 = true) (h2 : fewB l2 = true) (h3 : l1.length ≤ 40) (h4 : l2.length ≤ 40) (hL : L ≤ 12) (hnum : I64 num) (hden : I64 den) (hc : badCone num den = true) :
    Calls Tryz.prog 4 #[.slice r1 l1.length cap1, .slice r2 l2.length cap2, .int .i64 (L : Nat), .int .i64 num, .int .i64 den] w fun e w' => e = .returned (.bool true) ∧ Below w.heap.size w w' := by
  have LW := Lib.hid (fun X => listed_walk X)
  have F1 := Lib.hid (fun X (hX : Below w.heap.size w X) => few_walk r1 l1 cap1 X hl1 (hr1.below hX) hn1)
  have F2 := Lib.hid (fun X (hX : Below w.heap.size w X) => few_walk r2 l2 cap2 X hl2 (hr2.below hX) hn2)
  have NEA := Lib.hid (fun X (hX : Below w.heap.size w X) => entries_walk a r1 l1 cap1 L X (hs.below hX) (hh.below hX) hne (by omega) hL (hr1.below hX) hn1)
  have NEB := Lib.hid (fun X (hX : Below w.heap.size w X) => entries_walk a r2 l2 cap2 L X (hs.below hX) (hh.below hX) hne (by omega) hL (hr2.below hX) hn2)
  have CB := Lib.hid (fun g1 g2 X (hX : Below w.heap.size w X) => cross_bad a X g1 g2 num den hnum hden hc (Sen.below (ks := [5]) (fun k hk => hs k ((by decide : ∀ k ∈ [5], k ∈ allK) k hk)) hX))
  have CE := Lib.hid (fun X => coneR_bad ⟨1, 0, 0⟩ num den (by decide) hden X hc)
  have CO := Lib.hid (show ∀ X, Below w.heap.size w X → Calls Tryz.prog 12 #[errV a 5, .int .i64 5] X fun e w' => e = .returned (.bool true) ∧ Below X.heap.size X w' from fun X (hX : Below w.heap.size w X) => coded_same a 5 (by decide) X (hs.below hX) (hh.below hX) hne)
  have hu := errV_pos a (show 5 ≠ 0 by decide)
  rw [hu] at CB CO
  unfold drV at CE
  rw [h1] at F1
  rw [h2] at F2
  clear hr1 hr2 hn1 hn2 hs hh hne hu hc
  have u1 : decide (40 < l1.length) = false := decide_eq_false (by omega)
  have u2 : decide (40 < l2.length) = false := decide_eq_false (by omega)
  go_enter Tryz.func4, Tryz.ntmps4
  go_wp2_with (first
    | (go_at_call 14; (with_reducible refine (LW.out _).mono ?_); rintro e1 w1 ⟨rfl, hb⟩; have B1 := Lib.hid hb; clear hb)
    | (go_at_call 15; (with_reducible refine (F1.out _ B1.out).mono ?_); rintro e2 w2 ⟨rfl, hb⟩; have B2 := Lib.hid (grow_trans B1.out hb); clear hb F1)
    | (go_at_call 15; (with_reducible refine (F2.out _ B2.out).mono ?_); rintro e3 w3 ⟨rfl, hb⟩; have B3 := Lib.hid (grow_trans B2.out hb); clear hb F2)
    | (go_at_call 16; (with_reducible refine (NEA.out _ B3.out).mono ?_); rintro e4 w4 ⟨rfl, hbo⟩; obtain ⟨ra, ca, rb, cb, hgot, hb⟩ := both_split hbo; have G1 := Lib.hid hgot; have B34 := Lib.hid hb; have B4 := Lib.hid (grow_trans B3.out hb); clear hbo hgot hb NEA)
    | (go_at_call 16; (with_reducible refine (NEB.out _ B4.out).mono ?_); rintro e5 w5 ⟨rfl, hbo⟩; obtain ⟨rc, cc, rd, cd, hgot, hb⟩ := both_split hbo; have G2 := Lib.hid hgot; have B45 := Lib.hid hb; have B5 := Lib.hid (grow_trans B4.out hb); clear hbo hgot hb NEB)
    | (go_at_call 17; (with_reducible refine (CB.out _ _ _ B5.out).mono ?_); rintro e6 w6 ⟨rfl, hb⟩; have B6 := Lib.hid (grow_trans B5.out hb); clear hb CB)
    | (go_at_call 18; (with_reducible refine (CE.out _).mono ?_); rintro e7 w7 ⟨rfl, hb⟩; have B7 := Lib.hid (grow_trans B6.out hb); clear hb CE)
    | (go_at_call 12; (with_reducible refine (CO.out _ B7.out).mono ?_); rintro e8 w8 ⟨rfl, hb⟩; have B8 := Lib.hid (grow_trans B7.out hb); clear hb CO))
  go_ret
  exact ⟨rfl, B8.out⟩
end Go.Proofs.YtlnbeildplafbaaGreatDoor
/- Pairs of stars: the names that come first are apart, the list rises, each pair is found. -/
set_option linter.unusedSimpArgs false
set_option linter.unusedVariables false
namespace Go.Proofs.YtlnbeildplafbaaGreatDoor
open Go.RowKit Go.Grow Go.Atl Go.Maps

def pa (l : List Pr) (k : Nat) : Pr := l.getD k (.empty, .empty)
theorem pa_get {l : List Pr} {k : Nat} (h : k < l.length) : pa l k = l[k] := by unfold pa; simp [List.getD, h]
theorem pa_mem {l : List Pr} {k : Nat} (h : k < l.length) : pa l k ∈ l := by rw [pa_get h]; exact List.getElem_mem h
theorem pr_of_owns {w : World} {base n sz : Nat} {v : Value} {l : List Pr} {e : TypeId} (hn : n = 0 → l = []) (h : w.ownsRow base e sz v n (pL l)) :
    ∃ r cap, v = .slice r n cap ∧ (l = [] ∨ ∃ b, r = some ⟨b, 0, none⟩ ∧ ∀ k, k < l.length → w.cell? ⟨b, k * 2, none⟩ = some (.string (pa l k).1) ∧ w.cell? ⟨b, k * 2 + 1, none⟩ = some (.string (pa l k).2)) := by
  have h0 := h
  obtain ⟨_, ⟨h1, h2⟩ | ⟨g, cap, cur, h1, _⟩⟩ := h
  · exact ⟨none, 0, by rw [h1, h2], .inl (hn h2)⟩
  · subst h1
    refine ⟨_, cap, rfl, .inr ⟨g, rfl, fun k hk => ?_⟩⟩
    obtain ⟨e0, e1⟩ := pL_get l k hk
    rw [pa_get hk]
    exact ⟨owns_cellsS h0 _ _ e0, owns_cellsS h0 _ _ e1⟩
theorem want_first {es1 es2 : List En} {num den : Int} : ∀ k, ∀ p ∈ wantUp es1 es2 num den k, ∃ i, i < k ∧ p.1 = (en es1 i).name
  | 0, p, h => by simp [wantUp] at h
  | k + 1, p, h => by
    rw [wantUp, List.mem_append] at h
    rcases h with h | h
    · obtain ⟨i, hi, he⟩ := want_first k p h
      exact ⟨i, by omega, he⟩
    · refine ⟨k, by omega, ?_⟩
      unfold wantOne at h
      repeat (split at h <;> try (simp at h; done))
      simp at h
      rw [h]
theorem want_apart {es1 es2 : List En} {num den : Int} (hu : ∀ i j, i < es1.length → j < es1.length → (en es1 i).name = (en es1 j).name → i = j) : ∀ k, k ≤ es1.length → (wantUp es1 es2 num den k).Pairwise (fun a b => a.1 ≠ b.1)
  | 0, _ => by simp [wantUp]
  | k + 1, hk => by
    rw [wantUp, List.pairwise_append]
    refine ⟨want_apart hu k (by omega), ?_, ?_⟩
    · cases wantOne es1 es2 num den k <;> simp
    · intro a ha b hb he
      obtain ⟨i, hi, h1⟩ := want_first k a ha
      have hb2 : b ∈ wantUp es1 es2 num den (k + 1) := by rw [wantUp]; exact List.mem_append_right _ hb
      have h2 : b.1 = (en es1 k).name := by
        unfold wantOne at hb
        repeat (split at hb <;> try (simp at hb; done))
        simp at hb
        rw [hb]
      have := hu i k (by omega) (by omega) (by rw [← h1, ← h2, he])
      omega
theorem perm_rises {m want : List Pr} (hpm : m.Perm want) (hw : want.Pairwise (fun a b => a.1 ≠ b.1)) (hso : ∀ i j, i < j → j < m.length → ltOf cfP (m.getD j (.empty, .empty)) (m.getD i (.empty, .empty)) = false)
    (i : Nat) (h0 : 0 < i) (hi : i < m.length) : (Op.bytesLess (pa m i).1.toList (pa m (i - 1)).1.toList || (pa m i).1.toList == (pa m (i - 1)).1.toList) = false := by
  have hm : m.Pairwise (fun a b => a.1 ≠ b.1) := (hpm.pairwise_iff (fun h e => h e.symm)).2 hw
  have h1 : (pa m (i - 1)).1 ≠ (pa m i).1 := by
    rw [pa_get hi, pa_get (show i - 1 < m.length by omega)]
    exact List.pairwise_iff_getElem.1 hm (i - 1) i (by omega) hi (by omega)
  have h2 := hso (i - 1) i (by omega) hi
  have h3 : lessB (pa m i).1 (pa m (i - 1)).1 = false := by
    rw [← less_cmp]
    unfold ltOf at h2
    exact h2
  unfold lessB at h3
  rw [h3, Bool.false_or, toList_decP]
  exact decide_eq_false (fun e => h1 e.symm)
def foundUp (l : List Pr) (p : Pr) : Nat → Bool
  | 0 => false
  | k + 1 => foundUp l p k || ((pa l k).1.toList == p.1.toList && (pa l k).2.toList == p.2.toList)
theorem found_one {l : List Pr} {p : Pr} : ∀ (n k : Nat), k < n → pa l k = p → foundUp l p n = true
  | n + 1, k, hk, h => by
    rw [foundUp]
    by_cases e : k = n
    · subst e; rw [h]; simp
    · rw [found_one n k (by omega) h, Bool.true_or]
theorem found_all {m want : List Pr} (hpm : m.Perm want) (i : Nat) (hi : i < m.length) : foundUp want (pa m i) want.length = true := by
  have h := hpm.mem_iff.1 (pa_mem hi)
  obtain ⟨k, hk, he⟩ := List.mem_iff_getElem.1 h
  exact found_one _ k hk (by rw [pa_get hk, he])
end Go.Proofs.YtlnbeildplafbaaGreatDoor
