/- The night's jobs: a job is looked for by its name; whether windows are right. -/
import Derived.Test.YtjjjbkehmnfgbaaDoorNj3
import Derived.Test.YtjjjbkehmnfgbaaDoorCs5
import Derived.LoopTactic
import Derived.Deep.LoopGhost
import Derived.Outline
set_option linter.unusedSimpArgs false
set_option linter.unusedVariables false
namespace Go.Proofs.YtjjjbkehmnfgbaaDoor
open Go.RowKit Go.Grow Go.Night

def FindPost (w : World) (l : List Jb) (n : Nat) (s : ByteArray) (e : Ending) (w' : World) : Prop :=
  (∃ i : Int, e = .returned (.int .i64 i) ∧ -1 ≤ i ∧ i ≤ n ∧ ((i = -1 ∧ ∀ k, k < n → (at_ l k).name ≠ s) ∨ ∃ k : Nat, k < n ∧ i = k ∧ (at_ l k).name = s)) ∧ Below w.heap.size w w'
set_option maxRecDepth 100000 in
set_option maxHeartbeats 4000000 in
theorem val1_walk (a nk : ByteArray) (r : Option Addr) (n c : Nat) (lg wt : Int) (b : Nat) (w : World) (hc : w.cell? ⟨b, 0, none⟩ = some (.string nk)) :
    Calls Tryd.prog 45 #[.agg #[.string a, .slice r n c, .int .i64 lg, .int .i64 wt], .pointer (some ⟨b, 0, none⟩)] w fun e w' => e = .returned (.bool (decide (a = nk))) ∧ Below w.heap.size w w' := by
  have hb : b < w.heap.size := lt_of_cellS hc
  have hd := toList_dec a nk
  go_enter Tryd.func45, Tryd.ntmps45
  go_wp2
  go_ret
  exact ⟨rfl, by (repeat (with_reducible first | exact grow_refl _ | refine Grow.grow_drewN ?_ _ | refine Grow.grow_drew ?_ | refine Grow.grow_alloc ?_ _))⟩
set_option maxRecDepth 100000 in
set_option maxHeartbeats 4000000 in
theorem idx_val1 (r : Option Addr) (l : List Jb) (n cap b : Nat) (nk : ByteArray) (w : World) (hn : n ≤ l.length) (hl : l.length ≤ 1000000) (hr : JobsAt w r l) (hc : w.cell? ⟨b, 0, none⟩ = some (.string nk)) :
    Calls Tryd.prog 48 #[.slice r n cap, .func (.func 45) #[] #[.pointer (some ⟨b, 0, none⟩)]] w (FindPost w l n nk) := by
  have HR := Lib.hid hr
  have HC := Lib.hid hc
  clear hr hc
  go_enter Tryd.func48, Tryd.ntmps48
  go_wp2
  go_loopw [8] (fun v8 wr => ∃ k : Nat, k ≤ n ∧ v8 = .int .i64 k ∧ Hid (∀ j, j < k → (at_ l j).name ≠ nk) ∧ Below w.heap.size w wr) (fun i _ => n - (intOf i).toNat)
  case atStart => exact ⟨0, Nat.zero_le _, rfl, Lib.hid fun j h => absurd h (by omega), Below.refl _ _⟩
  case round =>
    obtain ⟨k, hk, rfl, HNO, hb⟩ := hrel
    have HB := Lib.hid hb
    clear hb
    by_cases hlt : k < n
    · have hll : k < l.length := by omega
      obtain ⟨b1, o1, rfl, hcc⟩ := HR.out.resolve_left (by intro h; rw [h] at hll; exact absurd hll (by simp))
      obtain ⟨rs, cs, e0, e1, e2, e3, _⟩ := (hcc k hll)
      have hb1 : b1 < w.heap.size := lt_of_cellS e0
      rw [← HB.out.cell (p := ⟨b1, _, none⟩) hb1] at e0 e1 e2 e3
      have hi0 : (0 : Int) ≤ (k : Int) := by omega
      have hi1 : (k : Int) < (n : Int) := by omega
      have HP := Lib.hid (fun X (hX : Below w.heap.size w X) => val1_walk (at_ l k).name nk rs (at_ l k).win.length cs (at_ l k).long (at_ l k).worth b X ((hX.cell (p := ⟨b, 0, none⟩) (lt_of_cellS HC.out)).trans HC.out))
      have HST := Lib.hid (fun (h : (at_ l k).name ≠ nk) => show ∀ j, j < k + 1 → (at_ l j).name ≠ nk from fun j hj => by
        by_cases c : j = k
        · subst c; exact h
        · exact HNO.out j (by omega))
      have HYE := Lib.hid (fun (h : (at_ l k).name = nk) => show ∃ k' : Nat, k' < n ∧ (k : Int) = k' ∧ (at_ l k').name = nk from ⟨k, hlt, rfl, h⟩)
      clear hcc HNO
      generalize at_ l k = x at e0 e1 e2 e3 HP HST HYE
      obtain ⟨nm, wn, lg, wt⟩ := x
      simp only at e0 e1 e2 e3 HP HST HYE
      by_cases ce : nm = nk
      · have HZ := Lib.hid (HYE.out ce)
        rw [decide_eq_true ce] at HP
        clear HST HYE ce
        go_wp2_with (go_at_call 45; (with_reducible refine (HP.out _ HB.out).mono ?_); rintro e w1 ⟨rfl, hb1⟩; have HB1 := Lib.hid (HB.out.trans (hb1.mono HB.out.size)); clear hb1)
        go_ret
        exact ⟨⟨_, rfl, by omega, by omega, .inr HZ.out⟩, HB1.out⟩
      · have HZ := Lib.hid (HST.out ce)
        rw [decide_eq_false ce] at HP
        clear HST HYE ce
        go_wp2_with (go_at_call 45; (with_reducible refine (HP.out _ HB.out).mono ?_); rintro e w1 ⟨rfl, hb1⟩; have HB1 := Lib.hid (HB.out.trans (hb1.mono HB.out.size)); clear hb1)
        go_roundw
        case rel => exact ⟨k + 1, by omega, by go_num, HZ, HB1.out⟩
        case measure => simp [intOf]; omega
    · obtain rfl : k = n := by omega
      go_wp2
      go_ret
      exact ⟨⟨-1, rfl, by omega, by omega, .inl ⟨rfl, HNO.out⟩⟩, HB.out⟩
set_option maxRecDepth 100000 in
set_option maxHeartbeats 4000000 in
theorem chk1_walk (a nk : ByteArray) (r : Option Addr) (n c : Nat) (lg wt : Int) (b : Nat) (w : World) (hc : w.cell? ⟨b, 0, none⟩ = some (.string nk)) :
    Calls Tryd.prog 49 #[.agg #[.string a, .slice r n c, .int .i64 lg, .int .i64 wt], .pointer (some ⟨b, 0, none⟩)] w fun e w' => e = .returned (.bool (decide (a = nk))) ∧ Below w.heap.size w w' := by
  have hb : b < w.heap.size := lt_of_cellS hc
  have hd := toList_dec a nk
  go_enter Tryd.func49, Tryd.ntmps49
  go_wp2
  go_ret
  exact ⟨rfl, by (repeat (with_reducible first | exact grow_refl _ | refine Grow.grow_drewN ?_ _ | refine Grow.grow_drew ?_ | refine Grow.grow_alloc ?_ _))⟩
set_option maxRecDepth 100000 in
set_option maxHeartbeats 4000000 in
theorem idx_chk1 (r : Option Addr) (l : List Jb) (n cap b : Nat) (nk : ByteArray) (w : World) (hn : n ≤ l.length) (hl : l.length ≤ 1000000) (hr : JobsAt w r l) (hc : w.cell? ⟨b, 0, none⟩ = some (.string nk)) :
    Calls Tryd.prog 48 #[.slice r n cap, .func (.func 49) #[] #[.pointer (some ⟨b, 0, none⟩)]] w (FindPost w l n nk) := by
  have HR := Lib.hid hr
  have HC := Lib.hid hc
  clear hr hc
  go_enter Tryd.func48, Tryd.ntmps48
  go_wp2
  go_loopw [8] (fun v8 wr => ∃ k : Nat, k ≤ n ∧ v8 = .int .i64 k ∧ Hid (∀ j, j < k → (at_ l j).name ≠ nk) ∧ Below w.heap.size w wr) (fun i _ => n - (intOf i).toNat)
  case atStart => exact ⟨0, Nat.zero_le _, rfl, Lib.hid fun j h => absurd h (by omega), Below.refl _ _⟩
  case round =>
    obtain ⟨k, hk, rfl, HNO, hb⟩ := hrel
    have HB := Lib.hid hb
    clear hb
    by_cases hlt : k < n
    · have hll : k < l.length := by omega
      obtain ⟨b1, o1, rfl, hcc⟩ := HR.out.resolve_left (by intro h; rw [h] at hll; exact absurd hll (by simp))
      obtain ⟨rs, cs, e0, e1, e2, e3, _⟩ := (hcc k hll)
      have hb1 : b1 < w.heap.size := lt_of_cellS e0
      rw [← HB.out.cell (p := ⟨b1, _, none⟩) hb1] at e0 e1 e2 e3
      have hi0 : (0 : Int) ≤ (k : Int) := by omega
      have hi1 : (k : Int) < (n : Int) := by omega
      have HP := Lib.hid (fun X (hX : Below w.heap.size w X) => chk1_walk (at_ l k).name nk rs (at_ l k).win.length cs (at_ l k).long (at_ l k).worth b X ((hX.cell (p := ⟨b, 0, none⟩) (lt_of_cellS HC.out)).trans HC.out))
      have HST := Lib.hid (fun (h : (at_ l k).name ≠ nk) => show ∀ j, j < k + 1 → (at_ l j).name ≠ nk from fun j hj => by
        by_cases c : j = k
        · subst c; exact h
        · exact HNO.out j (by omega))
      have HYE := Lib.hid (fun (h : (at_ l k).name = nk) => show ∃ k' : Nat, k' < n ∧ (k : Int) = k' ∧ (at_ l k').name = nk from ⟨k, hlt, rfl, h⟩)
      clear hcc HNO
      generalize at_ l k = x at e0 e1 e2 e3 HP HST HYE
      obtain ⟨nm, wn, lg, wt⟩ := x
      simp only at e0 e1 e2 e3 HP HST HYE
      by_cases ce : nm = nk
      · have HZ := Lib.hid (HYE.out ce)
        rw [decide_eq_true ce] at HP
        clear HST HYE ce
        go_wp2_with (go_at_call 49; (with_reducible refine (HP.out _ HB.out).mono ?_); rintro e w1 ⟨rfl, hb1⟩; have HB1 := Lib.hid (HB.out.trans (hb1.mono HB.out.size)); clear hb1)
        go_ret
        exact ⟨⟨_, rfl, by omega, by omega, .inr HZ.out⟩, HB1.out⟩
      · have HZ := Lib.hid (HST.out ce)
        rw [decide_eq_false ce] at HP
        clear HST HYE ce
        go_wp2_with (go_at_call 49; (with_reducible refine (HP.out _ HB.out).mono ?_); rintro e w1 ⟨rfl, hb1⟩; have HB1 := Lib.hid (HB.out.trans (hb1.mono HB.out.size)); clear hb1)
        go_roundw
        case rel => exact ⟨k + 1, by omega, by go_num, HZ, HB1.out⟩
        case measure => simp [intOf]; omega
    · obtain rfl : k = n := by omega
      go_wp2
      go_ret
      exact ⟨⟨-1, rfl, by omega, by omega, .inl ⟨rfl, HNO.out⟩⟩, HB.out⟩
set_option maxRecDepth 100000 in
set_option maxHeartbeats 4000000 in
theorem has_val1 (r : Option Addr) (l : List Jb) (n cap b : Nat) (nk : ByteArray) (w : World) (hn : n ≤ l.length) (hl : l.length ≤ 1000000) (hr : JobsAt w r l) (hc : w.cell? ⟨b, 0, none⟩ = some (.string nk)) :
    Calls Tryd.prog 44 #[.slice r n cap, .func (.func 45) #[] #[.pointer (some ⟨b, 0, none⟩)]] w fun e w' => (∃ x : Bool, e = .returned (.bool x) ∧ (x = true ↔ ∃ k, k < n ∧ (at_ l k).name = nk)) ∧ Below w.heap.size w w' := by
  have HI := Lib.hid (idx_val1 r l n cap b nk w hn hl hr hc)
  clear hr hc
  go_enter Tryd.func44, Tryd.ntmps44
  go_wp2_with (go_at_call 48; (with_reducible refine HI.out.mono ?_); rintro e w1 ⟨⟨i, rfl, hi1, hi2, hi⟩, hb1⟩; have HB1 := Lib.hid hb1; have HII := Lib.hid hi; clear hb1 hi)
  go_ret
  refine ⟨⟨_, rfl, ?_⟩, HB1.out⟩
  rw [decide_eq_true_eq]
  rcases HII.out with ⟨h1, h2⟩ | ⟨k, h1, h2, h3⟩
  · exact ⟨fun h => absurd h (by omega), fun ⟨k, hk, e⟩ => absurd e (h2 k hk)⟩
  · exact ⟨fun _ => ⟨k, h1, h3⟩, fun _ => by omega⟩
set_option maxRecDepth 100000 in
set_option maxHeartbeats 4000000 in
theorem evValid_walk (a : Nat → Addr) (r : Option Addr) (l : List (Int × Int)) (cap : Nat) (w : World) (hs : Sen a [2, 5] w) (hl : l.length ≤ 4000) (hr : SpAt w r l) :
    Calls Tryd.prog 46 #[.slice r l.length cap] w fun e w' => e = .returned (errV a (if fineB l then 0 else 5)) ∧ Below w.heap.size w w' := by
  have SP := Lib.hid (show Calls Tryd.prog 73 #[.slice (some ⟨w.heap.size, 0, none⟩) 1 1] (w.alloc (.cells #[.slice r l.length cap] 93)) fun e w' => e = .returned (errV a (if fineB l then 0 else 5)) ∧ Below w.heap.size w w' from by
    have hb := grow_alloc (grow_refl w) (.cells #[.slice r l.length cap] 93)
    have K := Known.new w #[.slice r l.length cap] 93
    have h := lists_walk a w.heap.size 1 [⟨r, l, cap⟩] _ (hs.below hb) (by simp) (fun k hk => by
      obtain rfl : k = 0 := by simpa using hk
      exact ⟨K.cell 0, hr.below hb, by show l.length ≤ _; omega⟩)
    rw [show lsE [⟨r, l, cap⟩] = if fineB l then 0 else 5 by
      unfold lsE longB rowsB
      have : ¬ 4000 < l.length := by omega
      simp [this]] at h
    exact h.mono fun e w' ⟨h1, h2⟩ => ⟨h1, grow_trans hb h2⟩)
  clear hs hr
  obtain ⟨k, hk⟩ : ∃ k, (if fineB l then 0 else 5) = k := ⟨_, rfl⟩
  rw [hk] at SP ⊢
  clear hk
  rcases errV_or a k with hE | ⟨u, hE⟩
  all_goals
    rw [hE] at SP ⊢
    clear hE
    go_enter Tryd.func46, Tryd.ntmps46
    go_wp2_with (go_at_call 73; (with_reducible refine SP.out.mono ?_); rintro e w1 ⟨rfl, hb⟩; have HB := Lib.hid hb; clear hb)
    go_ret
    exact ⟨rfl, HB.out⟩
end Go.Proofs.YtjjjbkehmnfgbaaDoor
