/- The night's plans: windows are asked for a moment; slots in memory. -/
import Derived.Test.YtjjjbkehmnfgbaaDoorNj5
set_option linter.unusedSimpArgs false
set_option linter.unusedVariables false
namespace Go.Proofs.YtjjjbkehmnfgbaaDoor
open Go.RowKit Go.Grow Go.Night

/-- Slots lie in w. -/
def SlotsAt (w : World) (r : Option Addr) (p : List Sl) : Prop := p = [] ∨ ∃ b o, r = some ⟨b, o, none⟩ ∧ ∀ k, k < p.length → w.cell? ⟨b, o + k * 2, none⟩ = some (.string (sl p k).name) ∧ w.cell? ⟨b, o + k * 2 + 1, none⟩ = some (.int .i64 (sl p k).frm)
theorem SlotsAt.below {w w' : World} {r : Option Addr} {p : List Sl} (h : SlotsAt w r p) (hb : Below w.heap.size w w') : SlotsAt w' r p := by
  rcases h with h | ⟨b, o, rfl, hc⟩
  · exact .inl h
  · refine .inr ⟨b, o, rfl, fun k hk => ?_⟩
    obtain ⟨c0, c1⟩ := hc k hk
    have hl : b < w.heap.size := lt_of_cellS c0
    exact ⟨(hb.cell (p := ⟨b, _, none⟩) hl).trans c0, (hb.cell (p := ⟨b, _, none⟩) hl).trans c1⟩
def idxI (l : List Jb) (s : ByteArray) : Int := match idx l s with
  | none => -1
  | some k => k
theorem find_name (r : Option Addr) (l : List Jb) (cap b : Nat) (nk : ByteArray) (w : World) (ha : Apart l) (hl : l.length ≤ 1000000) (hr : JobsAt w r l) (hc : w.cell? ⟨b, 0, none⟩ = some (.string nk)) :
    Calls Tryd.prog 48 #[.slice r l.length cap, .func (.func 49) #[] #[.pointer (some ⟨b, 0, none⟩)]] w fun e w' => e = .returned (.int .i64 (idxI l nk)) ∧ Below w.heap.size w w' :=
  (idx_chk1 r l l.length cap b nk w (Nat.le_refl _) hl hr hc).mono fun e w' ⟨⟨i, h1, _, _, h4⟩, h5⟩ => by
    refine ⟨?_, h5⟩
    rw [h1]
    unfold idxI
    rcases h4 with ⟨h6, h7⟩ | ⟨k, h6, h7, h8⟩
    · rw [idx_none h7, h6]
    · rw [idx_is ha h6 h8, h7]
set_option maxRecDepth 100000 in
set_option maxHeartbeats 4000000 in
theorem chk2_walk (x : Int × Int) (f lg : Int) (bs bj : Nat) (w : World) (hx : -1152921504606846976 ≤ x.1 ∧ x.1 < x.2 ∧ x.2 ≤ 1152921504606846976) (hlg : 1 ≤ lg ∧ lg ≤ 1099511627776)
    (c1 : w.cell? ⟨bs, 1, none⟩ = some (.int .i64 f)) (c2 : w.cell? ⟨bj, 2, none⟩ = some (.int .i64 lg)) :
    Calls Tryd.prog 51 #[.agg #[.int .i64 x.1, .int .i64 x.2], .pointer (some ⟨bs, 0, none⟩), .pointer (some ⟨bj, 0, none⟩)] w fun e w' => e = .returned (.bool (fitB lg f x)) ∧ Below w.heap.size w w' := by
  obtain ⟨x1, x2⟩ := x
  simp only at hx ⊢
  unfold fitB
  simp only
  have hb1 : bs < w.heap.size := lt_of_cellS c1
  have hb2 : bj < w.heap.size := lt_of_cellS c2
  by_cases t1 : x1 ≤ f
  · have u1 : decide (x1 ≤ f) = true := decide_eq_true t1
    go_enter Tryd.func51, Tryd.ntmps51
    go_wp2
    go_ret
    exact ⟨by first | rfl | (rw [u1]; rfl), by (repeat (with_reducible first | exact grow_refl _ | refine Grow.grow_drewN ?_ _ | refine Grow.grow_drew ?_ | refine Grow.grow_alloc ?_ _))⟩
  · have u1 : decide (x1 ≤ f) = false := decide_eq_false t1
    go_enter Tryd.func51, Tryd.ntmps51
    go_wp2
    go_ret
    exact ⟨by first | rfl | (rw [u1]; rfl), by (repeat (with_reducible first | exact grow_refl _ | refine Grow.grow_drewN ?_ _ | refine Grow.grow_drew ?_ | refine Grow.grow_alloc ?_ _))⟩
set_option maxRecDepth 100000 in
set_option maxHeartbeats 4000000 in
theorem idx_chk2 (r : Option Addr) (l : List (Int × Int)) (cap bs bj : Nat) (f lg : Int) (w : World) (hl : l.length ≤ 1000000) (hx : ∀ x ∈ l, -1152921504606846976 ≤ x.1 ∧ x.1 < x.2 ∧ x.2 ≤ 1152921504606846976) (hlg : 1 ≤ lg ∧ lg ≤ 1099511627776)
    (hr : SpAt w r l) (c1 : w.cell? ⟨bs, 1, none⟩ = some (.int .i64 f)) (c2 : w.cell? ⟨bj, 2, none⟩ = some (.int .i64 lg)) :
    Calls Tryd.prog 75 #[.slice r l.length cap, .func (.func 51) #[] #[.pointer (some ⟨bs, 0, none⟩), .pointer (some ⟨bj, 0, none⟩)]] w fun e w' => (∃ i : Int, e = .returned (.int .i64 i) ∧ (decide (0 ≤ i) = l.any (fitB lg f))) ∧ Below w.heap.size w w' := by
  have HR := Lib.hid hr
  have HC1 := Lib.hid c1
  have HC2 := Lib.hid c2
  have HX := Lib.hid hx
  clear hr c1 c2 hx
  go_enter Tryd.func75, Tryd.ntmps75
  go_wp2
  go_loopw [8] (fun v8 wr => ∃ k : Nat, k ≤ l.length ∧ v8 = .int .i64 k ∧ Hid ((l.take k).any (fitB lg f) = false) ∧ Below w.heap.size w wr) (fun i _ => l.length - (intOf i).toNat)
  case atStart => exact ⟨0, Nat.zero_le _, rfl, Lib.hid rfl, Below.refl _ _⟩
  case round =>
    obtain ⟨k, hk, rfl, HNO, hb⟩ := hrel
    have HB := Lib.hid hb
    clear hb
    by_cases hlt : k < l.length
    · obtain ⟨b1, o1, rfl, hcc⟩ := HR.out.resolve_left (by intro h; rw [h] at hlt; exact absurd hlt (by simp))
      obtain ⟨e0, e1⟩ := hcc k hlt
      have hb1 : b1 < w.heap.size := lt_of_cellS e0
      rw [← HB.out.cell (p := ⟨b1, _, none⟩) hb1] at e0 e1
      have hi0 : (0 : Int) ≤ (k : Int) := by omega
      have hi1 : (k : Int) < (l.length : Int) := by omega
      have HP := Lib.hid (fun X (hX : Below w.heap.size w X) => chk2_walk l[k] f lg bs bj X (HX.out _ (List.getElem_mem hlt)) hlg ((hX.cell (p := ⟨bs, 1, none⟩) (lt_of_cellS HC1.out)).trans HC1.out) ((hX.cell (p := ⟨bj, 2, none⟩) (lt_of_cellS HC2.out)).trans HC2.out))
      have HST := Lib.hid (fun (h : fitB lg f l[k] = false) => show (l.take (k + 1)).any (fitB lg f) = false by
        rw [take_snocS l k hlt, List.any_append, HNO.out]; simp [h])
      have HYE := Lib.hid (fun (h : fitB lg f l[k] = true) => show l.any (fitB lg f) = true by
        rw [List.any_eq_true]; exact ⟨l[k], List.getElem_mem hlt, h⟩)
      clear hcc HNO
      generalize l[k] = x at e0 e1 HP HST HYE
      cases ce : fitB lg f x with
      | true =>
        have HZ := Lib.hid (HYE.out ce)
        rw [ce] at HP
        clear HST HYE ce
        go_wp2_with (go_at_call 51; (with_reducible refine (HP.out _ HB.out).mono ?_); rintro e w1 ⟨rfl, hb1⟩; have HB1 := Lib.hid (HB.out.trans (hb1.mono HB.out.size)); clear hb1)
        go_ret
        exact ⟨⟨_, rfl, by rw [HZ.out]; exact decide_eq_true (by omega)⟩, HB1.out⟩
      | false =>
        have HZ := Lib.hid (HST.out ce)
        rw [ce] at HP
        clear HST HYE ce
        go_wp2_with (go_at_call 51; (with_reducible refine (HP.out _ HB.out).mono ?_); rintro e w1 ⟨rfl, hb1⟩; have HB1 := Lib.hid (HB.out.trans (hb1.mono HB.out.size)); clear hb1)
        go_roundw
        case rel => exact ⟨k + 1, by omega, by go_num, HZ, HB1.out⟩
        case measure => simp [intOf]; omega
    · obtain rfl : k = l.length := by omega
      rw [List.take_length] at HNO
      go_wp2
      go_ret
      exact ⟨⟨-1, rfl, by rw [HNO.out]; rfl⟩, HB.out⟩
set_option maxRecDepth 100000 in
set_option maxHeartbeats 4000000 in
theorem has_chk2 (r : Option Addr) (l : List (Int × Int)) (cap bs bj : Nat) (f lg : Int) (w : World) (hl : l.length ≤ 1000000) (hx : ∀ x ∈ l, -1152921504606846976 ≤ x.1 ∧ x.1 < x.2 ∧ x.2 ≤ 1152921504606846976) (hlg : 1 ≤ lg ∧ lg ≤ 1099511627776)
    (hr : SpAt w r l) (c1 : w.cell? ⟨bs, 1, none⟩ = some (.int .i64 f)) (c2 : w.cell? ⟨bj, 2, none⟩ = some (.int .i64 lg)) :
    Calls Tryd.prog 50 #[.slice r l.length cap, .func (.func 51) #[] #[.pointer (some ⟨bs, 0, none⟩), .pointer (some ⟨bj, 0, none⟩)]] w fun e w' => e = .returned (.bool (l.any (fitB lg f))) ∧ Below w.heap.size w w' := by
  have HI := Lib.hid (idx_chk2 r l cap bs bj f lg w hl hx hlg hr c1 c2)
  clear hr c1 c2 hx
  go_enter Tryd.func50, Tryd.ntmps50
  go_wp2_with (go_at_call 75; (with_reducible refine HI.out.mono ?_); rintro e w1 ⟨⟨i, rfl, hi⟩, hb1⟩; have HB1 := Lib.hid hb1; have HII := Lib.hid hi; clear hb1 hi)
  go_ret
  exact ⟨by rw [← HII.out]; rfl, HB1.out⟩
end Go.Proofs.YtjjjbkehmnfgbaaDoor
