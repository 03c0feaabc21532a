/- Pairs of stars: the document's nearest. -/
import Derived.Test.YtlnbeildplafbaaGreatDoorAp5
import Derived.BigQuiet
set_option linter.unusedSimpArgs false
set_option linter.unusedVariables false
namespace Go.Proofs.YtlnbeildplafbaaGreatDoor
open Go.RowKit Go.Grow Go.Bg Go.Atl

def takeR (d : Dr) (es : List En) (k b : Nat) : Bool := decide (0 < nearR d (en es k).at' (en es b).at') || (decide (nearR d (en es k).at' (en es b).at' = 0) && lessB (en es k).name (en es b).name)
/-- The nearest of the first k, by the document. -/
def nearRUp (d : Dr) (es : List En) : Nat → Nat
  | 0 => 0
  | k + 1 => if k = 0 then 0 else if takeR d es k (nearRUp d es k) = true then k else nearRUp d es k
theorem nearRUp_lt (d : Dr) (es : List En) : ∀ k, 0 < k → nearRUp d es k < k
  | 0, h => absurd h (by omega)
  | k + 1, _ => by
    unfold nearRUp
    by_cases hk : k = 0
    · rw [if_pos hk]; omega
    · rw [if_neg hk]
      have := nearRUp_lt d es k (by omega)
      split <;> omega
def nearRV (d : Dr) (es : List En) (k : Nat) : Int := if k = 0 then -1 else (nearRUp d es k : Nat)
theorem nearR_range (d a b : Dr) : nearR d a b = -1 ∨ nearR d a b = 0 ∨ nearR d a b = 1 := by
  unfold nearR
  have h := cmpN_range3 ((dotZ d a).natAbs * (dotZ d a).natAbs * (dotZ b b).natAbs) ((dotZ d b).natAbs * (dotZ d b).natAbs * (dotZ a a).natAbs)
  split
  · simp
  · split
    · simp
    · split <;> omega
/-- The document's atlas, as it is read. -/
structure DQ (w : World) (g : Nat) (lev : Int) (r : Option Addr) (cap : Nat) (es : List En) : Prop where
  box : Known w g #[.int .i64 lev, .slice r es.length cap]
  row : EnsAt w r es
theorem DQ.below {w w' : World} {g : Nat} {lev : Int} {r : Option Addr} {cap : Nat} {es : List En} (h : DQ w g lev r cap es) (hb : Below w.heap.size w w') : DQ w' g lev r cap es := ⟨h.box.below hb, h.row.below hb⟩
def RInv (w : World) (d : Dr) (es : List En) (v5 v6 : Value) (wr : World) : Prop :=
  ∃ k : Nat, k ≤ es.length ∧ v6 = .int .i64 (k : Nat) ∧ v5 = .int .i64 (nearRV d es k) ∧ Below w.heap.size w wr
set_option maxRecDepth 100000 in
set_option maxHeartbeats 64000000 in
theorem nearestR_walk (w : World) (g : Nat) (lev : Int) (r : Option Addr) (cap : Nat) (es : List En) (d : Dr) (hd : Sm d) (hl : es.length ≤ 200) (hdr : ∀ k, k < es.length → isDir (en es k).at' = true) (hq : DQ w g lev r cap es) :
    Calls Tryz.prog 19 #[.pointer (some ⟨g, 0, none⟩), drV d] w fun e' w' => e' = .returned (.int .i64 (nearRV d es es.length)) ∧ Below w.heap.size w w' := by
  have HSD := Lib.hid hd
  have HDR := Lib.hid hdr
  have HQ := Lib.hid hq
  clear hd hdr hq
  unfold drV
  go_enter Tryz.func19, Tryz.ntmps19
  go_upto_region 1 with (fail)
  refine seal_wp fun W0 hW => ?_
  have BW := Lib.hid (show Below w.heap.size w W0 by rw [hW.out]; exact grow_alloc (grow_refl w) _)
  have KD0 := Lib.hid (show Known W0 w.heap.size #[.int .i64 d.x, .int .i64 d.y, .int .i64 d.z] by rw [hW.out]; exact Known.new w _ _)
  have HQ0 := Lib.hid (HQ.out.below BW.out)
  clear hW HQ
  generalize w.heap.size = gd at KD0 ⊢
  go_wp2
  go_loopw [5, 6] (fun v5 v6 wr => RInv W0 d es v5 v6 wr) (fun _ i _ => es.length - (intOf i).toNat)
  case atStart => exact ⟨0, Nat.zero_le _, rfl, rfl, grow_refl _⟩
  case round =>
    obtain ⟨k, hk, rfl, rfl, hb⟩ := hrel
    have HB := Lib.hid hb
    have HQ1 := Lib.hid (HQ0.out.below HB.out)
    have KD := Lib.hid (KD0.out.below HB.out)
    clear hb
    have g1 := HQ1.out.box.cell 1
    have lg := HQ1.out.box.lt
    simp only [List.getElem?_toArray, List.getElem?_cons_zero, List.getElem?_cons_succ] at g1
    by_cases hlt : k < es.length
    · obtain ⟨bb, oo, rfl, hc⟩ := HQ1.out.row.resolve_left (by intro h; rw [h] at hlt; exact absurd hlt (by simp))
      have d0 : (0 : Int) ≤ (k : Int) := by omega
      have d1 : (k : Int) < (es.length : Int) := by omega
      by_cases hk0 : k = 0
      · have hv : nearRV d es k = -1 := if_pos hk0
        rw [hv]
        have HV := Lib.hid (show ((k : Nat) : Int) = nearRV d es (k + 1) by unfold nearRV; rw [if_neg (by omega), nearRUp, if_pos hk0, hk0])
        clear hk0 hv hc
        go_wp2
        go_roundw
        case rel => exact ⟨k + 1, by omega, by go_num, by rw [← HV.out], HB.out⟩
        case measure => simp [intOf]; omega
      · have hbk := nearRUp_lt d es k (by omega)
        have hv : nearRV d es k = (nearRUp d es k : Nat) := if_neg hk0
        have HT := Lib.hid (show nearRV d es (k + 1) = if takeR d es k (nearRUp d es k) = true then (k : Int) else (nearRUp d es k : Nat) by
          unfold nearRV
          rw [if_neg (by omega), nearRUp, if_neg hk0]
          split <;> rfl)
        rw [hv]
        unfold takeR at HT
        generalize nearRUp d es k = b at *
        have db : ¬ (b : Int) < 0 := by omega
        have db0 : (0 : Int) ≤ (b : Int) := by omega
        have db1 : (b : Int) < (es.length : Int) := by omega
        have EK := Lib.hid (hc k hlt)
        have EBB := Lib.hid (hc b (by omega))
        have NW := Lib.hid (fun X => nearerR_walk d (en es k).at' (en es b).at' HSD.out (dir_sm (HDR.out k hlt)) (dir_sm (HDR.out b (by omega))) X)
        have HC3 := Lib.hid (nearR_range d (en es k).at' (en es b).at')
        clear hc
        generalize nearR d (en es k).at' (en es b).at' = c at *
        generalize en es b = eb at *
        obtain ⟨nb, ⟨x2, y2, z2⟩, l2'⟩ := eb
        generalize en es k = ee at *
        obtain ⟨nm, ⟨x, y, z⟩, lt⟩ := ee
        unfold drV at NW
        unfold EnAt at EBB EK
        simp only at NW EBB EK HT
        have KG := Lib.hid HQ1.out.box
        have KDW := Lib.hid KD.out
        have SS := Lib.hid (fun X (hX : Below wr.heap.size wr X) => (show X.cell? ⟨gd, 0, none⟩ = some (.int .i64 d.x) ∧ X.cell? ⟨gd, 1, none⟩ = some (.int .i64 d.y) ∧ X.cell? ⟨gd, 2, none⟩ = some (.int .i64 d.z) ∧ X.cell? ⟨g, 1, none⟩ = some (.slice (some ⟨bb, oo, none⟩) es.length cap) ∧ X.cell? ⟨bb, oo + k * 5, none⟩ = some (.string nm) ∧ X.cell? ⟨bb, oo + k * 5 + 1, none⟩ = some (.int .i64 x) ∧ X.cell? ⟨bb, oo + k * 5 + 2, none⟩ = some (.int .i64 y) ∧ X.cell? ⟨bb, oo + k * 5 + 3, none⟩ = some (.int .i64 z) ∧ X.cell? ⟨bb, oo + b * 5, none⟩ = some (.string nb) ∧ X.cell? ⟨bb, oo + b * 5 + 1, none⟩ = some (.int .i64 x2) ∧ X.cell? ⟨bb, oo + b * 5 + 2, none⟩ = some (.int .i64 y2) ∧ X.cell? ⟨bb, oo + b * 5 + 3, none⟩ = some (.int .i64 z2) ∧ gd < X.heap.size ∧ g < X.heap.size ∧ bb < X.heap.size from ⟨(KDW.out.below hX).cell 0, (KDW.out.below hX).cell 1, (KDW.out.below hX).cell 2, (KG.out.below hX).cell 1, (hX.cell (lt_of_cellE EK.out.1)).trans EK.out.1, (hX.cell (lt_of_cellE EK.out.2.1)).trans EK.out.2.1, (hX.cell (lt_of_cellE EK.out.2.2.1)).trans EK.out.2.2.1, (hX.cell (lt_of_cellE EK.out.2.2.2.1)).trans EK.out.2.2.2.1, (hX.cell (lt_of_cellE EBB.out.1)).trans EBB.out.1, (hX.cell (lt_of_cellE EBB.out.2.1)).trans EBB.out.2.1, (hX.cell (lt_of_cellE EBB.out.2.2.1)).trans EBB.out.2.2.1, (hX.cell (lt_of_cellE EBB.out.2.2.2.1)).trans EBB.out.2.2.2.1, (KDW.out.below hX).lt, (KG.out.below hX).lt, Nat.lt_of_lt_of_le (lt_of_cellE EK.out.1) hX.size⟩))
        clear g1 lg
        obtain ⟨s0, s1, s2, s3, s4, s5, s6, s7, s8, s9, s10, s11, l0, l1, l2⟩ := SS.out wr (grow_refl wr)
        cases hL : lessB nm nb
        all_goals
          have hL2 := hL
          unfold lessB at hL2
        all_goals rcases HC3.out with rfl | rfl | rfl
        all_goals
          go_upto_region 7 with (fail)
          go_region_held3 (fun X => X.cell? ⟨gd, 0, none⟩ = some (.int .i64 d.x) ∧ X.cell? ⟨gd, 1, none⟩ = some (.int .i64 d.y) ∧ X.cell? ⟨gd, 2, none⟩ = some (.int .i64 d.z) ∧ X.cell? ⟨g, 1, none⟩ = some (.slice (some ⟨bb, oo, none⟩) es.length cap) ∧ X.cell? ⟨bb, oo + k * 5, none⟩ = some (.string nm) ∧ X.cell? ⟨bb, oo + k * 5 + 1, none⟩ = some (.int .i64 x) ∧ X.cell? ⟨bb, oo + k * 5 + 2, none⟩ = some (.int .i64 y) ∧ X.cell? ⟨bb, oo + k * 5 + 3, none⟩ = some (.int .i64 z) ∧ X.cell? ⟨bb, oo + b * 5, none⟩ = some (.string nb) ∧ X.cell? ⟨bb, oo + b * 5 + 1, none⟩ = some (.int .i64 x2) ∧ X.cell? ⟨bb, oo + b * 5 + 2, none⟩ = some (.int .i64 y2) ∧ X.cell? ⟨bb, oo + b * 5 + 3, none⟩ = some (.int .i64 z2) ∧ gd < X.heap.size ∧ g < X.heap.size ∧ bb < X.heap.size) (exact SS.out _ (by (repeat (with_reducible first | exact grow_refl _ | exact B10.out | refine Grow.grow_drewN ?_ _ | refine Grow.grow_drew ?_ | refine Grow.grow_alloc ?_ _))))
            (first
            | (go_at_call 47; (with_reducible refine (NW.out _).mono ?_); rintro e10 w10 ⟨rfl, hb⟩; have B10 := Lib.hid (grow_trans (by (repeat (with_reducible first | exact grow_refl _ | exact B10.out | refine Grow.grow_drewN ?_ _ | refine Grow.grow_drew ?_ | refine Grow.grow_alloc ?_ _))) hb : Below wr.heap.size wr w10); clear hb))
          go_upto_region 8 with (fail)
          clear s0 s1 s2 s3 s4 s5 s6 s7 s8 s9 s10 s11 l0 l1 l2
          obtain ⟨s0, s1, s2, s3, s4, s5, s6, s7, s8, s9, s10, s11, l0, l1, l2⟩ := SS.out w10 B10.out
          go_quiet (fail)
          go_wp2
          go_roundw
          case rel => exact ⟨k + 1, by omega, by go_num, by rw [HT.out, hL]; simp, grow_trans HB.out (by (repeat (with_reducible first | exact grow_refl _ | exact B10.out | refine Grow.grow_drewN ?_ _ | refine Grow.grow_drew ?_ | refine Grow.grow_alloc ?_ _)))⟩
          case measure => simp [intOf]; omega
    · obtain rfl : k = es.length := by omega
      go_wp2
      go_ret
      exact ⟨rfl, grow_trans BW.out HB.out⟩
end Go.Proofs.YtlnbeildplafbaaGreatDoor
