/- Pairs of stars: the nearest of an atlas. -/
import Derived.Test.YtlnbeildplafbaaGreatDoorAp2
import Derived.Test.YtlnbeildplafbaaGreatDoorAc23
import Derived.Test.YtlnbeildplafbaaGreatDoorShl7
import Derived.Deep.RegionHeld3
import Derived.BigQuiet
import Derived.Deep.DeepCutAuto
import Derived.Deep.CutBlock
import Derived.Outline
set_option linter.unusedSimpArgs false
set_option linter.unusedVariables false
namespace Go.Atl
def cmpS (a b : ByteArray) : Int := Lib.compareBytes a.data.toList b.data.toList
end Go.Atl
namespace Go.Proofs.YtlnbeildplafbaaGreatDoor
open Go.RowKit Go.Grow Go.Wd Go.Atl

/-- Whether entry k is to be taken in the place of b. -/
def takeB (d : Dr) (es : List En) (k b : Nat) : Bool := decide (0 < nearZ d (en es k).at' (en es b).at') || (decide (nearZ d (en es k).at' (en es b).at' = 0) && decide (cmpS (en es k).name (en es b).name < 0))
theorem cmpI_range (a b : Int) : cmpI a b = -1 ∨ cmpI a b = 0 ∨ cmpI a b = 1 := by unfold cmpI; split <;> (try split) <;> simp
theorem nearZ_range (d a b : Dr) : nearZ d a b = -1 ∨ nearZ d a b = 0 ∨ nearZ d a b = 1 := cmpI_range _ _
theorem bytes_range : ∀ a b : List UInt8, Lib.compareBytes a b = -1 ∨ Lib.compareBytes a b = 0 ∨ Lib.compareBytes a b = 1
  | [], [] => by simp [Lib.compareBytes]
  | [], _ :: _ => by simp [Lib.compareBytes]
  | _ :: _, [] => by simp [Lib.compareBytes]
  | x :: a, y :: b => by
    unfold Lib.compareBytes
    split
    · simp
    · split
      · simp
      · exact bytes_range a b
theorem cmpS_range (a b : ByteArray) : cmpS a b = -1 ∨ cmpS a b = 0 ∨ cmpS a b = 1 := bytes_range _ _
/-- The nearest of the first k. -/
def nearUp (d : Dr) (es : List En) : Nat → Nat
  | 0 => 0
  | k + 1 => if k = 0 then 0 else if takeB d es k (nearUp d es k) = true then k else nearUp d es k
theorem nearUp_lt (d : Dr) (es : List En) : ∀ k, 0 < k → nearUp d es k < k
  | 0, h => absurd h (by omega)
  | k + 1, _ => by
    unfold nearUp
    by_cases hk : k = 0
    · rw [if_pos hk]; omega
    · rw [if_neg hk]
      have := nearUp_lt d es k (by omega)
      split <;> omega
def nearV (d : Dr) (es : List En) (k : Nat) : Int := if k = 0 then -1 else (nearUp d es k : Nat)
/-- The program's atlas, as it is read: its row, how often was looked. -/
structure QAt (w : World) (g : Nat) (lev : Int) (m1 m2 : Nat) (r : Option Addr) (cap : Nat) (es : List En) (lk : Int) : Prop where
  box : Known w g #[.int .i64 lev, .map (some m1), .slice r es.length cap, .map (some m2), .int .i64 lk]
  row : EnsAt w r es
  ne : ∀ b, r = some b → b.block ≠ g
theorem EnsAt.offG {w w' : World} {g : Nat} {r : Option Addr} {es : List En} (h : EnsAt w r es) (hn : ∀ b, r = some b → b.block ≠ g) (o : Off (fun k => k = g) w w') : EnsAt w' r es := by
  rcases h with h | ⟨b, oo, rfl, h⟩
  · exact .inl h
  · refine .inr ⟨b, oo, rfl, fun k hk => ?_⟩
    obtain ⟨h0, h1, h2, h3, h4⟩ := h k hk
    have hb : b < w.heap.size := lt_of_cellE h0
    have e := o.block b hb (hn _ rfl)
    unfold EnAt World.cell? at *
    rw [e]
    exact ⟨h0, h1, h2, h3, h4⟩
def NInv (w : World) (g gd : Nat) (lev : Int) (m1 m2 : Nat) (r : Option Addr) (cap : Nat) (es : List En) (lk : Int) (d : Dr) (v7 v20 : Value) (wr : World) : Prop :=
  ∃ k : Nat, k ≤ es.length ∧ v20 = .int .i64 (k : Nat) ∧ v7 = .int .i64 (nearV d es k) ∧ QAt wr g lev m1 m2 r cap es (lk + k) ∧ Known wr gd #[.int .i64 d.x, .int .i64 d.y, .int .i64 d.z] ∧ Off (fun k => k = g) w wr
theorem compare_walk (a b : ByteArray) (w : World) : Calls Tryz.prog 45 #[.string a, .string b] w fun e w' => e = .returned (.int .i64 (cmpS a b)) ∧ w' = w :=
  Go.Proofs.Any.strings_Compare YtlnbeildplafbaaGreatDoor.laysCmpS a b w
/-- What Nearest answers. -/
def NearPost (d : Dr) (es : List En) (e' : Ending) : Prop := ∃ nm, e' = .returned (.tuple #[.string nm, .bool (decide (0 < es.length)), .nilIface]) ∧ nm = if es.length = 0 then .empty else (en es (nearUp d es es.length)).name
set_option maxRecDepth 100000 in
set_option maxHeartbeats 64000000 in
theorem nearest_walk (w : World) (g : Nat) (lev : Int) (m1 m2 : Nat) (r : Option Addr) (cap : Nat) (es : List En) (lk : Int) (d : Dr) (hd : isDir d = true) (hl : es.length ≤ 200) (hdr : ∀ k, k < es.length → isDir (en es k).at' = true)
    (hlk0 : 0 ≤ lk) (hlk1 : lk ≤ 1000000) (hq : QAt w g lev m1 m2 r cap es lk) :
    Calls Tryz.prog 41 #[.pointer (some ⟨g, 0, none⟩), drV d] w fun e' w' => NearPost d es e' ∧ QAt w' g lev m1 m2 r cap es (lk + es.length) ∧ Off (fun k => k = g) w w' := by
  have DW := Lib.hid (fun X => direction_walk d X)
  rw [hd] at DW
  have HSD := Lib.hid (dir_sm hd)
  have HDR := Lib.hid hdr
  have HNE := Lib.hid hq.ne
  have hgw := hq.box.lt
  have HQ0 := Lib.hid hq
  clear hd hdr hq
  unfold drV at DW ⊢
  go_enter Tryz.func41, Tryz.ntmps41
  go_upto_region 4 with (go_at_call 73; (with_reducible refine (DW.out _).mono ?_); rintro e1 w1 ⟨rfl, hb⟩; have B1 := Lib.hid (grow_trans (grow_alloc (grow_refl w) _) hb); have KD1 := Lib.hid ((Known.new w #[.int .i64 d.x, .int .i64 d.y, .int .i64 d.z] 28).below hb); clear hb)
  have KG1 := Lib.hid (HQ0.out.box.below B1.out)
  have o2 := KG1.out.cell 2
  have lg := KG1.out.lt
  simp only [List.getElem?_toArray, List.getElem?_cons_zero, List.getElem?_cons_succ] at o2
  have ST := Lib.hid (show NInv w g w.heap.size lev m1 m2 r cap es lk d (.int .i64 (-1)) (.int .i64 0) w1 from ⟨0, Nat.zero_le _, rfl, rfl, ⟨by rw [show lk + ((0 : Nat) : Int) = lk by omega]; exact KG1.out, HQ0.out.row.below B1.out, HNE.out⟩, KD1.out, Off.of_below B1.out⟩)
  clear HQ0 DW
  go_wp2
  generalize hgd : w.heap.size = gd at ST ⊢
  clear o2 lg KG1 KD1 B1
  go_loopw [7, 20] (fun v7 v20 wr => NInv w g gd lev m1 m2 r cap es lk d v7 v20 wr) (fun _ i _ => es.length - (intOf i).toNat)
  case atStart => exact ST.out
  case round =>
    obtain ⟨k, hk, rfl, rfl, hq, kd, hof⟩ := hrel
    have HQ := Lib.hid hq
    have KD := Lib.hid kd
    have HO := Lib.hid hof
    clear hq kd hof ST
    have g2 := HQ.out.box.cell 2
    have g4 := HQ.out.box.cell 4
    have f4 := HQ.out.box.frozen 4
    have lg := HQ.out.box.lt
    simp only [List.getElem?_toArray, List.getElem?_cons_zero, List.getElem?_cons_succ] at g2 g4
    have hgd2 : gd ≠ g := by omega
    by_cases hlt : k < es.length
    · obtain ⟨bb, oo, rfl, hc⟩ := HQ.out.row.resolve_left (by intro h; rw [h] at hlt; exact absurd hlt (by simp))
      have hbg : bb ≠ g := HNE.out _ rfl
      have d0 : (0 : Int) ≤ (k : Int) := by omega
      have d1 : (k : Int) < (es.length : Int) := by omega
      have b1 : -9223372036854775808 ≤ lk + (k : Int) + 1 := by omega
      have b2 : lk + (k : Int) + 1 ≤ 9223372036854775807 := by omega
      obtain ⟨e0, e1, e2, e3, e4⟩ := hc k hlt
      have lbb : bb < wr.heap.size := lt_of_cellE e0
      have EB := Lib.hid hc
      clear hc
      have HS1 := Lib.hid (dir_sm (HDR.out k hlt))
      have HNX := Lib.hid (fun W (o : Off (fun k => k = g) wr W) (kg : Known W g #[.int .i64 lev, .map (some m1), .slice (some ⟨bb, oo, none⟩) es.length cap, .map (some m2), .int .i64 (lk + (k : Int) + 1)]) (v : Int) (hv : v = nearV d es (k + 1)) => (show NInv w g gd lev m1 m2 (some ⟨bb, oo, none⟩) cap es lk d (.int .i64 v) (.int .i64 ((k + 1 : Nat) : Int)) W from
        ⟨k + 1, by omega, rfl, by rw [hv], ⟨by rw [show lk + ((k + 1 : Nat) : Int) = lk + (k : Int) + 1 by omega]; exact kg, HQ.out.row.offG HNE.out o, HNE.out⟩, KD.out.off o hgd2, HO.out.trans o⟩))
      by_cases hk0 : k = 0
      · have hv : nearV d es k = -1 := if_pos hk0
        rw [hv]
        have HV := Lib.hid (show ((k : Nat) : Int) = nearV d es (k + 1) by unfold nearV; rw [if_neg (by omega), nearUp, if_pos hk0, hk0])
        clear hk0 hv
        generalize en es k = ee at *
        obtain ⟨nm, ⟨x, y, z⟩, lt⟩ := ee
        simp only at e0 e1 e2 e3 e4
        go_wp2
        go_roundw
        case rel => exact HNX.out _ (((Off.refl (fun k => k = g) wr).setCell rfl _ _).alloc _) ((HQ.out.box.same 4 _).alloc _) _ HV.out
        case measure => simp [intOf]; omega
      · have hb := nearUp_lt d es k (by omega)
        have hv : nearV d es k = (nearUp d es k : Nat) := if_neg hk0
        have HT := Lib.hid (show nearV d es (k + 1) = if takeB d es k (nearUp d es k) = true then (k : Int) else (nearUp d es k : Nat) by
          unfold nearV
          rw [if_neg (by omega), nearUp, if_neg hk0]
          split <;> rfl)
        rw [hv]
        unfold takeB at HT
        generalize nearUp d es k = b at *
        have db : ¬ (b : Int) < 0 := by omega
        have db0 : (0 : Int) ≤ (b : Int) := by omega
        have db1 : (b : Int) < (es.length : Int) := by omega
        have EBB := Lib.hid (EB.out b (by omega))
        have HS2 := Lib.hid (dir_sm (HDR.out b (by omega)))
        have NW := Lib.hid (fun X => nearer_walk d (en es k).at' (en es b).at' HSD.out HS1.out HS2.out X)
        have CS := Lib.hid (fun X => compare_walk (en es k).name (en es b).name X)
        clear EB HDR HNE HS1 HS2
        have HC3 := Lib.hid (nearZ_range d (en es k).at' (en es b).at')
        have HS3 := Lib.hid (cmpS_range (en es k).name (en es b).name)
        generalize nearZ d (en es k).at' (en es b).at' = c at *
        generalize cmpS (en es k).name (en es b).name = s at *
        generalize en es b = eb at *
        obtain ⟨nb, ⟨x2, y2, z2⟩, l2⟩ := eb
        generalize en es k = ee at *
        obtain ⟨nm, ⟨x, y, z⟩, lt⟩ := ee
        simp only at e0 e1 e2 e3 e4 NW CS EBB
        unfold drV at NW
        unfold EnAt at EBB
        simp only at NW EBB
        go_upto_region 10 with (fail)
        refine seal_wp fun W hW => ?_
        have KG := Lib.hid (show Known W g #[.int .i64 lev, .map (some m1), .slice (some ⟨bb, oo, none⟩) es.length cap, .map (some m2), .int .i64 (lk + (k : Int) + 1)] by rw [hW.out]; exact (HQ.out.box.same 4 _).alloc _)
        have KE := Lib.hid (show Known W wr.heap.size #[.string nm, .int .i64 x, .int .i64 y, .int .i64 z, .int .i64 lt] by rw [hW.out]; exact Known.new' (by simp))
        have HOW := Lib.hid (show Off (fun k => k = g) wr W by rw [hW.out]; exact ((Off.refl (fun k => k = g) wr).setCell rfl _ _).alloc _)
        have KDW := Lib.hid (KD.out.off HOW.out hgd2)
        have EBW := Lib.hid (show W.cell? ⟨bb, oo + b * 5, none⟩ = some (.string nb) ∧ W.cell? ⟨bb, oo + b * 5 + 1, none⟩ = some (.int .i64 x2) ∧ W.cell? ⟨bb, oo + b * 5 + 2, none⟩ = some (.int .i64 y2) ∧ W.cell? ⟨bb, oo + b * 5 + 3, none⟩ = some (.int .i64 z2) ∧ bb < W.heap.size by
          have e := HOW.out.block bb lbb hbg
          obtain ⟨h0, h1, h2, h3, h4⟩ := EBB.out
          unfold World.cell? at *
          rw [e]
          exact ⟨h0, h1, h2, h3, Nat.lt_of_lt_of_le lbb HOW.out.size⟩)
        generalize wr.heap.size = ge at *
        have SS := Lib.hid (fun X (hX : Below W.heap.size W X) => (show X.cell? ⟨gd, 0, none⟩ = some (.int .i64 d.x) ∧ X.cell? ⟨gd, 1, none⟩ = some (.int .i64 d.y) ∧ X.cell? ⟨gd, 2, none⟩ = some (.int .i64 d.z) ∧ X.cell? ⟨ge, 0, none⟩ = some (.string nm) ∧ X.cell? ⟨ge, 1, none⟩ = some (.int .i64 x) ∧ X.cell? ⟨ge, 2, none⟩ = some (.int .i64 y) ∧ X.cell? ⟨ge, 3, none⟩ = some (.int .i64 z) ∧ X.cell? ⟨g, 2, none⟩ = some (.slice (some ⟨bb, oo, none⟩) es.length cap) ∧ X.cell? ⟨bb, oo + b * 5, none⟩ = some (.string nb) ∧ X.cell? ⟨bb, oo + b * 5 + 1, none⟩ = some (.int .i64 x2) ∧ X.cell? ⟨bb, oo + b * 5 + 2, none⟩ = some (.int .i64 y2) ∧ X.cell? ⟨bb, oo + b * 5 + 3, none⟩ = some (.int .i64 z2) ∧ gd < X.heap.size ∧ ge < X.heap.size ∧ g < X.heap.size ∧ bb < X.heap.size from ⟨(KDW.out.below hX).cell 0, (KDW.out.below hX).cell 1, (KDW.out.below hX).cell 2, (KE.out.below hX).cell 0, (KE.out.below hX).cell 1, (KE.out.below hX).cell 2, (KE.out.below hX).cell 3, (KG.out.below hX).cell 2, (hX.cell (lt_of_cellE EBW.out.1)).trans EBW.out.1, (hX.cell (lt_of_cellE EBW.out.2.1)).trans EBW.out.2.1, (hX.cell (lt_of_cellE EBW.out.2.2.1)).trans EBW.out.2.2.1, (hX.cell (lt_of_cellE EBW.out.2.2.2.1)).trans EBW.out.2.2.2.1, (KDW.out.below hX).lt, (KE.out.below hX).lt, (KG.out.below hX).lt, Nat.lt_of_lt_of_le EBW.out.2.2.2.2 hX.size⟩))
        clear e0 e1 e2 e3 e4 g2 g4 f4 lg lbb hW KD HQ HO EBB b1 b2
        have SW := Lib.hid (SS.out W (grow_refl W))
        obtain ⟨s0, s1, s2, s3, s4, s5, s6, s7, s8, s9, s10, s11, l0, l1, l2', l3⟩ := SW.out
        rcases HC3.out with rfl | rfl | rfl
        · go_region_held3 (fun X => X.cell? ⟨gd, 0, none⟩ = some (.int .i64 d.x) ∧ X.cell? ⟨gd, 1, none⟩ = some (.int .i64 d.y) ∧ X.cell? ⟨gd, 2, none⟩ = some (.int .i64 d.z) ∧ X.cell? ⟨ge, 0, none⟩ = some (.string nm) ∧ X.cell? ⟨ge, 1, none⟩ = some (.int .i64 x) ∧ X.cell? ⟨ge, 2, none⟩ = some (.int .i64 y) ∧ X.cell? ⟨ge, 3, none⟩ = some (.int .i64 z) ∧ X.cell? ⟨g, 2, none⟩ = some (.slice (some ⟨bb, oo, none⟩) es.length cap) ∧ X.cell? ⟨bb, oo + b * 5, none⟩ = some (.string nb) ∧ X.cell? ⟨bb, oo + b * 5 + 1, none⟩ = some (.int .i64 x2) ∧ X.cell? ⟨bb, oo + b * 5 + 2, none⟩ = some (.int .i64 y2) ∧ X.cell? ⟨bb, oo + b * 5 + 3, none⟩ = some (.int .i64 z2) ∧ gd < X.heap.size ∧ ge < X.heap.size ∧ g < X.heap.size ∧ bb < X.heap.size) (exact SS.out _ (by (repeat (with_reducible first | exact grow_refl _ | exact B10.out | refine Grow.grow_drewN ?_ _ | refine Grow.grow_drew ?_ | refine Grow.grow_alloc ?_ _))))
            (first
            | (go_at_call 77; (with_reducible refine (NW.out _).mono ?_); rintro e10 w10 ⟨rfl, hb⟩; have B10 := Lib.hid (grow_trans (by (repeat (with_reducible first | exact grow_refl _ | exact B10.out | refine Grow.grow_drewN ?_ _ | refine Grow.grow_drew ?_ | refine Grow.grow_alloc ?_ _))) hb : Below W.heap.size W w10); clear hb))
          go_upto_region 11 with (fail)
          clear s0 s1 s2 s3 s4 s5 s6 s7 s8 s9 s10 s11 l0 l1 l2' l3
          obtain ⟨s0, s1, s2, s3, s4, s5, s6, s7, s8, s9, s10, s11, l0, l1, l2', l3⟩ := SS.out w10 B10.out
          go_quiet (first | (go_at_call 45; with_reducible exact Calls.quiet_of_same (CS.out _)))
          go_wp2
          go_roundw
          case rel => exact HNX.out _ (HOW.out.trans (Off.of_below (by (repeat (with_reducible first | exact grow_refl _ | exact B10.out | refine Grow.grow_drewN ?_ _ | refine Grow.grow_drew ?_ | refine Grow.grow_alloc ?_ _))))) (KG.out.below (by (repeat (with_reducible first | exact grow_refl _ | exact B10.out | refine Grow.grow_drewN ?_ _ | refine Grow.grow_drew ?_ | refine Grow.grow_alloc ?_ _)))) _ (by rw [HT.out]; simp)
          case measure => simp [intOf]; omega
        · rcases HS3.out with rfl | rfl | rfl
          · go_region_held3 (fun X => X.cell? ⟨gd, 0, none⟩ = some (.int .i64 d.x) ∧ X.cell? ⟨gd, 1, none⟩ = some (.int .i64 d.y) ∧ X.cell? ⟨gd, 2, none⟩ = some (.int .i64 d.z) ∧ X.cell? ⟨ge, 0, none⟩ = some (.string nm) ∧ X.cell? ⟨ge, 1, none⟩ = some (.int .i64 x) ∧ X.cell? ⟨ge, 2, none⟩ = some (.int .i64 y) ∧ X.cell? ⟨ge, 3, none⟩ = some (.int .i64 z) ∧ X.cell? ⟨g, 2, none⟩ = some (.slice (some ⟨bb, oo, none⟩) es.length cap) ∧ X.cell? ⟨bb, oo + b * 5, none⟩ = some (.string nb) ∧ X.cell? ⟨bb, oo + b * 5 + 1, none⟩ = some (.int .i64 x2) ∧ X.cell? ⟨bb, oo + b * 5 + 2, none⟩ = some (.int .i64 y2) ∧ X.cell? ⟨bb, oo + b * 5 + 3, none⟩ = some (.int .i64 z2) ∧ gd < X.heap.size ∧ ge < X.heap.size ∧ g < X.heap.size ∧ bb < X.heap.size) (exact SS.out _ (by (repeat (with_reducible first | exact grow_refl _ | exact B10.out | refine Grow.grow_drewN ?_ _ | refine Grow.grow_drew ?_ | refine Grow.grow_alloc ?_ _))))
              (first
              | (go_at_call 77; (with_reducible refine (NW.out _).mono ?_); rintro e10 w10 ⟨rfl, hb⟩; have B10 := Lib.hid (grow_trans (by (repeat (with_reducible first | exact grow_refl _ | exact B10.out | refine Grow.grow_drewN ?_ _ | refine Grow.grow_drew ?_ | refine Grow.grow_alloc ?_ _))) hb : Below W.heap.size W w10); clear hb))
            go_upto_region 11 with (fail)
            clear s0 s1 s2 s3 s4 s5 s6 s7 s8 s9 s10 s11 l0 l1 l2' l3
            obtain ⟨s0, s1, s2, s3, s4, s5, s6, s7, s8, s9, s10, s11, l0, l1, l2', l3⟩ := SS.out w10 B10.out
            go_quiet (first | (go_at_call 45; with_reducible exact Calls.quiet_of_same (CS.out _)))
            go_wp2
            go_roundw
            case rel => exact HNX.out _ (HOW.out.trans (Off.of_below (by (repeat (with_reducible first | exact grow_refl _ | exact B10.out | refine Grow.grow_drewN ?_ _ | refine Grow.grow_drew ?_ | refine Grow.grow_alloc ?_ _))))) (KG.out.below (by (repeat (with_reducible first | exact grow_refl _ | exact B10.out | refine Grow.grow_drewN ?_ _ | refine Grow.grow_drew ?_ | refine Grow.grow_alloc ?_ _)))) _ (by rw [HT.out]; simp)
            case measure => simp [intOf]; omega
          · go_region_held3 (fun X => X.cell? ⟨gd, 0, none⟩ = some (.int .i64 d.x) ∧ X.cell? ⟨gd, 1, none⟩ = some (.int .i64 d.y) ∧ X.cell? ⟨gd, 2, none⟩ = some (.int .i64 d.z) ∧ X.cell? ⟨ge, 0, none⟩ = some (.string nm) ∧ X.cell? ⟨ge, 1, none⟩ = some (.int .i64 x) ∧ X.cell? ⟨ge, 2, none⟩ = some (.int .i64 y) ∧ X.cell? ⟨ge, 3, none⟩ = some (.int .i64 z) ∧ X.cell? ⟨g, 2, none⟩ = some (.slice (some ⟨bb, oo, none⟩) es.length cap) ∧ X.cell? ⟨bb, oo + b * 5, none⟩ = some (.string nb) ∧ X.cell? ⟨bb, oo + b * 5 + 1, none⟩ = some (.int .i64 x2) ∧ X.cell? ⟨bb, oo + b * 5 + 2, none⟩ = some (.int .i64 y2) ∧ X.cell? ⟨bb, oo + b * 5 + 3, none⟩ = some (.int .i64 z2) ∧ gd < X.heap.size ∧ ge < X.heap.size ∧ g < X.heap.size ∧ bb < X.heap.size) (exact SS.out _ (by (repeat (with_reducible first | exact grow_refl _ | exact B10.out | refine Grow.grow_drewN ?_ _ | refine Grow.grow_drew ?_ | refine Grow.grow_alloc ?_ _))))
              (first
              | (go_at_call 77; (with_reducible refine (NW.out _).mono ?_); rintro e10 w10 ⟨rfl, hb⟩; have B10 := Lib.hid (grow_trans (by (repeat (with_reducible first | exact grow_refl _ | exact B10.out | refine Grow.grow_drewN ?_ _ | refine Grow.grow_drew ?_ | refine Grow.grow_alloc ?_ _))) hb : Below W.heap.size W w10); clear hb))
            go_upto_region 11 with (fail)
            clear s0 s1 s2 s3 s4 s5 s6 s7 s8 s9 s10 s11 l0 l1 l2' l3
            obtain ⟨s0, s1, s2, s3, s4, s5, s6, s7, s8, s9, s10, s11, l0, l1, l2', l3⟩ := SS.out w10 B10.out
            go_quiet (first | (go_at_call 45; with_reducible exact Calls.quiet_of_same (CS.out _)))
            go_wp2
            go_roundw
            case rel => exact HNX.out _ (HOW.out.trans (Off.of_below (by (repeat (with_reducible first | exact grow_refl _ | exact B10.out | refine Grow.grow_drewN ?_ _ | refine Grow.grow_drew ?_ | refine Grow.grow_alloc ?_ _))))) (KG.out.below (by (repeat (with_reducible first | exact grow_refl _ | exact B10.out | refine Grow.grow_drewN ?_ _ | refine Grow.grow_drew ?_ | refine Grow.grow_alloc ?_ _)))) _ (by rw [HT.out]; simp)
            case measure => simp [intOf]; omega
          · go_region_held3 (fun X => X.cell? ⟨gd, 0, none⟩ = some (.int .i64 d.x) ∧ X.cell? ⟨gd, 1, none⟩ = some (.int .i64 d.y) ∧ X.cell? ⟨gd, 2, none⟩ = some (.int .i64 d.z) ∧ X.cell? ⟨ge, 0, none⟩ = some (.string nm) ∧ X.cell? ⟨ge, 1, none⟩ = some (.int .i64 x) ∧ X.cell? ⟨ge, 2, none⟩ = some (.int .i64 y) ∧ X.cell? ⟨ge, 3, none⟩ = some (.int .i64 z) ∧ X.cell? ⟨g, 2, none⟩ = some (.slice (some ⟨bb, oo, none⟩) es.length cap) ∧ X.cell? ⟨bb, oo + b * 5, none⟩ = some (.string nb) ∧ X.cell? ⟨bb, oo + b * 5 + 1, none⟩ = some (.int .i64 x2) ∧ X.cell? ⟨bb, oo + b * 5 + 2, none⟩ = some (.int .i64 y2) ∧ X.cell? ⟨bb, oo + b * 5 + 3, none⟩ = some (.int .i64 z2) ∧ gd < X.heap.size ∧ ge < X.heap.size ∧ g < X.heap.size ∧ bb < X.heap.size) (exact SS.out _ (by (repeat (with_reducible first | exact grow_refl _ | exact B10.out | refine Grow.grow_drewN ?_ _ | refine Grow.grow_drew ?_ | refine Grow.grow_alloc ?_ _))))
              (first
              | (go_at_call 77; (with_reducible refine (NW.out _).mono ?_); rintro e10 w10 ⟨rfl, hb⟩; have B10 := Lib.hid (grow_trans (by (repeat (with_reducible first | exact grow_refl _ | exact B10.out | refine Grow.grow_drewN ?_ _ | refine Grow.grow_drew ?_ | refine Grow.grow_alloc ?_ _))) hb : Below W.heap.size W w10); clear hb))
            go_upto_region 11 with (fail)
            clear s0 s1 s2 s3 s4 s5 s6 s7 s8 s9 s10 s11 l0 l1 l2' l3
            obtain ⟨s0, s1, s2, s3, s4, s5, s6, s7, s8, s9, s10, s11, l0, l1, l2', l3⟩ := SS.out w10 B10.out
            go_quiet (first | (go_at_call 45; with_reducible exact Calls.quiet_of_same (CS.out _)))
            go_wp2
            go_roundw
            case rel => exact HNX.out _ (HOW.out.trans (Off.of_below (by (repeat (with_reducible first | exact grow_refl _ | exact B10.out | refine Grow.grow_drewN ?_ _ | refine Grow.grow_drew ?_ | refine Grow.grow_alloc ?_ _))))) (KG.out.below (by (repeat (with_reducible first | exact grow_refl _ | exact B10.out | refine Grow.grow_drewN ?_ _ | refine Grow.grow_drew ?_ | refine Grow.grow_alloc ?_ _)))) _ (by rw [HT.out]; simp)
            case measure => simp [intOf]; omega
        · go_region_held3 (fun X => X.cell? ⟨gd, 0, none⟩ = some (.int .i64 d.x) ∧ X.cell? ⟨gd, 1, none⟩ = some (.int .i64 d.y) ∧ X.cell? ⟨gd, 2, none⟩ = some (.int .i64 d.z) ∧ X.cell? ⟨ge, 0, none⟩ = some (.string nm) ∧ X.cell? ⟨ge, 1, none⟩ = some (.int .i64 x) ∧ X.cell? ⟨ge, 2, none⟩ = some (.int .i64 y) ∧ X.cell? ⟨ge, 3, none⟩ = some (.int .i64 z) ∧ X.cell? ⟨g, 2, none⟩ = some (.slice (some ⟨bb, oo, none⟩) es.length cap) ∧ X.cell? ⟨bb, oo + b * 5, none⟩ = some (.string nb) ∧ X.cell? ⟨bb, oo + b * 5 + 1, none⟩ = some (.int .i64 x2) ∧ X.cell? ⟨bb, oo + b * 5 + 2, none⟩ = some (.int .i64 y2) ∧ X.cell? ⟨bb, oo + b * 5 + 3, none⟩ = some (.int .i64 z2) ∧ gd < X.heap.size ∧ ge < X.heap.size ∧ g < X.heap.size ∧ bb < X.heap.size) (exact SS.out _ (by (repeat (with_reducible first | exact grow_refl _ | exact B10.out | refine Grow.grow_drewN ?_ _ | refine Grow.grow_drew ?_ | refine Grow.grow_alloc ?_ _))))
            (first
            | (go_at_call 77; (with_reducible refine (NW.out _).mono ?_); rintro e10 w10 ⟨rfl, hb⟩; have B10 := Lib.hid (grow_trans (by (repeat (with_reducible first | exact grow_refl _ | exact B10.out | refine Grow.grow_drewN ?_ _ | refine Grow.grow_drew ?_ | refine Grow.grow_alloc ?_ _))) hb : Below W.heap.size W w10); clear hb))
          go_upto_region 11 with (fail)
          clear s0 s1 s2 s3 s4 s5 s6 s7 s8 s9 s10 s11 l0 l1 l2' l3
          obtain ⟨s0, s1, s2, s3, s4, s5, s6, s7, s8, s9, s10, s11, l0, l1, l2', l3⟩ := SS.out w10 B10.out
          go_quiet (first | (go_at_call 45; with_reducible exact Calls.quiet_of_same (CS.out _)))
          go_wp2
          go_roundw
          case rel => exact HNX.out _ (HOW.out.trans (Off.of_below (by (repeat (with_reducible first | exact grow_refl _ | exact B10.out | refine Grow.grow_drewN ?_ _ | refine Grow.grow_drew ?_ | refine Grow.grow_alloc ?_ _))))) (KG.out.below (by (repeat (with_reducible first | exact grow_refl _ | exact B10.out | refine Grow.grow_drewN ?_ _ | refine Grow.grow_drew ?_ | refine Grow.grow_alloc ?_ _)))) _ (by rw [HT.out]; simp)
          case measure => simp [intOf]; omega
    · obtain rfl : k = es.length := by omega
      by_cases hz : es.length = 0
      · have hv : nearV d es es.length = -1 := if_pos hz
        have hdz : decide (0 < es.length) = false := decide_eq_false (by omega)
        rw [hv]
        have HZ := Lib.hid hz
        clear hz hv
        go_wp2
        go_ret3
        exact ⟨by unfold NearPost; exact ⟨_, by rw [hdz]; rfl, by rw [if_pos HZ.out]; rfl⟩, HQ.out, HO.out⟩
      · have hb := nearUp_lt d es es.length (by omega)
        have hv : nearV d es es.length = (nearUp d es es.length : Nat) := if_neg hz
        have hdz : decide (0 < es.length) = true := decide_eq_true (by omega)
        rw [hv]
        have HNM := Lib.hid (show (en es (nearUp d es es.length)).name = if es.length = 0 then .empty else (en es (nearUp d es es.length)).name by rw [if_neg hz])
        clear hv hz
        obtain ⟨bb, oo, rfl, hc⟩ := HQ.out.row.resolve_left (by intro h; rw [h] at hb; exact absurd hb (by simp))
        obtain ⟨e0, e1, e2, e3, e4⟩ := hc (nearUp d es es.length) hb
        clear hc
        have lbb : bb < wr.heap.size := lt_of_cellE e0
        generalize hbb : nearUp d es es.length = b at *
        have HBB := Lib.hid hbb
        clear hbb
        have db : ¬ (b : Int) < 0 := by omega
        have db0 : (0 : Int) ≤ (b : Int) := by omega
        have db1 : (b : Int) < (es.length : Int) := by omega
        go_wp2
        go_ret3
        exact ⟨by unfold NearPost; exact ⟨_, by rw [hdz]; rfl, by rw [HBB.out]; exact HNM.out⟩, HQ.out, HO.out⟩
end Go.Proofs.YtlnbeildplafbaaGreatDoor
