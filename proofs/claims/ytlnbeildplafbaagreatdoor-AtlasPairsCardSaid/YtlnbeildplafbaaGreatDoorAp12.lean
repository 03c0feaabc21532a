/- Pairs of stars: the law, where all is right. -/
import Derived.Test.YtlnbeildplafbaaGreatDoorAp13
import Derived.Test.YtlnbeildplafbaaGreatDoorPln
import Derived.BigQuiet
set_option linter.unusedSimpArgs false
set_option linter.unusedVariables false
namespace Go.Proofs.YtlnbeildplafbaaGreatDoor
open Go.RowKit Go.Grow Go.Atl Go.Maps

theorem DQ.off {X : Nat → Prop} {w w' : World} {g : Nat} {lev : Int} {r : Option Addr} {cap : Nat} {es : List En} (h : DQ w g lev r cap es) (o : Off X w w') (hg : ¬ X g) (hn : ∀ b, r = some b → ¬ X b.block) : DQ w' g lev r cap es := ⟨h.box.off o hg, h.row.off o hn⟩
theorem wantUp_len (es1 es2 : List En) (num den : Int) : ∀ k, (wantUp es1 es2 num den k).length ≤ k
  | 0 => Nat.le_refl _
  | k + 1 => by
    have := wantUp_len es1 es2 num den k
    rw [wantUp, List.length_append]
    have : (wantOne es1 es2 num den k).toList.length ≤ 1 := by cases wantOne es1 es2 num den k <;> simp
    omega
theorem info_st2 : (Tryz.prog.info? 9).map (fun i => (i.zero, i.size, i.bytes)) = some (some (.string .empty), 1, 16) := by kernel_rfl
/-- What Cross leaves, in whatever case. -/
def CrossPost (w : World) (g1 g2 : Nat) (es1 es2 : List En) (num den : Int) (e' : Ending) (w' : World) : Prop := ∃ v m, e' = .returned (.tuple #[v, .nilIface]) ∧ m.Perm (wantUp es1 es2 num den es1.length) ∧ (∀ i j, i < j → j < m.length → ltOf cfP (m.getD j (.empty, .empty)) (m.getD i (.empty, .empty)) = false) ∧ w'.ownsRow w.heap.size 62 2 v m.length (pL m) ∧ Off (fun k => k = g1 ∨ k = g2) w w'
theorem cross_any (w : World) (g1 g2 : Nat) (lev1 lev2 : Int) (m1 n1 mb n2 : Nat) (r1 r2 : Option Addr) (cap1 cap2 : Nat) (es1 es2 : List En) (num den : Int)
    (hnum : I64 num) (hden : I64 den) (hc : badCone num den = false) (hl1 : es1.length ≤ 200) (hl2 : es2.length ≤ 200)
    (hd1 : ∀ k, k < es1.length → isDir (en es1 k).at' = true) (hd2 : ∀ k, k < es2.length → isDir (en es2 k).at' = true) (hs2 : ∀ k, k < es2.length → (en es2 k).name.size ≤ maxLen)
    (hu : ∀ i j, i < es1.length → j < es1.length → (en es1 i).name = (en es1 j).name → i = j)
    (hq1 : QAt w g1 lev1 m1 n1 r1 cap1 es1 0) (hq2 : QAt w g2 lev2 mb n2 r2 cap2 es2 0) (hm2 : MAt w mb es2) (hg : g1 ≠ g2) (hr1 : ∀ b, r1 = some b → b.block ≠ g2) (hr2 : ∀ b, r2 = some b → b.block ≠ g1) (hmb1 : mb ≠ g1) (hmb2 : mb ≠ g2) :
    Calls Tryz.prog 17 #[.pointer (some ⟨g1, 0, none⟩), .pointer (some ⟨g2, 0, none⟩), .int .i64 num, .int .i64 den] w fun e' w' => CrossPost w g1 g2 es1 es2 num den e' w' := by
  by_cases hp : 0 < es2.length
  · refine (cross_walk w g1 g2 lev1 lev2 m1 n1 mb n2 r1 r2 cap1 cap2 es1 es2 0 0 num den hnum hden hc hl1 hl2 hp hd1 hd2 hs2 (by omega) (by omega) hq1 hq2 hm2 hg hr1 hr2 hmb1 hmb2).mono ?_
    rintro e w' ⟨v, m, rfl, hpm, hso, how, hof⟩
    rw [up_eq hp hd1 hd2 hu _ (Nat.le_refl _)] at hpm
    exact ⟨v, m, rfl, hpm, hso, how, hof⟩
  · refine (cross_none w g1 g2 lev1 lev2 m1 n1 mb n2 r1 r2 cap1 cap2 es1 es2 0 0 num den hc hl1 (by omega) hd1 (by omega) hq1 hq2).mono ?_
    rintro e w' ⟨rfl, hof⟩
    exact ⟨_, [], rfl, by rw [want_none (by omega)], fun i j _ hj => absurd hj (by simp), World.ownsRow_nil _ _ _ _, hof⟩
def L1Inv (w W : World) (es1 es2 : List En) (num den : Int) (v22 v23 : Value) (wr : World) : Prop :=
  ∃ k : Nat, k ≤ es1.length ∧ v23 = .int .i64 (k : Nat) ∧ wr.ownsRow W.heap.size 9 1 v22 ((wantUp es1 es2 num den k).length * 2) (pL (wantUp es1 es2 num den k)) ∧ Below W.heap.size W wr
/-- What is known ahead of the loops. -/
structure Law0 (w W : World) (gb gd : Nat) (L : Int) (es1 es2 : List En) (rb rd : Option Addr) (cb cd : Nat) (v : Value) (m : List Pr) (B : Nat) : Prop where
  d1 : DQ W gb L rb cb es1
  d2 : DQ W gd L rd cd es2
  own : W.ownsRow B 62 2 v m.length (pL m)
  below : Below w.heap.size w W
set_option maxRecDepth 100000 in
set_option maxHeartbeats 32000000 in
theorem pairs_good (a : Nat → Addr) (r1 r2 : Option Addr) (l1 l2 : List En) (cap1 cap2 : Nat) (L : Nat) (num den : Int) (w : World) (hs : Sen a allK w) (hh : Hand w) (hne : ∀ j ∈ allK, ∀ k ∈ allK, j ≠ k → a j ≠ a k)
    (hl1 : l1.length ≤ 9223372036854775807) (hl2 : l2.length ≤ 9223372036854775807) (hr1 : EnsAt w r1 l1) (hr2 : EnsAt w r2 l2) (hn1 : ∀ k, k < l1.length → (en l1 k).name.size ≤ maxLen) (hn2 : ∀ k, k < l2.length → (en l2 k).name.size ≤ maxLen) (h1 : fewB l1 = true) (h2 : fewB l2 = true) (h3 : l1.length ≤ 40) (h4 : l2.length ≤ 40) (hL : L ≤ 12) (hnum : I64 num) (hden : I64 den) (hc : badCone num den = false)
    (hu : ∀ i j, i < (addUp l1 l1.length).length → j < (addUp l1 l1.length).length → (en (addUp l1 l1.length) i).name = (en (addUp l1 l1.length) j).name → i = j) (hs2 : ∀ k, k < (addUp l2 l2.length).length → (en (addUp l2 l2.length) k).name.size ≤ maxLen) :
    Calls Tryz.prog 4 #[.slice r1 l1.length cap1, .slice r2 l2.length cap2, .int .i64 (L : Nat), .int .i64 num, .int .i64 den] w fun e w' => e = .returned (.bool true) ∧ Below w.heap.size w w' := by
  have LW := Lib.hid (fun X => listed_walk X)
  have F1 := Lib.hid (fun X (hX : Below w.heap.size w X) => few_walk r1 l1 cap1 X hl1 (hr1.below hX) hn1)
  have F2 := Lib.hid (fun X (hX : Below w.heap.size w X) => few_walk r2 l2 cap2 X hl2 (hr2.below hX) hn2)
  have NEA := Lib.hid (fun X (hX : Below w.heap.size w X) => entries_walk a r1 l1 cap1 L X (hs.below hX) (hh.below hX) hne (by omega) hL (hr1.below hX) hn1)
  have NEB := Lib.hid (fun X (hX : Below w.heap.size w X) => entries_walk a r2 l2 cap2 L X (hs.below hX) (hh.below hX) hne (by omega) hL (hr2.below hX) hn2)
  have X1 := Lib.hid (fun (e : En) he => addUp_dir l1 l1.length e he)
  have X2 := Lib.hid (fun (e : En) he => addUp_dir l2 l2.length e he)
  have hq1 : (addUp l1 l1.length).length ≤ 40 := Nat.le_trans (addUp_len l1 _) h3
  have hq2 : (addUp l2 l2.length).length ≤ 40 := Nat.le_trans (addUp_len l2 _) h4
  have CE := Lib.hid (fun X => coneR_good ⟨1, 0, 0⟩ num den (by decide) X hc)
  unfold drV at CE
  have hcb : -1048576 ≤ num ∧ num ≤ 1048576 ∧ 1 ≤ den ∧ den ≤ 1048576 := by
    have hb := hc
    unfold badCone at hb
    simp only [Bool.or_eq_false_iff] at hb
    obtain ⟨⟨⟨g1, g2⟩, g3⟩, g4⟩ := hb
    have := of_decide_eq_false g1
    have := of_decide_eq_false g2
    have := of_decide_eq_false g3
    have := of_decide_eq_false g4
    omega
  rw [h1] at F1
  rw [h2] at F2
  have u1 : decide (40 < l1.length) = false := decide_eq_false (by omega)
  have u2 : decide (40 < l2.length) = false := decide_eq_false (by omega)
  have CX := Lib.hid (fun w g1 g2 lev1 lev2 m1 n1 mb n2 r1 r2 cap1 cap2 (q1 : QAt w g1 lev1 m1 n1 r1 cap1 (addUp l1 l1.length) 0) (q2 : QAt w g2 lev2 mb n2 r2 cap2 (addUp l2 l2.length) 0) => cross_any w g1 g2 lev1 lev2 m1 n1 mb n2 r1 r2 cap1 cap2 (addUp l1 l1.length) (addUp l2 l2.length) num den hnum hden hc (by omega) (by omega) (fun k hk => X1.out _ (by rw [en_get hk]; exact List.getElem_mem hk)) (fun k hk => X2.out _ (by rw [en_get hk]; exact List.getElem_mem hk)) hs2 hu q1 q2)
  have D1R := Lib.hid (fun k (hk : k < (addUp l1 l1.length).length) => X1.out (en (addUp l1 l1.length) k) (by rw [en_get hk]; exact List.getElem_mem hk))
  have D2R := Lib.hid (fun k (hk : k < (addUp l2 l2.length).length) => X2.out (en (addUp l2 l2.length) k) (by rw [en_get hk]; exact List.getElem_mem hk))
  have HPW := Lib.hid (want_apart (es1 := addUp l1 l1.length) (es2 := addUp l2 l2.length) (num := num) (den := den) hu _ (Nat.le_refl _))
  clear hr1 hr2 hn1 hn2 hs hh hne hs2 hu X1 X2
  generalize he1 : addUp l1 l1.length = es1 at *
  generalize he2 : addUp l2 l2.length = es2 at *
  have HE1 := Lib.hid he1
  have HE2 := Lib.hid he2
  clear he1 he2
  go_enter Tryz.func4, Tryz.ntmps4
  go_upto_region 14 with (first
    | (go_at_call 14; (with_reducible refine (LW.out _).mono ?_); rintro e1 w1 ⟨rfl, hb⟩; have B1 := Lib.hid hb; clear hb)
    | (go_at_call 15; (with_reducible refine (F1.out _ B1.out).mono ?_); rintro e2 w2 ⟨rfl, hb⟩; have B2 := Lib.hid (grow_trans B1.out hb); clear hb F1)
    | (go_at_call 15; (with_reducible refine (F2.out _ B2.out).mono ?_); rintro e3 w3 ⟨rfl, hb⟩; have B3 := Lib.hid (grow_trans B2.out hb); clear hb F2)
    | (go_at_call 16; (with_reducible refine (NEA.out _ B3.out).mono ?_); rintro e4 w4 ⟨rfl, hbo⟩; obtain ⟨ra, ca, rb, cb, hgot, hb⟩ := both_split hbo; rw [HE1.out] at hgot; have G1 := Lib.hid hgot; have B34 := Lib.hid hb; have B4 := Lib.hid (grow_trans B3.out hb); clear hbo hgot hb NEA)
    | (go_at_call 16; (with_reducible refine (NEB.out _ B4.out).mono ?_); rintro e5 w5 ⟨rfl, hbo⟩; obtain ⟨rc, cc, rd, cd, hgot, hb⟩ := both_split hbo; rw [HE2.out] at hgot; have G2 := Lib.hid hgot; have B45 := Lib.hid hb; have B5 := Lib.hid (grow_trans B4.out hb); clear hbo hgot hb NEB; have q1 := G1.out.le; have CXX := Lib.hid (CX.out w5 (w3.heap.size + 2) (w4.heap.size + 2) (L : Nat) (L : Nat) w3.heap.size (w3.heap.size + 1) w4.heap.size (w4.heap.size + 1) ra rc ca cc (G1.out.q.below B45.out) G2.out.q G2.out.m (by omega) (fun b hb => by have := G1.out.rr b hb; omega) (fun b hb => by have := G2.out.rr b hb; omega) (by omega) (by omega)); clear CX q1)
    | (go_at_call 17; go_loud ((with_reducible refine (CXX.out.mono ?_)); rintro e6 w6 ⟨vp, m, rfl, hpm, hso, how, hof⟩; have PM := Lib.hid hpm; have SO := Lib.hid hso; have OW6 := Lib.hid how; have O6 := Lib.hid hof; clear hpm hso how hof CXX))
    | (go_at_call 18; go_loud ((with_reducible refine (CE.out _).mono ?_); rintro e7 w7 ⟨rfl, hb⟩; have B7 := Lib.hid hb; clear hb CE)))
  have LAW := Lib.hid (show Law0 w w7 (w3.heap.size + 3) (w4.heap.size + 3) (L : Nat) es1 es2 rb rd cb cd vp m w5.heap.size from
    ⟨((G1.out.d.below B45.out).off O6.out (by have := G1.out.le; omega) (fun b hb => by have := G1.out.rd' b hb; omega)).below B7.out, (G2.out.d.off O6.out (by have := G1.out.le; omega) (fun b hb => by have := G2.out.rd' b hb; have := G1.out.le; omega)).below B7.out, owns_belowP OW6.out B7.out,
      grow_trans (Off.below O6.out B5.out (by have := B3.out.size; have := B4.out.size; rintro k (rfl | rfl) <;> omega)) B7.out⟩)
  generalize w3.heap.size + 3 = gb at *
  generalize w4.heap.size + 3 = gd at *
  clear G1 G2 B1 B2 B3 B4 B5 B34 B45 B7 O6 OW6
  clear h1 h2 h3 h4 u1 u2 HE1 HE2 LW
  have D1 := Lib.hid LAW.out.d1
  have D2 := Lib.hid LAW.out.d2
  obtain ⟨i0, hi, hz0, hz1, hz2⟩ := info_parts info_st2
  have HI := Lib.hid hi
  have HZ0 := Lib.hid hz0
  have HZ1 := Lib.hid hz1
  have HZ2 := Lib.hid hz2
  clear hi hz0 hz1 hz2
  have lgb := D1.out.box.lt
  have lgd := D2.out.box.lt
  go_wp2
  go_loopw [22, 23] (fun v22 v23 wr => L1Inv w w7 es1 es2 num den v22 v23 wr) (fun _ i _ => es1.length - (intOf i).toNat)
  case atStart => exact ⟨0, Nat.zero_le _, rfl, World.ownsRow_nil _ _ _ _, Below.refl _ _⟩
  case round =>
    obtain ⟨k, hk, rfl, how, hb⟩ := hrel
    have OW := Lib.hid how
    have HB := Lib.hid hb
    have D1k := Lib.hid (D1.out.below HB.out)
    have D2k := Lib.hid (D2.out.below HB.out)
    clear how hb
    have hwl := wantUp_len es1 es2 num den k
    have g1 := D1k.out.box.cell 1
    have lg1 := D1k.out.box.lt
    simp only [List.getElem?_toArray, List.getElem?_cons_zero, List.getElem?_cons_succ] at g1
    by_cases hlt : k < es1.length
    · obtain ⟨bb, ob, rfl, hc1⟩ := D1k.out.row.resolve_left (by intro h; rw [h] at hlt; exact absurd hlt (by simp))
      have d0 : (0 : Int) ≤ (k : Int) := by omega
      have d1 : (k : Int) < (es1.length : Int) := by omega
      have EK := Lib.hid (hc1 k hlt)
      have hdk := D1R.out k hlt
      have HW := Lib.hid (show wantUp es1 es2 num den (k + 1) = wantUp es1 es2 num den k ++ (wantOne es1 es2 num den k).toList from rfl)
      unfold wantOne at HW
      clear hc1
      by_cases hp : es2.length = 0
      · have hv : nearRV (en es1 k).at' es2 es2.length = -1 := if_pos hp
        have NB := Lib.hid (fun X (hX : Below wr.heap.size wr X) => nearestR_walk X gd (L : Nat) rd cd es2 (en es1 k).at' (dir_sm hdk) (by omega) D2R.out (D2k.out.below hX))
        rw [hv] at NB HW
        have HE := Lib.hid (show wantUp es1 es2 num den (k + 1) = wantUp es1 es2 num den k by rw [HW.out, if_pos (by omega)]; simp)
        clear HW hv hp
        generalize en es1 k = ee at *
        obtain ⟨nm, ⟨x, y, z⟩, lt⟩ := ee
        unfold drV at NB
        unfold EnAt at EK
        simp only at NB EK
        obtain ⟨e0, e1, e2, e3, e4⟩ := EK.out
        have l1 : bb < wr.heap.size := lt_of_cellE e0
        go_wp2_with (go_at_call 19; go_loud ((with_reducible refine (NB.out _ (grow_refl _)).mono ?_); rintro e8 w8 ⟨rfl, hb⟩; have B8 := Lib.hid hb; clear hb))
        go_roundw
        case rel => exact ⟨k + 1, by omega, by go_num, by rw [HE.out]; exact owns_belowP OW.out B8.out, grow_trans HB.out B8.out⟩
        case measure => simp [intOf]; omega
      · have hv : nearRV (en es1 k).at' es2 es2.length = (nearRUp (en es1 k).at' es2 es2.length : Nat) := if_neg hp
        have hn := nearRUp_lt (en es1 k).at' es2 es2.length (by omega)
        obtain ⟨bd, od, rfl, hc2⟩ := D2k.out.row.resolve_left (by intro h; rw [h] at hn; exact absurd hn (by simp))
        have EN := Lib.hid (hc2 _ hn)
        have hdn := D2R.out _ hn
        have hv2 : nearRV (en es2 (nearRUp (en es1 k).at' es2 es2.length)).at' es1 es1.length = (nearRUp (en es2 (nearRUp (en es1 k).at' es2 es2.length)).at' es1 es1.length : Nat) := if_neg (by omega)
        have NB := Lib.hid (fun X (hX : Below wr.heap.size wr X) => nearestR_walk X gd (L : Nat) _ cd es2 (en es1 k).at' (dir_sm hdk) (by omega) D2R.out (D2k.out.below hX))
        have NA := Lib.hid (fun X (hX : Below wr.heap.size wr X) => nearestR_walk X gb (L : Nat) _ cb es1 (en es2 (nearRUp (en es1 k).at' es2 es2.length)).at' (dir_sm hdn) (by omega) D1R.out (D1k.out.below hX))
        have CS := Lib.hid (fun X => cosine_walk (en es1 k).at' (en es2 (nearRUp (en es1 k).at' es2 es2.length)).at' num den (dir_sm hdk) (dir_sm hdn) ⟨hcb.1, hcb.2.1⟩ ⟨by omega, hcb.2.2.2⟩ X)
        rw [hv2] at NA HW
        rw [hv] at NB HW
        clear hc2 hv hv2 hdk hdn
        generalize nearRUp (en es1 k).at' es2 es2.length = n at *
        generalize nearRUp (en es2 n).at' es1 es1.length = b at *
        generalize cosR (en es1 k).at' (en es2 n).at' num den = cz at *
        rw [if_neg (by omega)] at HW
        have dn0 : (0 : Int) ≤ (n : Int) := by omega
        have dn1 : (n : Int) < (es2.length : Int) := by omega
        have dn2 : ¬ (n : Int) < 0 := by omega
        have dn3 : decide ((n : Int) < 0) = false := decide_eq_false dn2
        generalize en es1 k = ee at *
        generalize en es2 n = eo at *
        obtain ⟨nm, ⟨x, y, z⟩, lt⟩ := ee
        obtain ⟨nb, ⟨x2, y2, z2⟩, l2'⟩ := eo
        unfold drV at NB NA CS
        unfold EnAt at EK EN
        simp only at NB NA CS EK EN HW
        have SS := Lib.hid (fun X (hX : Below wr.heap.size wr X) => (show X.cell? ⟨gb, 1, none⟩ = some (.slice (some ⟨bb, ob, none⟩) es1.length cb) ∧ X.cell? ⟨gd, 1, none⟩ = some (.slice (some ⟨bd, od, none⟩) es2.length cd) ∧ X.cell? ⟨bb, ob + k * 5, none⟩ = some (.string nm) ∧ X.cell? ⟨bb, ob + k * 5 + 1, none⟩ = some (.int .i64 x) ∧ X.cell? ⟨bb, ob + k * 5 + 2, none⟩ = some (.int .i64 y) ∧ X.cell? ⟨bb, ob + k * 5 + 3, none⟩ = some (.int .i64 z) ∧ X.cell? ⟨bd, od + n * 5, none⟩ = some (.string nb) ∧ X.cell? ⟨bd, od + n * 5 + 1, none⟩ = some (.int .i64 x2) ∧ X.cell? ⟨bd, od + n * 5 + 2, none⟩ = some (.int .i64 y2) ∧ X.cell? ⟨bd, od + n * 5 + 3, none⟩ = some (.int .i64 z2) ∧ gb < X.heap.size ∧ gd < X.heap.size ∧ bb < X.heap.size ∧ bd < X.heap.size from ⟨(D1k.out.box.below hX).cell 1, (D2k.out.box.below hX).cell 1, (hX.cell (lt_of_cellE EK.out.1)).trans EK.out.1, (hX.cell (lt_of_cellE EK.out.2.1)).trans EK.out.2.1, (hX.cell (lt_of_cellE EK.out.2.2.1)).trans EK.out.2.2.1, (hX.cell (lt_of_cellE EK.out.2.2.2.1)).trans EK.out.2.2.2.1, (hX.cell (lt_of_cellE EN.out.1)).trans EN.out.1, (hX.cell (lt_of_cellE EN.out.2.1)).trans EN.out.2.1, (hX.cell (lt_of_cellE EN.out.2.2.1)).trans EN.out.2.2.1, (hX.cell (lt_of_cellE EN.out.2.2.2.1)).trans EN.out.2.2.2.1, (D1k.out.box.below hX).lt, (D2k.out.box.below hX).lt, Nat.lt_of_lt_of_le (lt_of_cellE EK.out.1) hX.size, Nat.lt_of_lt_of_le (lt_of_cellE EN.out.1) hX.size⟩))
        clear g1 lg1
        obtain ⟨s0, s1, s2, s3, s4, s5, s6, s7, s8, s9, y0, y1, y3, y4⟩ := SS.out wr (grow_refl wr)
        go_upto_region 19 with (go_at_call 19; go_loud ((with_reducible refine (NB.out _ (grow_refl _)).mono ?_); rintro e8 w8 ⟨rfl, hb⟩; have B8 := Lib.hid hb; clear hb s0 s1 s2 s3 s4 s5 s6 s7 s8 s9 y0 y1 y3 y4))
        obtain ⟨s0, s1, s2, s3, s4, s5, s6, s7, s8, s9, y0, y1, y3, y4⟩ := SS.out w8 B8.out
        by_cases hbk : b = k
        · have hkb : k = b := hbk.symm
          subst hkb
          rw [if_neg (by omega)] at HW
          have q1 : ((k : Int) == (k : Int)) = true := by simp
          clear hbk
          go_upto_region 20 with (go_at_call 19; go_loud ((with_reducible refine (NA.out _ B8.out).mono ?_); rintro e9 w9 ⟨rfl, hb⟩; have B9 := Lib.hid (grow_trans B8.out hb); clear hb s0 s1 s2 s3 s4 s5 s6 s7 s8 s9 y0 y1 y3 y4))
          have BN := Lib.hid B9.out
          obtain ⟨s0, s1, s2, s3, s4, s5, s6, s7, s8, s9, y0, y1, y3, y4⟩ := SS.out w9 B9.out
          go_region_held3 (fun X => X.cell? ⟨gb, 1, none⟩ = some (.slice (some ⟨bb, ob, none⟩) es1.length cb) ∧ X.cell? ⟨gd, 1, none⟩ = some (.slice (some ⟨bd, od, none⟩) es2.length cd) ∧ X.cell? ⟨bb, ob + k * 5, none⟩ = some (.string nm) ∧ X.cell? ⟨bb, ob + k * 5 + 1, none⟩ = some (.int .i64 x) ∧ X.cell? ⟨bb, ob + k * 5 + 2, none⟩ = some (.int .i64 y) ∧ X.cell? ⟨bb, ob + k * 5 + 3, none⟩ = some (.int .i64 z) ∧ X.cell? ⟨bd, od + n * 5, none⟩ = some (.string nb) ∧ X.cell? ⟨bd, od + n * 5 + 1, none⟩ = some (.int .i64 x2) ∧ X.cell? ⟨bd, od + n * 5 + 2, none⟩ = some (.int .i64 y2) ∧ X.cell? ⟨bd, od + n * 5 + 3, none⟩ = some (.int .i64 z2) ∧ gb < X.heap.size ∧ gd < X.heap.size ∧ bb < X.heap.size ∧ bd < X.heap.size) (exact SS.out _ (by (repeat (with_reducible first | exact grow_refl _ | exact BN.out | exact BM.out | refine Grow.grow_drewN ?_ _ | refine Grow.grow_drew ?_ | refine Grow.grow_alloc ?_ _))))
            (first
            | (go_at_call 20; (with_reducible refine (CS.out _).mono ?_); rintro e10 w10 ⟨rfl, hb⟩; have BM := Lib.hid (grow_trans (by (repeat (with_reducible first | exact grow_refl _ | exact BN.out | exact BM.out | refine Grow.grow_drewN ?_ _ | refine Grow.grow_drew ?_ | refine Grow.grow_alloc ?_ _))) hb : Below wr.heap.size wr w10); clear hb))
          clear s0 s1 s2 s3 s4 s5 s6 s7 s8 s9 y0 y1 y3 y4 BN
          have BN := Lib.hid BM.out
          obtain ⟨s0, s1, s2, s3, s4, s5, s6, s7, s8, s9, y0, y1, y3, y4⟩ := SS.out w10 BN.out
          cases cz
          · have HE := Lib.hid (show wantUp es1 es2 num den (k + 1) = wantUp es1 es2 num den k by rw [HW.out]; simp)
            go_wp2
            go_roundw
            case rel => exact ⟨k + 1, by omega, by go_num, by rw [HE.out]; exact owns_belowP OW.out BN.out, grow_trans HB.out BN.out⟩
            case measure => simp [intOf]; omega
          · have HE := Lib.hid (show wantUp es1 es2 num den (k + 1) = wantUp es1 es2 num den k ++ [(nm, nb)] by rw [HW.out]; simp)
            obtain ⟨r5, c5, hv5⟩ : ∃ r c, u22 = Value.slice r ((wantUp es1 es2 num den k).length * 2) c := by
              obtain ⟨_, ⟨h, hn0⟩ | ⟨gq, cap, cur, h, _⟩⟩ := OW.out
              · exact ⟨none, 0, by rw [h, hn0]⟩
              · exact ⟨_, _, h⟩
            subst hv5
            have OX := Lib.hid (fun (o : Obj) (X : World) (hX : Below w10.heap.size w10 X) => owns_belowP OW.out (grow_trans BN.out (grow_trans hX (grow_alloc (grow_refl X) o))))
            have C3 := Lib.hid (show (wantUp es1 es2 num den k).length * 2 + 2 ≤ maxLen by unfold maxLen; omega)
            have C4 := Lib.hid (show ((wantUp es1 es2 num den k).length * 2 + 2) * 16 ≤ 140737488355328 by omega)
            go_upto_region 22 with (fail)
            refine Grow.wp_region_plan (.quiet [0, 1, 2, 3, 5, 9, 10, 11, 13] (.two 4 (.quiet [6, 7] (.reads [12] (.quiet [14, 15] (.reads [8, 16] (.tail [17, 18, 19]))))) 12 (.quiet [14, 15] (.reads [4] (.quiet [6, 7] (.reads [8, 16] (.tail [17, 18, 19]))))))) (by kernel_rfl) (by kernel_rfl) (by kernel_rfl) (by kernel_rfl) ?_ ?_
            · intro c aa d v ww h
              first
                | exact Grow.bodyPost_blind h
                | (simp (config := {zetaDelta := true}) only [Exit.then, Exit.inBlock] at h ⊢; first | exact Grow.bodyPost_blind h | exact h)
            simp only [Grow.Plan.wp, Grow.pick, List.getElem?_cons_zero, List.getElem?_cons_succ, List.cons_append, List.nil_append]
            repeat (go_big_quiet_step (fail))
            refine wpQuiet_nil ?_
            unfold oneK
            have BD := Lib.hid (grow_drew BN.out)
            have OD := Lib.hid (fun (o : Obj) => OX.out o w10.drew (grow_drew (grow_refl w10)))
            have CB := Lib.hid (fun (o : Obj) => show w7.heap.size ≤ (w10.drew.alloc o).heap.size from by have := (grow_trans HB.out BN.out).size; simp; omega)
            have NS := Lib.hid (fun (tt : TypeId) => news_sp w10.drew [Value.string nm, Value.string nb] tt)
            clear OX
            refine ⟨?_, ?_⟩
            all_goals
              (go_wp2
               iterate 4
                 (repeat (go_big_quiet_step (fail))
                  refine wpQuiet_nil ?_)
               go_wp2_with (at_builtin; refine wpList_append_own _ rfl _ _ 55 rfl w7.heap.size 9 i0 (.string .empty) 1 16 Tryz.underlying55 HI.out HZ0.out HZ1.out HZ2.out rfl (by decide) _ _ _ rfl (OD.out _) ⟨w10.heap.size, 0, none⟩ 2 2 [.string nm, .string nb] rfl rfl (NS.out _) (pr_cell _ _) C3.out C4.out (CB.out _) ?_; intro v11 w11 hown11 hg11 _)
               have OW11 := Lib.hid hown11
               have B11 := Lib.hid (below_grownS (grow_alloc (grow_drew (grow_trans HB.out BN.out)) _) (by have := (grow_trans HB.out BN.out).size; simp; omega) hg11 (fun j hj => (OW.out.lt j hj).1))
               clear hown11 hg11 OD CB NS OW
               go_roundw
               case rel => exact ⟨k + 1, by omega, by go_num, by rw [HE.out, pL_append, List.length_append, Nat.add_mul]; exact OW11.out, B11.out⟩
               case measure => simp [intOf]; omega)
        · have HE := Lib.hid (show wantUp es1 es2 num den (k + 1) = wantUp es1 es2 num den k by rw [HW.out, if_pos (by omega)]; simp)
          have q1 : ((b : Int) == (k : Int)) = false := by rw [beq_eq_false_iff_ne]; omega
          go_wp2_with (go_at_call 19; go_loud ((with_reducible refine (NA.out _ B8.out).mono ?_); rintro e9 w9 ⟨rfl, hb⟩; have B9 := Lib.hid (grow_trans B8.out hb); clear hb))
          go_roundw
          case rel => exact ⟨k + 1, by omega, by go_num, by rw [HE.out]; exact owns_belowP OW.out B9.out, grow_trans HB.out B9.out⟩
          case measure => simp [intOf]; omega
    · obtain rfl : k = es1.length := by omega
      have hpl := PM.out.length_eq
      have hm40 : m.length ≤ 40 := by omega
      have RI := Lib.hid (perm_rises PM.out HPW.out SO.out)
      have FO := Lib.hid (fun i hi => found_all PM.out i hi)
      have OPW := Lib.hid (owns_belowP LAW.out.own HB.out)
      have HB2 := Lib.hid (grow_trans LAW.out.below HB.out)
      clear D1k D2k PM SO HPW hlt hwl
      generalize wantUp es1 es2 num den es1.length = want at *
      obtain ⟨rp, cp, rfl, hcp⟩ := pr_of_owns (l := m) (fun h => List.length_eq_zero_iff.1 h) OPW.out
      obtain ⟨rw', cw, rfl, hcw⟩ := pr_of_owns (l := want) (fun h => List.length_eq_zero_iff.1 (by omega)) OW.out
      have HCP := Lib.hid hcp
      rw [← hpl] at FO hcw
      have HCW := Lib.hid hcw
      clear hcp hcw OPW OW LAW
      rw [← hpl]
      have HPL := Lib.hid hpl
      clear hpl
      go_upto_region 23 with (fail)
      go_cut [198] (fun v wx => v = .bool false ∧ wx = wr)
      case first =>
        go_wp2
        go_meet
        exact ⟨congrArg Value.bool (by rw [bne_eq_false_iff_eq]; omega), rfl⟩
      obtain ⟨rfl, rfl⟩ := hcut
      clear g1 lg1
      go_wp2
      obtain ⟨w13, rfl⟩ : ∃ x, x = wc := ⟨wc, rfl⟩
      go_loopw [26] (fun v26 wx => ∃ i : Nat, i ≤ m.length ∧ v26 = .int .i64 (i : Nat) ∧ Below w13.heap.size w13 wx) (fun i _ => m.length - (intOf i).toNat)
      case atStart => exact ⟨0, Nat.zero_le _, rfl, Below.refl _ _⟩
      case round =>
        obtain ⟨i, hi, rfl, hb⟩ := hrel
        have BX := Lib.hid hb
        clear hb
        by_cases hlt : i < m.length
        · obtain ⟨bp, rfl, hp⟩ := HCP.out.resolve_left (by intro h; rw [h] at hlt; exact absurd hlt (by simp))
          obtain ⟨bw, rfl, hq⟩ := HCW.out.resolve_left (by intro h; have hpl' := HPL.out; rw [h] at hpl'; have hpl2 : m.length = 0 := hpl'; omega)
          have FI := Lib.hid (FO.out i hlt)
          have hp0 := Lib.hid (fun X (hX : Below w13.heap.size w13 X) => (hX.cell (lt_of_cellE (hp i hlt).1)).trans (hp i hlt).1)
          have hp1 := Lib.hid (fun X (hX : Below w13.heap.size w13 X) => (hX.cell (lt_of_cellE (hp i hlt).2)).trans (hp i hlt).2)
          have hq0 := Lib.hid (fun X (hX : Below w13.heap.size w13 X) k hk => (hX.cell (lt_of_cellE (hq k hk).1)).trans (hq k hk).1)
          have hq1 := Lib.hid (fun X (hX : Below w13.heap.size w13 X) k hk => (hX.cell (lt_of_cellE (hq k hk).2)).trans (hq k hk).2)
          have d0 : (0 : Int) ≤ (i : Int) := by omega
          have d1 : (i : Int) < (m.length : Int) := by omega
          have c0 := hp0.out _ BX.out
          have c1 := hp1.out _ BX.out
          go_upto_region 28 with (fail)
          go_cut [220] (fun v wx => v = .bool false ∧ Below w13.heap.size w13 wx)
          case first =>
            rcases Nat.eq_zero_or_pos i with h0 | h0
            · subst h0
              go_quiet (fail)
              go_wp2
              go_meet
              exact ⟨rfl, Grow.grow_drewN BX.out _⟩
            · obtain ⟨j, rfl⟩ : ∃ j, i = j + 1 := ⟨i - 1, by omega⟩
              obtain ⟨hrl, hre⟩ := Bool.or_eq_false_iff.1 (RI.out (j + 1) (by omega) hlt)
              rw [Nat.add_sub_cancel] at hrl hre
              have e0 := (BX.out.cell (lt_of_cellE (hp j (by omega)).1)).trans (hp j (by omega)).1
              have d3 : (0 : Int) ≤ (j : Int) := by omega
              have d4 : (j : Int) < (m.length : Int) := by omega
              go_quiet (fail)
              go_wp2
              go_meet
              exact ⟨rfl, Grow.grow_drewN BX.out _⟩
          case rest =>
            obtain ⟨rfl, hbx⟩ := hcut
            have BX2 := Lib.hid hbx
            clear hbx BX
            generalize pa m i = q at *
            obtain ⟨qa, qb⟩ := q
            simp only at c0 c1
            clear c0 c1
            go_wp2
            go_loopw [27, 28] (fun v27 v28 wx => ∃ k : Nat, k ≤ m.length ∧ v27 = .bool (foundUp want (qa, qb) k) ∧ v28 = .int .i64 ((k * 2 : Nat) : Int) ∧ Below w13.heap.size w13 wx) (fun _ i _ => 2 * m.length - (intOf i).toNat)
            case atStart => exact ⟨0, Nat.zero_le _, rfl, rfl, BX2.out⟩
            case round =>
              obtain ⟨k, hk, rfl, rfl, hb⟩ := hrel
              have BK := Lib.hid hb
              clear hb
              by_cases hkl : k < m.length
              · have d5 : (0 : Int) ≤ ((k * 2 : Nat) : Int) := by omega
                have d6 : ((k * 2 : Nat) : Int) < ((m.length * 2 : Nat) : Int) := by omega
                have d7 : (0 : Int) ≤ ((k * 2 + 1 : Nat) : Int) := by omega
                have d8 : ((k * 2 + 1 : Nat) : Int) < ((m.length * 2 : Nat) : Int) := by omega
                have HF := Lib.hid (show foundUp want (qa, qb) (k + 1) = (foundUp want (qa, qb) k || ((pa want k).1.toList == qa.toList && (pa want k).2.toList == qb.toList)) from rfl)
                have c0 := hp0.out _ BK.out
                have c1 := hp1.out _ BK.out
                have c2 := hq0.out _ BK.out k hkl
                have c3 := hq1.out _ BK.out k hkl
                generalize pa want k = q2 at *
                obtain ⟨xa, xb⟩ := q2
                simp only at c2 c3 HF c0 c1
                generalize foundUp want (qa, qb) k = f at *
                cases f
                · cases q1 : (xa.toList == qa.toList)
                  · have HV := Lib.hid (show foundUp want (qa, qb) (k + 1) = false by rw [HF.out, q1]; rfl)
                    go_wp2
                    go_quiet (fail)
                    go_wp2
                    go_roundw
                    case rel => exact ⟨k + 1, by omega, by rw [HV.out], by go_num, Grow.grow_drewN BK.out _⟩
                    case measure => simp [intOf]; omega
                  · cases q2 : (xb.toList == qb.toList)
                    · have HV := Lib.hid (show foundUp want (qa, qb) (k + 1) = false by rw [HF.out, q1, q2]; rfl)
                      go_wp2
                      go_quiet (fail)
                      go_wp2
                      go_roundw
                      case rel => exact ⟨k + 1, by omega, by rw [HV.out], by go_num, Grow.grow_drewN BK.out _⟩
                      case measure => simp [intOf]; omega
                    · have HV := Lib.hid (show foundUp want (qa, qb) (k + 1) = true by rw [HF.out, q1, q2]; rfl)
                      go_wp2
                      go_quiet (fail)
                      go_wp2
                      go_roundw
                      case rel => exact ⟨k + 1, by omega, by rw [HV.out], by go_num, Grow.grow_drewN BK.out _⟩
                      case measure => simp [intOf]; omega
                · have HV := Lib.hid (show foundUp want (qa, qb) (k + 1) = true by rw [HF.out]; rfl)
                  go_wp2
                  go_quiet (fail)
                  go_wp2
                  go_roundw
                  case rel => exact ⟨k + 1, by omega, by rw [HV.out], by go_num, Grow.grow_drewN BK.out _⟩
                  case measure => simp [intOf]; omega
              · obtain rfl : k = m.length := by omega
                rw [FI.out]
                go_wp2
                go_roundw
                case rel => exact ⟨i + 1, by omega, by go_num, BK.out⟩
                case measure => simp [intOf]; omega
        · obtain rfl : i = m.length := by omega
          go_wp2
          go_ret
          exact ⟨rfl, grow_trans HB2.out BX.out⟩
end Go.Proofs.YtlnbeildplafbaaGreatDoor
