/- EventSpans: the law's walk where lists are right. -/
import Derived.Test.YtlfpfeidaohjmaaDoorEs22
import Derived.Test.YtlfpfeidaohjmaaDoorLate
set_option linter.unusedSimpArgs false
set_option linter.unusedVariables false
namespace Go.Proofs.YtlfpfeidaohjmaaDoor
open Go.RowKit Go.Grow

def JP (J : List (Int × Int)) (w : World) (e : Ending) (w' : World) : Prop := ∃ r c, e = .returned (.tuple #[.slice r J.length c, .nilIface]) ∧ SpAt w' r J ∧ Below w.heap.size w w'
def AtL (l : List (Int × Int)) (W : World) (v20 v21 v22 : Value) (wr : World) : Prop :=
  ∃ (k : Nat) (zs : List Int), k ≤ l.length ∧ v20 = .int .i64 (lenUp l k) ∧ v22 = .int .i64 k ∧ wr.ownsRow W.heap.size 3 1 v21 zs.length (ivL zs) ∧ zs.length ≤ 4 * k ∧ Below W.heap.size W wr
def BtL (n : Nat) (l : List (Int × Int)) (W : World) (v21 v23 : Value) (wr : World) : Prop :=
  ∃ (k : Nat) (zs : List Int), k ≤ l.length ∧ v23 = .int .i64 k ∧ wr.ownsRow W.heap.size 3 1 v21 zs.length (ivL zs) ∧ zs.length ≤ n + 4 * k ∧ Below W.heap.size W wr
theorem ivL_append (a b : List Int) : ivL (a ++ b) = ivL a ++ ivL b := by simp [ivL]
theorem news_iv (w : World) (c : List Int) (t : TypeId) : ∀ j u, (ivL c)[j]? = some u → (w.alloc (.cells (ivL c).toArray t)).cell? ((⟨w.heap.size, 0, none⟩ : Addr).add j) = some u := news_sp w (ivL c) t
theorem iv_cell (c : List Int) : ∀ u ∈ ivL c, u.oneCell' = true := fun u h => by
  unfold ivL at h
  obtain ⟨x, _, rfl⟩ := List.mem_map.1 h
  rfl
set_option maxRecDepth 100000 in
set_option maxHeartbeats 16000000 in
theorem law_good (a : Nat → Addr) (r1 r2 : Option Addr) (l1 l2 : List (Int × Int)) (c1 c2 : Nat) (w : World) (hs : Sen a allK w) (hh : Hand w) (hne : ∀ j ∈ allK, ∀ k ∈ allK, j ≠ k → a j ≠ a k) (h1 : SpAt w r1 l1) (h2 : SpAt w r2 l2) (hl1 : l1.length * 16 ≤ 140737488355328) (hl2 : l2.length * 16 ≤ 140737488355328) (q1 : l1.length ≤ 60) (q2 : l2.length ≤ 60) (hE : spE l1 l2 = 0) :
    Calls Tryd.prog 10 #[.slice r1 l1.length c1, .slice r2 l2.length c2] w fun e w' => e = .returned (.bool true) ∧ Below w.heap.size w w' := by
  have dg1 : decide ((60 : Int) < (l1.length : Int)) = false := decide_eq_false (by omega)
  have dl1 : decide ((l1.length : Int) ≤ 4000) = true := decide_eq_true (by omega)
  have ng1 : decide (60 < l1.length) = false := decide_eq_false (by omega)
  have nl1 : decide (l1.length ≤ 4000) = true := decide_eq_true (by omega)
  have dg2 : decide ((60 : Int) < (l2.length : Int)) = false := decide_eq_false (by omega)
  have dl2 : decide ((l2.length : Int) ≤ 4000) = true := decide_eq_true (by omega)
  have ng2 : decide (60 < l2.length) = false := decide_eq_false (by omega)
  have nl2 : decide (l2.length ≤ 4000) = true := decide_eq_true (by omega)
  have F2 : Hid (fineB l2 = true) := Lib.hid (lsE_two (r1 := r1) (r2 := r2) (c1 := c1) (c2 := c2) (by rw [lsE_eq, hE])).2.2.2
  have hs2 : Sen a [2, 5] w := hs.sub (by decide)
  have EC := Lib.hid (fun (X : World) (hX : Below w.heap.size w X) => show Calls Tryd.prog 47 #[.slice (some ⟨X.heap.size, 0, none⟩) 1 1, .slice (some ⟨X.heap.size + 1, 0, none⟩) 1 1] ((X.alloc (.cells #[.int .i64 0, .int .i64 2] 96)).alloc (.cells #[.int .i64 2, .int .i64 3] 96)) (OnePost w) from const_walk a X w hX hs2)
  have HS1 := Lib.hid (fun X (hX : Below w.heap.size w X) => spans_walk r1 l1 c1 X hl1 (h1.below hX))
  have HS2 := Lib.hid (fun X (hX : Below w.heap.size w X) => spans_walk r2 l2 c2 X hl2 (h2.below hX))
  have h2' : l1.length ≤ 4000 ∧ l2.length ≤ 4000 ∧ fineB l1 = true ∧ fineB l2 = true := lsE_two (r1 := r1) (r2 := r2) (c1 := c1) (c2 := c2) (by rw [lsE_eq, hE])
  have hE2 : spE l1 [] = 0 := by
    unfold spE
    have e : fineB [] = true := rfl
    rw [if_neg (by simp; omega), e, h2'.2.2.1]; rfl
  have jfX := join_facts (fun x y => x && y) rfl l1 l2
  obtain ⟨JX, hJX⟩ : ∃ J, joinL (fun x y => x && y) l1 l2 = J := ⟨_, rfl⟩
  rw [hJX] at jfX
  have RX := Lib.hid (fun (X : World) r c (s : SpAt X r JX) => right_walk r JX c X (by omega) s jfX.1)
  have QX := Lib.hid (fun (X : World) r c (s : SpAt X r JX) => spansOf_walk r JX c X (by omega) s)
  have IX := Lib.hid (show ∀ z, inSp JX z = (inSp l1 z && inSp l2 z) from jfX.2.1)
  have NX := Lib.hid jfX.2.2
  have jfY := join_facts (fun x y => x || y) rfl l1 l2
  obtain ⟨JY, hJY⟩ : ∃ J, joinL (fun x y => x || y) l1 l2 = J := ⟨_, rfl⟩
  rw [hJY] at jfY
  have RY := Lib.hid (fun (X : World) r c (s : SpAt X r JY) => right_walk r JY c X (by omega) s jfY.1)
  have QY := Lib.hid (fun (X : World) r c (s : SpAt X r JY) => spansOf_walk r JY c X (by omega) s)
  have IY := Lib.hid (show ∀ z, inSp JY z = (inSp l1 z || inSp l2 z) from jfY.2.1)
  have NY := Lib.hid jfY.2.2
  have jfZ := join_facts (fun x y => x && !y) rfl l1 l2
  obtain ⟨JZ, hJZ⟩ : ∃ J, joinL (fun x y => x && !y) l1 l2 = J := ⟨_, rfl⟩
  rw [hJZ] at jfZ
  have RZ := Lib.hid (fun (X : World) r c (s : SpAt X r JZ) => right_walk r JZ c X (by omega) s jfZ.1)
  have QZ := Lib.hid (fun (X : World) r c (s : SpAt X r JZ) => spansOf_walk r JZ c X (by omega) s)
  have IZ := Lib.hid (show ∀ z, inSp JZ z = (inSp l1 z && !inSp l2 z) from jfZ.2.1)
  have NZ := Lib.hid jfZ.2.2
  have BO := Lib.hid (fun (X : World) r1' r2' c1' c2' (hX : Below w.heap.size w X) (s1 : SpAt X r1' l1) (s2 : SpAt X r2' l2) => show Calls Tryd.prog 48 #[.slice r1' l1.length c1', .slice r2' l2.length c2'] X (JP JX X) from by
    rw [← hJX]; exact both_yes a r1' r2' l1 l2 c1' c2' X (hs2.below hX) s1 s2 (by rw [lsE_eq, hE]))
  have EO := Lib.hid (fun (X : World) r1' r2' c1' c2' (hX : Below w.heap.size w X) (s1 : SpAt X r1' l1) (s2 : SpAt X r2' l2) => show Calls Tryd.prog 47 #[.slice r1' l1.length c1', .slice r2' l2.length c2'] X (JP JY X) from by
    rw [← hJY]; exact either_yes a r1' r2' l1 l2 c1' c2' X (hs2.below hX) s1 s2 (by rw [lsE_eq, hE]))
  have UO := Lib.hid (fun (X : World) r1' r2' c1' c2' (hX : Below w.heap.size w X) (s1 : SpAt X r1' l1) (s2 : SpAt X r2' l2) => show Calls Tryd.prog 50 #[.slice r1' l1.length c1', .slice r2' l2.length c2'] X (JP JZ X) from by
    rw [← hJZ]; exact but_yes a r1' r2' l1 l2 c1' c2' X (hs2.below hX) s1 s2 (by rw [lsE_eq, hE]))
  have LO := Lib.hid (fun (X : World) r c (hX : Below w.heap.size w X) (s1 : SpAt X r l1) => long_yes a r l1 c X (hs2.below hX) (by omega) s1 h2'.2.2.1)
  have SE1 := Lib.hid (fun (X : World) (hX : Below w.heap.size w X) => show Calls Tryd.prog 52 #[.slice r1 l1.length c1, .slice r2 l2.length c2] X fun e w' => e = .returned (.int .i64 0) ∧ Below X.heap.size X w' from by
    have h := spansError_walk r1 r2 l1 l2 c1 c2 X (by omega) (by omega) (h1.below hX) (h2.below hX)
    rw [hE] at h
    exact h)
  have SE2 := Lib.hid (fun (X : World) (hX : Below w.heap.size w X) => show Calls Tryd.prog 52 #[.slice r1 l1.length c1, .slice none 0 0] X fun e w' => e = .returned (.int .i64 0) ∧ Below X.heap.size X w' from by
    have h := spansError_walk r1 none l1 [] c1 0 X (by omega) (by simp) (h1.below hX) (.inl rfl)
    rw [hE2] at h
    exact h)
  have C1 := Lib.hid (fun (X : World) (hX : Below w.heap.size w X) => show Calls Tryd.prog 33 #[.nilIface, .int .i64 0] X fun e w' => e = .returned (.bool true) ∧ Below X.heap.size X w' from by
    have h := coded_same a 0 (by omega) X (hs.below hX) (hh.below hX) hne
    rw [errV_zero] at h
    exact h)
  have F1 := Lib.hid h2'.2.2.1
  have SL1 := Lib.hid h1
  have SL2 := Lib.hid h2
  obtain ⟨i0, hi, hz0, hz1, hz2⟩ := info_parts info_in
  have HI := Lib.hid hi
  have HZ0 := Lib.hid hz0
  have HZ1 := Lib.hid hz1
  have HZ2 := Lib.hid hz2
  have g : Hid (Below w.heap.size w w) := Lib.hid (grow_refl w)
  clear hi hz0 hz1 hz2 hs hh hne hs2 h1 h2 hE hE2 h2' hl1 hl2 jfX jfY jfZ
  have s0 := trivial
  go_enter Tryd.func10, Tryd.ntmps10
  go_wp2_with (first
    | (clear s0; go_at_call 47; (with_reducible refine (EC.out _ g.out).mono ?_); rintro e w1 ⟨rc, cc, rfl, hc, hb⟩; obtain ⟨bc, oc, rfl, hcc⟩ := hc.resolve_left (by simp); have hd3 := (hcc 0 (by decide)).2; replace g := Lib.hid hb; clear hb hc hcc; have s1 := trivial)
    | (clear s1; go_at_call 49; (with_reducible refine (HS1.out _ g.out).mono ?_); rintro e w1 ⟨ra, ca, rfl, hsp, hb⟩; have SA := Lib.hid hsp; replace g := Lib.hid (grow_trans g.out hb); clear hb hsp hd3; have s2 := trivial)
    | (clear s2; go_at_call 49; (with_reducible refine (HS2.out _ g.out).mono ?_); rintro e w2 ⟨rb, cb, rfl, hsp, hb⟩; have SB := Lib.hid hsp; replace SA := Lib.hid (SA.out.below hb); replace g := Lib.hid (grow_trans g.out hb); clear hb hsp; have s3 := trivial)
    | (clear s3; go_at_call 48; (with_reducible refine (BO.out _ _ _ _ _ g.out SA.out SB.out).mono ?_); rintro e w3 ⟨rx, cx, rfl, hj, hb⟩; have HX := Lib.hid hj; replace g := Lib.hid (grow_trans g.out hb); clear hb hj SA SB; have s4 := trivial)
    | (clear s4; go_at_call 49; (with_reducible refine (HS1.out _ g.out).mono ?_); rintro e w4 ⟨ra, ca, rfl, hsp, hb⟩; have SA := Lib.hid hsp; replace HX := Lib.hid (HX.out.below hb); replace g := Lib.hid (grow_trans g.out hb); clear hb hsp; have s5 := trivial)
    | (clear s5; go_at_call 49; (with_reducible refine (HS2.out _ g.out).mono ?_); rintro e w5 ⟨rb, cb, rfl, hsp, hb⟩; have SB := Lib.hid hsp; replace HX := Lib.hid (HX.out.below hb); replace SA := Lib.hid (SA.out.below hb); replace g := Lib.hid (grow_trans g.out hb); clear hb hsp; have s6 := trivial)
    | (clear s6; go_at_call 47; (with_reducible refine (EO.out _ _ _ _ _ g.out SA.out SB.out).mono ?_); rintro e w6 ⟨ry, cy, rfl, hj, hb⟩; have HY := Lib.hid hj; replace HX := Lib.hid (HX.out.below hb); replace g := Lib.hid (grow_trans g.out hb); clear hb hj SA SB; have s7 := trivial)
    | (clear s7; go_at_call 49; (with_reducible refine (HS1.out _ g.out).mono ?_); rintro e w7 ⟨ra, ca, rfl, hsp, hb⟩; have SA := Lib.hid hsp; replace HX := Lib.hid (HX.out.below hb); replace HY := Lib.hid (HY.out.below hb); replace g := Lib.hid (grow_trans g.out hb); clear hb hsp; have s8 := trivial)
    | (clear s8; go_at_call 49; (with_reducible refine (HS2.out _ g.out).mono ?_); rintro e w8 ⟨rb, cb, rfl, hsp, hb⟩; have SB := Lib.hid hsp; replace HX := Lib.hid (HX.out.below hb); replace HY := Lib.hid (HY.out.below hb); replace SA := Lib.hid (SA.out.below hb); replace g := Lib.hid (grow_trans g.out hb); clear hb hsp; have s9 := trivial)
    | (clear s9; go_at_call 50; (with_reducible refine (UO.out _ _ _ _ _ g.out SA.out SB.out).mono ?_); rintro e w9 ⟨rz, cz, rfl, hj, hb⟩; have HZ := Lib.hid hj; replace HX := Lib.hid (HX.out.below hb); replace HY := Lib.hid (HY.out.below hb); replace g := Lib.hid (grow_trans g.out hb); clear hb hj SA SB; have s10 := trivial)
    | (clear s10; go_at_call 49; (with_reducible refine (HS1.out _ g.out).mono ?_); rintro e w10 ⟨ra, ca, rfl, hsp, hb⟩; have SA := Lib.hid hsp; replace HX := Lib.hid (HX.out.below hb); replace HY := Lib.hid (HY.out.below hb); replace HZ := Lib.hid (HZ.out.below hb); replace g := Lib.hid (grow_trans g.out hb); clear hb hsp; have s11 := trivial)
    | (clear s11; go_at_call 51; (with_reducible refine (LO.out _ _ _ g.out SA.out).mono ?_); rintro e w11 ⟨rfl, hb⟩; replace HX := Lib.hid (HX.out.below hb); replace HY := Lib.hid (HY.out.below hb); replace HZ := Lib.hid (HZ.out.below hb); replace g := Lib.hid (grow_trans g.out hb); clear hb SA; have s12 := trivial)
    | (clear s12; go_at_call 52; (with_reducible refine (SE1.out _ g.out).mono ?_); rintro e w12 ⟨rfl, hb⟩; replace HX := Lib.hid (HX.out.below hb); replace HY := Lib.hid (HY.out.below hb); replace HZ := Lib.hid (HZ.out.below hb); replace g := Lib.hid (grow_trans g.out hb); clear hb; have s13 := trivial)
    | (clear s13; go_at_call 52; (with_reducible refine (SE2.out _ g.out).mono ?_); rintro e w13 ⟨rfl, hb⟩; replace HX := Lib.hid (HX.out.below hb); replace HY := Lib.hid (HY.out.below hb); replace HZ := Lib.hid (HZ.out.below hb); replace g := Lib.hid (grow_trans g.out hb); clear hb; have s14 := trivial)
    | (clear s14; go_at_call 33; (with_reducible refine (C1.out _ g.out).mono ?_); rintro e w14 ⟨rfl, hb⟩; replace HX := Lib.hid (HX.out.below hb); replace HY := Lib.hid (HY.out.below hb); replace HZ := Lib.hid (HZ.out.below hb); replace g := Lib.hid (grow_trans g.out hb); clear hb; have s15 := trivial)
    | (clear s15; go_at_call 33; (with_reducible refine (C1.out _ g.out).mono ?_); rintro e w15 ⟨rfl, hb⟩; replace HX := Lib.hid (HX.out.below hb); replace HY := Lib.hid (HY.out.below hb); replace HZ := Lib.hid (HZ.out.below hb); replace g := Lib.hid (grow_trans g.out hb); clear hb; have s16 := trivial)
    | (clear s16; go_at_call 33; (with_reducible refine (C1.out _ g.out).mono ?_); rintro e w16 ⟨rfl, hb⟩; replace HX := Lib.hid (HX.out.below hb); replace HY := Lib.hid (HY.out.below hb); replace HZ := Lib.hid (HZ.out.below hb); replace g := Lib.hid (grow_trans g.out hb); clear hb; have s17 := trivial)
    | (clear s17; go_at_call 33; (with_reducible refine (C1.out _ g.out).mono ?_); rintro e w17 ⟨rfl, hb⟩; replace HX := Lib.hid (HX.out.below hb); replace HY := Lib.hid (HY.out.below hb); replace HZ := Lib.hid (HZ.out.below hb); replace g := Lib.hid (grow_trans g.out hb); clear hb; have s18 := trivial)
    | (clear s18; go_at_call 53; (with_reducible refine (RX.out _ _ _ HX.out).mono ?_); rintro e w18 ⟨rfl, hb⟩; replace HX := Lib.hid (HX.out.below hb); replace HY := Lib.hid (HY.out.below hb); replace HZ := Lib.hid (HZ.out.below hb); replace g := Lib.hid (grow_trans g.out hb); clear hb; have s19 := trivial)
    | (clear s19; go_at_call 53; (with_reducible refine (RY.out _ _ _ HY.out).mono ?_); rintro e w19 ⟨rfl, hb⟩; replace HX := Lib.hid (HX.out.below hb); replace HY := Lib.hid (HY.out.below hb); replace HZ := Lib.hid (HZ.out.below hb); replace g := Lib.hid (grow_trans g.out hb); clear hb; have s20 := trivial)
    | (clear s20; go_at_call 53; (with_reducible refine (RZ.out _ _ _ HZ.out).mono ?_); rintro e w20 ⟨rfl, hb⟩; replace HX := Lib.hid (HX.out.below hb); replace HY := Lib.hid (HY.out.below hb); replace HZ := Lib.hid (HZ.out.below hb); replace g := Lib.hid (grow_trans g.out hb); clear hb; have s21 := trivial))
  clear BO EO UO LO SE1 SE2 C1 RX RY RZ HS1 HS2 EC dg1 dg2 dl1 dl2 ng1 ng2 nl1 nl2
  obtain ⟨W, hW⟩ : ∃ W, w20 = W := ⟨_, rfl⟩
  rw [hW] at g HX HY HZ ⊢
  clear hW
  have SL := Lib.hid (SL1.out.below g.out)
  have FF := F1
  go_loopw [20, 21, 22] (fun v20 v21 v22 wr => AtL l1 W v20 v21 v22 wr) (fun _ _ i _ => l1.length - (intOf i).toNat)
  case atStart => exact ⟨0, [], Nat.zero_le _, rfl, rfl, World.ownsRow_nil _ _ _ _, by simp, Below.refl _ _⟩
  case round =>
    obtain ⟨k, zs, hk, rfl, rfl, hown, hzl, hg⟩ := hrel
    have O := Lib.hid hown
    have G := Lib.hid hg
    clear hown hg
    by_cases hlt : k < l1.length
    · obtain ⟨b1, o1, rfl, hc⟩ := SL.out.resolve_left (by intro h; rw [h] at hlt; exact absurd hlt (by simp))
      obtain ⟨f0, f1⟩ := hc k hlt
      obtain ⟨a1, a2, a3, _⟩ := fine_at FF.out k hlt
      have HS := Lib.hid (show lenUp l1 (k + 1) = lenUp l1 k + (l1[k].2 - l1[k].1) by rw [lenUp]; simp [hlt])
      obtain ⟨t1, t2, _⟩ := lenUp_le FF.out k (by omega)
      have hb1 : b1 < W.heap.size := lt_of_cellS f0
      have hi0 : (0 : Int) ≤ (k : Int) := by omega
      have hi1 : (k : Int) < (l1.length : Int) := by omega
      clear hc
      generalize l1[k] = x at f0 f1 a1 a2 a3 HS
      obtain ⟨xa, xb⟩ := x
      simp only at f0 f1 a1 a2 a3
      have E0 := Lib.hid f0
      have E1 := Lib.hid f1
      clear f0 f1
      have d0 := (G.out.cell (p := ⟨b1, _, none⟩) hb1).trans E0.out
      have d1 := (G.out.cell (p := ⟨b1, _, none⟩) hb1).trans E1.out
      have HS2 := Lib.hid (show lenUp l1 k + xb - xa = lenUp l1 (k + 1) by rw [HS.out]; omega)
      clear HS
      generalize lenUp l1 k = s at t1 t2 HS2 ⊢
      have hb1r : b1 < wr.heap.size := Nat.lt_of_lt_of_le hb1 G.out.size
      have C3 := Lib.hid (show zs.length + 4 ≤ maxLen by unfold maxLen; omega)
      have C4 := Lib.hid (show (zs.length + 4) * 8 ≤ 140737488355328 by omega)
      go_wp2
      go_quiet (fail)
      go_wp2
      have O3 := Lib.hid (ownsRow_belowS O.out (grow_drewN (grow_refl wr) nq))
      have G3 := Lib.hid (grow_trans G.out (grow_drewN (grow_refl wr) nq))
      clear O G d0 d1
      generalize wr.drewN nq = wx at O3 G3 ⊢
      have hb1x : b1 < wx.heap.size := Nat.lt_of_lt_of_le hb1 G3.out.size
      have d0 := (G3.out.cell (p := ⟨b1, _, none⟩) hb1).trans E0.out
      have d1 := (G3.out.cell (p := ⟨b1, _, none⟩) hb1).trans E1.out
      refine Rel.wp_region_rel_late (fun _ _ _ => False) 23 0 23 (by kernel_rfl) (by kernel_rfl) (lexTailB_of_fast (by kernel_rfl) (by kernel_rfl) (by kernel_rfl)) (by decide) (fun _ _ _ _ _ h => h) ?_
      simp only [List.append_eq, List.cons_append, List.nil_append, List.take_succ_cons, List.take_zero, List.drop_succ_cons, List.drop_zero]
      repeat (first
        | (refine Fl.rel_plain (by rfl) rfl ?_; intro K hK; go_big_quiet_op; go_big_quiet_on)
        | (refine Fl.rel_skip (by rfl) ?_; simp only [Act.put, List.setIfInBounds_toArray, List.set_cons_zero, List.set_cons_succ]))
      refine Rel.wpRel_nil ?_
      intro w4 hB9 hG9
      clear hG9
      have OX := Lib.hid (ownsRow_belowS O3.out hB9)
      have GX := Lib.hid (grow_trans G3.out hB9)
      clear O3 G3 d0 d1 hB9
      have hz4 := GX.out.size
      have C5 := Lib.hid (show W.heap.size ≤ (w4.alloc (.cells (ivL [xa - 1, xa, xb - 1, xb]).toArray 3)).heap.size by simp; omega)
      go_wp2_with (at_builtin; refine wpList_append_own _ rfl _ _ 82 rfl W.heap.size 3 i0 (.int .i64 0) 1 8 Tryd.underlying82 HI.out HZ0.out HZ1.out HZ2.out rfl (by decide) _ _ _ rfl (OX.out.alloc _) ⟨w4.heap.size, 0, none⟩ 4 4 (ivL [xa - 1, xa, xb - 1, xb]) rfl rfl (news_iv w4 [xa - 1, xa, xb - 1, xb] 3) (iv_cell _) C3.out C4.out C5.out ?_)
      intro v' w1' hown' hg' _
      have HO2 := Lib.hid hown'
      have HG2 := Lib.hid hg'
      clear hown' hg'
      go_wp2
      go_roundw
      case rel =>
        refine ⟨k + 1, zs ++ [xa - 1, xa, xb - 1, xb], by omega, by rw [← HS2.out], by go_num, ?_, by simp; omega, below_grownS (GX.out.alloc hz4 _) (by simp; omega) HG2.out (fun k hk => (OX.out.lt k hk).1)⟩
        rw [ivL_append, List.length_append]
        exact HO2.out
      case measure => simp [intOf]; omega
    · obtain rfl : k = l1.length := by omega
      obtain ⟨N, hN⟩ : ∃ N, lenUp l1 l1.length = N := ⟨_, rfl⟩
      rw [hN] at ⊢
      clear hN SL FF
      have SL := Lib.hid (SL2.out.below g.out)
      have FF := F2
      go_wp2
      go_loopw [21, 23] (fun v21 v23 wr => BtL (4 * l1.length) l2 W v21 v23 wr) (fun _ i _ => l2.length - (intOf i).toNat)
      case atStart => exact ⟨0, zs, Nat.zero_le _, rfl, O.out, by omega, G.out⟩
      case round =>
        clear O G
        obtain ⟨k, zs, hk, rfl, hown, hzl, hg⟩ := hrel
        have O := Lib.hid hown
        have G := Lib.hid hg
        clear hown hg
        by_cases hlt : k < l2.length
        · obtain ⟨b1, o1, rfl, hc⟩ := SL.out.resolve_left (by intro h; rw [h] at hlt; exact absurd hlt (by simp))
          obtain ⟨f0, f1⟩ := hc k hlt
          obtain ⟨a1, a2, a3, _⟩ := fine_at FF.out k hlt
          have HS := Lib.hid (show lenUp l2 (k + 1) = lenUp l2 k + (l2[k].2 - l2[k].1) by rw [lenUp]; simp [hlt])
          obtain ⟨t1, t2, _⟩ := lenUp_le FF.out k (by omega)
          have hb1 : b1 < W.heap.size := lt_of_cellS f0
          have hi0 : (0 : Int) ≤ (k : Int) := by omega
          have hi1 : (k : Int) < (l2.length : Int) := by omega
          clear hc
          generalize l2[k] = x at f0 f1 a1 a2 a3 HS
          obtain ⟨xa, xb⟩ := x
          simp only at f0 f1 a1 a2 a3
          have E0 := Lib.hid f0
          have E1 := Lib.hid f1
          clear f0 f1
          clear HS t1 t2
          have O3 := O
          have G3 := G
          clear O G
          obtain ⟨wx, hwx⟩ : ∃ wx, wr = wx := ⟨_, rfl⟩
          subst hwx
          have C3 := Lib.hid (show zs.length + 4 ≤ maxLen by unfold maxLen; omega)
          have C4 := Lib.hid (show (zs.length + 4) * 8 ≤ 140737488355328 by omega)
          have hb1x : b1 < wr.heap.size := Nat.lt_of_lt_of_le hb1 G3.out.size
          have d0 := (G3.out.cell (p := ⟨b1, _, none⟩) hb1).trans E0.out
          have d1 := (G3.out.cell (p := ⟨b1, _, none⟩) hb1).trans E1.out
          go_wp2
          refine Rel.wp_region_rel_late (fun _ _ _ => False) 23 0 23 (by kernel_rfl) (by kernel_rfl) (lexTailB_of_fast (by kernel_rfl) (by kernel_rfl) (by kernel_rfl)) (by decide) (fun _ _ _ _ _ h => h) ?_
          simp only [List.append_eq, List.cons_append, List.nil_append, List.take_succ_cons, List.take_zero, List.drop_succ_cons, List.drop_zero]
          repeat (first
            | (refine Fl.rel_plain (by rfl) rfl ?_; intro K hK; go_big_quiet_op; go_big_quiet_on)
            | (refine Fl.rel_skip (by rfl) ?_; simp only [Act.put, List.setIfInBounds_toArray, List.set_cons_zero, List.set_cons_succ]))
          refine Rel.wpRel_nil ?_
          intro w4 hB9 hG9
          clear hG9
          have OX := Lib.hid (ownsRow_belowS O3.out hB9)
          have GX := Lib.hid (grow_trans G3.out hB9)
          clear O3 G3 d0 d1 hB9
          have hz4 := GX.out.size
          have C5 := Lib.hid (show W.heap.size ≤ (w4.alloc (.cells (ivL [xa - 1, xa, xb - 1, xb]).toArray 3)).heap.size by simp; omega)
          go_wp2_with (at_builtin; refine wpList_append_own _ rfl _ _ 82 rfl W.heap.size 3 i0 (.int .i64 0) 1 8 Tryd.underlying82 HI.out HZ0.out HZ1.out HZ2.out rfl (by decide) _ _ _ rfl (OX.out.alloc _) ⟨w4.heap.size, 0, none⟩ 4 4 (ivL [xa - 1, xa, xb - 1, xb]) rfl rfl (news_iv w4 [xa - 1, xa, xb - 1, xb] 3) (iv_cell _) C3.out C4.out C5.out ?_)
          intro v' w1' hown' hg' _
          have HO2 := Lib.hid hown'
          have HG2 := Lib.hid hg'
          clear hown' hg'
          go_wp2
          go_roundw
          case rel =>
            refine ⟨k + 1, zs ++ [xa - 1, xa, xb - 1, xb], by omega, by go_num, ?_, by simp; omega, below_grownS (GX.out.alloc hz4 _) (by simp; omega) HG2.out (fun k hk => (OX.out.lt k hk).1)⟩
            rw [ivL_append, List.length_append]
            exact HO2.out
          case measure => simp [intOf]; omega
        · obtain rfl : k = l2.length := by omega
          obtain ⟨rz, cz, rfl, hin⟩ := in_of_owns O.out
          have HIN := Lib.hid hin
          clear hin O
          replace g := Lib.hid (grow_trans g.out G.out)
          replace HX := Lib.hid (HX.out.below G.out)
          replace HY := Lib.hid (HY.out.below G.out)
          replace HZ := Lib.hid (HZ.out.below G.out)
          clear G
          go_wp2_with (first
            | (clear s21; go_at_call 54; (with_reducible refine (QX.out _ _ _ HX.out).mono ?_); rintro e w21 ⟨px, pcx, rfl, hj, hb⟩; have PX := Lib.hid hj; replace HY := Lib.hid (HY.out.below hb); replace HZ := Lib.hid (HZ.out.below hb); replace HIN := Lib.hid (HIN.out.below hb); replace g := Lib.hid (grow_trans g.out hb); clear hb hj HX; have s22 := trivial)
            | (clear s22; go_at_call 54; (with_reducible refine (QY.out _ _ _ HY.out).mono ?_); rintro e w22 ⟨py, pcy, rfl, hj, hb⟩; have PY := Lib.hid hj; replace HZ := Lib.hid (HZ.out.below hb); replace PX := Lib.hid (PX.out.below hb); replace HIN := Lib.hid (HIN.out.below hb); replace g := Lib.hid (grow_trans g.out hb); clear hb hj HY; have s23 := trivial)
            | (clear s23; go_at_call 54; (with_reducible refine (QZ.out _ _ _ HZ.out).mono ?_); rintro e w23 ⟨pz, pcz, rfl, hj, hb⟩; have PZ := Lib.hid hj; replace PX := Lib.hid (PX.out.below hb); replace PY := Lib.hid (PY.out.below hb); replace HIN := Lib.hid (HIN.out.below hb); replace g := Lib.hid (grow_trans g.out hb); clear hb hj HZ; have s24 := trivial))
          clear QX QY QZ
          obtain ⟨Z, hZ⟩ : ∃ Z, w23 = Z := ⟨_, rfl⟩
          rw [hZ] at g PX PY PZ HIN ⊢
          clear hZ
          have SA1 := Lib.hid (SL1.out.below g.out)
          have SA2 := Lib.hid (SL2.out.below g.out)
          clear SL SL1 SL2 F1 F2 FF
          go_loopw [27] (fun v27 wr => ∃ k : Nat, k ≤ zs.length ∧ v27 = .int .i64 k ∧ Below Z.heap.size Z wr) (fun i _ => zs.length - (intOf i).toNat)
          case atStart => exact ⟨0, Nat.zero_le _, rfl, Below.refl _ _⟩
          case round =>
            obtain ⟨k, hk, rfl, hg⟩ := hrel
            have G := Lib.hid hg
            clear hg
            by_cases hlt : k < zs.length
            · obtain ⟨b1, o1, rfl, hc⟩ := HIN.out.resolve_left (by intro h; rw [h] at hlt; exact absurd hlt (by simp))
              have f0 := hc k hlt
              have hb1 : b1 < Z.heap.size := lt_of_cellS f0
              have hi0 : (0 : Int) ≤ (k : Int) := by omega
              have hi1 : (k : Int) < (zs.length : Int) := by omega
              clear hc
              generalize zs[k] = x at f0
              have E0 := Lib.hid f0
              have A1 := Lib.hid (fun (X : World) (hX : Below Z.heap.size Z X) => inSpans_walk r1 l1 c1 x X (by omega) (SA1.out.below hX))
              have A2 := Lib.hid (fun (X : World) (hX : Below Z.heap.size Z X) => inSpans_walk r2 l2 c2 x X (by omega) (SA2.out.below hX))
              have AX := Lib.hid (fun (X : World) (hX : Below Z.heap.size Z X) => inSpans_walk px JX pcx x X (by have := NX.out; omega) (PX.out.below hX))
              have AY := Lib.hid (fun (X : World) (hX : Below Z.heap.size Z X) => inSpans_walk py JY pcy x X (by have := NY.out; omega) (PY.out.below hX))
              have AZ := Lib.hid (fun (X : World) (hX : Below Z.heap.size Z X) => inSpans_walk pz JZ pcz x X (by have := NZ.out; omega) (PZ.out.below hX))
              rw [IX.out x] at AX
              rw [IY.out x] at AY
              rw [IZ.out x] at AZ
              generalize inSp l1 x = p1 at A1 AX AY AZ
              generalize inSp l2 x = p2 at A2 AX AY AZ
              have d0 := (G.out.cell (p := ⟨b1, _, none⟩) hb1).trans E0.out
              clear f0
              have z0 := trivial
              cases p1 <;> cases p2
              all_goals
                simp only [Bool.and_true, Bool.true_and, Bool.and_false, Bool.false_and, Bool.or_true, Bool.true_or, Bool.or_false, Bool.false_or, Bool.not_true, Bool.not_false] at AX AY AZ
                go_wp2_with (first
                  | (clear z0; go_at_call 55; (with_reducible refine (A1.out _ G.out).mono ?_); rintro e y0 ⟨rfl, hb⟩; replace G := Lib.hid (grow_trans G.out hb); clear hb d0; have d0 := (G.out.cell (p := ⟨b1, _, none⟩) hb1).trans E0.out; have z1 := trivial)
                  | (clear z1; go_at_call 55; (with_reducible refine (A2.out _ G.out).mono ?_); rintro e y1 ⟨rfl, hb⟩; replace G := Lib.hid (grow_trans G.out hb); clear hb d0; have d0 := (G.out.cell (p := ⟨b1, _, none⟩) hb1).trans E0.out; have z2 := trivial)
                  | (clear z2; go_at_call 55; (with_reducible refine (AX.out _ G.out).mono ?_); rintro e y2 ⟨rfl, hb⟩; replace G := Lib.hid (grow_trans G.out hb); clear hb d0; have d0 := (G.out.cell (p := ⟨b1, _, none⟩) hb1).trans E0.out; have z3 := trivial)
                  | (clear z3; go_at_call 55; (with_reducible refine (AY.out _ G.out).mono ?_); rintro e y3 ⟨rfl, hb⟩; replace G := Lib.hid (grow_trans G.out hb); clear hb d0; have d0 := (G.out.cell (p := ⟨b1, _, none⟩) hb1).trans E0.out; have z4 := trivial)
                  | (clear z4; go_at_call 55; (with_reducible refine (AZ.out _ G.out).mono ?_); rintro e y4 ⟨rfl, hb⟩; replace G := Lib.hid (grow_trans G.out hb); clear hb d0; have d0 := (G.out.cell (p := ⟨b1, _, none⟩) hb1).trans E0.out; have z5 := trivial))
                go_roundw
                case rel => exact ⟨k + 1, by omega, by go_num, G.out⟩
                case measure => simp [intOf]; omega
            · obtain rfl : k = zs.length := by omega
              go_wp2
              go_ret
              exact ⟨by simp, grow_trans g.out G.out⟩
end Go.Proofs.YtlfpfeidaohjmaaDoor
