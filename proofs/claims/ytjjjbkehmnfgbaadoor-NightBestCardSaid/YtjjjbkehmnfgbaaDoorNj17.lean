/- The night's law: NightBest walked. -/
import Derived.Test.YtjjjbkehmnfgbaaDoorNj16
import Derived.Test.YtjjjbkehmnfgbaaDoorCs5
set_option linter.unusedSimpArgs false
set_option linter.unusedVariables false
namespace Go.Proofs.YtjjjbkehmnfgbaaDoor
open Go.RowKit Go.Grow Go.Night

def BestPost2 (w : World) (l : List Jb) (e : Ending) (w' : World) : Prop :=
  ∃ (r : Option Addr) (c : Nat) (P : List Sl), e = .returned (.tuple #[.slice r P.length c, .int .i64 (mostF l (l.length + 1) 0 t0), .nilIface]) ∧ SlotsAt w' r P ∧ P.length ≤ 6 ∧ (planB l P = true ∧ planW l P = mostF l (l.length + 1) 0 t0) ∧ Below w.heap.size w w'
theorem best_good2 (a : Nat → Addr) (r : Option Addr) (l : List Jb) (cap : Nat) (w : World) (hs : Sen a [2, 5, 10] w) (hl : l.length ≤ 6) (hcap : l.length ≤ cap) (hw : ∀ j ∈ l, j.win.length ≤ 4000) (hr : JobsAt w r l) (hE : jobsE l = 0) :
    Calls Tryd.prog 9 #[.slice r l.length cap] w (BestPost2 w l) :=
  (best_good a r l cap w hs hl hcap hw hr hE).mono fun e w' ⟨r', c, X, en, q, h1, h2, h3, h4, h5⟩ => by
    obtain ⟨g1, g2⟩ := plan_right (fine_of_jobs hE).1 h3
    have h6 := plan_len h3
    refine ⟨r', c, _, ?_, h2, by simp; omega, ⟨g1, g2.trans h4⟩, h5⟩
    rw [List.length_map, ← h4]
    exact h1
set_option maxRecDepth 100000 in
set_option maxHeartbeats 16000000 in
theorem best_walk (a : Nat → Addr) (r : Option Addr) (l : List Jb) (cap : Nat) (w : World) (hs : Sen a allK w) (hh : Hand w) (hne : ∀ j ∈ allK, ∀ k ∈ allK, j ≠ k → a j ≠ a k)
    (hl : l.length ≤ 9223372036854775807) (hr : JobsAt w r l) :
    Calls Tryd.prog 3 #[.slice r l.length cap] w fun e w' => e = .returned (.bool true) ∧ Below w.heap.size w w' := by
  obtain ⟨i0, hi, hz0, hz1, hz2⟩ := info_parts info_slot5
  have HI := Lib.hid hi
  have HZ0 := Lib.hid hz0
  have HZ1 := Lib.hid hz1
  have HZ2 := Lib.hid hz2
  clear hi hz0 hz1 hz2
  have HS := Lib.hid (hs.sub (js := [2, 5, 10]) (by decide))
  have HSA := Lib.hid hs
  have HH := Lib.hid hh
  have HNE := Lib.hid hne
  have HR := Lib.hid hr
  have PLN := Lib.hid (fun X (hX : Below w.heap.size w X) => planned_walk a X (HS.out.below hX))
  have FEW := Lib.hid (fun X (hX : Below w.heap.size w X) => fewJobs_walk r l cap X hl (HR.out.below hX))
  clear hs hh hne hr
  cases hfew : fewB l with
  | false =>
    rw [hfew] at FEW
    go_enter Tryd.func3, Tryd.ntmps3
    have s0 := trivial
    go_wp2_with (first
      | (clear s0; go_at_call 7; (with_reducible refine (PLN.out _ (grow_refl _)).mono ?_); rintro e w1 ⟨rfl, hb⟩; have B1 := Lib.hid hb; clear hb PLN; have s1 := trivial)
      | (clear s1; go_at_call 8; (with_reducible refine (FEW.out _ B1.out).mono ?_); rintro e w2 ⟨rfl, rfl⟩; clear FEW; have s2 := trivial))
    go_ret
    exact ⟨rfl, B1.out⟩
  | true =>
    rw [hfew] at FEW
    obtain ⟨hw20, hl20⟩ := few_wins hfew
    have JB := Lib.hid (fun X (hX : Below w.heap.size w X) => jobs_walk r l cap X (by omega) (fun j hj => by have := (few_wins hfew).1 j hj; omega) (HR.out.below hX))
    have JE := Lib.hid (fun X (hX : Below w.heap.size w X) => jobsError_walk r l cap X (by omega) (fun j hj => by have := (few_wins hfew).1 j hj; omega) (HR.out.below hX))
    have VL := Lib.hid (fun X (rj : Option Addr) (cj : Nat) (hX : Below w.heap.size w X) (h1 : l.length ≤ cj) (h2 : JobsAt X rj l) => valid_walk a rj l cj X (HS.out.below hX) (by omega) h1 (fun j hj => by have := (few_wins hfew).1 j hj; omega) h2)
    have CO := Lib.hid (fun X (hX : Below w.heap.size w X) => coded_same a (jobsE l) (jobsE_le l) X (HSA.out.below hX) (HH.out.below hX) HNE.out)
    clear hw20
    cases hE : jobsE l with
    | succ m =>
      have hE0 : jobsE l ≠ 0 := by omega
      have HE := Lib.hid hE0
      have BB := Lib.hid (fun X (rj : Option Addr) (cj : Nat) (hX : Below w.heap.size w X) (h1 : l.length ≤ cj) (h2 : JobsAt X rj l) => best_bad a rj l cj X (HS.out.below hX) (by omega) h1 (fun j hj => by have := (few_wins hfew).1 j hj; omega) h2 HE.out)
      have hu := errV_pos a hE0
      rw [hu] at BB CO VL
      have hpos : 0 < jobsE l := by omega
      clear hE hE0 hfew hu
      generalize jobsE l = ee at *
      go_enter Tryd.func3, Tryd.ntmps3
      have s0 := trivial
      go_wp2_with (first
        | (clear s0; go_at_call 7; (with_reducible refine (PLN.out _ (grow_refl _)).mono ?_); rintro e w1 ⟨rfl, hb⟩; have B1 := Lib.hid hb; clear hb PLN; have s1 := trivial)
        | (clear s1; go_at_call 8; (with_reducible refine (FEW.out _ B1.out).mono ?_); rintro e w2 ⟨rfl, rfl⟩; clear FEW; have s2 := trivial)
        | (clear s2; go_at_call 10; (with_reducible refine (JB.out _ B1.out).mono ?_); rintro e w5 ⟨rj, cj, rfl, hcj, hj5, hb⟩; have J5 := Lib.hid hj5; have C5 := Lib.hid hcj; have G5 := Lib.hid (grow_trans B1.out hb); clear hb hj5 hcj B1; have s3 := trivial)
        | (clear s3; go_at_call 9; (with_reducible refine (BB.out _ _ _ G5.out C5.out J5.out).mono ?_); rintro e w6 ⟨rfl, hb⟩; have G6 := Lib.hid (grow_trans G5.out hb); clear hb J5 C5 G5 BB; have s4 := trivial)
        | (clear s4; go_at_call 11; (with_reducible refine (JE.out _ G6.out).mono ?_); rintro e w7 ⟨rfl, hb⟩; have G7 := Lib.hid (grow_trans G6.out hb); clear hb G6 JE; have s5 := trivial)
        | (clear s5; go_at_call 10; (with_reducible refine (JB.out _ G7.out).mono ?_); rintro e w8 ⟨rj2, cj2, rfl, hcj, hj5, hb⟩; have J8 := Lib.hid hj5; have C8 := Lib.hid hcj; have G8 := Lib.hid (grow_trans G7.out hb); clear hb hj5 hcj G7 JB; have s6 := trivial)
        | (clear s6; go_at_call 13; (with_reducible refine (VL.out _ _ _ G8.out C8.out J8.out).mono ?_); rintro e w9 ⟨rfl, hb⟩; have G9 := Lib.hid (grow_trans G8.out hb); clear hb G8 C8 J8 VL; have s7 := trivial)
        | (clear s7; go_at_call 12; (with_reducible refine (CO.out _ G9.out).mono ?_); rintro e w10 ⟨rfl, hb⟩; have G10 := Lib.hid (grow_trans G9.out hb); clear hb G9; have s8 := trivial)
        | (clear s8; go_at_call 12; (with_reducible refine (CO.out _ G10.out).mono ?_); rintro e w11 ⟨rfl, hb⟩; have G11 := Lib.hid (grow_trans G10.out hb); clear hb G10 CO))
      go_ret
      exact ⟨rfl, G11.out⟩
    | zero =>
      have HE := Lib.hid hE
      obtain ⟨hF, h12⟩ := fine_of_jobs hE
      have HF := Lib.hid hF
      have hl6 : l.length ≤ 6 := by omega
      have BG := Lib.hid (fun X (rj : Option Addr) (cj : Nat) (hX : Below w.heap.size w X) (h1 : l.length ≤ cj) (h2 : JobsAt X rj l) => best_good2 a rj l cj X (HS.out.below hX) hl6 h1 (fun j hj => by have := (few_wins hfew).1 j hj; omega) h2 HE.out)
      have WO := Lib.hid (fun X (p : List Sl) (r2 : Option Addr) (c2 : Nat) (hX : Below w.heap.size w X) (hp : p.length ≤ 6) (h2 : SlotsAt X r2 p) => worthOf_walk r r2 l p cap c2 X (by omega) (fun j hj => by have := (few_wins hfew).1 j hj; omega) (HR.out.below hX) HF.out (by omega) h2)
      have MO := Lib.hid (fun X (hX : Below w.heap.size w X) => mostOf_walk r l cap X (by omega) (fun j hj => by have := (few_wins hfew).1 j hj; omega) (HR.out.below hX) HF.out)
      rw [hE] at JE CO VL
      rw [errV_zero] at VL CO
      rw [show ((0 : Nat) : Int) = (0 : Int) from rfl] at CO
      clear hE hfew hF h12
      go_enter Tryd.func3, Tryd.ntmps3
      have s0 := trivial
      go_wp2_with (first
        | (clear s0; go_at_call 7; (with_reducible refine (PLN.out _ (grow_refl _)).mono ?_); rintro e w1 ⟨rfl, hb⟩; have B1 := Lib.hid hb; clear hb PLN; have s1 := trivial)
        | (clear s1; go_at_call 8; (with_reducible refine (FEW.out _ B1.out).mono ?_); rintro e w2 ⟨rfl, rfl⟩; clear FEW; have s2 := trivial)
        | (clear s2; go_at_call 10; (with_reducible refine (JB.out _ B1.out).mono ?_); rintro e w5 ⟨rj, cj, rfl, hcj, hj5, hb⟩; have J5 := Lib.hid hj5; have C5 := Lib.hid hcj; have G5 := Lib.hid (grow_trans B1.out hb); clear hb hj5 hcj B1; have s3 := trivial)
        | (clear s3; go_at_call 9; (with_reducible refine (BG.out _ _ _ G5.out C5.out J5.out).mono ?_); rintro e w6 ⟨rp, cp, P, rfl, hsp, hp6, hpf, hb⟩; have SP := Lib.hid hsp; have PL6 := Lib.hid hp6; have PF := Lib.hid hpf; have G6 := Lib.hid (grow_trans G5.out hb); clear hb J5 C5 G5 BG hsp hpf; have s4 := trivial)
        | (clear s4; go_at_call 11; (with_reducible refine (JE.out _ G6.out).mono ?_); rintro e w7 ⟨rfl, hb⟩; have G7 := Lib.hid (grow_trans G6.out hb); have SP' := Lib.hid (SP.out.below hb); clear SP; have SP := SP'; clear SP'; clear hb G6 JE; have s5 := trivial)
        | (clear s5; go_at_call 10; (with_reducible refine (JB.out _ G7.out).mono ?_); rintro e w8 ⟨rj2, cj2, rfl, hcj, hj5, hb⟩; have J8 := Lib.hid hj5; have C8 := Lib.hid hcj; have G8 := Lib.hid (grow_trans G7.out hb); have SP' := Lib.hid (SP.out.below hb); clear SP; have SP := SP'; clear SP'; clear hb hj5 hcj G7 JB; have s6 := trivial)
        | (clear s6; go_at_call 13; (with_reducible refine (VL.out _ _ _ G8.out C8.out J8.out).mono ?_); rintro e w9 ⟨rfl, hb⟩; have G9 := Lib.hid (grow_trans G8.out hb); have SP' := Lib.hid (SP.out.below hb); clear SP; have SP := SP'; clear SP'; clear hb G8 C8 J8 VL; have s7 := trivial)
        | (clear s7; go_at_call 12; (with_reducible refine (CO.out _ G9.out).mono ?_); rintro e w10 ⟨rfl, hb⟩; have G10 := Lib.hid (grow_trans G9.out hb); have SP' := Lib.hid (SP.out.below hb); clear SP; have SP := SP'; clear SP'; clear hb G9; have s8 := trivial))
      have RW := SP
      clear s8
      go_loopw [10, 11] (fun v i wr' => SlCopy 38 w10 P v i wr') (fun _ i _ => P.length - (intOf i).toNat)
      case atStart => exact ⟨0, Nat.zero_le _, rfl, World.ownsRow_nil _ _ _ _, Below.refl _ _⟩
      case round =>
        obtain ⟨k, hk, rfl, hown, hg⟩ := hrel
        have O := Lib.hid hown
        have B3 := Lib.hid hg
        clear hown hg
        by_cases hlt : k < P.length
        · obtain ⟨b1, o1, rfl, hc⟩ := RW.out.resolve_left (by intro h; rw [h] at hlt; exact absurd hlt (by simp))
          obtain ⟨e0, e1⟩ := hc k hlt
          have hb1 := lt_of_cellS e0
          simp only at hb1
          rw [← B3.out.cell (p := ⟨b1, _, none⟩) hb1] at e0 e1
          have hb1' := Nat.lt_of_lt_of_le hb1 B3.out.size
          have TS := Lib.hid (take_snocL P k hlt)
          have hi0 : (0 : Int) ≤ (k : Int) := by omega
          have hi1 : (k : Int) < (P.length : Int) := by omega
          clear hc
          generalize sl P k = x at e0 e1 TS
          obtain ⟨xn, xf⟩ := x
          simp only at e0 e1
          go_wp2
          refine Grow.wp_region_reads1 [0, 1, 2, 3, 4, 6, 7, 8, 9] [5, 10] [11, 12, 13, 14] (by kernel_rfl) (by kernel_rfl) (by kernel_rfl) (by kernel_rfl) (by kernel_rfl) (by kernel_rfl) ?_ ?_
          · intro c aa d v ww h
            simp (config := {zetaDelta := true}) only [Exit.then, Exit.inBlock] at h ⊢
            exact Grow.bodyPost_blind h
          simp only [Grow.pick, List.getElem?_cons_zero, List.getElem?_cons_succ, List.cons_append, List.nil_append]
          repeat (go_big_quiet_step (fail))
          refine wpQuiet_nil ?_
          repeat (go_big_quiet_step (fail))
          refine wpQuiet_nil ?_
          have OX := Lib.hid (ownsRow_belowS O.out (grow_drew (grow_refl wr)))
          have GX := Lib.hid (Below.drew B3.out)
          clear O B3 e0 e1
          generalize wr.drew = w4 at OX GX ⊢
          have hz4 := GX.out.size
          have C3 := Lib.hid (show k + 1 ≤ maxLen by unfold maxLen; omega)
          have C4 := Lib.hid (show (k + 1) * 24 ≤ 140737488355328 by omega)
          go_wp2_with (at_builtin; refine wpList_append_own _ rfl _ _ 35 rfl _ 38 i0 (.agg #[.string .empty, .int .i64 0]) 2 24 Tryd.underlying35 HI.out HZ0.out HZ1.out HZ2.out rfl (by decide) _ _ _ rfl (OX.out.alloc _) ⟨w4.heap.size, 0, none⟩ 1 1 [.string xn, .int .i64 xf] rfl rfl (news_sp _ _ _) (sl_cell xn xf) C3.out C4.out (by simp; omega) ?_)
          intro v' w6 hown' hg' _
          have HO2 := Lib.hid hown'
          have HG2 := Lib.hid hg'
          clear hown' hg'
          go_wp2
          go_roundw
          case rel =>
            refine ⟨k + 1, by omega, by go_num, ?_, below_grownS (GX.out.alloc hz4 _) (by simp; omega) HG2.out (fun k hk => (OX.out.lt k hk).1)⟩
            rw [TS.out, sL_append]
            exact HO2.out
          case measure => simp [intOf]; omega
        · obtain rfl : k = P.length := by omega
          rw [List.take_length] at O
          obtain ⟨r4, c4, hv4, hs4⟩ := slots_of_owns O.out
          subst hv4
          have S4 := Lib.hid hs4
          clear hs4 O
          go_wp2_with (first
            | (go_at_call 14; (with_reducible refine (WO.out _ P _ _ (grow_trans G10.out B3.out) PL6.out S4.out).mono ?_); rintro e w8 ⟨rfl, hb⟩; have G8 := Lib.hid (grow_trans (grow_trans G10.out B3.out) hb); clear hb WO; rw [PF.out.1, PF.out.2])
            | (go_at_call 15; (with_reducible refine (MO.out _ G8.out).mono ?_); rintro e w9 ⟨rfl, hb⟩; have G9 := Lib.hid (grow_trans G8.out hb); clear hb G8 MO))
          go_ret
          exact ⟨by simp, G9.out⟩
end Go.Proofs.YtjjjbkehmnfgbaaDoor
