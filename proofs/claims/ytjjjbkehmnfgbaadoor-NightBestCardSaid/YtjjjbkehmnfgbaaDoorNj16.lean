/- The night's law: NightChecks walked. -/
import Derived.Test.YtjjjbkehmnfgbaaDoorNj15
import Derived.Test.YtjjjbkehmnfgbaaDoorCs5
set_option linter.unusedSimpArgs false
set_option linter.unusedVariables false
namespace Go.Proofs.YtjjjbkehmnfgbaaDoor
open Go.RowKit Go.Grow Go.Night

theorem jobsE_le (l : List Jb) : jobsE l ≤ 10 := by
  unfold jobsE
  split
  · omega
  · split
    · split <;> omega
    · omega
set_option maxRecDepth 100000 in
set_option maxHeartbeats 16000000 in
theorem checks_walk (a : Nat → Addr) (r r2 : Option Addr) (l : List Jb) (p : List Sl) (cap cap2 : Nat) (w : World) (hs : Sen a allK w) (hh : Hand w) (hne : ∀ j ∈ allK, ∀ k ∈ allK, j ≠ k → a j ≠ a k)
    (hl : l.length ≤ 9223372036854775807) (hp : p.length ≤ 9223372036854775807) (hr : JobsAt w r l) (hr2 : SlotsAt w r2 p) (hn : ∀ k, k < p.length → (sl p k).name.size ≤ maxLen) :
    Calls Tryd.prog 4 #[.slice r l.length cap, .slice r2 p.length cap2] w fun e w' => e = .returned (.bool true) ∧ Below w.heap.size w w' := by
  obtain ⟨i0, hi, hz0, hz1, hz2⟩ := info_parts info_slot
  have HI := Lib.hid hi
  have HZ0 := Lib.hid hz0
  have HZ1 := Lib.hid hz1
  have HZ2 := Lib.hid hz2
  clear hi hz0 hz1 hz2
  have HS := Lib.hid (hs.sub (js := [2, 5, 10]) (by decide))
  have HSA := Lib.hid hs
  have HH := Lib.hid hh
  have HNE := Lib.hid hne
  have HR := Lib.hid hr
  have HR2 := Lib.hid hr2
  have HN := Lib.hid hn
  have PLN := Lib.hid (fun X (hX : Below w.heap.size w X) => planned_walk a X (HS.out.below hX))
  have FEW := Lib.hid (fun X (hX : Below w.heap.size w X) => fewJobs_walk r l cap X hl (HR.out.below hX))
  clear hs hh hne hr hr2 hn
  cases hfew : fewB l with
  | false =>
    rw [hfew] at FEW
    go_enter Tryd.func4, Tryd.ntmps4
    have s0 := trivial
    go_wp2_with (first
      | (clear s0; go_at_call 7; (with_reducible refine (PLN.out _ (grow_refl _)).mono ?_); rintro e w1 ⟨rfl, hb⟩; have B1 := Lib.hid hb; clear hb; have s1 := trivial)
      | (clear s1; go_at_call 8; (with_reducible refine (FEW.out _ B1.out).mono ?_); rintro e w2 ⟨rfl, rfl⟩; have s2 := trivial))
    go_ret
    exact ⟨rfl, B1.out⟩
  | true =>
    rw [hfew] at FEW
    by_cases hlong : 30 < p.length
    · go_enter Tryd.func4, Tryd.ntmps4
      have s0 := trivial
      go_wp2_with (first
        | (clear s0; go_at_call 7; (with_reducible refine (PLN.out _ (grow_refl _)).mono ?_); rintro e w1 ⟨rfl, hb⟩; have B1 := Lib.hid hb; clear hb; have s1 := trivial)
        | (clear s1; go_at_call 8; (with_reducible refine (FEW.out _ B1.out).mono ?_); rintro e w2 ⟨rfl, rfl⟩; have s2 := trivial))
      go_ret
      exact ⟨rfl, B1.out⟩
    · obtain ⟨hw20, hl20⟩ := few_wins hfew
      have JB := Lib.hid (fun X (hX : Below w.heap.size w X) => jobs_walk r l cap X (by omega) (fun j hj => by have := (few_wins hfew).1 j hj; omega) (HR.out.below hX))
      have JE := Lib.hid (fun X (hX : Below w.heap.size w X) => jobsError_walk r l cap X (by omega) (fun j hj => by have := (few_wins hfew).1 j hj; omega) (HR.out.below hX))
      clear hw20
      go_enter Tryd.func4, Tryd.ntmps4
      have s0 := trivial
      go_wp2_with (first
        | (clear s0; go_at_call 7; (with_reducible refine (PLN.out _ (grow_refl _)).mono ?_); rintro e w1 ⟨rfl, hb⟩; have B1 := Lib.hid hb; clear hb; have s1 := trivial)
        | (clear s1; go_at_call 8; (with_reducible refine (FEW.out _ B1.out).mono ?_); rintro e w2 ⟨rfl, rfl⟩; have s2 := trivial))
      have RW := Lib.hid (HR2.out.below B1.out)
      go_loopw [7, 8] (fun v i wr' => SlCopy 37 w1 p v i wr') (fun _ i _ => p.length - (intOf i).toNat)
      case atStart => exact ⟨0, Nat.zero_le _, rfl, World.ownsRow_nil _ _ _ _, Below.refl _ _⟩
      case round =>
        obtain ⟨k, hk, rfl, hown, hg⟩ := hrel
        have O := Lib.hid hown
        have B3 := Lib.hid hg
        clear hown hg
        by_cases hlt : k < p.length
        · obtain ⟨b1, o1, rfl, hc⟩ := RW.out.resolve_left (by intro h; rw [h] at hlt; exact absurd hlt (by simp))
          obtain ⟨e0, e1⟩ := hc k hlt
          have hb1 := lt_of_cellS e0
          simp only at hb1
          rw [← B3.out.cell (p := ⟨b1, _, none⟩) hb1] at e0 e1
          have hb1' := Nat.lt_of_lt_of_le hb1 B3.out.size
          have TS := Lib.hid (take_snocL p k hlt)
          have hi0 : (0 : Int) ≤ (k : Int) := by omega
          have hi1 : (k : Int) < (p.length : Int) := by omega
          clear hc
          generalize sl p k = x at e0 e1 TS
          obtain ⟨xn, xf⟩ := x
          simp only at e0 e1
          go_wp2
          refine Grow.wp_region_reads1 [0, 1, 2, 3, 4, 6, 7, 8, 9] [5, 10] [11, 12, 13, 14] (by kernel_rfl) (by kernel_rfl) (by kernel_rfl) (by kernel_rfl) (by kernel_rfl) (by kernel_rfl) ?_ ?_
          · intro c aa d v ww h
            simp (config := {zetaDelta := true}) only [Exit.then, Exit.inBlock] at h ⊢
            exact Grow.bodyPost_blind h
          simp only [Grow.pick, List.getElem?_cons_zero, List.getElem?_cons_succ, List.cons_append, List.nil_append]
          repeat (go_big_quiet_step (fail))
          refine wpQuiet_nil ?_
          repeat (go_big_quiet_step (fail))
          refine wpQuiet_nil ?_
          have OX := Lib.hid (ownsRow_belowS O.out (grow_drew (grow_refl wr)))
          have GX := Lib.hid (Below.drew B3.out)
          clear O B3 e0 e1
          generalize wr.drew = w4 at OX GX ⊢
          have hz4 := GX.out.size
          have C3 := Lib.hid (show k + 1 ≤ maxLen by unfold maxLen; omega)
          have C4 := Lib.hid (show (k + 1) * 24 ≤ 140737488355328 by omega)
          go_wp2_with (at_builtin; refine wpList_append_own _ rfl _ _ 25 rfl _ 37 i0 (.agg #[.string .empty, .int .i64 0]) 2 24 Tryd.underlying25 HI.out HZ0.out HZ1.out HZ2.out rfl (by decide) _ _ _ rfl (OX.out.alloc _) ⟨w4.heap.size, 0, none⟩ 1 1 [.string xn, .int .i64 xf] rfl rfl (news_sp _ _ _) (sl_cell xn xf) C3.out C4.out (by simp; omega) ?_)
          intro v' w6 hown' hg' _
          have HO2 := Lib.hid hown'
          have HG2 := Lib.hid hg'
          clear hown' hg'
          go_wp2
          go_roundw
          case rel =>
            refine ⟨k + 1, by omega, by go_num, ?_, below_grownS (GX.out.alloc hz4 _) (by simp; omega) HG2.out (fun k hk => (OX.out.lt k hk).1)⟩
            rw [TS.out, sL_append]
            exact HO2.out
          case measure => simp [intOf]; omega
        · obtain rfl : k = p.length := by omega
          rw [List.take_length] at O
          obtain ⟨r4, c4, hv4, hs4⟩ := slots_of_owns O.out
          subst hv4
          have S4 := Lib.hid hs4
          clear hs4 O
          cases hE : jobsE l with
          | zero =>
            have HE := Lib.hid hE
            have CK := Lib.hid (fun X (rj : Option Addr) (cj : Nat) (rp : Option Addr) (cp : Nat) (hX : Below w.heap.size w X) (h1 : l.length ≤ cj) (h2 : JobsAt X rj l) (h3 : SlotsAt X rp p) => check_good a rj rp l p cj cp X (HS.out.below hX) (by omega) h1 (fun j hj => by have := (few_wins hfew).1 j hj; omega) h2 HE.out (by omega) HN.out h3)
            have WO := Lib.hid (fun X (hX : Below w.heap.size w X) => worthOf_walk r r2 l p cap cap2 X (by omega) (fun j hj => by have := (few_wins hfew).1 j hj; omega) (HR.out.below hX) (fine_of_jobs HE.out).1 (by omega) (HR2.out.below hX))
            rw [hE] at JE
            clear hE hfew
            have G3 := Lib.hid (grow_trans B1.out B3.out)
            clear B1 B3
            go_wp2_with (first
              | (go_at_call 10; (with_reducible refine (JB.out _ G3.out).mono ?_); rintro e w5 ⟨rj, cj, rfl, hcj, hj5, hb⟩; have S5 := Lib.hid (S4.out.below hb); have J5 := Lib.hid hj5; have C5 := Lib.hid hcj; have G5 := Lib.hid (grow_trans G3.out hb); clear hb hj5 hcj S4 G3)
              | (go_at_call 16; (with_reducible refine (CK.out _ _ _ _ _ G5.out C5.out J5.out S5.out).mono ?_); rintro e w6 ⟨rfl, hb⟩; have G6 := Lib.hid (grow_trans G5.out hb); clear hb S5 J5 C5 G5 CK)
              | (go_at_call 11; (with_reducible refine (JE.out _ G6.out).mono ?_); rintro e w7 ⟨rfl, hb⟩; have G7 := Lib.hid (grow_trans G6.out hb); clear hb G6 JE)
              | (go_at_call 14; (with_reducible refine (WO.out _ G7.out).mono ?_); rintro e w8 ⟨rfl, hb⟩; have G8 := Lib.hid (grow_trans G7.out hb); clear hb G7 WO))
            go_ret
            exact ⟨by simp, G8.out⟩
          | succ m =>
            have hE0 : jobsE l ≠ 0 := by omega
            have HE := Lib.hid hE0
            have hle : jobsE l ≤ 10 := jobsE_le l
            have CK := Lib.hid (fun X (rj : Option Addr) (cj : Nat) (rp : Option Addr) (cp : Nat) (hX : Below w.heap.size w X) (h1 : l.length ≤ cj) (h2 : JobsAt X rj l) => check_bad a rj rp l cj p.length cp X (HS.out.below hX) (by omega) h1 (fun j hj => by have := (few_wins hfew).1 j hj; omega) h2 HE.out)
            have CO := Lib.hid (fun X (hX : Below w.heap.size w X) => coded_same a (jobsE l) hle X (HSA.out.below hX) (HH.out.below hX) HNE.out)
            have hu := errV_pos a hE0
            rw [hu] at CK CO
            have hpos : 0 < jobsE l := by omega
            clear hE hE0 hfew hu
            generalize jobsE l = ee at *
            have G3 := Lib.hid (grow_trans B1.out B3.out)
            clear B1 B3
            go_wp2_with (first
              | (go_at_call 10; (with_reducible refine (JB.out _ G3.out).mono ?_); rintro e w5 ⟨rj, cj, rfl, hcj, hj5, hb⟩; have J5 := Lib.hid hj5; have C5 := Lib.hid hcj; have G5 := Lib.hid (grow_trans G3.out hb); clear hb hj5 hcj G3)
              | (go_at_call 16; (with_reducible refine (CK.out _ _ _ _ _ G5.out C5.out J5.out).mono ?_); rintro e w6 ⟨rfl, hb⟩; have G6 := Lib.hid (grow_trans G5.out hb); clear hb J5 C5 G5 CK)
              | (go_at_call 11; (with_reducible refine (JE.out _ G6.out).mono ?_); rintro e w7 ⟨rfl, hb⟩; have G7 := Lib.hid (grow_trans G6.out hb); clear hb G6 JE)
              | (go_at_call 12; (with_reducible refine (CO.out _ G7.out).mono ?_); rintro e w8 ⟨rfl, hb⟩; have G8 := Lib.hid (grow_trans G7.out hb); clear hb G7 CO))
            go_ret
            exact ⟨rfl, G8.out⟩
end Go.Proofs.YtjjjbkehmnfgbaaDoor
