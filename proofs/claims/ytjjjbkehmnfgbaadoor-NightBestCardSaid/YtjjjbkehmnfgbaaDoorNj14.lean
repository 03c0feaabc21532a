/- The night's best plan: the document's most, by the number of jobs that are left. -/
import Derived.Test.YtjjjbkehmnfgbaaDoorNj13
set_option linter.unusedSimpArgs false
set_option linter.unusedVariables false
namespace Go.Proofs.YtjjjbkehmnfgbaaDoor
open Go.RowKit Go.Grow Go.Night

def MostPost (W0 : World) (g n u : Nat) (x : Int) (e : Ending) (w' : World) : Prop := e = .returned (.int .i64 x) ∧ UsedAt w' g n u ∧ Below W0.heap.size W0 w'
theorem mostF_succ (l : List Jb) (f u : Nat) (t : Int) : mostF l (f + 1) u t = mostAt l (mostF l f) u t l.length := rfl
theorem mostAt_used {l : List Jb} {F : Nat → Int → Int} {u i : Nat} {t : Int} (h : u.testBit i = true) : mostAt l F u t (i + 1) = mostAt l F u t i := by rw [mostAt, if_pos h]
theorem mostAt_none {l : List Jb} {F : Nat → Int → Int} {u i : Nat} {t : Int} (h : u.testBit i = false) (hs : soon (at_ l i) t = none) : mostAt l F u t (i + 1) = mostAt l F u t i := by rw [mostAt, if_neg (by rw [h]; simp), hs]
theorem mostAt_some {l : List Jb} {F : Nat → Int → Int} {u i : Nat} {t a : Int} (h : u.testBit i = false) (hs : soon (at_ l i) t = some a) : mostAt l F u t (i + 1) = max (mostAt l F u t i) ((at_ l i).worth + F (add u i) (a + (at_ l i).long)) := by rw [mostAt, if_neg (by rw [h]; simp), hs]
theorem free_add {l : List Jb} {u i f : Nat} (hi : i < l.length) (hu : u.testBit i = false) (h : ∀ p, Free l u p → p.length ≤ f + 1) : ∀ p, Free l (add u i) p → p.length ≤ f := fun p hp => by
  have hnot : i ∉ p := fun hm => by
    have := hp.out i hm
    rw [testBit_add] at this
    simp at this
  have := h (i :: p) ⟨List.nodup_cons.2 ⟨hnot, hp.nodup⟩, fun k hk => by
    rcases List.mem_cons.1 hk with rfl | hk
    · exact hi
    · exact hp.lt k hk, fun k hk => by
    rcases List.mem_cons.1 hk with rfl | hk
    · exact hu
    · have := hp.out k hk
      rw [testBit_add] at this
      simp at this
      exact this.1⟩
  simpa using this
set_option maxRecDepth 100000 in
set_option maxHeartbeats 16000000 in
theorem mostFrom_walk (r : Option Addr) (l : List Jb) (cap c2 g : Nat) (W0 : World) (hl : l.length ≤ 12) (hg : W0.heap.size ≤ g) (hw : ∀ j ∈ l, j.win.length ≤ 4000) (hr : JobsAt W0 r l) (hF : Fine l) :
    ∀ (f u : Nat) (t : Int) (w : World), (∀ p, Free l u p → p.length ≤ f) → -4611686018427387904 ≤ t ∧ t ≤ 1152921504606846976 → UsedAt w g l.length u → Below W0.heap.size W0 w →
    Calls Tryd.prog 47 #[.slice r l.length cap, .slice (some ⟨g, 0, none⟩) l.length c2, .int .i64 t] w (MostPost W0 g l.length u (mostF l (f + 1) u t)) := by
  intro f
  induction f with
  | zero =>
    intro u t w hfree ht hu hb
    have hall : ∀ i, i < l.length → u.testBit i = true := fun i hi => by
      cases h : u.testBit i with
      | true => rfl
      | false =>
        have := hfree [i] ⟨by simp, by simpa using hi, by simpa using h⟩
        simp at this
    have hm : ∀ i, i ≤ l.length → mostAt l (mostF l 0) u t i = 0 := fun i => by
      induction i with
      | zero => intro _; rfl
      | succ i ih => intro hi; rw [mostAt_used (hall i hi)]; exact ih (by omega)
    have HA := Lib.hid hall
    have HM := Lib.hid (show mostF l (0 + 1) u t = 0 from hm l.length (Nat.le_refl _))
    have U := Lib.hid hu
    have B := Lib.hid hb
    clear hfree hu hb hall hm hr hw hF
    go_enter Tryd.func47, Tryd.ntmps47
    go_wp2
    go_loopw [7, 8] (fun v7 v8 wr => ∃ i : Nat, i ≤ l.length ∧ v7 = .int .i64 0 ∧ v8 = .int .i64 i ∧ w = wr) (fun _ i _ => l.length - (intOf i).toNat)
    case atStart => exact ⟨0, Nat.zero_le _, rfl, rfl, rfl⟩
    case round =>
      obtain ⟨i, hi, rfl, rfl, rfl⟩ := hrel
      by_cases hlt : i < l.length
      · have c := U.out.cell i hlt
        rw [HA.out i hlt] at c
        have hi0 : (0 : Int) ≤ (i : Int) := by omega
        have hi1 : (i : Int) < (l.length : Int) := by omega
        go_wp2
        go_roundw
        case rel => exact ⟨i + 1, by omega, rfl, by go_num, trivial⟩
        case measure => simp [intOf]; omega
      · obtain rfl : i = l.length := by omega
        go_wp2
        go_ret
        exact ⟨by rw [HM.out]; rfl, U.out, B.out⟩
  | succ f ih =>
    intro u t w hfree ht hu hb
    have IH := Lib.hid ih
    have FR := Lib.hid hfree
    have U := Lib.hid hu
    have B := Lib.hid hb
    have HR := Lib.hid hr
    have HW := Lib.hid hw
    have HF := Lib.hid hF
    clear ih hfree hu hb hr hw hF
    go_enter Tryd.func47, Tryd.ntmps47
    go_wp2
    go_loopw [7, 8] (fun v7 v8 wr => ∃ i : Nat, i ≤ l.length ∧ v7 = .int .i64 (mostAt l (mostF l (f + 1)) u t i) ∧ v8 = .int .i64 i ∧ UsedAt wr g l.length u ∧ Below W0.heap.size W0 wr) (fun _ i _ => l.length - (intOf i).toNat)
    case atStart => exact ⟨0, Nat.zero_le _, rfl, rfl, U.out, B.out⟩
    case round =>
      clear U B
      obtain ⟨i, hi, rfl, rfl, hu, hb⟩ := hrel
      have U := Lib.hid hu
      have B := Lib.hid hb
      clear hu hb
      have hgl := U.out.lt
      by_cases hlt : i < l.length
      · have c := U.out.cell i hlt
        have fz := U.out.frozen i
        have hi0 : (0 : Int) ≤ (i : Int) := by omega
        have hi1 : (i : Int) < (l.length : Int) := by omega
        cases htb : u.testBit i with
        | true =>
          rw [htb] at c
          have HS := Lib.hid (mostAt_used (l := l) (F := mostF l (f + 1)) (t := t) htb)
          clear htb
          go_wp2
          go_roundw
          case rel => exact ⟨i + 1, by omega, by rw [HS.out], by go_num, U.out, B.out⟩
          case measure => simp [intOf]; omega
        | false =>
          rw [htb] at c
          obtain ⟨b1, o1, rfl, hc⟩ := HR.out.resolve_left (by intro h; rw [h] at hlt; exact absurd hlt (by simp))
          obtain ⟨rs, cs, d0, d1, d2, d3, hsp⟩ := hc i hlt
          have hb1 : b1 < W0.heap.size := lt_of_cellS d0
          have E3 := Lib.hid d3
          have E2 := Lib.hid d2
          rw [← B.out.cell (p := ⟨b1, _, none⟩) hb1] at d0 d1 d2 d3
          have hb1' : b1 < wr.heap.size := Nat.lt_of_lt_of_le hb1 B.out.size
          have HSO := Lib.hid (fun X (hX : Below W0.heap.size W0 X) => soonest_walk (at_ l i).name rs (at_ l i).win cs (at_ l i).long (at_ l i).worth t X (by have := HW.out _ (at_mem hlt); omega) (hsp.below hX) (HF.out.long _ (at_mem hlt)) ht (HF.out.win _ (at_mem hlt)))
          have hb0 := mostAt_in HF.out (f + 1) u t i (by omega)
          cases hs : soon (at_ l i) t with
          | none =>
            rw [show (at_ l i).win.findSome? (hit (at_ l i).long t) = soon (at_ l i) t from rfl, hs] at HSO
            have HS := Lib.hid (mostAt_none (F := mostF l (f + 1)) htb hs)
            unfold soonV at HSO
            simp only at HSO
            clear htb hs hc hsp
            go_wp2_with (go_at_call 74; (with_reducible refine (HSO.out _ B.out).mono ?_); rintro e w2 ⟨rfl, hb⟩; have HB2 := Lib.hid hb; clear hb)
            go_roundw
            case rel => exact ⟨i + 1, by omega, by rw [HS.out], by go_num, U.out.below HB2.out, grow_trans B.out HB2.out⟩
            case measure => simp [intOf]; omega
          | some a =>
            rw [show (at_ l i).win.findSome? (hit (at_ l i).long t) = soon (at_ l i) t from rfl, hs] at HSO
            have HS := Lib.hid (mostAt_some (F := mostF l (f + 1)) htb hs)
            have hab := soon_bound HF.out hlt hs
            have hlong := HF.out.long _ (at_mem hlt)
            have hworth := HF.out.worth _ (at_mem hlt)
            have HREC := Lib.hid (fun X (h1 : UsedAt X g l.length (add u i)) (h2 : Below W0.heap.size W0 X) => IH.out (add u i) (a + (at_ l i).long) X (free_add hlt htb FR.out) ⟨by omega, by omega⟩ h1 h2)
            have hm0 := mostF_in HF.out (f + 1) (add u i) (a + (at_ l i).long)
            have HTB := Lib.hid htb
            unfold soonV at HSO
            simp only at HSO
            clear htb hs hc hsp
            generalize at_ l i = x at d0 d1 d2 d3 E2 E3 HSO HS HREC hab hlong hworth hm0
            obtain ⟨jn, wn, lg, wt⟩ := x
            simp only at d0 d1 d2 d3 E2 E3 HSO HS HREC hab hlong hworth hm0
            go_upto_region 9 with (go_at_call 74; (with_reducible refine (HSO.out _ B.out).mono ?_); rintro e w2 ⟨rfl, hb⟩; have HB2 := Lib.hid hb; clear hb; have U2 := Lib.hid (U.out.below HB2.out); have c' := U2.out.cell i hlt; have fz' := U2.out.frozen i; have hg2 := U2.out.lt; rw [HTB.out] at c')
            refine Grow.seal_wp ?_
            intro W hW
            have U3 := Lib.hid (show UsedAt W g l.length (add u i) from hW.out ▸ U2.out.set hlt)
            have B3 := Lib.hid (show Below W0.heap.size W0 W from hW.out ▸ grow_setCell (grow_trans B.out HB2.out) hg _)
            clear hW U2 c' fz' hg2 c fz d0 d1 d2 d3 hb1' HSO U HB2
            have e2 := E2.out
            have e3 := E3.out
            generalize mostF l (f + 1) (add u i) (a + lg) = mx at HS HREC hm0
            generalize hmb : mostAt l (mostF l (f + 1)) u t i = mb at hb0 HS
            refine Grow.wp_region_calls B3.out [0, 1, 2, 3, 5, 6, 7, 8, 9, 10, 11] [4, 12] [13, 14, 15, 16] (by kernel_rfl) (by kernel_rfl) (by kernel_rfl) (by kernel_rfl) (by kernel_rfl) (by kernel_rfl) ?_ ?_
            · intro c aa d v ww h
              simp (config := {zetaDelta := true}) only [Exit.then, Exit.inBlock] at h ⊢
              exact Grow.bodyPost_blind h
            simp only [Grow.pick, List.getElem?_cons_zero, List.getElem?_cons_succ, List.cons_append, List.nil_append]
            repeat (go_big_quiet_step (fail))
            refine wpQuiet_nil ?_
            repeat (go_big_quiet_step (fail))
            refine wpQuiet_nil ?_
            have U4 := Lib.hid (U3.out.below (grow_drew (grow_refl W)))
            have B4 := Lib.hid (Below.drew B3.out)
            clear U3 B3 e2 e3
            generalize W.drew = w4 at U4 B4 ⊢
            unfold seqC
            go_wp2
            refine ⟨B4.out, ?_⟩
            unfold seqC
            go_wp2_with (go_at_call 47; (with_reducible refine (HREC.out _ U4.out B4.out).mono ?_); rintro e w5 ⟨rfl, hu5, hb5⟩; have U5 := Lib.hid hu5; have B5 := Lib.hid hb5; clear hu5 hb5)
            refine ⟨B5.out, ?_⟩
            unfold seqC
            go_wp2
            refine ⟨B5.out, ?_⟩
            unfold seqC
            go_wp2
            refine ⟨B5.out, ?_⟩
            unfold seqC
            have c5 := U5.out.cell i hlt
            have f5 := U5.out.frozen i
            have h5 := U5.out.lt
            have UE := Lib.hid (U5.out.unset hlt HTB.out)
            have BE := Lib.hid (grow_setCell B5.out hg (i := i) (.bool false))
            clear U4 B4 HREC IH
            by_cases hgt : mb < wt + mx
            · have hgu : decide (mb < wt + mx) = true := decide_eq_true hgt
              have HS2 := Lib.hid (show mostAt l (mostF l (f + 1)) u t (i + 1) = wt + mx by rw [HS.out]; omega)
              clear HS
              go_wp2
              go_roundw
              case rel => exact ⟨i + 1, by omega, by rw [HS2.out], by go_num, UE.out, BE.out⟩
              case measure => simp [intOf]; omega
            · have hgu : decide (mb < wt + mx) = false := decide_eq_false hgt
              have HS2 := Lib.hid (show mostAt l (mostF l (f + 1)) u t (i + 1) = mb by rw [HS.out]; omega)
              clear HS
              go_wp2
              go_roundw
              case rel => exact ⟨i + 1, by omega, by rw [HS2.out], by go_num, UE.out, BE.out⟩
              case measure => simp [intOf]; omega
      · obtain rfl : i = l.length := by omega
        go_wp2
        go_ret
        exact ⟨by rw [mostF_succ]; rfl, U.out, B.out⟩
theorem info_bool : (Tryd.prog.info? 4).map (fun i => (i.zero, i.size, i.bytes)) = some (some (.bool false), 1, 1) := by kernel_rfl
theorem mk_bools (n : Nat) (hn : n ≤ 100000) (W : World) :
    (Instr.makeSlice 113 (.int .i64 (n : Int)) (.int .i64 (n : Int))).run Tryd.prog W = .ok (.slice (some ⟨W.heap.size, 0, none⟩) n n) (W.alloc (.cells (madeCells #[.bool false] (n * 1)) 4)) := by
  obtain ⟨i0, hi, hz0, hz1, hz2⟩ := info_parts info_bool
  have hr := run_make (P := Tryd.prog) W 113 4 i0 (.bool false) Tryd.underlying113 hi hz0 .i64 .i64 n n (by omega) (Int.le_refl _) (by rw [hz2]; omega) (by omega)
  simp only [Int.toNat_natCast, hz1] at hr
  exact hr
theorem UsedAt.made (w : World) (n : Nat) (t : TypeId) : UsedAt (w.alloc (.cells (madeCells #[.bool false] (n * 1)) t)) w.heap.size n 0 := by
  have K := Known.new w (madeCells #[.bool false] (n * 1)) t
  refine ⟨K.lt, K.frozen, fun k hk => ?_⟩
  rw [K.cell]
  unfold madeCells
  rw [Array.getElem?_map, Array.getElem?_range, if_pos (by omega)]
  simp [Nat.mod_one]
set_option maxRecDepth 100000 in
set_option maxHeartbeats 8000000 in
theorem mostOf_walk (r : Option Addr) (l : List Jb) (cap : Nat) (w : World) (hl : l.length ≤ 12) (hw : ∀ j ∈ l, j.win.length ≤ 4000) (hr : JobsAt w r l) (hF : Fine l) :
    Calls Tryd.prog 15 #[.slice r l.length cap] w fun e w' => e = .returned (.int .i64 (mostF l (l.length + 1) 0 t0)) ∧ Below w.heap.size w w' := by
  have hmk := mk_bools l.length (by omega)
  have HM := Lib.hid (show Calls Tryd.prog 47 #[.slice r l.length cap, .slice (some ⟨w.heap.size, 0, none⟩) l.length l.length, .int .i64 (-4611686018427387904)] (w.alloc (.cells (madeCells #[.bool false] l.length) 4)) (MostPost w w.heap.size l.length 0 (mostF l (l.length + 1) 0 t0)) from by
   have h := mostFrom_walk r l cap l.length w.heap.size w hl (Nat.le_refl _) hw hr hF l.length 0 t0 (w.alloc (.cells (madeCells #[.bool false] (l.length * 1)) 4)) (fun p hp => by
    have := List.Nodup.length_le_of_subset hp.nodup (show p ⊆ List.range l.length from fun x hx => List.mem_range.2 (hp.lt x hx))
    simpa using this) ⟨by unfold t0; omega, by unfold t0; omega⟩ (UsedAt.made w l.length _) (grow_alloc (grow_refl _) _)
   rw [Nat.mul_one] at h
   exact h)
  clear hw hr hF
  go_enter Tryd.func15, Tryd.ntmps15
  go_wp2_with (go_at_call 47; (with_reducible refine HM.out.mono ?_); rintro e w5 ⟨rfl, hu5, hb5⟩; have B5 := Lib.hid hb5; clear hu5 hb5)
  go_ret
  exact ⟨rfl, B5.out⟩
end Go.Proofs.YtjjjbkehmnfgbaaDoor
