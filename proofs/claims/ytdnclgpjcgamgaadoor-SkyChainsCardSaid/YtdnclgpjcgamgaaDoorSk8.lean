/- SkyChains: the walk of the law. -/
import Derived.Test.YtdnclgpjcgamgaaDoorSk7
import Derived.Test.YtdnclgpjcgamgaaDoorCs2
set_option linter.unusedSimpArgs false
set_option linter.unusedVariables false
namespace Go.Proofs.YtdnclgpjcgamgaaDoor
open Go.RowKit Go.Fl Go.Grow Go.Tr

theorem SpAt.get {w : World} {b o k : Nat} {l : List (Int × Int)} (h : SpAt w (some ⟨b, o, none⟩) l) (hk : k < l.length) : w.cell? ⟨b, o + k * 2, none⟩ = some (.int .i64 l[k].1) ∧ w.cell? ⟨b, o + k * 2 + 1, none⟩ = some (.int .i64 l[k].2) := by
  obtain ⟨b', o', e, hc⟩ := h.resolve_left (by intro h; rw [h] at hk; exact absurd hk (by simp))
  cases e
  exact hc k hk
theorem IsAl.get0 {a : Nat → Addr} {l : List (Int × Int)} {X : V3} {v : Value} (h : stE l = 0) (hv : IsAl a l X v) : ∃ x y z, v = .tuple #[.agg #[.float .f64 x, .float .f64 y, .float .f64 z], .nilIface] ∧ V3.mk (fl x) (fl y) (fl z) = X := by
  obtain ⟨x, y, z, hv, hx⟩ := hv
  rw [h, errV_zero] at hv
  rw [if_pos h] at hx
  exact ⟨x, y, z, hv, hx⟩
theorem IsAl.get5 {a : Nat → Addr} {l : List (Int × Int)} {X : V3} {v : Value} (h : stE l = 5) (hv : IsAl a l X v) : ∃ x y z, v = .tuple #[.agg #[.float .f64 x, .float .f64 y, .float .f64 z], .iface 106 (.pointer (some (a 5)))] ∧ fl x = fl 0 ∧ fl y = fl 0 ∧ fl z = fl 0 := by
  obtain ⟨x, y, z, hv, hx⟩ := hv
  rw [h, errV_pos a (k := 5) (by decide)] at hv
  rw [if_neg (by rw [h]; decide)] at hx
  injection hx with h1 h2 h3
  exact ⟨x, y, z, hv, h1, h2, h3⟩
theorem info_step : (Tryd.prog.info? 41).map (fun i => (i.zero, i.size, i.bytes)) = some (some (.agg #[.int .i64 0, .int .i64 0]), 2, 16) := by kernel_rfl

set_option maxRecDepth 100000 in
set_option maxHeartbeats 8000000 in
theorem chains_long (r : Option Addr) (l : List (Int × Int)) (cap v1 v2 v3 : Nat) (w : World) (hl : l.length ≤ 9223372036854775807) (h60 : 60 < l.length) :
    Calls Tryd.prog 5 #[.slice r l.length cap, .agg #[.float .f64 v1, .float .f64 v2, .float .f64 v3]] w (Post (fun v => v = .bool true) w) := by
  have s0 := trivial
  go_enter Tryd.func5, Tryd.ntmps5
  go_wp2_with (first
    | (clear s0
       go_at_call 11
       refine Grow.seal_calls ?_
       intro W hW
       have HG : Hid (Below w.heap.size w W) := Lib.hid (by rw [hW.out]; (repeat (with_reducible first | exact Grow.grow_refl _ | refine Grow.grow_setCell ?_ ?_ _ | refine Grow.grow_alloc ?_ _ | refine Grow.grow_drewN ?_ _ | refine Grow.grow_over ?_ _ | refine Grow.grow_via (by assumption) ?_)) <;> omega)
       have HZ : w.heap.size ≤ W.heap.size := Below.size HG.out
       apply Grow.have_known (W := W)
       · rw [hW.out]; exact Known.new _ _ _
       intro q3
       (try simp only [World.size_alloc] at q3)
       clear hW
       refine (pointed_walk _).mono ?_
       rintro e w1 hp
       obtain ⟨v, rfl, hp, hB⟩ := hp
       subst hp
       skip
       replace q3 := q3.below hB
       replace HG : Hid (Below w.heap.size w w1) := Lib.hid (Grow.grow_trans HG.out hB)
       replace HZ : w.heap.size ≤ w1.heap.size := Below.size HG.out
       clear hB
       have c3 := q3.cell; have f3 := q3.frozen; have l3 := q3.lt
       have s1 := trivial))
  all_goals
    go_ret
    refine Post.mk (T := fun v => v = _) (by first | rfl | (simp; done) | (simp_all; done)) ?_
    (repeat (with_reducible first
      | exact Grow.grow_refl _
      | refine Grow.grow_setCell ?_ ?_ _
      | refine Grow.grow_alloc ?_ _
      | refine Grow.grow_drewN ?_ _
      | refine Grow.grow_over ?_ _
      | refine Grow.grow_via (by assumption) ?_)) <;> omega

set_option maxRecDepth 100000 in
set_option maxHeartbeats 16000000 in
theorem chains_bad (a : Nat → Addr) (r : Option Addr) (l : List (Int × Int)) (cap v1 v2 v3 : Nat) (w : World) (hs : Sen a allK w) (hh : Hand w) (hne : ∀ j ∈ allK, ∀ k ∈ allK, j ≠ k → a j ≠ a k) (h60 : l.length ≤ 60) (hr : SpAt w r l) (h : stE l = 5) :
    Calls Tryd.prog 5 #[.slice r l.length cap, .agg #[.float .f64 v1, .float .f64 v2, .float .f64 v3]] w (Post (fun v => v = .bool true) w) := by
  obtain ⟨i0, hi, hz0, hz1, hz2⟩ := info_parts info_step
  have HI := Lib.hid hi
  have HZ0 := Lib.hid hz0
  have HZ1 := Lib.hid hz1
  have HZ2 := Lib.hid hz2
  have HR := Lib.hid hr
  have HH := Lib.hid h
  have SV := Lib.hid (fun x (hx : Below w.heap.size w x) => (hs.below hx).sub (js := [2, 5]) (by decide))
  have CD : Hid (∀ x : World, Below w.heap.size w x → Calls Tryd.prog 10 #[.iface 106 (.pointer (some (a 5))), .int .i64 5] x fun e w' => e = .returned (.bool true) ∧ Below x.heap.size x w') := Lib.hid (fun x hx => by
    have k := coded_same a 5 (by decide) x (hs.below hx) (hh.below hx) hne
    rw [errV_pos a (k := 5) (by decide)] at k
    exact k)
  have SE := Lib.hid (fun x (hx : Below w.heap.size w x) => stepsError_walk r l cap x h60 (hr.below hx))
  clear hr hi hz0 hz1 hz2 hs hh hne h
  have s0 := trivial
  go_enter Tryd.func5, Tryd.ntmps5
  go_wp2_with (first
    | (clear s0
       go_at_call 11
       refine Grow.seal_calls ?_
       intro W hW
       have HG : Hid (Below w.heap.size w W) := Lib.hid (by rw [hW.out]; (repeat (with_reducible first | exact Grow.grow_refl _ | refine Grow.grow_setCell ?_ ?_ _ | refine Grow.grow_alloc ?_ _ | refine Grow.grow_drewN ?_ _ | refine Grow.grow_over ?_ _ | refine Grow.grow_via (by assumption) ?_)) <;> omega)
       have HZ : w.heap.size ≤ W.heap.size := Below.size HG.out
       apply Grow.have_known (W := W)
       · rw [hW.out]; exact Known.new _ _ _
       intro q3
       (try simp only [World.size_alloc] at q3)
       clear hW
       refine (pointed_walk _).mono ?_
       rintro e w1 hp
       obtain ⟨v, rfl, hp, hB⟩ := hp
       subst hp
       skip
       replace q3 := q3.below hB
       replace HG : Hid (Below w.heap.size w w1) := Lib.hid (Grow.grow_trans HG.out hB)
       replace HZ : w.heap.size ≤ w1.heap.size := Below.size HG.out
       clear hB
       have c3 := q3.cell; have f3 := q3.frozen; have l3 := q3.lt
       have s1 := trivial))
  go_loopw [6, 7] (fun v6 v7 wr => CopyRel 41 w1 l v6 v7 wr) (fun _ i _ => l.length - (intOf i).toNat)
  case atStart => exact ⟨0, Nat.zero_le _, rfl, World.ownsRow_nil _ _ _ _, Below.refl _ _⟩
  case round =>
    obtain ⟨k, hk, rfl, hown, hg⟩ := hrel
    have O := Lib.hid hown
    have GB := Lib.hid hg
    clear hown hg
    have hz := GB.out.size
    by_cases hlt : k < l.length
    · obtain ⟨b1, o1, rfl, hc⟩ := HR.out.resolve_left (by intro h; rw [h] at hlt; exact absurd hlt (by simp))
      obtain ⟨e0, e1⟩ := hc k hlt
      have hb1 : b1 < w.heap.size := lt_of_cellS e0
      have hb1'' : b1 < w1.heap.size := Nat.lt_of_lt_of_le hb1 HZ
      rw [← HG.out.cell (p := ⟨b1, _, none⟩) hb1, ← GB.out.cell (p := ⟨b1, _, none⟩) hb1''] at e0 e1
      have TS := Lib.hid (take_snocS l k hlt)
      clear hc
      generalize l[k] = x at e0 e1 TS
      obtain ⟨xa, xb⟩ := x
      simp only at e0 e1
      have hb1' : b1 < wr.heap.size := Nat.lt_of_lt_of_le hb1'' hz
      have hi0 : (0 : Int) ≤ (k : Int) := by omega
      have hi1 : (k : Int) < (l.length : Int) := by omega
      go_wp2
      refine Grow.wp_region_reads1 [0, 1, 2, 3, 4, 6, 7, 8, 9] [5, 10] [11, 12, 13, 14] (by kernel_rfl) (by kernel_rfl) (by kernel_rfl) (by kernel_rfl) (by kernel_rfl) (by kernel_rfl) ?_ ?_
      · intro c aa d v ww h
        simp (config := {zetaDelta := true}) only [Exit.then, Exit.inBlock] at h ⊢
        exact Grow.bodyPost_blind h
      simp only [Grow.pick, List.getElem?_cons_zero, List.getElem?_cons_succ, List.cons_append, List.nil_append]
      repeat (go_big_quiet_step (fail))
      refine wpQuiet_nil ?_
      repeat (go_big_quiet_step (fail))
      refine wpQuiet_nil ?_
      have OX := Lib.hid (ownsRow_belowS O.out (grow_drew (grow_refl wr)))
      have GX := Lib.hid (Below.drew GB.out)
      clear O GB e0 e1
      generalize wr.drew = w4 at OX GX ⊢
      have hz4 := GX.out.size
      have C3 := Lib.hid (show k + 1 ≤ maxLen by unfold maxLen; omega)
      have C4 := Lib.hid (show (k + 1) * 16 ≤ 140737488355328 by omega)
      have C5 := Lib.hid (show w1.heap.size ≤ (w4.alloc (.cells #[Value.int .i64 xa, Value.int .i64 xb] 41)).heap.size by simp; omega)
      go_wp2_with (at_builtin; refine wpList_append_own _ rfl _ _ 38 rfl w1.heap.size 41 i0 (.agg #[.int .i64 0, .int .i64 0]) 2 16 Tryd.underlying38 HI.out HZ0.out HZ1.out HZ2.out rfl (by decide) _ _ _ rfl (OX.out.alloc _) ⟨w4.heap.size, 0, none⟩ 1 1 [.int .i64 xa, .int .i64 xb] rfl rfl (news_sp _ _ _) (sp_cell _ _) C3.out C4.out C5.out ?_)
      intro v' w5 hown' hg' _
      have HO2 := Lib.hid hown'
      have HG2 := Lib.hid hg'
      clear hown' hg'
      go_wp2
      go_roundw
      case rel =>
        refine ⟨k + 1, by omega, by go_num, ?_, below_grownS (GX.out.alloc hz4 _) (by simp; omega) HG2.out (fun k hk => (OX.out.lt k hk).1)⟩
        rw [TS.out, spL_append]
        exact HO2.out
      case measure => simp [intOf]; omega
    · obtain rfl : k = l.length := by omega
      rw [List.take_length] at O
      obtain ⟨r', c', hv, hx⟩ := sp_of_owns O.out
      subst hv
      have HM := Lib.hid hx
      clear hx O hlt hk HI HZ0 HZ1 HZ2
      have q3' := q3.below GB.out
      have HG' : Hid (Below w.heap.size w wr) := Lib.hid (grow_trans HG.out GB.out)
      clear s1 c3 f3 l3 q3 HG HZ GB
      have q3 := q3'
      have HG := HG'
      have HZ : w.heap.size ≤ wr.heap.size := Below.size HG.out
      clear q3' HG' hz
      have s1 := trivial
      have c3 := q3.cell; have f3 := q3.frozen; have l3 := q3.lt
      have HS5 := Lib.hid (show ((stE l : Nat) : Int) = 5 by rw [HH.out]; rfl)
      rw [HS5.out] at SE
      go_wp2_with (first
        | (clear s1
           go_at_call 12
           refine Grow.seal_calls ?_
           intro W hW
           have HG2 : Hid (Below w.heap.size w W) := Lib.hid (by rw [hW.out]; (repeat (with_reducible first | exact Grow.grow_refl _ | refine Grow.grow_setCell ?_ ?_ _ | refine Grow.grow_alloc ?_ _ | refine Grow.grow_drewN ?_ _ | refine Grow.grow_over ?_ _ | refine Grow.grow_via (by assumption) ?_)) <;> omega)
           clear HG
           have HG := HG2
           clear HG2
           clear c3 f3
           apply Grow.have_known (W := W)
           · rw [hW.out]; apply Known.at q3; (repeat (with_reducible first | exact q3 | apply Known.same | apply Known.other | apply Known.alloc | apply Known.drewN)) <;> omega
           clear q3
           intro q3
           (try simp only [List.setIfInBounds_toArray, List.set_cons_zero, List.set_cons_succ] at q3)
           replace HZ : w.heap.size ≤ W.heap.size := Below.size HG.out
           have HM2 := Lib.hid (show SpAt W r' l from by rw [hW.out]; exact HM.out.below (by (repeat (with_reducible first | exact Grow.grow_refl _ | refine Grow.grow_setCell ?_ ?_ _ | refine Grow.grow_alloc ?_ _ | refine Grow.grow_drewN ?_ _ | refine Grow.grow_over ?_ _ | refine Grow.grow_via (by assumption) ?_)) <;> omega))
           clear HM
           have HM := HM2
           clear HM2
           clear hW
           (with_reducible refine (SE.out _ HG.out).mono ?_)
           rintro e w1 ⟨rfl, hB⟩
           replace q3 := q3.below hB
           replace HG : Hid (Below w.heap.size w w1) := Lib.hid (Grow.grow_trans HG.out hB)
           replace HZ : w.heap.size ≤ w1.heap.size := Below.size HG.out
           (try replace HM := Lib.hid (HM.out.below hB))
           clear hB
           have c3 := q3.cell; have f3 := q3.frozen; have l3 := q3.lt
           have s2 := trivial)
        | (clear s2
           go_at_call 13
           refine Grow.seal_calls ?_
           intro W hW
           have HG2 : Hid (Below w.heap.size w W) := Lib.hid (by rw [hW.out]; (repeat (with_reducible first | exact Grow.grow_refl _ | refine Grow.grow_setCell ?_ ?_ _ | refine Grow.grow_alloc ?_ _ | refine Grow.grow_drewN ?_ _ | refine Grow.grow_over ?_ _ | refine Grow.grow_via (by assumption) ?_)) <;> omega)
           clear HG
           have HG := HG2
           clear HG2
           clear c3 f3
           apply Grow.have_known (W := W)
           · rw [hW.out]; apply Known.at q3; (repeat (with_reducible first | exact q3 | apply Known.same | apply Known.other | apply Known.alloc | apply Known.drewN)) <;> omega
           clear q3
           intro q3
           (try simp only [List.setIfInBounds_toArray, List.set_cons_zero, List.set_cons_succ] at q3)
           replace HZ : w.heap.size ≤ W.heap.size := Below.size HG.out
           have HM2 := Lib.hid (show SpAt W r' l from by rw [hW.out]; exact HM.out.below (by (repeat (with_reducible first | exact Grow.grow_refl _ | refine Grow.grow_setCell ?_ ?_ _ | refine Grow.grow_alloc ?_ _ | refine Grow.grow_drewN ?_ _ | refine Grow.grow_over ?_ _ | refine Grow.grow_via (by assumption) ?_)) <;> omega))
           clear HM
           have HM := HM2
           clear HM2
           clear hW
           (with_reducible refine (along_walk a r' l c' _ _ _ _ (SV.out _ HG.out) h60 HM.out).mono ?_)
           rintro e w1 hp
           obtain ⟨v, rfl, hp, hB⟩ := hp
           obtain ⟨x1, x2, x3, rfl, hx1, hx2, hx3⟩ := hp.get5 HH.out
           have HX1 := Lib.hid hx1; have HX2 := Lib.hid hx2; have HX3 := Lib.hid hx3
           clear hx1 hx2 hx3 hp
           replace q3 := q3.below hB
           replace HG : Hid (Below w.heap.size w w1) := Lib.hid (Grow.grow_trans HG.out hB)
           replace HZ : w.heap.size ≤ w1.heap.size := Below.size HG.out
           (try replace HM := Lib.hid (HM.out.below hB))
           clear hB
           have c3 := q3.cell; have f3 := q3.frozen; have l3 := q3.lt
           have s3 := trivial)
        | (clear s3
           go_at_call 14
           refine Grow.seal_calls ?_
           intro W hW
           have HG2 : Hid (Below w.heap.size w W) := Lib.hid (by rw [hW.out]; (repeat (with_reducible first | exact Grow.grow_refl _ | refine Grow.grow_setCell ?_ ?_ _ | refine Grow.grow_alloc ?_ _ | refine Grow.grow_drewN ?_ _ | refine Grow.grow_over ?_ _ | refine Grow.grow_via (by assumption) ?_)) <;> omega)
           clear HG
           have HG := HG2
           clear HG2
           clear c3 f3
           apply Grow.have_known (W := W)
           · rw [hW.out]; apply Known.at q3; (repeat (with_reducible first | exact q3 | apply Known.same | apply Known.other | apply Known.alloc | apply Known.drewN)) <;> omega
           clear q3
           intro q3
           (try simp only [List.setIfInBounds_toArray, List.set_cons_zero, List.set_cons_succ] at q3)
           apply Grow.have_known (W := W) (b := w1.heap.size)
           · rw [hW.out]; (repeat (with_reducible first | exact Known.new _ _ _ | (refine known_at ?_; simp; done) | apply Known.same | apply Known.other | apply Known.alloc | apply Known.drewN)) <;> omega
           intro q9
           (try simp only [World.size_alloc, World.size_setCell, World.heap_drewN] at q9)
           (try simp only [List.setIfInBounds_toArray, List.set_cons_zero, List.set_cons_succ] at q9)
           have m9 := q9.ge (n := w.heap.size) (by omega)
           replace HZ : w.heap.size ≤ W.heap.size := Below.size HG.out
           have HM2 := Lib.hid (show SpAt W r' l from by rw [hW.out]; exact HM.out.below (by (repeat (with_reducible first | exact Grow.grow_refl _ | refine Grow.grow_setCell ?_ ?_ _ | refine Grow.grow_alloc ?_ _ | refine Grow.grow_drewN ?_ _ | refine Grow.grow_over ?_ _ | refine Grow.grow_via (by assumption) ?_)) <;> omega))
           clear HM
           have HM := HM2
           clear HM2
           clear hW
           (with_reducible refine (against_walk a r' l c' _ _ _ _ (SV.out _ HG.out) h60 HM.out).mono ?_)
           rintro e w1 hp
           obtain ⟨v, rfl, hp, hB⟩ := hp
           obtain ⟨y1, y2, y3, rfl, hy1, hy2, hy3⟩ := hp.get5 HH.out
           have HY1 := Lib.hid hy1; have HY2 := Lib.hid hy2; have HY3 := Lib.hid hy3
           clear hy1 hy2 hy3 hp
           replace q3 := q3.below hB
           replace q9 := q9.below hB
           replace HG : Hid (Below w.heap.size w w1) := Lib.hid (Grow.grow_trans HG.out hB)
           replace HZ : w.heap.size ≤ w1.heap.size := Below.size HG.out
           (try replace HM := Lib.hid (HM.out.below hB))
           clear hB
           have c3 := q3.cell; have f3 := q3.frozen; have l3 := q3.lt
           have c9 := q9.cell; have f9 := q9.frozen; have l9 := q9.lt
           have s4 := trivial)
        | (clear s4
           go_at_call 10
           refine Grow.seal_calls ?_
           intro W hW
           have HG2 : Hid (Below w.heap.size w W) := Lib.hid (by rw [hW.out]; (repeat (with_reducible first | exact Grow.grow_refl _ | refine Grow.grow_setCell ?_ ?_ _ | refine Grow.grow_alloc ?_ _ | refine Grow.grow_drewN ?_ _ | refine Grow.grow_over ?_ _ | refine Grow.grow_via (by assumption) ?_)) <;> omega)
           clear HG
           have HG := HG2
           clear HG2
           clear c3 f3 c9 f9
           apply Grow.have_known (W := W)
           · rw [hW.out]; apply Known.at q3; (repeat (with_reducible first | exact q3 | apply Known.same | apply Known.other | apply Known.alloc | apply Known.drewN)) <;> omega
           clear q3
           intro q3
           (try simp only [List.setIfInBounds_toArray, List.set_cons_zero, List.set_cons_succ] at q3)
           apply Grow.have_known (W := W)
           · rw [hW.out]; apply Known.at q9; (repeat (with_reducible first | exact q9 | apply Known.same | apply Known.other | apply Known.alloc | apply Known.drewN)) <;> omega
           clear q9
           intro q9
           (try simp only [List.setIfInBounds_toArray, List.set_cons_zero, List.set_cons_succ] at q9)
           apply Grow.have_known (W := W) (b := w1.heap.size)
           · rw [hW.out]; (repeat (with_reducible first | exact Known.new _ _ _ | (refine known_at ?_; simp; done) | apply Known.same | apply Known.other | apply Known.alloc | apply Known.drewN)) <;> omega
           intro q11
           (try simp only [World.size_alloc, World.size_setCell, World.heap_drewN] at q11)
           (try simp only [List.setIfInBounds_toArray, List.set_cons_zero, List.set_cons_succ] at q11)
           have m11 := q11.ge (n := w.heap.size) (by omega)
           replace HZ : w.heap.size ≤ W.heap.size := Below.size HG.out
           clear hW
           (with_reducible refine (CD.out _ HG.out).mono ?_)
           rintro e w1 ⟨rfl, hB⟩
           replace q3 := q3.below hB
           replace q9 := q9.below hB
           replace q11 := q11.below hB
           replace HG : Hid (Below w.heap.size w w1) := Lib.hid (Grow.grow_trans HG.out hB)
           replace HZ : w.heap.size ≤ w1.heap.size := Below.size HG.out
           (try replace HM := Lib.hid (HM.out.below hB))
           clear hB
           have c3 := q3.cell; have f3 := q3.frozen; have l3 := q3.lt
           have c9 := q9.cell; have f9 := q9.frozen; have l9 := q9.lt
           have c11 := q11.cell; have f11 := q11.frozen; have l11 := q11.lt
           have s5 := trivial)
        | (clear s5
           go_at_call 10
           refine Grow.seal_calls ?_
           intro W hW
           have HG2 : Hid (Below w.heap.size w W) := Lib.hid (by rw [hW.out]; (repeat (with_reducible first | exact Grow.grow_refl _ | refine Grow.grow_setCell ?_ ?_ _ | refine Grow.grow_alloc ?_ _ | refine Grow.grow_drewN ?_ _ | refine Grow.grow_over ?_ _ | refine Grow.grow_via (by assumption) ?_)) <;> omega)
           clear HG
           have HG := HG2
           clear HG2
           clear c3 f3 c9 f9 c11 f11
           apply Grow.have_known (W := W)
           · rw [hW.out]; apply Known.at q3; (repeat (with_reducible first | exact q3 | apply Known.same | apply Known.other | apply Known.alloc | apply Known.drewN)) <;> omega
           clear q3
           intro q3
           (try simp only [List.setIfInBounds_toArray, List.set_cons_zero, List.set_cons_succ] at q3)
           apply Grow.have_known (W := W)
           · rw [hW.out]; apply Known.at q9; (repeat (with_reducible first | exact q9 | apply Known.same | apply Known.other | apply Known.alloc | apply Known.drewN)) <;> omega
           clear q9
           intro q9
           (try simp only [List.setIfInBounds_toArray, List.set_cons_zero, List.set_cons_succ] at q9)
           apply Grow.have_known (W := W)
           · rw [hW.out]; apply Known.at q11; (repeat (with_reducible first | exact q11 | apply Known.same | apply Known.other | apply Known.alloc | apply Known.drewN)) <;> omega
           clear q11
           intro q11
           (try simp only [List.setIfInBounds_toArray, List.set_cons_zero, List.set_cons_succ] at q11)
           replace HZ : w.heap.size ≤ W.heap.size := Below.size HG.out
           clear hW
           (with_reducible refine (CD.out _ HG.out).mono ?_)
           rintro e w1 ⟨rfl, hB⟩
           replace q3 := q3.below hB
           replace q9 := q9.below hB
           replace q11 := q11.below hB
           replace HG : Hid (Below w.heap.size w w1) := Lib.hid (Grow.grow_trans HG.out hB)
           replace HZ : w.heap.size ≤ w1.heap.size := Below.size HG.out
           (try replace HM := Lib.hid (HM.out.below hB))
           clear hB
           have c3 := q3.cell; have f3 := q3.frozen; have l3 := q3.lt
           have c9 := q9.cell; have f9 := q9.frozen; have l9 := q9.lt
           have c11 := q11.cell; have f11 := q11.frozen; have l11 := q11.lt
           have s6 := trivial)
        | (clear s6
           go_at_call 15
           refine Grow.seal_calls ?_
           intro W hW
           have HG2 : Hid (Below w.heap.size w W) := Lib.hid (by rw [hW.out]; (repeat (with_reducible first | exact Grow.grow_refl _ | refine Grow.grow_setCell ?_ ?_ _ | refine Grow.grow_alloc ?_ _ | refine Grow.grow_drewN ?_ _ | refine Grow.grow_over ?_ _ | refine Grow.grow_via (by assumption) ?_)) <;> omega)
           clear HG
           have HG := HG2
           clear HG2
           clear c3 f3 c9 f9 c11 f11
           apply Grow.have_known (W := W)
           · rw [hW.out]; apply Known.at q3; (repeat (with_reducible first | exact q3 | apply Known.same | apply Known.other | apply Known.alloc | apply Known.drewN)) <;> omega
           clear q3
           intro q3
           (try simp only [List.setIfInBounds_toArray, List.set_cons_zero, List.set_cons_succ] at q3)
           apply Grow.have_known (W := W)
           · rw [hW.out]; apply Known.at q9; (repeat (with_reducible first | exact q9 | apply Known.same | apply Known.other | apply Known.alloc | apply Known.drewN)) <;> omega
           clear q9
           intro q9
           (try simp only [List.setIfInBounds_toArray, List.set_cons_zero, List.set_cons_succ] at q9)
           apply Grow.have_known (W := W)
           · rw [hW.out]; apply Known.at q11; (repeat (with_reducible first | exact q11 | apply Known.same | apply Known.other | apply Known.alloc | apply Known.drewN)) <;> omega
           clear q11
           intro q11
           (try simp only [List.setIfInBounds_toArray, List.set_cons_zero, List.set_cons_succ] at q11)
           replace HZ : w.heap.size ≤ W.heap.size := Below.size HG.out
           clear hW
           refine (sameVec_walk _ _ _ _ _ _ HX1.out HX2.out HX3.out _).mono ?_
           rintro e w1 hp
           obtain ⟨v, rfl, hp, hB⟩ := hp
           subst hp
           skip
           replace q3 := q3.below hB
           replace q9 := q9.below hB
           replace q11 := q11.below hB
           replace HG : Hid (Below w.heap.size w w1) := Lib.hid (Grow.grow_trans HG.out hB)
           replace HZ : w.heap.size ≤ w1.heap.size := Below.size HG.out
           clear hB
           have c3 := q3.cell; have f3 := q3.frozen; have l3 := q3.lt
           have c9 := q9.cell; have f9 := q9.frozen; have l9 := q9.lt
           have c11 := q11.cell; have f11 := q11.frozen; have l11 := q11.lt
           have s7 := trivial)
        | (clear s7
           go_at_call 15
           refine Grow.seal_calls ?_
           intro W hW
           have HG2 : Hid (Below w.heap.size w W) := Lib.hid (by rw [hW.out]; (repeat (with_reducible first | exact Grow.grow_refl _ | refine Grow.grow_setCell ?_ ?_ _ | refine Grow.grow_alloc ?_ _ | refine Grow.grow_drewN ?_ _ | refine Grow.grow_over ?_ _ | refine Grow.grow_via (by assumption) ?_)) <;> omega)
           clear HG
           have HG := HG2
           clear HG2
           clear c3 f3 c9 f9 c11 f11
           apply Grow.have_known (W := W)
           · rw [hW.out]; apply Known.at q3; (repeat (with_reducible first | exact q3 | apply Known.same | apply Known.other | apply Known.alloc | apply Known.drewN)) <;> omega
           clear q3
           intro q3
           (try simp only [List.setIfInBounds_toArray, List.set_cons_zero, List.set_cons_succ] at q3)
           apply Grow.have_known (W := W)
           · rw [hW.out]; apply Known.at q9; (repeat (with_reducible first | exact q9 | apply Known.same | apply Known.other | apply Known.alloc | apply Known.drewN)) <;> omega
           clear q9
           intro q9
           (try simp only [List.setIfInBounds_toArray, List.set_cons_zero, List.set_cons_succ] at q9)
           apply Grow.have_known (W := W)
           · rw [hW.out]; apply Known.at q11; (repeat (with_reducible first | exact q11 | apply Known.same | apply Known.other | apply Known.alloc | apply Known.drewN)) <;> omega
           clear q11
           intro q11
           (try simp only [List.setIfInBounds_toArray, List.set_cons_zero, List.set_cons_succ] at q11)
           replace HZ : w.heap.size ≤ W.heap.size := Below.size HG.out
           clear hW
           refine (sameVec_walk _ _ _ _ _ _ HY1.out HY2.out HY3.out _).mono ?_
           rintro e w1 hp
           obtain ⟨v, rfl, hp, hB⟩ := hp
           subst hp
           skip
           replace q3 := q3.below hB
           replace q9 := q9.below hB
           replace q11 := q11.below hB
           replace HG : Hid (Below w.heap.size w w1) := Lib.hid (Grow.grow_trans HG.out hB)
           replace HZ : w.heap.size ≤ w1.heap.size := Below.size HG.out
           clear hB
           have c3 := q3.cell; have f3 := q3.frozen; have l3 := q3.lt
           have c9 := q9.cell; have f9 := q9.frozen; have l9 := q9.lt
           have c11 := q11.cell; have f11 := q11.frozen; have l11 := q11.lt
           have s8 := trivial))
      all_goals
        go_ret
        refine Post.mk (T := fun v => v = _) (by first | rfl | (simp; done) | (simp_all; done)) ?_
        (repeat (with_reducible first | exact Grow.grow_refl _ | refine Grow.grow_setCell ?_ ?_ _ | refine Grow.grow_alloc ?_ _ | refine Grow.grow_drewN ?_ _ | refine Grow.grow_over ?_ _ | refine Grow.grow_via (by assumption) ?_)) <;> omega

theorem normOf_post (a : Int) (w : World) : Calls Tryd.prog 8 #[.int .i64 a] w (Post (fun v => v = .int .i64 (nrm a)) w) :=
  (normOf_walk a w).mono fun e w' h => by rw [h.1, ← h.2]; exact Post.mk (T := fun v => v = _) rfl (Grow.grow_refl _)
def SpecTB : FuncId → Array Value → Value → Prop
  | 8, ⟨[.int .i64 a]⟩, v => v = .int .i64 (nrm a)
  | 16, ⟨[.agg ⟨[.int .i64 ax, .int .i64 k]⟩, .agg ⟨[.float .f64 a, .float .f64 b, .float .f64 c]⟩]⟩, v => IsV (Fe.trF ax k ⟨fl a, fl b, fl c⟩) v
  | _, _, _ => False
/-- At the second loop's head. -/
def ChainRel (l : List (Int × Int)) (V0 : V3) (W : World) (n11 n13 n14 y1 y2 y3 : Nat) (v : Value) (wr : World) : Prop :=
  ∃ (k : Nat) (a1 a2 a3 b1 b2 b3 : Nat), k ≤ l.length ∧ v = .int .i64 k ∧ V3.mk (fl a1) (fl a2) (fl a3) = Fe.alongF (l.take k) V0 ∧ V3.mk (fl b1) (fl b2) (fl b3) = Fe.againstF (l.drop (l.length - k)) V0 ∧
    Known wr n13 #[.float .f64 a1, .float .f64 a2, .float .f64 a3] ∧ Known wr n14 #[.float .f64 b1, .float .f64 b2, .float .f64 b3] ∧ Known wr n11 #[.float .f64 y1, .float .f64 y2, .float .f64 y3] ∧ Below W.heap.size W wr
theorem chains_near {l : List (Int × Int)} {v1 v2 v3 : Nat} (hs : ∀ s ∈ l, 0 ≤ s.1 ∧ s.1 ≤ 2) (hn : l.length ≤ 60) (hm : Fe.mildF (fl v1) = true ∧ Fe.mildF (fl v2) = true ∧ Fe.mildF (fl v3) = true) :
    Fe.InOk (fsub (Fe.againstF l (Fe.alongF l ⟨fl v1, fl v2, fl v3⟩)).x (fl v1)) (fmul (fl 4418031234450456576) (vl ⟨fl v1, fl v2, fl v3⟩)) ∧
    Fe.InOk (fsub (Fe.againstF l (Fe.alongF l ⟨fl v1, fl v2, fl v3⟩)).y (fl v2)) (fmul (fl 4418031234450456576) (vl ⟨fl v1, fl v2, fl v3⟩)) ∧
    Fe.InOk (fsub (Fe.againstF l (Fe.alongF l ⟨fl v1, fl v2, fl v3⟩)).z (fl v3)) (fmul (fl 4418031234450456576) (vl ⟨fl v1, fl v2, fl v3⟩)) := by
  obtain ⟨p, hp, fp, mp⟩ := Fe.mild_of hm.1
  obtain ⟨q, hq, fq, mq⟩ := Fe.mild_of hm.2.1
  obtain ⟨r, hr, fr, mr⟩ := Fe.mild_of hm.2.2
  rw [hp, hq, hr]
  obtain ⟨n, hn', hl⟩ := Fe.len_ok fp fq fr mp mq mr
  rw [hn']
  exact Fe.chain_good hs hn hl

set_option maxRecDepth 100000 in
set_option maxHeartbeats 16000000 in
theorem chains_good (a : Nat → Addr) (r : Option Addr) (l : List (Int × Int)) (cap v1 v2 v3 : Nat) (w : World) (hs : Sen a allK w) (hh : Hand w) (hne : ∀ j ∈ allK, ∀ k ∈ allK, j ≠ k → a j ≠ a k) (h60 : l.length ≤ 60) (hr : SpAt w r l) (h : stE l = 0 ∧ ∀ s ∈ l, 0 ≤ s.1 ∧ s.1 ≤ 2) :
    Calls Tryd.prog 5 #[.slice r l.length cap, .agg #[.float .f64 v1, .float .f64 v2, .float .f64 v3]] w (Post (fun v => v = .bool true) w) := by
  obtain ⟨i0, hi, hz0, hz1, hz2⟩ := info_parts info_step
  have HI := Lib.hid hi
  have HZ0 := Lib.hid hz0
  have HZ1 := Lib.hid hz1
  have HZ2 := Lib.hid hz2
  have HR := Lib.hid hr
  have HH := Lib.hid h
  have SV := Lib.hid (fun x (hx : Below w.heap.size w x) => (hs.below hx).sub (js := [2, 5]) (by decide))
  have CD : Hid (∀ x : World, Below w.heap.size w x → Calls Tryd.prog 10 #[.iface 106 (.pointer (some (a 5))), .int .i64 5] x fun e w' => e = .returned (.bool true) ∧ Below x.heap.size x w') := Lib.hid (fun x hx => by
    have k := coded_same a 5 (by decide) x (hs.below hx) (hh.below hx) hne
    rw [errV_pos a (k := 5) (by decide)] at k
    exact k)
  have SE := Lib.hid (fun x (hx : Below w.heap.size w x) => stepsError_walk r l cap x h60 (hr.below hx))
  clear hr hi hz0 hz1 hz2 hs hh hne h
  have s0 := trivial
  go_enter Tryd.func5, Tryd.ntmps5
  go_wp2_with (first
    | (clear s0
       go_at_call 11
       refine Grow.seal_calls ?_
       intro W hW
       have HG : Hid (Below w.heap.size w W) := Lib.hid (by rw [hW.out]; (repeat (with_reducible first | exact Grow.grow_refl _ | refine Grow.grow_setCell ?_ ?_ _ | refine Grow.grow_alloc ?_ _ | refine Grow.grow_drewN ?_ _ | refine Grow.grow_over ?_ _ | refine Grow.grow_via (by assumption) ?_)) <;> omega)
       have HZ : w.heap.size ≤ W.heap.size := Below.size HG.out
       apply Grow.have_known (W := W)
       · rw [hW.out]; exact Known.new _ _ _
       intro q3
       (try simp only [World.size_alloc] at q3)
       clear hW
       refine (pointed_walk _).mono ?_
       rintro e w1 hp
       obtain ⟨v, rfl, hp, hB⟩ := hp
       subst hp
       skip
       replace q3 := q3.below hB
       replace HG : Hid (Below w.heap.size w w1) := Lib.hid (Grow.grow_trans HG.out hB)
       replace HZ : w.heap.size ≤ w1.heap.size := Below.size HG.out
       clear hB
       have c3 := q3.cell; have f3 := q3.frozen; have l3 := q3.lt
       have s1 := trivial))
  go_loopw [6, 7] (fun v6 v7 wr => CopyRel 41 w1 l v6 v7 wr) (fun _ i _ => l.length - (intOf i).toNat)
  case atStart => exact ⟨0, Nat.zero_le _, rfl, World.ownsRow_nil _ _ _ _, Below.refl _ _⟩
  case round =>
    obtain ⟨k, hk, rfl, hown, hg⟩ := hrel
    have O := Lib.hid hown
    have GB := Lib.hid hg
    clear hown hg
    have hz := GB.out.size
    by_cases hlt : k < l.length
    · obtain ⟨b1, o1, rfl, hc⟩ := HR.out.resolve_left (by intro h; rw [h] at hlt; exact absurd hlt (by simp))
      obtain ⟨e0, e1⟩ := hc k hlt
      have hb1 : b1 < w.heap.size := lt_of_cellS e0
      have hb1'' : b1 < w1.heap.size := Nat.lt_of_lt_of_le hb1 HZ
      rw [← HG.out.cell (p := ⟨b1, _, none⟩) hb1, ← GB.out.cell (p := ⟨b1, _, none⟩) hb1''] at e0 e1
      have TS := Lib.hid (take_snocS l k hlt)
      clear hc
      generalize l[k] = x at e0 e1 TS
      obtain ⟨xa, xb⟩ := x
      simp only at e0 e1
      have hb1' : b1 < wr.heap.size := Nat.lt_of_lt_of_le hb1'' hz
      have hi0 : (0 : Int) ≤ (k : Int) := by omega
      have hi1 : (k : Int) < (l.length : Int) := by omega
      go_wp2
      refine Grow.wp_region_reads1 [0, 1, 2, 3, 4, 6, 7, 8, 9] [5, 10] [11, 12, 13, 14] (by kernel_rfl) (by kernel_rfl) (by kernel_rfl) (by kernel_rfl) (by kernel_rfl) (by kernel_rfl) ?_ ?_
      · intro c aa d v ww h
        simp (config := {zetaDelta := true}) only [Exit.then, Exit.inBlock] at h ⊢
        exact Grow.bodyPost_blind h
      simp only [Grow.pick, List.getElem?_cons_zero, List.getElem?_cons_succ, List.cons_append, List.nil_append]
      repeat (go_big_quiet_step (fail))
      refine wpQuiet_nil ?_
      repeat (go_big_quiet_step (fail))
      refine wpQuiet_nil ?_
      have OX := Lib.hid (ownsRow_belowS O.out (grow_drew (grow_refl wr)))
      have GX := Lib.hid (Below.drew GB.out)
      clear O GB e0 e1
      generalize wr.drew = w4 at OX GX ⊢
      have hz4 := GX.out.size
      have C3 := Lib.hid (show k + 1 ≤ maxLen by unfold maxLen; omega)
      have C4 := Lib.hid (show (k + 1) * 16 ≤ 140737488355328 by omega)
      have C5 := Lib.hid (show w1.heap.size ≤ (w4.alloc (.cells #[Value.int .i64 xa, Value.int .i64 xb] 41)).heap.size by simp; omega)
      go_wp2_with (at_builtin; refine wpList_append_own _ rfl _ _ 38 rfl w1.heap.size 41 i0 (.agg #[.int .i64 0, .int .i64 0]) 2 16 Tryd.underlying38 HI.out HZ0.out HZ1.out HZ2.out rfl (by decide) _ _ _ rfl (OX.out.alloc _) ⟨w4.heap.size, 0, none⟩ 1 1 [.int .i64 xa, .int .i64 xb] rfl rfl (news_sp _ _ _) (sp_cell _ _) C3.out C4.out C5.out ?_)
      intro v' w5 hown' hg' _
      have HO2 := Lib.hid hown'
      have HG2 := Lib.hid hg'
      clear hown' hg'
      go_wp2
      go_roundw
      case rel =>
        refine ⟨k + 1, by omega, by go_num, ?_, below_grownS (GX.out.alloc hz4 _) (by simp; omega) HG2.out (fun k hk => (OX.out.lt k hk).1)⟩
        rw [TS.out, spL_append]
        exact HO2.out
      case measure => simp [intOf]; omega
    · obtain rfl : k = l.length := by omega
      rw [List.take_length] at O
      obtain ⟨r', c', hv, hx⟩ := sp_of_owns O.out
      subst hv
      have HM := Lib.hid hx
      clear hx O hlt hk HI HZ0 HZ1 HZ2
      have q3' := q3.below GB.out
      have HG' : Hid (Below w.heap.size w wr) := Lib.hid (grow_trans HG.out GB.out)
      clear s1 c3 f3 l3 q3 HG HZ GB
      have q3 := q3'
      have HG := HG'
      have HZ : w.heap.size ≤ wr.heap.size := Below.size HG.out
      clear q3' HG' hz
      have s1 := trivial
      have c3 := q3.cell; have f3 := q3.frozen; have l3 := q3.lt
      have HS5 := Lib.hid (show ((stE l : Nat) : Int) = 0 by rw [HH.out.1]; rfl)
      rw [HS5.out] at SE
      go_wp2_with (first
        | (clear s1
           go_at_call 12
           refine Grow.seal_calls ?_
           intro W hW
           have HG2 : Hid (Below w.heap.size w W) := Lib.hid (by rw [hW.out]; (repeat (with_reducible first | exact Grow.grow_refl _ | refine Grow.grow_setCell ?_ ?_ _ | refine Grow.grow_alloc ?_ _ | refine Grow.grow_drewN ?_ _ | refine Grow.grow_over ?_ _ | refine Grow.grow_via (by assumption) ?_)) <;> omega)
           clear HG
           have HG := HG2
           clear HG2
           clear c3 f3
           apply Grow.have_known (W := W)
           · rw [hW.out]; apply Known.at q3; (repeat (with_reducible first | exact q3 | apply Known.same | apply Known.other | apply Known.alloc | apply Known.drewN)) <;> omega
           clear q3
           intro q3
           (try simp only [List.setIfInBounds_toArray, List.set_cons_zero, List.set_cons_succ] at q3)
           replace HZ : w.heap.size ≤ W.heap.size := Below.size HG.out
           have HM2 := Lib.hid (show SpAt W r' l from by rw [hW.out]; exact HM.out.below (by (repeat (with_reducible first | exact Grow.grow_refl _ | refine Grow.grow_setCell ?_ ?_ _ | refine Grow.grow_alloc ?_ _ | refine Grow.grow_drewN ?_ _ | refine Grow.grow_over ?_ _ | refine Grow.grow_via (by assumption) ?_)) <;> omega))
           clear HM
           have HM := HM2
           clear HM2
           clear hW
           (with_reducible refine (SE.out _ HG.out).mono ?_)
           rintro e w1 ⟨rfl, hB⟩
           replace q3 := q3.below hB
           replace HG : Hid (Below w.heap.size w w1) := Lib.hid (Grow.grow_trans HG.out hB)
           replace HZ : w.heap.size ≤ w1.heap.size := Below.size HG.out
           (try replace HM := Lib.hid (HM.out.below hB))
           clear hB
           have c3 := q3.cell; have f3 := q3.frozen; have l3 := q3.lt
           have s2 := trivial)
        | (clear s2
           go_at_call 13
           refine Grow.seal_calls ?_
           intro W hW
           have HG2 : Hid (Below w.heap.size w W) := Lib.hid (by rw [hW.out]; (repeat (with_reducible first | exact Grow.grow_refl _ | refine Grow.grow_setCell ?_ ?_ _ | refine Grow.grow_alloc ?_ _ | refine Grow.grow_drewN ?_ _ | refine Grow.grow_over ?_ _ | refine Grow.grow_via (by assumption) ?_)) <;> omega)
           clear HG
           have HG := HG2
           clear HG2
           clear c3 f3
           apply Grow.have_known (W := W)
           · rw [hW.out]; apply Known.at q3; (repeat (with_reducible first | exact q3 | apply Known.same | apply Known.other | apply Known.alloc | apply Known.drewN)) <;> omega
           clear q3
           intro q3
           (try simp only [List.setIfInBounds_toArray, List.set_cons_zero, List.set_cons_succ] at q3)
           replace HZ : w.heap.size ≤ W.heap.size := Below.size HG.out
           have HM2 := Lib.hid (show SpAt W r' l from by rw [hW.out]; exact HM.out.below (by (repeat (with_reducible first | exact Grow.grow_refl _ | refine Grow.grow_setCell ?_ ?_ _ | refine Grow.grow_alloc ?_ _ | refine Grow.grow_drewN ?_ _ | refine Grow.grow_over ?_ _ | refine Grow.grow_via (by assumption) ?_)) <;> omega))
           clear HM
           have HM := HM2
           clear HM2
           clear hW
           (with_reducible refine (along_walk a r' l c' _ _ _ _ (SV.out _ HG.out) h60 HM.out).mono ?_)
           rintro e w1 hp
           obtain ⟨v, rfl, hp, hB⟩ := hp
           obtain ⟨x1, x2, x3, rfl, hx⟩ := hp.get0 HH.out.1
           have HX := Lib.hid hx
           clear hx hp
           replace q3 := q3.below hB
           replace HG : Hid (Below w.heap.size w w1) := Lib.hid (Grow.grow_trans HG.out hB)
           replace HZ : w.heap.size ≤ w1.heap.size := Below.size HG.out
           (try replace HM := Lib.hid (HM.out.below hB))
           clear hB
           have c3 := q3.cell; have f3 := q3.frozen; have l3 := q3.lt
           have s3 := trivial)
        | (clear s3
           go_at_call 14
           refine Grow.seal_calls ?_
           intro W hW
           have HG2 : Hid (Below w.heap.size w W) := Lib.hid (by rw [hW.out]; (repeat (with_reducible first | exact Grow.grow_refl _ | refine Grow.grow_setCell ?_ ?_ _ | refine Grow.grow_alloc ?_ _ | refine Grow.grow_drewN ?_ _ | refine Grow.grow_over ?_ _ | refine Grow.grow_via (by assumption) ?_)) <;> omega)
           clear HG
           have HG := HG2
           clear HG2
           clear c3 f3
           apply Grow.have_known (W := W)
           · rw [hW.out]; apply Known.at q3; (repeat (with_reducible first | exact q3 | apply Known.same | apply Known.other | apply Known.alloc | apply Known.drewN)) <;> omega
           clear q3
           intro q3
           (try simp only [List.setIfInBounds_toArray, List.set_cons_zero, List.set_cons_succ] at q3)
           apply Grow.have_known (W := W) (b := w1.heap.size)
           · rw [hW.out]; (repeat (with_reducible first | exact Known.new _ _ _ | (refine known_at ?_; simp; done) | apply Known.same | apply Known.other | apply Known.alloc | apply Known.drewN)) <;> omega
           intro q9
           (try simp only [World.size_alloc, World.size_setCell, World.heap_drewN] at q9)
           (try simp only [List.setIfInBounds_toArray, List.set_cons_zero, List.set_cons_succ] at q9)
           have m9 := q9.ge (n := w.heap.size) (by omega)
           replace HZ : w.heap.size ≤ W.heap.size := Below.size HG.out
           have HM2 := Lib.hid (show SpAt W r' l from by rw [hW.out]; exact HM.out.below (by (repeat (with_reducible first | exact Grow.grow_refl _ | refine Grow.grow_setCell ?_ ?_ _ | refine Grow.grow_alloc ?_ _ | refine Grow.grow_drewN ?_ _ | refine Grow.grow_over ?_ _ | refine Grow.grow_via (by assumption) ?_)) <;> omega))
           clear HM
           have HM := HM2
           clear HM2
           clear hW
           (with_reducible refine (against_walk a r' l c' _ _ _ _ (SV.out _ HG.out) h60 HM.out).mono ?_)
           rintro e w1 hp
           obtain ⟨v, rfl, hp, hB⟩ := hp
           obtain ⟨y1, y2, y3, rfl, hy⟩ := hp.get0 HH.out.1
           have HY := Lib.hid hy
           clear hy hp
           replace q3 := q3.below hB
           replace q9 := q9.below hB
           replace HG : Hid (Below w.heap.size w w1) := Lib.hid (Grow.grow_trans HG.out hB)
           replace HZ : w.heap.size ≤ w1.heap.size := Below.size HG.out
           (try replace HM := Lib.hid (HM.out.below hB))
           clear hB
           have c3 := q3.cell; have f3 := q3.frozen; have l3 := q3.lt
           have c9 := q9.cell; have f9 := q9.frozen; have l9 := q9.lt
           have s4 := trivial))
      obtain ⟨wB, rfl⟩ : ∃ x, x = w1 := ⟨_, rfl⟩
      have K3 := Lib.hid q3
      have K9 := Lib.hid q9
      have KM := HM
      have KG := HG
      have HG : Hid (Below wB.heap.size wB wB) := Lib.hid (Grow.grow_refl _)
      clear c3 f3 l3 c9 f9 l9 q3 q9 HM HZ
      refine Grow.seal_wp ?_
      intro W hW
      have HG2 : Hid (Below wB.heap.size wB W) := Lib.hid (by rw [hW.out]; (repeat (with_reducible first | exact Grow.grow_refl _ | refine Grow.grow_setCell ?_ ?_ _ | refine Grow.grow_alloc ?_ _ | refine Grow.grow_drewN ?_ _ | refine Grow.grow_over ?_ _ | refine Grow.grow_via (by assumption) ?_)) <;> omega)
      clear HG
      have HG := HG2
      clear HG2
      apply Grow.have_known (W := W) (b := wB.heap.size)
      · rw [hW.out]; (repeat (with_reducible first | exact Known.new _ _ _ | (refine known_at ?_; simp; done) | apply Known.same | apply Known.other | apply Known.alloc | apply Known.drewN)) <;> omega
      intro q11
      (try simp only [World.size_alloc, World.size_setCell, World.heap_drewN] at q11)
      (try simp only [List.setIfInBounds_toArray, List.set_cons_zero, List.set_cons_succ] at q11)
      have m11 := q11.ge (n := wB.heap.size) (by omega)
      apply Grow.have_known (W := W) (b := (wB.heap.size + 1))
      · rw [hW.out]; (repeat (with_reducible first | exact Known.new _ _ _ | (refine known_at ?_; simp; done) | apply Known.same | apply Known.other | apply Known.alloc | apply Known.drewN)) <;> omega
      intro q13
      (try simp only [World.size_alloc, World.size_setCell, World.heap_drewN] at q13)
      (try simp only [List.setIfInBounds_toArray, List.set_cons_zero, List.set_cons_succ] at q13)
      have m13 := q13.ge (n := wB.heap.size) (by omega)
      apply Grow.have_known (W := W) (b := (wB.heap.size + 1 + 1))
      · rw [hW.out]; (repeat (with_reducible first | exact Known.new _ _ _ | (refine known_at ?_; simp; done) | apply Known.same | apply Known.other | apply Known.alloc | apply Known.drewN)) <;> omega
      intro q14
      (try simp only [World.size_alloc, World.size_setCell, World.heap_drewN] at q14)
      (try simp only [List.setIfInBounds_toArray, List.set_cons_zero, List.set_cons_succ] at q14)
      have m14 := q14.ge (n := wB.heap.size) (by omega)
      replace HZ : wB.heap.size ≤ W.heap.size := Below.size HG.out
      clear hW
      have c11 := q11.cell; have f11 := q11.frozen; have l11 := q11.lt
      have c13 := q13.cell; have f13 := q13.frozen; have l13 := q13.lt
      have c14 := q14.cell; have f14 := q14.frozen; have l14 := q14.lt
    
      go_loopw [15] (fun v wr => ChainRel l ⟨fl v1, fl v2, fl v3⟩ wB wB.heap.size (wB.heap.size + 1) (wB.heap.size + 1 + 1) y1 y2 y3 v wr) (fun i _ => l.length - (intOf i).toNat)
      case atStart => exact ⟨0, _, _, _, _, _, _, Nat.zero_le _, rfl, rfl, by rw [Nat.sub_zero, List.drop_length]; rfl, q13, q14, q11, HG.out⟩
      case round =>
        clear s4 c11 f11 l11 c13 f13 l13 c14 f14 l14 q11 q13 q14 HG HZ
        obtain ⟨k, a1, a2, a3, b1, b2, b3, hk, rfl, hA, hB, q13, q14, q11, hb⟩ := hrel
        have HG : Hid (Below wB.heap.size wB wr) := Lib.hid hb
        have HZ : wB.heap.size ≤ wr.heap.size := Below.size hb
        have HA1 := Lib.hid hA
        have HB1 := Lib.hid hB
        clear hb hA hB
        have c13 := q13.cell; have f13 := q13.frozen; have l13 := q13.lt
        have c14 := q14.cell; have f14 := q14.frozen; have l14 := q14.lt
        have c11 := q11.cell; have f11 := q11.frozen; have l11 := q11.lt
        by_cases hlt : k < l.length
        · obtain ⟨j, hj⟩ : ∃ j, l.length - k = j + 1 := ⟨l.length - k - 1, by omega⟩
          have hjl : j < l.length := by omega
          obtain ⟨b0, o0, rfl, hc⟩ := (HR.out.below (grow_trans KG.out HG.out)).resolve_left (by intro h; rw [h] at hlt; exact absurd hlt (by simp))
          clear hc
          obtain ⟨e0, e1⟩ := SpAt.get (HR.out.below (grow_trans KG.out HG.out)) hlt
          have hlb := lt_of_cellS (SpAt.get HR.out hlt).1
          simp only at hlb
          have KZ := Below.size KG.out
          have hi0 : (0 : Int) ≤ (k : Int) := by omega
          have hi1 : (k : Int) < (l.length : Int) := by omega
          have hj0 : (0 : Int) ≤ (j : Int) := by omega
          have hj1 : (j : Int) < (l.length : Int) := by omega
          have ejk : (l.length : Int) - 1 - (k : Int) = (j : Int) := by omega
          have HA := Lib.hid (show l[k].1 = 0 ∨ l[k].1 = 1 ∨ l[k].1 = 2 by have := HH.out.2 _ (List.getElem_mem hlt); omega)
          have HA2 := Lib.hid (show l[j].1 = 0 ∨ l[j].1 = 1 ∨ l[j].1 = 2 by have := HH.out.2 _ (List.getElem_mem hjl); omega)
          have HS := Lib.hid ((along_snoc l k hlt ⟨fl v1, fl v2, fl v3⟩).trans (congrArg (Fe.trF l[k].1 l[k].2) HA1.out.symm))
          have HS2 := Lib.hid (show Fe.againstF (l.drop (l.length - (k + 1))) ⟨fl v1, fl v2, fl v3⟩ = Fe.trF l[j].1 (-nrm l[j].2) ⟨fl b1, fl b2, fl b3⟩ by
            have e := HB1.out
            rw [hj] at e
            rw [show l.length - (k + 1) = j by omega, against_step l j hjl, ← e])
          have HJ := Lib.hid (fun x (hx : Below w.heap.size w x) => SpAt.get (HR.out.below hx) hjl)
          generalize l[k] = y at e0 e1 HA HS
          obtain ⟨xa, xb⟩ := y
          simp only at e0 e1 HA HS
          generalize l[j] = y at HA2 HS2 HJ
          obtain ⟨ya, yb⟩ := y
          simp only at HA2 HS2 HJ
          have hnr := nrm_in yb
          go_wp2
          refine Rel.wp_region_rel_tail SpecTB 6 (by kernel_rfl) (lexTailB_of_fast (by kernel_rfl) (by kernel_rfl) (by kernel_rfl)) ?_
          simp only [List.append_eq, List.cons_append, List.nil_append, List.take_succ_cons, List.take_zero, List.drop_succ_cons, List.drop_zero]
          repeat (first
            | (refine rel_arith (by rfl) rfl (by rfl) rfl rfl ?_; intro b1 H1; simp only [Act.put, List.setIfInBounds_toArray, List.set_cons_zero, List.set_cons_succ])
            | (refine rel_call (f := 16) (args := #[.agg #[.int .i64 _, .int .i64 _], .agg #[.float .f64 _, .float .f64 _, .float .f64 _]]) (by rfl) rfl (callAt_func rfl Tryd.func16 (by kernel_rfl) (by kernel_rfl) rfl) (keeps_over (fun v h => h) fun x => turnBy_walk _ _ HA.out _ _ _ _) ?_; rintro _ ⟨t1, t2, t3, rfl, g1, g2, g3⟩; have GT := Lib.hid (v3_eqk g1 g2 g3); clear g1 g2 g3; simp only [Act.put, List.setIfInBounds_toArray, List.set_cons_zero, List.set_cons_succ])
            | (refine rel_plain (by rfl) rfl ?_; intro K hK; go_big_quiet_op; go_big_quiet_on)
            | (refine rel_skip (by rfl) ?_; simp only [Act.put, List.setIfInBounds_toArray, List.set_cons_zero, List.set_cons_succ]))
          refine Rel.wpRel_nil ?_
          intro w9 hB9 hG9
          clear c11 f11 c13 f13 c14 f14
          replace q11 := q11.below hB9
          replace q13 := q13.below hB9
          replace q14 := q14.below hB9
          clear hG9
          replace HG : Hid (Below wB.heap.size wB w9) := Lib.hid (Grow.grow_trans HG.out hB9)
          replace HZ : wB.heap.size ≤ w9.heap.size := Below.size HG.out
          clear hB9
          have c11 := q11.cell
          have f11 := q11.frozen
          have l11 := q11.lt
          have c13 := q13.cell
          have f13 := q13.frozen
          have l13 := q13.lt
          have c14 := q14.cell
          have f14 := q14.frozen
          have l14 := q14.lt

          obtain ⟨e2, e3⟩ := HJ.out _ (grow_trans KG.out HG.out)
          clear e0 e1
          go_wp2
          refine Grow.seal_wp ?_
          intro W hW
          have HG2 : Hid (Below wB.heap.size wB W) := Lib.hid (by rw [hW.out]; (repeat (with_reducible first | exact Grow.grow_refl _ | refine Grow.grow_setCell ?_ ?_ _ | refine Grow.grow_alloc ?_ _ | refine Grow.grow_drewN ?_ _ | refine Grow.grow_over ?_ _ | refine Grow.grow_via (by assumption) ?_)) <;> omega)
          clear HG
          have HG := HG2
          clear HG2
          clear c11 f11 c13 f13 c14 f14
          apply Grow.have_known (W := W)
          · rw [hW.out]; apply Known.at q11; (repeat (with_reducible first | exact q11 | apply Known.same | apply Known.other | apply Known.alloc | apply Known.drewN)) <;> omega
          clear q11
          intro q11
          (try simp only [List.setIfInBounds_toArray, List.set_cons_zero, List.set_cons_succ] at q11)
          apply Grow.have_known (W := W)
          · rw [hW.out]; apply Known.at q13; (repeat (with_reducible first | exact q13 | apply Known.same | apply Known.other | apply Known.alloc | apply Known.drewN)) <;> omega
          clear q13
          intro q13
          (try simp only [List.setIfInBounds_toArray, List.set_cons_zero, List.set_cons_succ] at q13)
          apply Grow.have_known (W := W)
          · rw [hW.out]; apply Known.at q14; (repeat (with_reducible first | exact q14 | apply Known.same | apply Known.other | apply Known.alloc | apply Known.drewN)) <;> omega
          clear q14
          intro q14
          (try simp only [List.setIfInBounds_toArray, List.set_cons_zero, List.set_cons_succ] at q14)
          apply Grow.have_known (W := W) (b := w9.heap.size)
          · rw [hW.out]; (repeat (with_reducible first | exact Known.new _ _ _ | (refine known_at ?_; simp; done) | apply Known.same | apply Known.other | apply Known.alloc | apply Known.drewN)) <;> omega
          intro q16
          (try simp only [World.size_alloc, World.size_setCell, World.heap_drewN] at q16)
          (try simp only [List.setIfInBounds_toArray, List.set_cons_zero, List.set_cons_succ] at q16)
          have m16 := q16.ge (n := wB.heap.size) (by omega)
          replace HZ : wB.heap.size ≤ W.heap.size := Below.size HG.out
          clear hW
          have c11 := q11.cell; have f11 := q11.frozen; have l11 := q11.lt
          have c13 := q13.cell; have f13 := q13.frozen; have l13 := q13.lt
          have c14 := q14.cell; have f14 := q14.frozen; have l14 := q14.lt
          have c16 := q16.cell; have f16 := q16.frozen; have l16 := q16.lt

          refine Rel.wp_region_rel_tail SpecTB 9 (by kernel_rfl) (lexTailB_of_fast (by kernel_rfl) (by kernel_rfl) (by kernel_rfl)) ?_
          simp only [List.append_eq, List.cons_append, List.nil_append, List.take_succ_cons, List.take_zero, List.drop_succ_cons, List.drop_zero]
          repeat (first
            | (refine rel_arith (by rfl) rfl (by rfl) rfl rfl ?_; intro b1 H1; simp only [Act.put, List.setIfInBounds_toArray, List.set_cons_zero, List.set_cons_succ])
            | (refine rel_call (f := 8) (args := #[.int .i64 _]) (by rfl) rfl (callAt_func rfl Tryd.func8 (by kernel_rfl) (by kernel_rfl) rfl) (keeps_over (fun v h => h) fun x => normOf_post _ _) ?_; rintro _ rfl; skip; simp only [Act.put, List.setIfInBounds_toArray, List.set_cons_zero, List.set_cons_succ])
            | (refine rel_call (f := 16) (args := #[.agg #[.int .i64 _, .int .i64 _], .agg #[.float .f64 _, .float .f64 _, .float .f64 _]]) (by rfl) rfl (callAt_func rfl Tryd.func16 (by kernel_rfl) (by kernel_rfl) rfl) (keeps_over (fun v h => h) fun x => turnBy_walk _ _ HA2.out _ _ _ _) ?_; rintro _ ⟨u1, u2, u3, rfl, g1, g2, g3⟩; have GU := Lib.hid (v3_eqk g1 g2 g3); clear g1 g2 g3; simp only [Act.put, List.setIfInBounds_toArray, List.set_cons_zero, List.set_cons_succ])
            | (refine rel_plain (by rfl) rfl ?_; intro K hK; go_big_quiet_op; go_big_quiet_on)
            | (refine rel_skip (by rfl) ?_; simp only [Act.put, List.setIfInBounds_toArray, List.set_cons_zero, List.set_cons_succ]))
          refine Rel.wpRel_nil ?_
          intro w9 hB9 hG9
          clear c11 f11 c13 f13 c14 f14 c16 f16
          replace q11 := q11.below hB9
          replace q13 := q13.below hB9
          replace q14 := q14.below hB9
          replace q16 := q16.below hB9
          clear hG9
          replace HG : Hid (Below wB.heap.size wB w9) := Lib.hid (Grow.grow_trans HG.out hB9)
          replace HZ : wB.heap.size ≤ w9.heap.size := Below.size HG.out
          clear hB9
          have c11 := q11.cell
          have f11 := q11.frozen
          have l11 := q11.lt
          have c13 := q13.cell
          have f13 := q13.frozen
          have l13 := q13.lt
          have c14 := q14.cell
          have f14 := q14.frozen
          have l14 := q14.lt
          have c16 := q16.cell
          have f16 := q16.frozen
          have l16 := q16.lt
          go_wp2

          go_roundw
          case rel =>
            refine ⟨k + 1, _, _, _, _, _, _, by omega, by go_num, GT.out.trans HS.out.symm, GU.out.trans HS2.out.symm, ?_, ?_, ?_, ?_⟩
            · exact known_eq (by apply Known.at q13; (repeat (with_reducible first | exact q13 | apply Known.same | apply Known.other | apply Known.alloc | apply Known.drewN)) <;> omega) (by (try simp only [List.setIfInBounds_toArray, List.set_cons_zero, List.set_cons_succ]))
            · exact known_eq (by apply Known.at q14; (repeat (with_reducible first | exact q14 | apply Known.same | apply Known.other | apply Known.alloc | apply Known.drewN)) <;> omega) (by (try simp only [List.setIfInBounds_toArray, List.set_cons_zero, List.set_cons_succ]))
            · apply Known.at q11; (repeat (with_reducible first | exact q11 | apply Known.same | apply Known.other | apply Known.alloc | apply Known.drewN)) <;> omega
            · (repeat (with_reducible first | exact Grow.grow_refl _ | refine Grow.grow_setCell ?_ ?_ _ | refine Grow.grow_alloc ?_ _ | refine Grow.grow_drewN ?_ _ | refine Grow.grow_over ?_ _ | refine Grow.grow_via (by assumption) ?_)) <;> omega
          case measure => simp [intOf]; omega
        · obtain rfl : k = l.length := by omega
          rw [List.take_length] at HA1
          rw [Nat.sub_self, List.drop_zero] at HB1
          have q3 := K3.out.below HG.out
          have q9 := K9.out.below HG.out
          have HM := Lib.hid (KM.out.below HG.out)
          have HG2 : Hid (Below w.heap.size w wr) := Lib.hid (grow_trans KG.out HG.out)
          clear HG HZ K3 K9 KM KG
          have HG := HG2
          clear HG2
          have HZ : w.heap.size ≤ wr.heap.size := Below.size HG.out
          have c3 := q3.cell; have f3 := q3.frozen; have l3 := q3.lt
          have c9 := q9.cell; have f9 := q9.frozen; have l9 := q9.lt
          have s0 := trivial
          go_wp2_with (first
            | (clear s0
               go_at_call 15
               refine Grow.seal_calls ?_
               intro W hW
               have HG2 : Hid (Below w.heap.size w W) := Lib.hid (by rw [hW.out]; (repeat (with_reducible first | exact Grow.grow_refl _ | refine Grow.grow_setCell ?_ ?_ _ | refine Grow.grow_alloc ?_ _ | refine Grow.grow_drewN ?_ _ | refine Grow.grow_over ?_ _ | refine Grow.grow_via (by assumption) ?_)) <;> omega)
               clear HG
               have HG := HG2
               clear HG2
               clear c3 f3 c9 f9 c11 f11 c13 f13 c14 f14
               apply Grow.have_known (W := W)
               · rw [hW.out]; apply Known.at q3; (repeat (with_reducible first | exact q3 | apply Known.same | apply Known.other | apply Known.alloc | apply Known.drewN)) <;> omega
               clear q3
               intro q3
               (try simp only [List.setIfInBounds_toArray, List.set_cons_zero, List.set_cons_succ] at q3)
               apply Grow.have_known (W := W)
               · rw [hW.out]; apply Known.at q9; (repeat (with_reducible first | exact q9 | apply Known.same | apply Known.other | apply Known.alloc | apply Known.drewN)) <;> omega
               clear q9
               intro q9
               (try simp only [List.setIfInBounds_toArray, List.set_cons_zero, List.set_cons_succ] at q9)
               apply Grow.have_known (W := W)
               · rw [hW.out]; apply Known.at q11; (repeat (with_reducible first | exact q11 | apply Known.same | apply Known.other | apply Known.alloc | apply Known.drewN)) <;> omega
               clear q11
               intro q11
               (try simp only [List.setIfInBounds_toArray, List.set_cons_zero, List.set_cons_succ] at q11)
               apply Grow.have_known (W := W)
               · rw [hW.out]; apply Known.at q13; (repeat (with_reducible first | exact q13 | apply Known.same | apply Known.other | apply Known.alloc | apply Known.drewN)) <;> omega
               clear q13
               intro q13
               (try simp only [List.setIfInBounds_toArray, List.set_cons_zero, List.set_cons_succ] at q13)
               apply Grow.have_known (W := W)
               · rw [hW.out]; apply Known.at q14; (repeat (with_reducible first | exact q14 | apply Known.same | apply Known.other | apply Known.alloc | apply Known.drewN)) <;> omega
               clear q14
               intro q14
               (try simp only [List.setIfInBounds_toArray, List.set_cons_zero, List.set_cons_succ] at q14)
               replace HZ : w.heap.size ≤ W.heap.size := Below.size HG.out
               have HM2 := Lib.hid (show SpAt W r' l from by rw [hW.out]; exact HM.out.below (by (repeat (with_reducible first | exact Grow.grow_refl _ | refine Grow.grow_setCell ?_ ?_ _ | refine Grow.grow_alloc ?_ _ | refine Grow.grow_drewN ?_ _ | refine Grow.grow_over ?_ _ | refine Grow.grow_via (by assumption) ?_)) <;> omega))
               clear HM
               have HM := HM2
               clear HM2
               clear hW
               refine (sameVec_walk _ _ _ _ _ _ (congrArg V3.x (HX.out.trans HA1.out.symm)) (congrArg V3.y (HX.out.trans HA1.out.symm)) (congrArg V3.z (HX.out.trans HA1.out.symm)) _).mono ?_
               rintro e w1 hp
               obtain ⟨v, rfl, hp, hB⟩ := hp
               subst hp
               skip
               replace q3 := q3.below hB
               replace q9 := q9.below hB
               replace q11 := q11.below hB
               replace q13 := q13.below hB
               replace q14 := q14.below hB
               replace HG : Hid (Below w.heap.size w w1) := Lib.hid (Grow.grow_trans HG.out hB)
               replace HZ : w.heap.size ≤ w1.heap.size := Below.size HG.out
               replace HM := Lib.hid (HM.out.below hB)
               clear hB
               have c3 := q3.cell; have f3 := q3.frozen; have l3 := q3.lt
               have c9 := q9.cell; have f9 := q9.frozen; have l9 := q9.lt
               have c11 := q11.cell; have f11 := q11.frozen; have l11 := q11.lt
               have c13 := q13.cell; have f13 := q13.frozen; have l13 := q13.lt
               have c14 := q14.cell; have f14 := q14.frozen; have l14 := q14.lt
               have s1 := trivial)
            | (clear s1
               go_at_call 15
               refine Grow.seal_calls ?_
               intro W hW
               have HG2 : Hid (Below w.heap.size w W) := Lib.hid (by rw [hW.out]; (repeat (with_reducible first | exact Grow.grow_refl _ | refine Grow.grow_setCell ?_ ?_ _ | refine Grow.grow_alloc ?_ _ | refine Grow.grow_drewN ?_ _ | refine Grow.grow_over ?_ _ | refine Grow.grow_via (by assumption) ?_)) <;> omega)
               clear HG
               have HG := HG2
               clear HG2
               clear c3 f3 c9 f9 c11 f11 c13 f13 c14 f14
               apply Grow.have_known (W := W)
               · rw [hW.out]; apply Known.at q3; (repeat (with_reducible first | exact q3 | apply Known.same | apply Known.other | apply Known.alloc | apply Known.drewN)) <;> omega
               clear q3
               intro q3
               (try simp only [List.setIfInBounds_toArray, List.set_cons_zero, List.set_cons_succ] at q3)
               apply Grow.have_known (W := W)
               · rw [hW.out]; apply Known.at q9; (repeat (with_reducible first | exact q9 | apply Known.same | apply Known.other | apply Known.alloc | apply Known.drewN)) <;> omega
               clear q9
               intro q9
               (try simp only [List.setIfInBounds_toArray, List.set_cons_zero, List.set_cons_succ] at q9)
               apply Grow.have_known (W := W)
               · rw [hW.out]; apply Known.at q11; (repeat (with_reducible first | exact q11 | apply Known.same | apply Known.other | apply Known.alloc | apply Known.drewN)) <;> omega
               clear q11
               intro q11
               (try simp only [List.setIfInBounds_toArray, List.set_cons_zero, List.set_cons_succ] at q11)
               apply Grow.have_known (W := W)
               · rw [hW.out]; apply Known.at q13; (repeat (with_reducible first | exact q13 | apply Known.same | apply Known.other | apply Known.alloc | apply Known.drewN)) <;> omega
               clear q13
               intro q13
               (try simp only [List.setIfInBounds_toArray, List.set_cons_zero, List.set_cons_succ] at q13)
               apply Grow.have_known (W := W)
               · rw [hW.out]; apply Known.at q14; (repeat (with_reducible first | exact q14 | apply Known.same | apply Known.other | apply Known.alloc | apply Known.drewN)) <;> omega
               clear q14
               intro q14
               (try simp only [List.setIfInBounds_toArray, List.set_cons_zero, List.set_cons_succ] at q14)
               replace HZ : w.heap.size ≤ W.heap.size := Below.size HG.out
               have HM2 := Lib.hid (show SpAt W r' l from by rw [hW.out]; exact HM.out.below (by (repeat (with_reducible first | exact Grow.grow_refl _ | refine Grow.grow_setCell ?_ ?_ _ | refine Grow.grow_alloc ?_ _ | refine Grow.grow_drewN ?_ _ | refine Grow.grow_over ?_ _ | refine Grow.grow_via (by assumption) ?_)) <;> omega))
               clear HM
               have HM := HM2
               clear HM2
               clear hW
               refine (sameVec_walk _ _ _ _ _ _ (congrArg V3.x (HY.out.trans HB1.out.symm)) (congrArg V3.y (HY.out.trans HB1.out.symm)) (congrArg V3.z (HY.out.trans HB1.out.symm)) _).mono ?_
               rintro e w1 hp
               obtain ⟨v, rfl, hp, hB⟩ := hp
               subst hp
               skip
               replace q3 := q3.below hB
               replace q9 := q9.below hB
               replace q11 := q11.below hB
               replace q13 := q13.below hB
               replace q14 := q14.below hB
               replace HG : Hid (Below w.heap.size w w1) := Lib.hid (Grow.grow_trans HG.out hB)
               replace HZ : w.heap.size ≤ w1.heap.size := Below.size HG.out
               replace HM := Lib.hid (HM.out.below hB)
               clear hB
               have c3 := q3.cell; have f3 := q3.frozen; have l3 := q3.lt
               have c9 := q9.cell; have f9 := q9.frozen; have l9 := q9.lt
               have c11 := q11.cell; have f11 := q11.frozen; have l11 := q11.lt
               have c13 := q13.cell; have f13 := q13.frozen; have l13 := q13.lt
               have c14 := q14.cell; have f14 := q14.frozen; have l14 := q14.lt
               have s2 := trivial
               clear q11 c11 f11 l11 q13 c13 f13 l13 q14 c14 f14 l14 HA1 HB1 HY)
            | (clear s2
               go_at_call 17
               refine Grow.seal_calls ?_
               intro W hW
               have HG2 : Hid (Below w.heap.size w W) := Lib.hid (by rw [hW.out]; (repeat (with_reducible first | exact Grow.grow_refl _ | refine Grow.grow_setCell ?_ ?_ _ | refine Grow.grow_alloc ?_ _ | refine Grow.grow_drewN ?_ _ | refine Grow.grow_over ?_ _ | refine Grow.grow_via (by assumption) ?_)) <;> omega)
               clear HG
               have HG := HG2
               clear HG2
               clear c3 f3 c9 f9
               apply Grow.have_known (W := W)
               · rw [hW.out]; apply Known.at q3; (repeat (with_reducible first | exact q3 | apply Known.same | apply Known.other | apply Known.alloc | apply Known.drewN)) <;> omega
               clear q3
               intro q3
               (try simp only [List.setIfInBounds_toArray, List.set_cons_zero, List.set_cons_succ] at q3)
               apply Grow.have_known (W := W)
               · rw [hW.out]; apply Known.at q9; (repeat (with_reducible first | exact q9 | apply Known.same | apply Known.other | apply Known.alloc | apply Known.drewN)) <;> omega
               clear q9
               intro q9
               (try simp only [List.setIfInBounds_toArray, List.set_cons_zero, List.set_cons_succ] at q9)
               replace HZ : w.heap.size ≤ W.heap.size := Below.size HG.out
               have HM2 := Lib.hid (show SpAt W r' l from by rw [hW.out]; exact HM.out.below (by (repeat (with_reducible first | exact Grow.grow_refl _ | refine Grow.grow_setCell ?_ ?_ _ | refine Grow.grow_alloc ?_ _ | refine Grow.grow_drewN ?_ _ | refine Grow.grow_over ?_ _ | refine Grow.grow_via (by assumption) ?_)) <;> omega))
               clear HM
               have HM := HM2
               clear HM2
               clear hW
               refine (mildVec_walk _ _ _ _).mono ?_
               rintro e w1 hp
               obtain ⟨v, rfl, hp, hB⟩ := hp
               obtain ⟨r1, rfl, m1⟩ := hp
               have M1 := Lib.hid m1; clear m1
               replace q3 := q3.below hB
               replace q9 := q9.below hB
               replace HG : Hid (Below w.heap.size w w1) := Lib.hid (Grow.grow_trans HG.out hB)
               replace HZ : w.heap.size ≤ w1.heap.size := Below.size HG.out
               replace HM := Lib.hid (HM.out.below hB)
               clear hB
               have c3 := q3.cell; have f3 := q3.frozen; have l3 := q3.lt
               have c9 := q9.cell; have f9 := q9.frozen; have l9 := q9.lt
               have s3 := trivial)
            | (clear s3
               go_at_call 14
               refine Grow.seal_calls ?_
               intro W hW
               have HG2 : Hid (Below w.heap.size w W) := Lib.hid (by rw [hW.out]; (repeat (with_reducible first | exact Grow.grow_refl _ | refine Grow.grow_setCell ?_ ?_ _ | refine Grow.grow_alloc ?_ _ | refine Grow.grow_drewN ?_ _ | refine Grow.grow_over ?_ _ | refine Grow.grow_via (by assumption) ?_)) <;> omega)
               clear HG
               have HG := HG2
               clear HG2
               clear c3 f3 c9 f9
               apply Grow.have_known (W := W)
               · rw [hW.out]; apply Known.at q3; (repeat (with_reducible first | exact q3 | apply Known.same | apply Known.other | apply Known.alloc | apply Known.drewN)) <;> omega
               clear q3
               intro q3
               (try simp only [List.setIfInBounds_toArray, List.set_cons_zero, List.set_cons_succ] at q3)
               apply Grow.have_known (W := W)
               · rw [hW.out]; apply Known.at q9; (repeat (with_reducible first | exact q9 | apply Known.same | apply Known.other | apply Known.alloc | apply Known.drewN)) <;> omega
               clear q9
               intro q9
               (try simp only [List.setIfInBounds_toArray, List.set_cons_zero, List.set_cons_succ] at q9)
               replace HZ : w.heap.size ≤ W.heap.size := Below.size HG.out
               have HM2 := Lib.hid (show SpAt W r' l from by rw [hW.out]; exact HM.out.below (by (repeat (with_reducible first | exact Grow.grow_refl _ | refine Grow.grow_setCell ?_ ?_ _ | refine Grow.grow_alloc ?_ _ | refine Grow.grow_drewN ?_ _ | refine Grow.grow_over ?_ _ | refine Grow.grow_via (by assumption) ?_)) <;> omega))
               clear HM
               have HM := HM2
               clear HM2
               clear hW
               (with_reducible refine (against_walk a r' l c' _ _ _ _ (SV.out _ HG.out) h60 HM.out).mono ?_)
               rintro e w1 hp
               obtain ⟨v, rfl, hp, hB⟩ := hp
               obtain ⟨z1, z2, z3, rfl, hz⟩ := hp.get0 HH.out.1
               have HZV := Lib.hid (hz.trans (congrArg (Fe.againstF l) HX.out))
               clear hz hp
               replace q3 := q3.below hB
               replace q9 := q9.below hB
               replace HG : Hid (Below w.heap.size w w1) := Lib.hid (Grow.grow_trans HG.out hB)
               replace HZ : w.heap.size ≤ w1.heap.size := Below.size HG.out
               (try replace HM := Lib.hid (HM.out.below hB))
               clear hB
               have c3 := q3.cell; have f3 := q3.frozen; have l3 := q3.lt
               have c9 := q9.cell; have f9 := q9.frozen; have l9 := q9.lt
               have s4 := trivial)
            | (clear s4
               go_at_call 18
               refine Grow.seal_calls ?_
               intro W hW
               have HG2 : Hid (Below w.heap.size w W) := Lib.hid (by rw [hW.out]; (repeat (with_reducible first | exact Grow.grow_refl _ | refine Grow.grow_setCell ?_ ?_ _ | refine Grow.grow_alloc ?_ _ | refine Grow.grow_drewN ?_ _ | refine Grow.grow_over ?_ _ | refine Grow.grow_via (by assumption) ?_)) <;> omega)
               clear HG
               have HG := HG2
               clear HG2
               clear c3 f3 c9 f9
               apply Grow.have_known (W := W)
               · rw [hW.out]; apply Known.at q3; (repeat (with_reducible first | exact q3 | apply Known.same | apply Known.other | apply Known.alloc | apply Known.drewN)) <;> omega
               clear q3
               intro q3
               (try simp only [List.setIfInBounds_toArray, List.set_cons_zero, List.set_cons_succ] at q3)
               apply Grow.have_known (W := W)
               · rw [hW.out]; apply Known.at q9; (repeat (with_reducible first | exact q9 | apply Known.same | apply Known.other | apply Known.alloc | apply Known.drewN)) <;> omega
               clear q9
               intro q9
               (try simp only [List.setIfInBounds_toArray, List.set_cons_zero, List.set_cons_succ] at q9)
               apply Grow.have_known (W := W) (b := w1.heap.size)
               · rw [hW.out]; (repeat (with_reducible first | exact Known.new _ _ _ | (refine known_at ?_; simp; done) | apply Known.same | apply Known.other | apply Known.alloc | apply Known.drewN)) <;> omega
               intro q20
               (try simp only [World.size_alloc, World.size_setCell, World.heap_drewN] at q20)
               (try simp only [List.setIfInBounds_toArray, List.set_cons_zero, List.set_cons_succ] at q20)
               have m20 := q20.ge (n := w.heap.size) (by omega)
               replace HZ : w.heap.size ≤ W.heap.size := Below.size HG.out
               clear hW
               refine (lengthOf_walk _ _ _ _).mono ?_
               rintro e w1 hp
               obtain ⟨v, rfl, hp, hB⟩ := hp
               obtain ⟨nn, rfl, hb⟩ := hp
               have NN := Lib.hid hb; clear hb
               replace q3 := q3.below hB
               replace q9 := q9.below hB
               replace q20 := q20.below hB
               replace HG : Hid (Below w.heap.size w w1) := Lib.hid (Grow.grow_trans HG.out hB)
               replace HZ : w.heap.size ≤ w1.heap.size := Below.size HG.out
               clear hB
               have c3 := q3.cell; have f3 := q3.frozen; have l3 := q3.lt
               have c9 := q9.cell; have f9 := q9.frozen; have l9 := q9.lt
               have c20 := q20.cell; have f20 := q20.frozen; have l20 := q20.lt
               have s5 := trivial
               have GD := Lib.hid (chains_near HH.out.2 h60 (M1.out (by simp_all))); clear HM M1)
            | (clear s5; refine wpList_arith rfl rfl (by rfl) rfl rfl ?_; intro c1 n1 H1; have MO := Lib.hid (H1.trans (congrArg (fun t => fmul _ t) NN.out)); clear H1; have s5 := trivial; have a0 := trivial)
            | (clear a0; refine wpList_arith rfl rfl (by rfl) rfl rfl ?_; intro c1 n1 H1; have a1 := trivial)
            | (clear a1; refine wpList_arith_on (by rfl) rfl (by rfl) rfl rfl ?_; intro c1 n1 H1; have a1 := trivial)
            | (clear s5
               go_at_call 19
               refine Grow.seal_calls ?_
               intro W hW
               have HG2 : Hid (Below w.heap.size w W) := Lib.hid (by rw [hW.out]; (repeat (with_reducible first | exact Grow.grow_refl _ | refine Grow.grow_setCell ?_ ?_ _ | refine Grow.grow_alloc ?_ _ | refine Grow.grow_drewN ?_ _ | refine Grow.grow_over ?_ _ | refine Grow.grow_via (by assumption) ?_)) <;> omega)
               clear HG
               have HG := HG2
               clear HG2
               clear c3 f3 c9 f9 c20 f20
               apply Grow.have_known (W := W)
               · rw [hW.out]; apply Known.at q3; (repeat (with_reducible first | exact q3 | apply Known.same | apply Known.other | apply Known.alloc | apply Known.drewN)) <;> omega
               clear q3
               intro q3
               (try simp only [List.setIfInBounds_toArray, List.set_cons_zero, List.set_cons_succ] at q3)
               apply Grow.have_known (W := W)
               · rw [hW.out]; apply Known.at q9; (repeat (with_reducible first | exact q9 | apply Known.same | apply Known.other | apply Known.alloc | apply Known.drewN)) <;> omega
               clear q9
               intro q9
               (try simp only [List.setIfInBounds_toArray, List.set_cons_zero, List.set_cons_succ] at q9)
               apply Grow.have_known (W := W)
               · rw [hW.out]; apply Known.at q20; (repeat (with_reducible first | exact q20 | apply Known.same | apply Known.other | apply Known.alloc | apply Known.drewN)) <;> omega
               clear q20
               intro q20
               (try simp only [List.setIfInBounds_toArray, List.set_cons_zero, List.set_cons_succ] at q20)
               replace HZ : w.heap.size ≤ W.heap.size := Below.size HG.out
               clear hW
               refine (within_at _ _ _ _ GD.out.1 (H1.trans (congrArg (fun t => fsub t _) (congrArg V3.x HZV.out))) MO.out _).mono ?_
               rintro e w1 hp
               obtain ⟨v, rfl, hp, hB⟩ := hp
               subst hp
               skip
               replace q3 := q3.below hB
               replace q9 := q9.below hB
               replace q20 := q20.below hB
               replace HG : Hid (Below w.heap.size w w1) := Lib.hid (Grow.grow_trans HG.out hB)
               replace HZ : w.heap.size ≤ w1.heap.size := Below.size HG.out
               clear hB
               have c3 := q3.cell; have f3 := q3.frozen; have l3 := q3.lt
               have c9 := q9.cell; have f9 := q9.frozen; have l9 := q9.lt
               have c20 := q20.cell; have f20 := q20.frozen; have l20 := q20.lt
               have s6 := trivial
               clear H1)
            | (clear s6
               go_at_call 19
               refine Grow.seal_calls ?_
               intro W hW
               have HG2 : Hid (Below w.heap.size w W) := Lib.hid (by rw [hW.out]; (repeat (with_reducible first | exact Grow.grow_refl _ | refine Grow.grow_setCell ?_ ?_ _ | refine Grow.grow_alloc ?_ _ | refine Grow.grow_drewN ?_ _ | refine Grow.grow_over ?_ _ | refine Grow.grow_via (by assumption) ?_)) <;> omega)
               clear HG
               have HG := HG2
               clear HG2
               clear c3 f3 c9 f9 c20 f20
               apply Grow.have_known (W := W)
               · rw [hW.out]; apply Known.at q3; (repeat (with_reducible first | exact q3 | apply Known.same | apply Known.other | apply Known.alloc | apply Known.drewN)) <;> omega
               clear q3
               intro q3
               (try simp only [List.setIfInBounds_toArray, List.set_cons_zero, List.set_cons_succ] at q3)
               apply Grow.have_known (W := W)
               · rw [hW.out]; apply Known.at q9; (repeat (with_reducible first | exact q9 | apply Known.same | apply Known.other | apply Known.alloc | apply Known.drewN)) <;> omega
               clear q9
               intro q9
               (try simp only [List.setIfInBounds_toArray, List.set_cons_zero, List.set_cons_succ] at q9)
               apply Grow.have_known (W := W)
               · rw [hW.out]; apply Known.at q20; (repeat (with_reducible first | exact q20 | apply Known.same | apply Known.other | apply Known.alloc | apply Known.drewN)) <;> omega
               clear q20
               intro q20
               (try simp only [List.setIfInBounds_toArray, List.set_cons_zero, List.set_cons_succ] at q20)
               replace HZ : w.heap.size ≤ W.heap.size := Below.size HG.out
               clear hW
               refine (within_at _ _ _ _ GD.out.2.1 (H1.trans (congrArg (fun t => fsub t _) (congrArg V3.y HZV.out))) MO.out _).mono ?_
               rintro e w1 hp
               obtain ⟨v, rfl, hp, hB⟩ := hp
               subst hp
               skip
               replace q3 := q3.below hB
               replace q9 := q9.below hB
               replace q20 := q20.below hB
               replace HG : Hid (Below w.heap.size w w1) := Lib.hid (Grow.grow_trans HG.out hB)
               replace HZ : w.heap.size ≤ w1.heap.size := Below.size HG.out
               clear hB
               have c3 := q3.cell; have f3 := q3.frozen; have l3 := q3.lt
               have c9 := q9.cell; have f9 := q9.frozen; have l9 := q9.lt
               have c20 := q20.cell; have f20 := q20.frozen; have l20 := q20.lt
               have s7 := trivial
               clear H1)
            | (clear s7
               go_at_call 19
               refine Grow.seal_calls ?_
               intro W hW
               have HG2 : Hid (Below w.heap.size w W) := Lib.hid (by rw [hW.out]; (repeat (with_reducible first | exact Grow.grow_refl _ | refine Grow.grow_setCell ?_ ?_ _ | refine Grow.grow_alloc ?_ _ | refine Grow.grow_drewN ?_ _ | refine Grow.grow_over ?_ _ | refine Grow.grow_via (by assumption) ?_)) <;> omega)
               clear HG
               have HG := HG2
               clear HG2
               clear c3 f3 c9 f9 c20 f20
               apply Grow.have_known (W := W)
               · rw [hW.out]; apply Known.at q3; (repeat (with_reducible first | exact q3 | apply Known.same | apply Known.other | apply Known.alloc | apply Known.drewN)) <;> omega
               clear q3
               intro q3
               (try simp only [List.setIfInBounds_toArray, List.set_cons_zero, List.set_cons_succ] at q3)
               apply Grow.have_known (W := W)
               · rw [hW.out]; apply Known.at q9; (repeat (with_reducible first | exact q9 | apply Known.same | apply Known.other | apply Known.alloc | apply Known.drewN)) <;> omega
               clear q9
               intro q9
               (try simp only [List.setIfInBounds_toArray, List.set_cons_zero, List.set_cons_succ] at q9)
               apply Grow.have_known (W := W)
               · rw [hW.out]; apply Known.at q20; (repeat (with_reducible first | exact q20 | apply Known.same | apply Known.other | apply Known.alloc | apply Known.drewN)) <;> omega
               clear q20
               intro q20
               (try simp only [List.setIfInBounds_toArray, List.set_cons_zero, List.set_cons_succ] at q20)
               replace HZ : w.heap.size ≤ W.heap.size := Below.size HG.out
               clear hW
               refine (within_at _ _ _ _ GD.out.2.2 (H1.trans (congrArg (fun t => fsub t _) (congrArg V3.z HZV.out))) MO.out _).mono ?_
               rintro e w1 hp
               obtain ⟨v, rfl, hp, hB⟩ := hp
               subst hp
               skip
               replace q3 := q3.below hB
               replace q9 := q9.below hB
               replace q20 := q20.below hB
               replace HG : Hid (Below w.heap.size w w1) := Lib.hid (Grow.grow_trans HG.out hB)
               replace HZ : w.heap.size ≤ w1.heap.size := Below.size HG.out
               clear hB
               have c3 := q3.cell; have f3 := q3.frozen; have l3 := q3.lt
               have c9 := q9.cell; have f9 := q9.frozen; have l9 := q9.lt
               have c20 := q20.cell; have f20 := q20.frozen; have l20 := q20.lt
               have s8 := trivial
               clear H1))
          all_goals
            go_ret
            refine Post.mk (T := fun v => v = _) (by first | rfl | (simp; done) | (simp_all; done)) ?_
            (repeat (with_reducible first | exact Grow.grow_refl _ | refine Grow.grow_setCell ?_ ?_ _ | refine Grow.grow_alloc ?_ _ | refine Grow.grow_drewN ?_ _ | refine Grow.grow_over ?_ _ | refine Grow.grow_via (by assumption) ?_)) <;> omega

/-- The law's walk: SkyChains. -/
theorem skyChains_walk (a : Nat → Addr) (r : Option Addr) (l : List (Int × Int)) (cap v1 v2 v3 : Nat) (w : World) (hs : Sen a allK w) (hh : Hand w) (hne : ∀ j ∈ allK, ∀ k ∈ allK, j ≠ k → a j ≠ a k) (hl : l.length ≤ 9223372036854775807) (hr : SpAt w r l) :
    Calls Tryd.prog 5 #[.slice r l.length cap, .agg #[.float .f64 v1, .float .f64 v2, .float .f64 v3]] w fun e w' => e = .returned (.bool true) ∧ Below w.heap.size w w' := by
  have k : Calls Tryd.prog 5 #[.slice r l.length cap, .agg #[.float .f64 v1, .float .f64 v2, .float .f64 v3]] w (Post (fun v => v = .bool true) w) := by
    by_cases h60 : 60 < l.length
    · exact chains_long r l cap v1 v2 v3 w hl h60
    · rcases stE_or l with h | h
      · exact chains_good a r l cap v1 v2 v3 w hs hh hne (by omega) hr h
      · exact chains_bad a r l cap v1 v2 v3 w hs hh hne (by omega) hr h
  refine k.mono ?_
  rintro e w' ⟨v, rfl, rfl, hB⟩
  exact ⟨rfl, hB⟩
end Go.Proofs.YtdnclgpjcgamgaaDoor
