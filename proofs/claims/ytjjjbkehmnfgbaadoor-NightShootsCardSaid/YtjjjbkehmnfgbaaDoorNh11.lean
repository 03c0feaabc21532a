/- The night's house: a tool put in by its name. -/
import Derived.Test.YtjjjbkehmnfgbaaDoorNh10
import Derived.Deep.DeepCutAuto
import Derived.Deep.CutBlock
import Derived.Outline
import Derived.Laws.AppendOwnNone
set_option linter.unusedSimpArgs false
set_option linter.unusedVariables false
namespace Go.Proofs.YtjjjbkehmnfgbaaDoor
open Go.RowKit Go.Grow Go.Hs

def InsRelT (W1 : World) (l : List Tl) (s : Tl) (v5 v6 : Value) (wr : World) : Prop :=
  ∃ k : Nat, k ≤ l.length ∧ v6 = .int .i64 k ∧ wr.ownsRow W1.heap.size 80 7 v5 k (tlL (l.take k)) ∧ Below W1.heap.size W1 wr ∧ (∀ i (hi : i < l.length), i < k → lessN l[i].name s.name = true)
set_option maxRecDepth 100000 in
set_option maxHeartbeats 32000000 in
theorem byName_walk (r : Option Addr) (l : List Tl) (cap : Nat) (s : Tl) (w : World) (hl : l.length ≤ 1000000) (hc : l.length ≤ cap) (hc2 : cap ≤ maxLen) (hn : r = none → cap = 0) (hr : TsAt w r l) :
    Calls Tryd.prog 35 #[.slice r l.length cap, tlV s] w fun e w' => ∃ v, e = .returned v ∧ w'.ownsRow w.heap.size 80 7 v (insT l s).length (tlL (insT l s)) ∧ Below w.heap.size w w' := by
  obtain ⟨i0, hi, hz0, hz1, hz2⟩ := info_parts info_tl
  have HI := Lib.hid hi
  have HZ0 := Lib.hid hz0
  have HZ1 := Lib.hid hz1
  have HZ2 := Lib.hid hz2
  have HR0 := Lib.hid hr
  clear hr hi hz0 hz1 hz2
  unfold maxLen at hc2
  have hs := tlC_length s
  have BW0 := Lib.hid (grow_alloc (grow_refl w) (.cells (tlC s).toArray 80))
  have KB0 := Lib.hid (Known.new w (tlC s).toArray 80)
  unfold tlV
  unfold tlC at BW0 KB0
  go_enter Tryd.func35, Tryd.ntmps35
  go_wp2
  refine Grow.seal_wp ?_
  intro W1 hW1
  have BW := Lib.hid (show Below w.heap.size w W1 from hW1.out ▸ BW0.out)
  have KB := Lib.hid (show Known W1 w.heap.size #[.string s.name, .int .i64 s.kind, .int .i64 s.wide, .int .i64 s.high, .slice s.cr s.counts.length s.cc, .slice s.sr s.opens.length s.sc, .int .i64 s.alt] from hW1.out ▸ KB0.out)
  have HR := Lib.hid (HR0.out.below BW.out)
  clear hW1 BW0 KB0 HR0
  go_loopw [5, 6] (fun v5 v6 wr => InsRelT W1 l s v5 v6 wr) (fun _ i _ => l.length - (intOf i).toNat)
  case atStart => exact ⟨0, Nat.zero_le _, rfl, World.ownsRow_nil _ _ _ _, Below.refl _ _, fun i _ h => absurd h (by omega)⟩
  case round =>
    obtain ⟨k, hk, rfl, hown, hg, hpre⟩ := hrel
    have G := Lib.hid hg
    have Gd := Lib.hid (show Below W1.heap.size W1 wr.drew from grow_drew hg)
    have Od := Lib.hid (show wr.drew.ownsRow W1.heap.size 80 7 _ k (tlL (l.take k)) from ownsRow_belowS hown (grow_drew (grow_refl wr)))
    have HP := Lib.hid hpre
    clear hown hg hpre
    have hz := Gd.out.size
    by_cases hlt : k < l.length
    · obtain ⟨bb, oo, rfl, hcc⟩ := HR.out.resolve_left (by intro h; rw [h] at hlt; exact absurd hlt (by simp))
      have HC := Lib.hid hcc
      clear hcc
      have TS := Lib.hid (show l.take (k + 1) = l.take k ++ [tl l k] by rw [tl_get hlt]; exact List.take_succ_eq_append_getElem hlt)
      have HL := Lib.hid (show ∀ b, lessN (tl l k).name s.name = b → Op.bytesLess (tl l k).name.toList s.name.toList = b from fun b h => h)
      have hi0 : (0 : Int) ≤ (k : Int) := by omega
      have hi1 : (k : Int) < (l.length : Int) := by omega
      go_upto_region 3 with (fail)
      refine Grow.wp_region_plan (.quiet [0, 1] (.one 2 (.quiet [3, 4, 5, 6, 7, 8, 10] (.reads [9, 11] (.quiet [12, 13] (.tail [])))))) (by kernel_rfl) (by kernel_rfl) (by kernel_rfl) (by kernel_rfl) ?_ ?_
      · intro c aa d v ww h
        first
          | exact Grow.bodyPost_blind h
          | (simp (config := {zetaDelta := true}) only [Exit.then, Exit.inBlock] at h ⊢; first | exact Grow.bodyPost_blind h | exact h)
      simp only [Grow.Plan.wp, Grow.pick, List.getElem?_cons_zero, List.getElem?_cons_succ, List.cons_append, List.nil_append]
      generalize wr.drew = wd at Gd Od ⊢
      have KD := Lib.hid (KB.out.below Gd.out)
      have b0 := KD.out.cell 0
      have b1' := KD.out.cell 1
      have b2' := KD.out.cell 2
      have b3' := KD.out.cell 3
      have b4' := KD.out.cell 4
      have b5' := KD.out.cell 5
      have b6' := KD.out.cell 6
      have lb := KD.out.lt
      simp only [List.getElem?_toArray, List.getElem?_cons_zero, List.getElem?_cons_succ] at b0 b1' b2' b3' b4' b5' b6'
      obtain ⟨e0, e1, e2, e3, e4, e5, e6⟩ := ts_get (fun j u hu => (Gd.out.cell (p := ⟨bb, oo + j, none⟩) (lt_of_cellS (HC.out j u hu))).trans (HC.out j u hu)) hlt
      have lbb : bb < wd.heap.size := lt_of_cellS e0
      have C3 := Lib.hid (show k + 1 ≤ maxLen by unfold maxLen; omega)
      have C4 := Lib.hid (show (k + 1) * 96 ≤ 140737488355328 by omega)
      have C5 := Lib.hid (fun (o : Obj) => show W1.heap.size ≤ (wd.alloc o).heap.size by have := Gd.out.size; simp; omega)
      have OA := Lib.hid (fun (o : Obj) => Od.out.alloc o)
      cases hls : lessN (tl l k).name s.name
      · have d1 := HL.out _ hls
        have HZL := Lib.hid (show insT l s = l.take k ++ s :: l.drop k from insT_at s l k hk HP.out (fun _ => by rw [← tl_get hlt]; exact hls))
        have NS := Lib.hid (fun (tt : TypeId) => news_sp wd (tlC s) tt)
        clear HL hls
        repeat (go_big_quiet_step (fail))
        refine wpQuiet_nil ?_
        unfold oneK
        go_wp2
        repeat (go_big_quiet_step (fail))
        refine wpQuiet_nil ?_
        repeat (go_big_quiet_step (fail))
        refine wpQuiet_nil ?_
        repeat (go_big_quiet_step (fail))
        refine wpQuiet_nil ?_
        go_wp2_with (at_builtin; refine wpList_append_own _ rfl _ _ 68 rfl W1.heap.size 80 i0 (.agg #[.string .empty, .int .i64 0, .int .i64 0, .int .i64 0, .slice none 0 0, .slice none 0 0, .int .i64 0]) 7 96 Tryd.underlying68 HI.out HZ0.out HZ1.out HZ2.out rfl (by decide) _ _ _ rfl (OA.out _) ⟨wd.heap.size, 0, none⟩ 1 1 (tlC s) rfl rfl (NS.out _) (tl_cell _) C3.out C4.out (C5.out _) ?_)
        intro v' w1 hown' hg' _
        have HO2 := Lib.hid hown'
        have HG2 := Lib.hid (below_grownS (grow_alloc Gd.out _) (C5.out _) hg' (fun k hk => (Od.out.lt _ hk).1))
        clear hown' hg'
        have C6 := Lib.hid (show k + 1 + (l.length - k) ≤ maxLen by unfold maxLen; omega)
        have C7 := Lib.hid (show (k + 1 + (l.length - k)) * 96 ≤ 140737488355328 by omega)
        have C8 := Lib.hid (show W1.heap.size ≤ w1.heap.size from HG2.out.size)
        have CD := Lib.hid (drop_ts (k := k) HG2.out HC.out)
        go_wp2_with (at_builtin; refine wpList_append_own _ rfl _ _ 68 rfl W1.heap.size 80 i0 (.agg #[.string .empty, .int .i64 0, .int .i64 0, .int .i64 0, .slice none 0 0, .slice none 0 0, .int .i64 0]) 7 96 Tryd.underlying68 HI.out HZ0.out HZ1.out HZ2.out rfl (by decide) _ _ _ rfl (HO2.out) ⟨bb, oo + k * 7, none⟩ (l.length - k) (cap - k) (tlL (l.drop k)) rfl (drop_tsl l k) CD.out (tl_cells _) C6.out C7.out C8.out ?_)
        intro v2 w2 hown2 hg2 _
        have HO3 := Lib.hid hown2
        have HG3 := Lib.hid (below_grownS HG2.out C8.out hg2 (fun k hk => (HO2.out.lt _ hk).1))
        clear hown2 hg2
        go_wp2
        go_ret
        refine ⟨v2, rfl, ownsRow_base ?_ BW.out.size, grow_trans BW.out HG3.out⟩
        rw [insT_length, HZL.out, show l.length + 1 = k + 1 + (l.length - k) by omega, tlL_append, tlL_cons]
        simpa [List.append_assoc] using HO3.out
      · have d1 := HL.out _ hls
        have HP2 := Lib.hid (show ∀ i (hi : i < l.length), i < k + 1 → lessN l[i].name s.name = true from fun i hi h => by
          by_cases e : i = k
          · subst e; rw [← tl_get hi]; exact hls
          · exact HP.out i hi (by omega))
        clear hls HL
        have NS := Lib.hid (fun (tt : TypeId) => news_sp wd (tlC (tl l k)) tt)
        generalize tl l k = xx at *
        repeat (go_big_quiet_step (fail))
        refine wpQuiet_nil ?_
        unfold oneK
        go_wp2
        repeat (go_big_quiet_step (fail))
        refine wpQuiet_nil ?_
        repeat (go_big_quiet_step (fail))
        refine wpQuiet_nil ?_
        repeat (go_big_quiet_step (fail))
        refine wpQuiet_nil ?_
        go_wp2_with (at_builtin; refine wpList_append_own _ rfl _ _ 68 rfl W1.heap.size 80 i0 (.agg #[.string .empty, .int .i64 0, .int .i64 0, .int .i64 0, .slice none 0 0, .slice none 0 0, .int .i64 0]) 7 96 Tryd.underlying68 HI.out HZ0.out HZ1.out HZ2.out rfl (by decide) _ _ _ rfl (OA.out _) ⟨wd.heap.size, 0, none⟩ 1 1 (tlC xx) rfl rfl (NS.out _) (tl_cell _) C3.out C4.out (C5.out _) ?_)
        intro v' w1 hown' hg' _
        have HO2 := Lib.hid hown'
        have HG2 := Lib.hid (below_grownS (grow_alloc Gd.out _) (C5.out _) hg' (fun k hk => (Od.out.lt _ hk).1))
        clear hown' hg'
        go_wp2
        go_roundw
        case rel =>
          refine ⟨k + 1, by omega, by go_num, ?_, HG2.out, HP2.out⟩
          rw [TS.out, tlL_append, tlL_one]
          exact HO2.out
        case measure => simp [intOf]; omega
    · obtain rfl : k = l.length := by omega
      have C3 := Lib.hid (show l.length + 1 ≤ maxLen by unfold maxLen; omega)
      have C4 := Lib.hid (show (l.length + 1) * 96 ≤ 140737488355328 by omega)
      have HZL := Lib.hid (show insT l s = l.take l.length ++ s :: l.drop l.length from insT_at s l l.length hk HP.out (fun h => absurd h (by omega)))
      go_upto_region 3 with (fail)
      refine Grow.wp_region_plan (.quiet [0, 1] (.one 2 (.quiet [3, 4, 5, 6, 7, 8, 10] (.reads [9, 11] (.quiet [12, 13] (.tail [])))))) (by kernel_rfl) (by kernel_rfl) (by kernel_rfl) (by kernel_rfl) ?_ ?_
      · intro c aa d v ww h
        first
          | exact Grow.bodyPost_blind h
          | (simp (config := {zetaDelta := true}) only [Exit.then, Exit.inBlock] at h ⊢; first | exact Grow.bodyPost_blind h | exact h)
      simp only [Grow.Plan.wp, Grow.pick, List.getElem?_cons_zero, List.getElem?_cons_succ, List.cons_append, List.nil_append]
      generalize wr.drew = wd at Gd Od ⊢
      have KD := Lib.hid (KB.out.below Gd.out)
      have b0 := KD.out.cell 0
      have b1' := KD.out.cell 1
      have b2' := KD.out.cell 2
      have b3' := KD.out.cell 3
      have b4' := KD.out.cell 4
      have b5' := KD.out.cell 5
      have b6' := KD.out.cell 6
      have lb := KD.out.lt
      simp only [List.getElem?_toArray, List.getElem?_cons_zero, List.getElem?_cons_succ] at b0 b1' b2' b3' b4' b5' b6'
      have C5 := Lib.hid (fun (o : Obj) => show W1.heap.size ≤ (wd.alloc o).heap.size by have := Gd.out.size; simp; omega)
      have OA := Lib.hid (fun (o : Obj) => Od.out.alloc o)
      have NS := Lib.hid (fun (tt : TypeId) => news_sp wd (tlC s) tt)
      repeat (go_big_quiet_step (fail))
      refine wpQuiet_nil ?_
      unfold oneK
      go_wp2
      repeat (go_big_quiet_step (fail))
      refine wpQuiet_nil ?_
      repeat (go_big_quiet_step (fail))
      refine wpQuiet_nil ?_
      repeat (go_big_quiet_step (fail))
      refine wpQuiet_nil ?_
      go_wp2_with (at_builtin; refine wpList_append_own _ rfl _ _ 68 rfl W1.heap.size 80 i0 (.agg #[.string .empty, .int .i64 0, .int .i64 0, .int .i64 0, .slice none 0 0, .slice none 0 0, .int .i64 0]) 7 96 Tryd.underlying68 HI.out HZ0.out HZ1.out HZ2.out rfl (by decide) _ _ _ rfl (OA.out _) ⟨wd.heap.size, 0, none⟩ 1 1 (tlC s) rfl rfl (NS.out _) (tl_cell _) C3.out C4.out (C5.out _) ?_)
      intro v' w1 hown' hg' _
      have HO2 := Lib.hid hown'
      have HG2 := Lib.hid (below_grownS (grow_alloc Gd.out _) (C5.out _) hg' (fun k hk => (Od.out.lt _ hk).1))
      clear hown' hg'
      have hii : (0 : Int) ≤ (l.length : Int) := by omega
      cases r with
      | none =>
        obtain rfl := hn rfl
        obtain rfl : l = [] := List.length_eq_zero_iff.1 (by omega)
        go_wp2_with (at_builtin; go_loud (refine wpList_append_own_none rfl _ _ 68 rfl W1.heap.size 80 i0 7 Tryd.underlying68 HI.out _ _ _ rfl HO2.out rfl ?_))
        go_ret
        refine ⟨_, rfl, ownsRow_base ?_ BW.out.size, grow_trans BW.out HG2.out⟩
        exact HO2.out
      | some ad =>
        have hll : (l.length : Int) ≤ (cap : Int) := by omega
        obtain ⟨ab, ao, asp⟩ := ad
        have C6 := Lib.hid (show l.length + 1 + 0 ≤ maxLen by unfold maxLen; omega)
        have C7 := Lib.hid (show (l.length + 1 + 0) * 96 ≤ 140737488355328 by omega)
        have C8 := Lib.hid (show W1.heap.size ≤ w1.heap.size from HG2.out.size)
        by_cases hlc : cap = l.length
        · subst hlc
          go_wp2_with (at_builtin; refine wpList_append_own _ rfl _ _ 68 rfl W1.heap.size 80 i0 (.agg #[.string .empty, .int .i64 0, .int .i64 0, .int .i64 0, .slice none 0 0, .slice none 0 0, .int .i64 0]) 7 96 Tryd.underlying68 HI.out HZ0.out HZ1.out HZ2.out rfl (by decide) _ _ _ rfl (HO2.out) ⟨ab, ao, asp⟩ 0 0 ([]) rfl rfl (fun j u h => by simp at h) (fun u h => by simp at h) C6.out C7.out C8.out ?_)
          intro v2 w2 hown2 hg2 _
          have HO3 := Lib.hid hown2
          have HG3 := Lib.hid (below_grownS HG2.out C8.out hg2 (fun k hk => (HO2.out.lt _ hk).1))
          clear hown2 hg2
          go_wp2
          go_ret
          refine ⟨v2, rfl, ownsRow_base ?_ BW.out.size, grow_trans BW.out HG3.out⟩
          rw [insT_length, HZL.out, tlL_append, List.drop_length, List.take_length, tlL_one]
          exact HO3.out
        · have hpos : 0 < cap - l.length := by omega
          have hpos' : ¬ cap - l.length = 0 := by omega
          go_wp2_with (at_builtin; refine wpList_append_own _ rfl _ _ 68 rfl W1.heap.size 80 i0 (.agg #[.string .empty, .int .i64 0, .int .i64 0, .int .i64 0, .slice none 0 0, .slice none 0 0, .int .i64 0]) 7 96 Tryd.underlying68 HI.out HZ0.out HZ1.out HZ2.out rfl (by decide) _ _ _ rfl (HO2.out) _ 0 (cap - l.length) ([]) rfl rfl (fun j u h => by simp at h) (fun u h => by simp at h) C6.out C7.out C8.out ?_)
          intro v2 w2 hown2 hg2 _
          have HO3 := Lib.hid hown2
          have HG3 := Lib.hid (below_grownS HG2.out C8.out hg2 (fun k hk => (HO2.out.lt _ hk).1))
          clear hown2 hg2
          go_wp2
          go_ret
          refine ⟨v2, rfl, ownsRow_base ?_ BW.out.size, grow_trans BW.out HG3.out⟩
          rw [insT_length, HZL.out, tlL_append, List.drop_length, List.take_length, tlL_one]
          exact HO3.out
end Go.Proofs.YtjjjbkehmnfgbaaDoor
