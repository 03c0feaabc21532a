/- The law's copy of spans, a row of its own; two own rows of other types lie apart; a list put behind an empty row. -/
import Derived.Test.YtlfpfeidaohjmaaDoorEs1
import Derived.Test.YtlfpfeidaohjmaaDoorEb14
set_option linter.unusedSimpArgs false
set_option linter.unusedVariables false
namespace Go.Proofs.YtlfpfeidaohjmaaDoor
open Go.RowKit Go.Grow Go.Fl
set_option maxRecDepth 100000 in
set_option maxHeartbeats 8000000 in
theorem spansOf_own (r : Option Addr) (l : List (Int × Int)) (cap : Nat) (w : World) (hl : l.length * 16 ≤ 140737488355328) (hr : SpAt w r l) :
    Calls Tryd.prog 54 #[.slice r l.length cap] w fun e w' => ∃ v, e = .returned v ∧ w'.ownsRow w.heap.size 102 2 v l.length (spL l) ∧ Below w.heap.size w w' := by
  obtain ⟨i0, hi, hz0, hz1, hz2⟩ := info_parts info_spansOf
  have HI := Lib.hid hi
  have HZ0 := Lib.hid hz0
  have HZ1 := Lib.hid hz1
  have HZ2 := Lib.hid hz2
  have HR := Lib.hid hr
  clear hr hi hz0 hz1 hz2
  go_enter Tryd.func54, Tryd.ntmps54
  go_wp2
  go_loopw [3, 4] (fun v3 v4 wr => CopyRel 102 w l v3 v4 wr) (fun _ i _ => l.length - (intOf i).toNat)
  case atStart => exact ⟨0, Nat.zero_le _, rfl, World.ownsRow_nil _ _ _ _, Below.refl _ _⟩
  case round =>
    obtain ⟨k, hk, rfl, hown, hg⟩ := hrel
    have O := Lib.hid hown
    have G := Lib.hid hg
    clear hown hg
    have hz := G.out.size
    by_cases hlt : k < l.length
    · obtain ⟨b1, o1, rfl, hc⟩ := HR.out.resolve_left (by intro h; rw [h] at hlt; exact absurd hlt (by simp))
      obtain ⟨e0, e1⟩ := hc k hlt
      have hb1 : b1 < w.heap.size := lt_of_cellS e0
      rw [← G.out.cell (p := ⟨b1, _, none⟩) hb1] at e0 e1
      have TS := Lib.hid (take_snocS l k hlt)
      clear hc
      generalize l[k] = x at e0 e1 TS
      obtain ⟨xa, xb⟩ := x
      simp only at e0 e1
      have hb1' : b1 < wr.heap.size := Nat.lt_of_lt_of_le hb1 hz
      have hi0 : (0 : Int) ≤ (k : Int) := by omega
      have hi1 : (k : Int) < (l.length : Int) := by omega
      go_wp2
      refine Grow.wp_region_reads1 [0, 1, 2, 3, 4, 6, 7, 8, 9] [5, 10] [11, 12, 13, 14] (by kernel_rfl) (by kernel_rfl) (by kernel_rfl) (by kernel_rfl) (by kernel_rfl) (by kernel_rfl) ?_ ?_
      · intro c aa d v ww h
        simp (config := {zetaDelta := true}) only [Exit.then, Exit.inBlock] at h ⊢
        exact Grow.bodyPost_blind h
      simp only [Grow.pick, List.getElem?_cons_zero, List.getElem?_cons_succ, List.cons_append, List.nil_append]
      repeat (go_big_quiet_step (fail))
      refine wpQuiet_nil ?_
      repeat (go_big_quiet_step (fail))
      refine wpQuiet_nil ?_
      have OX := Lib.hid (ownsRow_belowS O.out (grow_drew (grow_refl wr)))
      have GX := Lib.hid (Below.drew G.out)
      clear O G e0 e1
      generalize wr.drew = w4 at OX GX ⊢
      have hz4 := GX.out.size
      have C3 := Lib.hid (show k + 1 ≤ maxLen by unfold maxLen; omega)
      have C4 := Lib.hid (show (k + 1) * 16 ≤ 140737488355328 by omega)
      have C5 := Lib.hid (show w.heap.size ≤ (w4.alloc (.cells #[Value.int .i64 xa, Value.int .i64 xb] 102)).heap.size by simp; omega)
      go_wp2_with (at_builtin; refine wpList_append_own _ rfl _ _ 91 rfl w.heap.size 102 i0 (.agg #[.int .i64 0, .int .i64 0]) 2 16 Tryd.underlying91 HI.out HZ0.out HZ1.out HZ2.out rfl (by decide) _ _ _ rfl (OX.out.alloc _) ⟨w4.heap.size, 0, none⟩ 1 1 [.int .i64 xa, .int .i64 xb] rfl rfl (news_sp _ _ _) (sp_cell _ _) C3.out C4.out C5.out ?_)
      intro v' w1 hown' hg' _
      have HO2 := Lib.hid hown'
      have HG2 := Lib.hid hg'
      clear hown' hg'
      go_wp2
      go_roundw
      case rel =>
        refine ⟨k + 1, by omega, by go_num, ?_, below_grownS (GX.out.alloc hz4 _) (by simp; omega) HG2.out (fun k hk => (OX.out.lt k hk).1)⟩
        rw [TS.out, spL_append]
        exact HO2.out
      case measure => simp [intOf]; omega
    · obtain rfl : k = l.length := by omega
      rw [List.take_length] at O
      obtain ⟨r', c', hv, hx⟩ := sp_of_owns O.out
      subst hv
      go_wp2
      go_ret
      exact ⟨_, rfl, O.out, G.out⟩
theorem ownsRow_grown {w w' : World} {base e1 e2 s1 s2 n1 n2 : Nat} {v1 v2 : Value} {xs1 xs2 : List Value} (he : e1 ≠ e2) (h1 : w.ownsRow base e1 s1 v1 n1 xs1) (h2 : w.ownsRow base e2 s2 v2 n2 xs2) (g : w.grownBy w' v1.ownBlock) : w'.ownsRow base e2 s2 v2 n2 xs2 := by
  obtain ⟨hl, ⟨hv, hn⟩ | ⟨g2, cap, cur, hv, hb, hh, hr⟩⟩ := h2
  · exact ⟨hl, .inl ⟨hv, hn⟩⟩
  · refine ⟨hl, .inr ⟨g2, cap, cur, hv, hb, ?_, hr⟩⟩
    rw [g.block g2 (Array.getElem?_eq_some_iff.1 hh).1, hh]
    obtain ⟨_, ⟨hv1, _⟩ | ⟨g1, cap1, cur1, hv1, _, hh1, _⟩⟩ := h1
    · rw [hv1]; simp [Value.ownBlock]
    · rw [hv1]
      simp only [Value.ownBlock, ne_eq, Option.some.injEq]
      intro e
      rw [e, hh1] at hh
      injection hh with hh
      injection hh with _ hh
      exact he hh
theorem wpList_append_in {w : World} {ops : Array Oper} {rest : List Oper} {o : Oper} {a : Act} {Q : Exit → Act → World → Prop} (hgd : o.guard = none) (s x : Operand) (ho : o.op = .call { callee := .builtin .append, args := #[s, x], argTypes := #[82, 82] })
    (hs : a.eval s = .slice none 0 0) (r : Option Addr) (c : Nat) (L : List Int) (hx : a.eval x = .slice r L.length c) (hr : InAt w r L) (hnil : r = none → c = 0) (hL : L.length * 8 ≤ 140737488355328)
    (h : ∀ v' w', w'.ownsRow w.heap.size 3 1 v' L.length (ivL L) → Below w.heap.size w w' → wpList Tryd.prog ops Q rest (a.put o.dst v') w') : wpList Tryd.prog ops Q (o :: rest) a w := by
  obtain ⟨i0, HI, HZ0, HZ1, HZ2⟩ := info_parts info_in
  rcases r with _ | ad
  · obtain rfl := hnil rfl
    obtain rfl : L = [] := by
      rcases hr with h | ⟨_, _, h, _⟩
      · exact h
      · cases h
    exact wpList_append_own_none hgd s x 82 ho w.heap.size 3 i0 1 Tryd.underlying82 HI _ 0 [] hs (World.ownsRow_nil _ _ _ _) hx (h _ _ (World.ownsRow_nil _ _ _ _) (grow_refl _))
  · have hnews : ∀ j u, (ivL L)[j]? = some u → w.cell? (ad.add j) = some u := fun j u hu => by
      rcases hr with h | ⟨b1, o1, h, hc⟩
      · subst h; simp [ivL] at hu
      · obtain rfl := Option.some.inj h
        have hj : j < L.length := by
          rcases Nat.lt_or_ge j L.length with h | h
          · exact h
          · rw [List.getElem?_eq_none (by simpa [ivL] using h)] at hu; cases hu
        rw [show (⟨b1, o1, none⟩ : Addr).add j = ⟨b1, o1 + j, none⟩ by unfold Addr.add; split <;> simp_all, hc j hj]
        simpa [ivL, hj] using hu
    refine wpList_append_own w hgd s x 82 ho w.heap.size 3 i0 (.int .i64 0) 1 8 Tryd.underlying82 HI HZ0 HZ1 HZ2 rfl (by decide) _ 0 [] hs (World.ownsRow_nil _ _ _ _) ad L.length c (ivL L) hx (by simp [ivL]) hnews (iv_cell _) (by unfold maxLen; omega) (by omega) (Nat.le_refl _) ?_
    intro v' w6 hown hgr _
    simp only [Nat.zero_add, List.nil_append] at hown
    exact h v' w6 hown (below_grownS (grow_refl w) (Nat.le_refl _) hgr (fun k hk => by simp [Value.ownBlock] at hk))
end Go.Proofs.YtlfpfeidaohjmaaDoor
