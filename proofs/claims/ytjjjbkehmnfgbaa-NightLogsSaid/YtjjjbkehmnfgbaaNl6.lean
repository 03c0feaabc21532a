/- A log's results, cloned. -/
import Derived.Test.YtjjjbkehmnfgbaaNl5
import Derived.Lib.SliceRun
set_option linter.unusedSimpArgs false
set_option linter.unusedVariables false
namespace Go.Proofs.Ytjjjbkehmnfgbaa
open Go.RowKit Go.Grow

theorem owns_cells {w : World} {base : Nat} {e : TypeId} {size : Nat} {g n cap : Nat} {xs : List Value} (h : w.ownsRow base e size (.slice (some ⟨g, 0, none⟩) n cap) n xs) : ∀ j u, xs[j]? = some u → w.cell? ⟨g, j, none⟩ = some u := fun j u hu => by
  have := h.cells (g := g) rfl j u hu
  rwa [add_zero] at this
set_option maxRecDepth 100000 in
set_option maxHeartbeats 4000000 in
theorem clone_walk (base : Nat) (v : Value) (l : List Res) (w : World) (ho : w.ownsRow base 28 3 v l.length (rv l)) (hl : l.length ≤ 1000000) :
    Calls Try.prog 16 #[v] w fun e w' => ∃ v', e = .returned v' ∧ w'.ownsRow w.heap.size 28 3 v' l.length (rv l) ∧ Below w.heap.size w w' := by
  obtain ⟨i0, hi, hz0, hz1, hz2⟩ := info_parts infoR
  have HI := Lib.hid hi
  have HZ0 := Lib.hid hz0
  have HZ1 := Lib.hid hz1
  have HZ2 := Lib.hid hz2
  clear hi hz0 hz1 hz2
  have q33 : ∀ (w : World) (a : Option Addr) (n c n' c' : Nat), (binOp .eql 33 (.slice a n c) (.slice none n' c')).run Try.prog w = .ok (.bool a.isNone) w := fun w a n c n' c' => Lib.run_eql_slice_nil w _ _ a n c n' c' Try.underlying33
  have hlt := ho.lt
  have hxs := ho.1
  rcases ho.2 with ⟨rfl, h0⟩ | ⟨g, cap, cur, rfl, hb, hh, hnc, hcm, hcs, htk⟩
  · have : l = [] := List.length_eq_zero_iff.1 h0
    subst this
    clear ho hlt hxs h0
    go_enter Try.func16, Try.ntmps16
    go_wp2
    go_ret
    exact ⟨_, rfl, World.ownsRow_nil _ _ _ _, Below.refl _ _⟩
  · have HC := Lib.hid (owns_cells ho)
    have hg := hlt g rfl
    have C3 := Lib.hid (show 0 + l.length ≤ maxLen by unfold maxLen; omega)
    have C4 := Lib.hid (show (0 + l.length) * 24 ≤ 140737488355328 by omega)
    have HM := Lib.hid (World.ownsRow_made (base := w.heap.size) (e := 28) (size := 3) w #[] 0 (Nat.le_refl _) (by unfold maxLen; omega) rfl)
    have HN := Lib.hid (show ∀ j u, (rv l)[j]? = some u → (w.alloc (.cells #[] 28)).cell? ((⟨g, 0, none⟩ : Addr).add j) = some u from fun j u hu => by
      rw [add_zero, World.cell?_alloc_old w _ ⟨g, j, none⟩ (by simp; omega)]
      exact HC.out j u hu)
    have HX := Lib.hid hxs
    clear ho hlt hxs hh hnc hcm hcs htk hb HC
    go_enter Try.func16, Try.ntmps16
    go_wp2_with (at_builtin; refine wpList_append_own _ rfl _ _ 33 rfl w.heap.size 28 i0 (.agg #[.int .i64 0, .int .i64 0, .int .i64 0]) 3 24 Try.underlying33 HI.out HZ0.out HZ1.out HZ2.out rfl (by decide) _ _ _ rfl HM.out ⟨g, 0, none⟩ l.length cap (rv l) rfl HX.out HN.out (rv_one_cell l) C3.out C4.out (by simp) ?_)
    intro v' w1 hown hg' _
    have HO := Lib.hid hown
    have HG := Lib.hid hg'
    clear hown hg'
    go_wp2
    go_ret
    refine ⟨_, rfl, by simpa using HO.out, ?_⟩
    exact Below.grown (grow_alloc (grow_refl w) _) HG.out (by simp) (fun k hk => by simp [Value.ownBlock] at hk; omega)

set_option maxRecDepth 100000 in
set_option maxHeartbeats 4000000 in
theorem results_walk (b : Nat) (v : Value) (l : List Res) (w : World) (hk : Known w b #[v]) (ho : w.ownsRow (b + 1) 28 3 v l.length (rv l)) (hl : l.length ≤ 1000000) :
    Calls Try.prog 9 #[.pointer (some ⟨b, 0, none⟩)] w fun e w' => ∃ v', e = .returned v' ∧ w'.ownsRow w.heap.size 28 3 v' l.length (rv l) ∧ Below w.heap.size w w' := by
  have CW := Lib.hid (clone_walk (b + 1) v l w ho hl)
  have c0 := hk.cell 0
  have f0 := hk.frozen 0
  have l0 := hk.lt
  clear hk ho
  go_enter Try.func9, Try.ntmps9
  go_wp2_with (go_at_call 16; (with_reducible refine CW.out.mono ?_); rintro e w1 ⟨v1, rfl, ho, hB⟩; have HO := Lib.hid ho; have HB := Lib.hid hB; clear ho hB)
  go_ret
  exact ⟨_, rfl, HO.out, HB.out⟩
end Go.Proofs.Ytjjjbkehmnfgbaa
