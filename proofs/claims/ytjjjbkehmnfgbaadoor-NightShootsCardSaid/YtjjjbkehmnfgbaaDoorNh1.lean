/- The night's house: tools in memory; clones of numbers and of spans. -/
import Derived.Test.YtjjjbkehmnfgbaaDoorNs2
import Derived.Test.YtjjjbkehmnfgbaaDoorPln
set_option linter.unusedSimpArgs false
set_option linter.unusedVariables false
namespace Go.Proofs.YtjjjbkehmnfgbaaDoor
open Go.RowKit Go.Grow

def NrAt (w : World) (r : Option Addr) (l : List Int) : Prop := l = [] ∨ ∃ b o, r = some ⟨b, o, none⟩ ∧ ∀ k (h : k < l.length), w.cell? ⟨b, o + k, none⟩ = some (.int .i64 l[k])
theorem NrAt.below {w w' : World} {r : Option Addr} {l : List Int} (h : NrAt w r l) (hb : Below w.heap.size w w') : NrAt w' r l := by
  rcases h with h | ⟨b, o, hr, h⟩
  · exact .inl h
  · exact .inr ⟨b, o, hr, fun k hk => (hb.cell (p := ⟨b, o + k, none⟩) (lt_of_cellS (h k hk))).trans (h k hk)⟩
def nrL (l : List Int) : List Value := l.map (Value.int .i64)
theorem nr_of_owns {w : World} {base n : Nat} {v : Value} {l : List Int} {e : TypeId} (h : w.ownsRow base e 1 v n (nrL l)) : ∃ r cap, v = .slice r l.length cap ∧ NrAt w r l := by
  have hlen : n = l.length := by have := h.1; simp [nrL] at this; omega
  subst hlen
  obtain ⟨hl, ⟨hv, hn⟩ | ⟨g, cap, cur, hv, hg⟩⟩ := h
  · exact ⟨none, 0, by rw [hv, hn], .inl (List.length_eq_zero_iff.1 hn)⟩
  · subst hv
    have hc := owns_cellsS (w := w) (base := base) (e := e) (size := 1) (g := g) (n := l.length) (cap := cap) (xs := nrL l) ⟨hl, .inr ⟨g, cap, cur, rfl, hg⟩⟩
    refine ⟨some ⟨g, 0, none⟩, cap, rfl, .inr ⟨g, 0, rfl, fun k hk => ?_⟩⟩
    rw [Nat.zero_add]
    exact hc _ _ (by simp [nrL, hk])
theorem nr_cells (l : List Int) : ∀ u ∈ nrL l, u.oneCell' = true := fun u h => by simp [nrL] at h; obtain ⟨x, _, rfl⟩ := h; rfl
theorem sp_cells (l : List (Int × Int)) : ∀ u ∈ spL l, u.oneCell' = true := fun u h => by simp [spL] at h; obtain ⟨a, b, _, h⟩ := h; rcases h with rfl | rfl <;> rfl
theorem addNsH (b o k : Nat) : (⟨b, o, none⟩ : Addr).add k = ⟨b, o + k, none⟩ := by
  unfold Addr.add
  split <;> simp_all
theorem nr_news {w : World} {ad : Addr} {l : List Int} (h : NrAt w (some ad) l) : ∀ j u, (nrL l)[j]? = some u → w.cell? (ad.add j) = some u := fun j u hu => by
  rcases h with rfl | ⟨b, o, hr, h⟩
  · simp [nrL] at hu
  · cases hr
    obtain ⟨hj, e⟩ := List.getElem?_eq_some_iff.1 hu
    have hj' : j < l.length := by simpa [nrL] using hj
    rw [addNsH, h j hj', ← e]
    simp [nrL]
theorem sp_news {w : World} {ad : Addr} {l : List (Int × Int)} (h : SpAt w (some ad) l) : ∀ j u, (spL l)[j]? = some u → w.cell? (ad.add j) = some u := fun j u hu => by
  rcases h with rfl | ⟨b, o, hr, h⟩
  · simp [spL] at hu
  · cases hr
    have hj : j < (spL l).length := (List.getElem?_eq_some_iff.1 hu).1
    rw [spL_length] at hj
    obtain ⟨q, hq⟩ : ∃ q, j = q * 2 ∨ j = q * 2 + 1 := ⟨j / 2, by omega⟩
    rcases hq with rfl | rfl
    · have hk : q < l.length := by omega
      obtain ⟨h0, _⟩ := spL_get l q hk
      obtain ⟨g0, _⟩ := h q hk
      rw [h0] at hu
      cases hu
      rw [addNsH]
      exact g0
    · have hk : q < l.length := by omega
      obtain ⟨_, h1⟩ := spL_get l q hk
      obtain ⟨_, g1⟩ := h q hk
      rw [h1] at hu
      cases hu
      rw [addNsH, ← Nat.add_assoc]
      exact g1
theorem info_nr : (Tryd.prog.info? 3).map (fun i => (i.zero, i.size, i.bytes)) = some (some (.int .i64 0), 1, 8) := by kernel_rfl
set_option maxRecDepth 100000 in
set_option maxHeartbeats 8000000 in
theorem clone_nr (r : Option Addr) (l : List Int) (cap : Nat) (w : World) (hl : l.length ≤ 1000000) (hr : NrAt w r l) :
    Calls Tryd.prog 80 #[.slice r l.length cap] w fun e w' => ∃ v', e = .returned v' ∧ w'.ownsRow w.heap.size 3 1 v' l.length (nrL l) ∧ Below w.heap.size w w' := by
  obtain ⟨i0, hi, hz0, hz1, hz2⟩ := info_parts info_nr
  have HI := Lib.hid hi
  have HZ0 := Lib.hid hz0
  have HZ1 := Lib.hid hz1
  have HZ2 := Lib.hid hz2
  clear hi hz0 hz1 hz2
  have q33 : ∀ (w : World) (a : Option Addr) (n c n' c' : Nat), (binOp .eql 75 (.slice a n c) (.slice none n' c')).run Tryd.prog w = .ok (.bool a.isNone) w := fun w a n c n' c' => Lib.run_eql_slice_nil w _ _ a n c n' c' Tryd.underlying75
  cases r with
  | none =>
    obtain rfl : l = [] := by rcases hr with h | ⟨b, o, h, _⟩; exact h; cases h
    clear hr
    go_enter Tryd.func80, Tryd.ntmps80
    go_wp2
    go_ret
    exact ⟨_, rfl, World.ownsRow_nil _ _ _ _, Below.refl _ _⟩
  | some ad =>
    have C3 := Lib.hid (show 0 + l.length ≤ maxLen by unfold maxLen; omega)
    have C4 := Lib.hid (show (0 + l.length) * 8 ≤ 140737488355328 by omega)
    have HM := Lib.hid (World.ownsRow_made (base := w.heap.size) (e := 3) (size := 1) w #[] 0 (Nat.le_refl _) (by unfold maxLen; omega) rfl)
    have HN := Lib.hid (nr_news (hr.below (grow_alloc (grow_refl w) (.cells #[] 3))))
    clear hr
    go_enter Tryd.func80, Tryd.ntmps80
    go_wp2_with (at_builtin; refine wpList_append_own _ rfl _ _ 75 rfl w.heap.size 3 i0 (.int .i64 0) 1 8 Tryd.underlying75 HI.out HZ0.out HZ1.out HZ2.out rfl (by decide) _ _ _ rfl HM.out ad l.length cap (nrL l) rfl (by simp [nrL]) HN.out (nr_cells l) C3.out C4.out (by simp) ?_)
    intro v' w1 hown hg' _
    have HO := Lib.hid hown
    have HG := Lib.hid hg'
    clear hown hg'
    go_wp2
    go_ret
    refine ⟨_, rfl, by simpa using HO.out, ?_⟩
    exact Below.grown (grow_alloc (grow_refl w) _) HG.out (by simp) (fun k hk => by simp [Value.ownBlock] at hk; omega)
set_option maxRecDepth 100000 in
set_option maxHeartbeats 8000000 in
theorem clone_sp (r : Option Addr) (l : List (Int × Int)) (cap : Nat) (w : World) (hl : l.length ≤ 1000000) (hr : SpAt w r l) :
    Calls Tryd.prog 81 #[.slice r l.length cap] w fun e w' => ∃ v', e = .returned v' ∧ w'.ownsRow w.heap.size 92 2 v' l.length (spL l) ∧ Below w.heap.size w w' := by
  obtain ⟨i0, hi, hz0, hz1, hz2⟩ := info_parts info_spans
  have HI := Lib.hid hi
  have HZ0 := Lib.hid hz0
  have HZ1 := Lib.hid hz1
  have HZ2 := Lib.hid hz2
  clear hi hz0 hz1 hz2
  have q33 : ∀ (w : World) (a : Option Addr) (n c n' c' : Nat), (binOp .eql 93 (.slice a n c) (.slice none n' c')).run Tryd.prog w = .ok (.bool a.isNone) w := fun w a n c n' c' => Lib.run_eql_slice_nil w _ _ a n c n' c' Tryd.underlying93
  cases r with
  | none =>
    obtain rfl : l = [] := by rcases hr with h | ⟨b, o, h, _⟩; exact h; cases h
    clear hr
    go_enter Tryd.func81, Tryd.ntmps81
    go_wp2
    go_ret
    exact ⟨_, rfl, World.ownsRow_nil _ _ _ _, Below.refl _ _⟩
  | some ad =>
    have C3 := Lib.hid (show 0 + l.length ≤ maxLen by unfold maxLen; omega)
    have C4 := Lib.hid (show (0 + l.length) * 16 ≤ 140737488355328 by omega)
    have HM := Lib.hid (World.ownsRow_made (base := w.heap.size) (e := 92) (size := 2) w #[] 0 (Nat.le_refl _) (by unfold maxLen; omega) rfl)
    have HN := Lib.hid (sp_news (hr.below (grow_alloc (grow_refl w) (.cells #[] 92))))
    clear hr
    go_enter Tryd.func81, Tryd.ntmps81
    go_wp2_with (at_builtin; refine wpList_append_own _ rfl _ _ 93 rfl w.heap.size 92 i0 (.agg #[.int .i64 0, .int .i64 0]) 2 16 Tryd.underlying93 HI.out HZ0.out HZ1.out HZ2.out rfl (by decide) _ _ _ rfl HM.out ad l.length cap (spL l) rfl (spL_length l) HN.out (sp_cells l) C3.out C4.out (by simp) ?_)
    intro v' w1 hown hg' _
    have HO := Lib.hid hown
    have HG := Lib.hid hg'
    clear hown hg'
    go_wp2
    go_ret
    refine ⟨_, rfl, by simpa using HO.out, ?_⟩
    exact Below.grown (grow_alloc (grow_refl w) _) HG.out (by simp) (fun k hk => by simp [Value.ownBlock] at hk; omega)
end Go.Proofs.YtjjjbkehmnfgbaaDoor
