/- Cells of directions: both atlases of a row of entries. -/
import Derived.Test.YtlnbeildplafbaaGreatDoorAc21
import Derived.Test.YtlnbeildplafbaaGreatDoorCs5
set_option linter.unusedSimpArgs false
set_option linter.unusedVariables false
namespace Go.Proofs.YtlnbeildplafbaaGreatDoor
open Go.RowKit Go.Grow Go.Atl Go.Maps

def addUp (l : List En) : Nat → List En
  | 0 => []
  | k + 1 => addL (addUp l k) (en l k)
theorem addUp_len (l : List En) : ∀ k, (addUp l k).length ≤ k
  | 0 => Nat.le_refl _
  | k + 1 => by
    have := addUp_len l k
    unfold addUp addL
    split
    · rw [List.length_append, List.length_singleton]; omega
    · omega
theorem addE_le (es : List En) (e : En) : addE es e ≤ 10 := by unfold addE; split <;> (try split) <;> (try split) <;> omega
theorem addUp_dir (l : List En) : ∀ k, ∀ e ∈ addUp l k, isDir e.at' = true
  | 0, e, h => by cases h
  | k + 1, e, h => by
    unfold addUp addL at h
    split at h
    · rename_i hz
      rcases List.mem_append.1 h with h | h
      · exact addUp_dir l k e h
      · obtain rfl : e = en l k := by simpa using h
        unfold addE at hz
        split at hz
        · omega
        · split at hz
          · omega
          · rename_i hd; simpa using hd
    · exact addUp_dir l k e h
/-- The two atlases stand beside one another. -/
theorem PAt.aside {w w' : World} {B g m1 m2 gd : Nat} {lev lev2 : Int} {es es2 : List En} {v vd : Value} (h : PAt w B g m1 m2 lev es v) (d : DAt w B gd lev2 es2 vd) (h0 : gd ≠ g) (h1 : gd ≠ m1) (h2 : gd ≠ m2) (o : Off (fun k => k = gd ∨ vd.ownBlock = some k) w w') : PAt w' B g m1 m2 lev es v := by
  have hgB := h.at'.2.1
  have h1B := h.low
  have h2B : m2 < B := by obtain ⟨E, hc⟩ := h.cells; obtain ⟨_, _, _, _, _, _, h, _⟩ := hc; exact h
  have hdB := d.2.1
  have low : ∀ {m : Nat}, m < B → gd ≠ m → ¬ (m = gd ∨ vd.ownBlock = some m) := fun {m} hm hne hx => by
    rcases hx with hx | hx
    · exact hne hx.symm
    · have := (owns_block d.2.2.2 hx).1; omega
  refine h.off o (low hgB h0) (low h1B h1) (low h2B h2) ?_ ?_
  · intro k hk hx
    obtain ⟨hb, _, cur, e1⟩ := owns_blockT h.at'.2.2.2 hk
    rcases hx with hx | hx
    · omega
    · obtain ⟨_, _, cur2, e2⟩ := owns_blockT d.2.2.2 hx
      rw [e1] at e2
      simp at e2
  · intro k hx hb cur e1
    rcases hx with hx | hx
    · omega
    · obtain ⟨_, _, cur2, e2⟩ := owns_blockT d.2.2.2 hx
      rw [e1] at e2
      simp at e2
theorem DAt.aside {w w' : World} {B g m1 m2 gd : Nat} {lev lev2 : Int} {es es2 : List En} {v vd : Value} (h : PAt w B g m1 m2 lev es v) (d : DAt w B gd lev2 es2 vd) (h0 : gd ≠ g) (h1 : gd ≠ m1) (h2 : gd ≠ m2) (o : Off (PSet w B g m1 m2 v) w w') : DAt w' B gd lev2 es2 vd := by
  have hgB := h.at'.2.1
  have h1B := h.low
  have h2B : m2 < B := by obtain ⟨E, hc⟩ := h.cells; obtain ⟨_, _, _, _, _, _, h, _⟩ := hc; exact h
  have hdB := d.2.1
  refine d.off o ?_ ?_
  · intro hx
    rcases hx with hx | hx | hx | hx | hx
    · exact h0 hx
    · exact h1 hx
    · exact h2 hx
    · have := (owns_block h.at'.2.2.2 hx).1; omega
    · omega
  · intro k hk hx
    obtain ⟨hb, _, cur, e1⟩ := owns_blockT d.2.2.2 hk
    rcases hx with hx | hx | hx | hx | ⟨_, cur2, e2⟩
    · omega
    · omega
    · omega
    · obtain ⟨_, _, cur2, e2⟩ := owns_blockT h.at'.2.2.2 hx
      rw [e1] at e2
      simp at e2
    · rw [e1] at e2
      simp at e2
theorem PSet.ge {w : World} {B g m1 m2 n : Nat} {lev : Int} {es : List En} {v : Value} (h : PAt w B g m1 m2 lev es v) (hg : n ≤ g) (h1 : n ≤ m1) (h2 : n ≤ m2) : ∀ k, PSet w B g m1 m2 v k → n ≤ k := fun k hx => by
  have hgB := h.at'.2.1
  rcases hx with hx | hx | hx | hx | hx
  · omega
  · omega
  · omega
  · have := (owns_block h.at'.2.2.2 hx).1; omega
  · omega
theorem groups_new {w : World} {P : Program} {k e : TypeId} {q : IntKind} {b base : Nat} (hb : w.heap[b]? = some (.map #[] 0)) (h : b < base) : w.ownsGroups (H := Unit) P k base e q b 0 (.map []) :=
  ⟨#[], 0, hb, ⟨by simp, MapKept.stamped_empty 0, by simp⟩, Nat.le_refl _, rfl, h, by simp, by simp⟩
theorem map_new {w : World} {P : Program} {k : TypeId} {R : Value → Option (DataW Unit × List MemPlace)} {b : Nat} (hb : w.heap[b]? = some (.map #[] 0)) : w.ownsMap P k R b 0 (.map []) :=
  ⟨#[], 0, hb, ⟨by simp, MapKept.stamped_empty 0, by simp⟩, Nat.le_refl _, rfl⟩
set_option maxRecDepth 100000 in
set_option maxHeartbeats 32000000 in
theorem entries_no (a : Nat → Addr) (r : Option Addr) (n cap : Nat) (lev : Int) (w : World) (hs : Sen a allK w) (hh : Hand w) (hne : ∀ j ∈ allK, ∀ k ∈ allK, j ≠ k → a j ≠ a k) (hl : lev < 0 ∨ 12 < lev) :
    Calls Tryz.prog 16 #[.slice r n cap, .int .i64 lev] w fun e w' => e = .returned (.tuple #[.pointer none, .pointer none, .bool true]) ∧ Below w.heap.size w w' := by
  have NW := Lib.hid (fun X (hX : Below w.heap.size w X) => new_no a lev X (Sen.below (ks := [2, 5]) (fun k hk => hs k ((by decide : ∀ k ∈ [2, 5], k ∈ allK) k hk)) hX) hl)
  have CO := Lib.hid (show ∀ X, Below w.heap.size w X → Calls Tryz.prog 12 #[errV a 2, .int .i64 2] X fun e w' => e = .returned (.bool true) ∧ Below X.heap.size X w' from fun X (hX : Below w.heap.size w X) => coded_same a 2 (by decide) X (hs.below hX) (hh.below hX) hne)
  have hu := errV_pos a (show 2 ≠ 0 by decide)
  rw [hu] at NW CO
  clear hs hh hne hu
  by_cases h0 : lev < 0
  · have u0 : decide (lev < 0) = true := decide_eq_true h0
    clear hl
    go_enter Tryz.func16, Tryz.ntmps16
    go_wp2_with (first
      | (go_at_call 36; (with_reducible refine (NW.out _ (grow_refl _)).mono ?_); rintro e w2 ⟨rfl, hb⟩; have B2 := Lib.hid hb; clear hb)
      | (go_at_call 12; (with_reducible refine (CO.out _ B2.out).mono ?_); rintro e w3 ⟨rfl, hb⟩; have B3 := Lib.hid (grow_trans B2.out hb); clear hb))
    go_ret3
    exact ⟨rfl, B3.out⟩
  · have u0 : decide (lev < 0) = false := decide_eq_false h0
    have u1 : decide (12 < lev) = true := decide_eq_true (by omega)
    clear hl
    go_enter Tryz.func16, Tryz.ntmps16
    go_wp2_with (first
      | (go_at_call 36; (with_reducible refine (NW.out _ (grow_refl _)).mono ?_); rintro e w2 ⟨rfl, hb⟩; have B2 := Lib.hid hb; clear hb)
      | (go_at_call 12; (with_reducible refine (CO.out _ B2.out).mono ?_); rintro e w3 ⟨rfl, hb⟩; have B3 := Lib.hid (grow_trans B2.out hb); clear hb))
    go_ret3
    exact ⟨rfl, B3.out⟩
end Go.Proofs.YtlnbeildplafbaaGreatDoor
