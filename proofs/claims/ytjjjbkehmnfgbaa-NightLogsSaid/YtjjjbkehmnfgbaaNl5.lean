/- A log in memory: a new one; a result noted. -/
import Derived.Test.YtjjjbkehmnfgbaaNl4
import Derived.Deep.AppendLies
import Derived.Deep.RegionLaw
set_option linter.unusedSimpArgs false
set_option linter.unusedVariables false
namespace Go.Proofs.Ytjjjbkehmnfgbaa
open Go.RowKit Go.Grow

def rc (r : Res) : List Value := [.int .i64 r.i, .int .i64 r.s, .int .i64 r.l]
def rv (l : List Res) : List Value := l.flatMap rc
theorem rv_append (a b : List Res) : rv (a ++ b) = rv a ++ rv b := List.flatMap_append
theorem rv_one (r : Res) : rv [r] = rc r := by simp [rv]
theorem rv_length (l : List Res) : (rv l).length = l.length * 3 := by
  induction l with
  | nil => rfl
  | cons a l ih => simp only [rv, List.flatMap_cons, List.length_append] at *; rw [ih]; simp [rc]; omega
theorem rv_one_cell (l : List Res) : ∀ u ∈ rv l, u.oneCell' = true := fun u h => by
  obtain ⟨r, _, hr⟩ := List.mem_flatMap.1 h
  simp [rc] at hr
  rcases hr with rfl | rfl | rfl <;> rfl
theorem rc_one (r : Res) : ∀ u ∈ rc r, u.oneCell' = true := fun u h => by
  simp [rc] at h
  rcases h with rfl | rfl | rfl <;> rfl
theorem infoR : (Try.prog.info? 28).map (fun i => (i.zero, i.size, i.bytes)) = some (some (.agg #[.int .i64 0, .int .i64 0, .int .i64 0]), 3, 24) := by kernel_rfl
theorem ownsRow_below {w w' : World} {base : Nat} {e : TypeId} {size : Nat} {v : Value} {n : Nat} {xs : List Value} (h : w.ownsRow base e size v n xs) (hb : Below w.heap.size w w') : w'.ownsRow base e size v n xs :=
  h.kept (row := none) ⟨hb.os, hb.tape, hb.output, hb.size, fun k hk _ => hb.block k hk⟩ (by
    cases hv : v.ownBlock with
    | none => exact .inl rfl
    | some k => exact .inr (by simp))
theorem news_new (w : World) (c : List Value) (t : TypeId) : ∀ j u, c[j]? = some u → (w.alloc (.cells c.toArray t)).cell? ((⟨w.heap.size, 0, none⟩ : Addr).add j) = some u := fun j u h => by
  rw [add_zero, cell?_cells, if_pos rfl]; simpa using h

theorem newLog_walk (w : World) : Calls Try.prog 4 #[] w fun e w' => e = .returned (.pointer (some ⟨w.heap.size, 0, none⟩)) ∧ w' = w.alloc (.cells #[.slice none 0 0] 40) := by
  go_enter Try.func4, Try.ntmps4
  go_wp2
  go_ret
  exact ⟨rfl, rfl⟩

theorem known_grown {w w' : World} {b : Nat} {c : Array Value} {row : Option Nat} (h : Known w b c) (hg : w.grownBy w' row) (hne : some b ≠ row) : Known w' b c := by
  have e := hg.block b h.lt hne
  exact ⟨fun i => (World.cell?_of_block e).trans (h.cell i), fun i => (World.frozen?_of_block e).trans (h.frozen i), Nat.lt_of_lt_of_le h.lt hg.size⟩
theorem not_row {w : World} {b : Nat} {e : TypeId} {size : Nat} {v : Value} {n : Nat} {xs : List Value} (h : w.ownsRow (b + 1) e size v n xs) : some b ≠ v.ownBlock := fun e => by have := (h.lt b e.symm).1; omega
set_option maxRecDepth 100000 in
set_option maxHeartbeats 4000000 in
theorem note_walk (b : Nat) (v : Value) (l : List Res) (r : Res) (w : World) (hk : Known w b #[v]) (ho : w.ownsRow (b + 1) 28 3 v l.length (rv l)) (hl : l.length ≤ 1000000) :
    Calls Try.prog 5 #[.pointer (some ⟨b, 0, none⟩), .agg #[.int .i64 r.i, .int .i64 r.s, .int .i64 r.l]] w fun e w' => e = .returned (.tuple #[]) ∧
      ∃ v', Known w' b #[v'] ∧ w'.ownsRow (b + 1) 28 3 v' (l ++ [r]).length (rv (l ++ [r])) ∧ Below b w w' := by
  obtain ⟨i0, hi, hz0, hz1, hz2⟩ := info_parts infoR
  have HI := Lib.hid hi
  have HZ0 := Lib.hid hz0
  have HZ1 := Lib.hid hz1
  have HZ2 := Lib.hid hz2
  have HO := Lib.hid ho
  have HK := Lib.hid hk
  have c0 := hk.cell 0
  have f0 := hk.frozen 0
  have l0 := hk.lt
  have C3 := Lib.hid (show l.length + 1 ≤ maxLen by unfold maxLen; omega)
  have C4 := Lib.hid (show (l.length + 1) * 24 ≤ 140737488355328 by omega)
  clear hi hz0 hz1 hz2 ho hk
  go_enter Try.func5, Try.ntmps5
  go_wp2
  go_region_law (refine step_append_lies _ rfl (.tmp 8) (.tmp 10) 33 rfl (b + 1) 28 i0 (.agg #[.int .i64 0, .int .i64 0, .int .i64 0]) 3 24 Try.underlying33 HI.out HZ0.out HZ1.out HZ2.out rfl (by decide) v l.length (rv l) (by simp [Act.eval, Act.put]) (by (repeat (first | exact HO.out | apply World.ownsRow.alloc | apply World.ownsRow.drew))) _ 1 1 (rc r) (by simp [Act.eval, Act.put]) rfl (news_new _ (rc r) _) (rc_one r) (by decide) C3.out C4.out (by simp; omega) _ rfl ?_; intro g cap w1 hown hg hat hlt; have HG := Lib.hid hg; have HW := Lib.hid hown; have k1 : Known w1 b #[v] := known_grown (by (repeat (first | exact HK.out | apply Known.alloc | apply Known.drew))) hg (not_row HO.out); have K1 := Lib.hid k1; have c1 := k1.cell 0; have f1 := k1.frozen 0; clear k1 hg hown hat)
  all_goals
    go_end0
    refine ⟨rfl, _, Known.same K1.out 0 _, ?_, ?_⟩
    · rw [List.length_append, rv_append, rv_one]
      exact ownsRow_setCell_below HW.out (by simp) _
    · refine Below.setCell (p := ⟨b, 0, none⟩) ?_ (Nat.le_refl b) _
      refine Below.grown ?_ HG.out (by simp; omega) (fun k hk => by have := (HO.out.lt k hk).1; omega)
      exact (grow_drew (grow_alloc (grow_alloc (grow_refl w) _) _)).mono (by omega)
end Go.Proofs.Ytjjjbkehmnfgbaa
