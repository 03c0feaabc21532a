/- Cells of directions: the sort of names. -/
import Derived.Test.YtjjjbkehmnfgbaaDoorAc21
import Derived.Test.YtjjjbkehmnfgbaaDoorShl4
import Derived.Sort.OwnSorted
set_option linter.unusedSimpArgs false
set_option linter.unusedVariables false
namespace Go.Proofs.YtjjjbkehmnfgbaaDoor
open Go.RowKit Go.Grow Go.Atl Go.Sort

theorem enc_st (b : ByteArray) : encStr b.toList = .string b := by
  unfold encStr
  congr 1
  rw [ByteArray.toList_eq]
theorem enc_sts (l : List ByteArray) : (l.map ByteArray.toList).map encStr = stL l := by
  unfold stL
  rw [List.map_map]
  exact List.map_congr_left (fun x _ => enc_st x)
theorem sorts : Sorts 62 := by
  intro X base v l m h hl hm
  have hml : m.length = l.length := by
    have := congrArg List.length hm
    simpa using this
  have h0 := h
  obtain ⟨_, ⟨rfl, hz⟩ | ⟨g, cap, cur, rfl, hb, hh, h1, h2, h3, h4⟩⟩ := h
  · have hl0 : l = [] := List.eq_nil_of_length_eq_zero hz
    have hm0 : m = [] := List.eq_nil_of_length_eq_zero (by rw [hml, hz])
    subst hl0
    subst hm0
    refine (Go.Proofs.AnyM.slices_Sort_string_none YtjjjbkehmnfgbaaDoor.laysSortS none 0 X).mono ?_
    rintro e w' ⟨rfl, rfl⟩
    exact ⟨rfl, h0, rfl, rfl, rfl, Nat.le_refl _, fun _ _ _ => rfl⟩
  · have hH : Holds encStr X g 0 (l.map ByteArray.toList).toArray := holds_of_block hh (by rw [enc_sts, List.length_map]; simpa using h4)
    have hc := Go.Proofs.AnyM.slices_Sort_string YtjjjbkehmnfgbaaDoor.laysSortS g 0 cap (l.map ByteArray.toList) X hH (Array.getElem?_eq_some_iff.1 hh).1 (by simp; omega)
    rw [List.length_map] at hc
    refine hc.mono ?_
    rintro e w' ⟨rfl, n, os, rfl⟩
    refine ⟨rfl, ?_, grownBy_sorted _⟩
    have := ownsRow_sorted (n := n) (os := os) (ss := l.map ByteArray.toList) (ts := (l.map ByteArray.toList).mergeSort fun x y => decide (x ≤ y)) (by simp) hb hh (by simpa using h1) h2 h3
    rw [← hm, enc_sts, List.length_map, ← hml] at this
    rw [← hm, hml] at *
    exact this
end Go.Proofs.YtjjjbkehmnfgbaaDoor
