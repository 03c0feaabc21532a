/- The night's house: the sort of names by their bytes. -/
import Derived.Test.YtjjjbkehmnfgbaaDoorNh8
import Derived.Test.YtjjjbkehmnfgbaaDoorShl5
import Derived.Sort.OwnSorted
set_option linter.unusedSimpArgs false
set_option linter.unusedVariables false
namespace Go.Proofs.YtjjjbkehmnfgbaaDoor
open Go.RowKit Go.Grow Go.Hs Go.Sort

theorem cmp_lt : ∀ a b : List UInt8, Lib.compareBytes a b < 0 ↔ a < b
  | [], [] => by simp [Lib.compareBytes]
  | [], _ :: _ => by simp [Lib.compareBytes]
  | _ :: _, [] => by simp [Lib.compareBytes]
  | x :: a, y :: b => by
    unfold Lib.compareBytes
    rw [List.cons_lt_cons_iff]
    by_cases h1 : x < y
    · simp [h1]
    · by_cases h2 : y < x
      · have hne : x ≠ y := fun e => by subst e; exact h1 h2
        simp [h1, h2, hne]
      · have he : x = y := UInt8.le_antisymm (UInt8.not_lt.1 h2) (UInt8.not_lt.1 h1)
        subst he
        simp [UInt8.lt_irrefl, cmp_lt a b]
theorem lt_cmp (x y : List UInt8) : Go.Proofs.ltOf Lib.compareBytes x y = decide (x < y) := by
  unfold Go.Proofs.ltOf
  exact decide_eq_decide.2 (cmp_lt x y)
theorem swo_cmp : SWO (Go.Proofs.ltOf Lib.compareBytes) where
  irrefl x := by rw [lt_cmp]; exact decide_eq_false (List.lt_irrefl x)
  trans x y z h1 h2 := by
    rw [lt_cmp, decide_eq_true_eq] at *
    exact List.lt_trans h1 h2
  ntrans x y z h1 h2 := by
    rw [lt_cmp, decide_eq_false_iff_not] at *
    exact List.not_lt.2 (List.le_trans (List.not_lt.1 h2) (List.not_lt.1 h1))
theorem enc_sn (b : ByteArray) : encStr b.toList = .string b := by
  unfold encStr
  congr 1
  rw [ByteArray.toList_eq]
theorem enc_sns (l : List ByteArray) : (l.map ByteArray.toList).map encStr = snL l := by
  unfold snL
  rw [List.map_map]
  exact List.map_congr_left (fun x _ => enc_sn x)
theorem sortsN : SortsN := by
  intro X base v l h hl
  have hml := sortB_length l
  have h0 := h
  obtain ⟨_, ⟨rfl, hz⟩ | ⟨g, cap, cur, rfl, hb, hh, h1, h2, h3, h4⟩⟩ := h
  · have hl0 : l = [] := List.eq_nil_of_length_eq_zero hz
    subst hl0
    refine (Go.Proofs.AnyF.slices_SortFunc_none { YtjjjbkehmnfgbaaDoor.laysSortN with } none 0 _ X).mono ?_
    rintro e w' ⟨rfl, rfl⟩
    rw [show sortB [] = [] from List.eq_nil_of_length_eq_zero (by rw [sortB_length]; rfl)]
    exact ⟨rfl, h0, rfl, rfl, rfl, Nat.le_refl _, fun _ _ _ => rfl⟩
  · have hH : Holds encStr X g 0 (l.map ByteArray.toList).toArray := holds_of_block hh (by rw [enc_sns, List.length_map]; simpa using h4)
    have hcmp : Go.Proofs.CmpLays1 Tryd.prog 69 #[] encStr Lib.compareBytes g 0 (l.map ByteArray.toList).toArray.size X := fun m os dk _ x y => by
      refine (Go.Proofs.Any.strings_Compare YtjjjbkehmnfgbaaDoor.laysCmpS ⟨x.toArray⟩ ⟨y.toArray⟩ _).mono ?_
      rintro e w' ⟨rfl, rfl⟩
      exact ⟨rfl, 0, #[], by rw [grow_empty]; rfl⟩
    have hc := Go.Proofs.Any.slices_SortFunc_total YtjjjbkehmnfgbaaDoor.laysSortN encStr (fun _ => rfl) Lib.compareBytes swo_cmp 69 #[] g 0 cap (l.map ByteArray.toList).toArray X (enters_of Tryd.func69 (by kernel_rfl) rfl) hcmp hH (Array.getElem?_eq_some_iff.1 hh).1 (by simp; omega) (fun x y hx hy => by
      rw [lt_cmp, decide_eq_false_iff_not] at hx hy
      exact List.le_antisymm (List.not_lt.1 hy) (List.not_lt.1 hx))
    have hms : ((l.map ByteArray.toList).toArray.toList.mergeSort fun x y => !(Go.Proofs.ltOf Lib.compareBytes) y x) = (sortB l).map ByteArray.toList := by
      rw [sortB_map]
      congr 1
      funext x y
      rw [lt_cmp]
      by_cases hxy : y < x
      · rw [decide_eq_true hxy, decide_eq_false (fun h => absurd hxy (List.not_lt.2 h))]; rfl
      · rw [decide_eq_false hxy, decide_eq_true (List.not_lt.1 hxy)]; rfl
    rw [hms] at hc
    have hsz : (l.map ByteArray.toList).toArray.size = l.length := by simp
    rw [hsz] at hc
    refine hc.mono ?_
    rintro e w' ⟨rfl, n, os, rfl⟩
    refine ⟨rfl, ?_, grownBy_sorted _⟩
    have := ownsRow_sorted (n := n) (os := os) (ss := l.map ByteArray.toList) (ts := (sortB l).map ByteArray.toList) (by simp [hml]) hb hh (by simpa using h1) h2 h3
    rw [enc_sns, List.length_map] at this
    rw [hml]
    exact this
end Go.Proofs.YtjjjbkehmnfgbaaDoor
