/- Cells of directions: names put in one by one, and names sorted (plain). -/
import Derived.Test.YtlnbeildplafbaaGreatDoorAc17
import Derived.Sort.Walk0
import Derived.Test.YtlnbeildplafbaaGreatDoorAc20
set_option linter.unusedSimpArgs false
set_option linter.unusedVariables false
namespace Go.Proofs.YtlnbeildplafbaaGreatDoor
open Go.RowKit Go.Grow Go.Atl

def outUp (es : List En) (s : Sp) (L : Nat) : Nat → List ByteArray
  | 0 => []
  | k + 1 => if cellAt (en es k).at' L = s then outUp es s L k ++ [(en es k).name] else outUp es s L k
theorem lessB_eq (x s : ByteArray) : lessB x s = decide (x.toList < s.toList) := bytesLess_eq _ _
theorem insZ_perm (l : List ByteArray) (s : ByteArray) : (insZ l s).Perm (l ++ [s]) := by
  have h : (l.takeWhile (lessB · s) ++ l.dropWhile (lessB · s)) = l := List.takeWhile_append_dropWhile
  unfold insZ
  refine List.perm_middle.trans ?_
  rw [h]
  exact (List.perm_append_singleton s l).symm
theorem insZ_rises : ∀ (l : List ByteArray) (s : ByteArray), l.Pairwise (fun x y => x.toList ≤ y.toList) → (insZ l s).Pairwise (fun x y => x.toList ≤ y.toList)
  | [], s, _ => by simp [insZ]
  | x :: l, s, h => by
    obtain ⟨h1, h2⟩ := List.pairwise_cons.1 h
    cases hx : lessB x s
    · have e : insZ (x :: l) s = s :: x :: l := by simp [insZ, List.takeWhile, List.dropWhile, hx]
      have hsx : s.toList ≤ x.toList := by
        rw [lessB_eq] at hx
        exact List.not_lt.1 (by simpa using hx)
      rw [e]
      refine List.pairwise_cons.2 ⟨fun y hy => ?_, h⟩
      rcases List.mem_cons.1 hy with rfl | hy
      · exact hsx
      · exact List.le_trans hsx (h1 y hy)
    · have e : insZ (x :: l) s = x :: insZ l s := by simp [insZ, List.takeWhile, List.dropWhile, hx]
      have hxs : x.toList ≤ s.toList := by
        rw [lessB_eq] at hx
        exact List.le_of_lt (by simpa using hx)
      rw [e]
      refine List.pairwise_cons.2 ⟨fun y hy => ?_, insZ_rises l s h2⟩
      rcases List.mem_append.1 ((insZ_perm l s).mem_iff.1 hy) with hy | hy
      · exact h1 y hy
      · obtain rfl : y = s := by simpa using hy
        exact hxs
theorem in_perm (es : List En) (s : Sp) (L : Nat) : ∀ k, (inUp es s L k).Perm (outUp es s L k)
  | 0 => .refl _
  | k + 1 => by
    unfold inUp outUp
    split
    · exact (insZ_perm _ _).trans ((in_perm es s L k).append_right _)
    · exact in_perm es s L k
theorem in_rises (es : List En) (s : Sp) (L : Nat) : ∀ k, (inUp es s L k).Pairwise (fun x y => x.toList ≤ y.toList)
  | 0 => .nil
  | k + 1 => by
    unfold inUp
    split
    · exact insZ_rises _ _ (in_rises es s L k)
    · exact in_rises es s L k
theorem in_sorted (es : List En) (s : Sp) (L k : Nat) : (inUp es s L k).map ByteArray.toList = ((outUp es s L k).map ByteArray.toList).mergeSort (fun x y => decide (x ≤ y)) := by
  have p1 : ((inUp es s L k).map ByteArray.toList).Perm (((outUp es s L k).map ByteArray.toList).mergeSort (fun x y => decide (x ≤ y))) := ((in_perm es s L k).map _).trans (List.mergeSort_perm _ _).symm
  have s1 : ((inUp es s L k).map ByteArray.toList).Pairwise (· ≤ ·) := List.pairwise_map.2 (in_rises es s L k)
  have s2 : (((outUp es s L k).map ByteArray.toList).mergeSort (fun x y => decide (x ≤ y))).Pairwise (· ≤ ·) := by
    have := List.pairwise_mergeSort (le := fun (x y : List UInt8) => decide (x ≤ y)) (fun a b c h1 h2 => by simp at h1 h2 ⊢; exact List.le_trans h1 h2) (fun a b => by simp; exact List.le_total a b) ((outUp es s L k).map ByteArray.toList)
    simpa using this
  exact p1.eq_of_pairwise (fun a b _ _ h1 h2 => List.le_antisymm h1 h2) s1 s2
end Go.Proofs.YtlnbeildplafbaaGreatDoor
/- Cells of directions: the program's Add of any entry; its names in a cell. -/
set_option linter.unusedSimpArgs false
set_option linter.unusedVariables false
namespace Go.Proofs.YtlnbeildplafbaaGreatDoor
open Go.RowKit Go.Grow Go.Atl

theorem padd_walk (a : Nat → Addr) (w : World) (B g m1 m2 : Nat) (L : Nat) (es : List En) (v : Value) (e : En) (hs : Sen a [2, 5, 10] w) (h : PAt w B g m1 m2 L es v) (hn : e.name.size ≤ maxLen) (hl : es.length < 4000) (hL : L ≤ 12) :
    Calls Tryz.prog 37 #[.pointer (some ⟨g, 0, none⟩), anV e] w fun en' w' => PAdd a w B g m1 m2 L es v e en' w' := by
  cases hx : hadUp e es es.length
  · cases hd : isDir e.at'
    · exact padd_shape a w B g m1 m2 L es v e hs h hn hx hd
    · exact padd_good a w B g m1 m2 L es v e h hn hx hd hl hL
  · exact padd_name a w B g m1 m2 L es v e hs h hn hx
/-- What the sort of a row of names is to leave. -/
def Sorts (f : Nat) : Prop := ∀ (X : World) (base : Nat) (v : Value) (l m : List ByteArray), X.ownsRow base 9 1 v l.length (stL l) → l.length ≤ 4000 → m.map ByteArray.toList = (l.map ByteArray.toList).mergeSort (fun x y => decide (x ≤ y)) → Calls Tryz.prog f #[v] X fun e w' => e = .returned (.tuple #[]) ∧ w'.ownsRow base 9 1 v m.length (stL m) ∧ X.grownBy w' v.ownBlock
theorem outUp_len (es : List En) (s : Sp) (L : Nat) : ∀ k, (outUp es s L k).length ≤ k
  | 0 => Nat.le_refl _
  | k + 1 => by
    have := outUp_len es s L k
    unfold outUp
    split
    · rw [List.length_append, List.length_singleton]; omega
    · omega
def PInRel (es : List En) (s : Sp) (L : Nat) (W1 : World) (v5 v27 : Value) (wr : World) : Prop :=
  ∃ k : Nat, k ≤ es.length ∧ v27 = .int .i64 k ∧ wr.ownsRow W1.heap.size 9 1 v5 (outUp es s L k).length (stL (outUp es s L k)) ∧ Below W1.heap.size W1 wr
end Go.Proofs.YtlnbeildplafbaaGreatDoor
