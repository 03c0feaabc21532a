/- Cells of directions: rows of names; whether two are the same. -/
import Derived.Test.YtlnbeildplafbaaGreatDoorAc12
import Derived.Laws.AppendOwnNone
import Derived.Test.YtlnbeildplafbaaGreatDoorTw2
import Derived.Deep.Onto
import Derived.Carry
set_option linter.unusedSimpArgs false
set_option linter.unusedVariables false
namespace Go.Proofs.YtlnbeildplafbaaGreatDoor
open Go.RowKit Go.Grow Go.Atl

def StrAt (w : World) (r : Option Addr) (l : List ByteArray) : Prop := l = [] ∨ ∃ b o, r = some ⟨b, o, none⟩ ∧ ∀ k (h : k < l.length), w.cell? ⟨b, o + k, none⟩ = some (.string l[k])
theorem StrAt.below {w w' : World} {r : Option Addr} {l : List ByteArray} (h : StrAt w r l) (hb : Below w.heap.size w w') : StrAt w' r l := by
  rcases h with h | ⟨b, o, hr, h⟩
  · exact .inl h
  · exact .inr ⟨b, o, hr, fun k hk => (hb.cell (p := ⟨b, o + k, none⟩) (lt_of_cellE (h k hk))).trans (h k hk)⟩
def stL (l : List ByteArray) : List Value := l.map Value.string
theorem stL_append (a b : List ByteArray) : stL (a ++ b) = stL a ++ stL b := by simp [stL]
theorem str_of_owns {w : World} {base n : Nat} {v : Value} {p : List ByteArray} {e : TypeId} (h : w.ownsRow base e 1 v n (stL p)) : ∃ r cap, v = .slice r p.length cap ∧ (r = none → cap = 0) ∧ StrAt w r p := by
  have hlen : n = p.length := by have := h.1; simp [stL] at this; omega
  subst hlen
  obtain ⟨hl, ⟨hv, hn⟩ | ⟨g, cap, cur, hv, hg⟩⟩ := h
  · exact ⟨none, 0, by rw [hv, hn], fun _ => rfl, .inl (List.length_eq_zero_iff.1 hn)⟩
  · subst hv
    have hc := owns_cellsE (w := w) (base := base) (e := e) (size := 1) (g := g) (n := p.length) (cap := cap) (xs := stL p) ⟨hl, .inr ⟨g, cap, cur, rfl, hg⟩⟩
    refine ⟨some ⟨g, 0, none⟩, cap, rfl, fun h => by simp at h, .inr ⟨g, 0, rfl, fun k hk => ?_⟩⟩
    rw [Nat.zero_add]
    exact hc _ _ (by simp [stL, hk])
end Go.Proofs.YtlnbeildplafbaaGreatDoor
/- Cells of directions: a name put into a list that rises. -/
set_option linter.unusedSimpArgs false
set_option linter.unusedVariables false
namespace Go.Proofs.YtlnbeildplafbaaGreatDoor
open Go.RowKit Go.Grow Go.Atl

def lessB (x s : ByteArray) : Bool := Op.bytesLess x.toList s.toList
def insZ (l : List ByteArray) (s : ByteArray) : List ByteArray := l.takeWhile (lessB · s) ++ s :: l.dropWhile (lessB · s)
theorem insZ_length (l : List ByteArray) (s : ByteArray) : (insZ l s).length = l.length + 1 := by
  unfold insZ
  have := congrArg List.length (List.takeWhile_append_dropWhile (p := (lessB · s)) (l := l))
  rw [List.length_append] at this ⊢
  rw [List.length_cons]; omega
theorem ins_at (s : ByteArray) : ∀ (l : List ByteArray) (k : Nat), k ≤ l.length → (∀ i (hi : i < l.length), i < k → lessB l[i] s = true) → (∀ hi : k < l.length, lessB l[k] s = false) → insZ l s = l.take k ++ s :: l.drop k
  | [], k, hk, _, _ => by simp [insZ]
  | x :: l, 0, _, _, he => by
    have : lessB x s = false := he (by simp)
    simp [insZ, List.takeWhile, List.dropWhile, this]
  | x :: l, k + 1, hk, h, he => by
    have h0 : lessB x s = true := h 0 (by simp) (by omega)
    have := ins_at s l k (by simpa using hk) (fun i hi hik => by have := h (i + 1) (by simpa using hi) (by omega); simpa using this) (fun hi => by have := he (by simpa using hi); simpa using this)
    have e : insZ (x :: l) s = x :: insZ l s := by simp [insZ, List.takeWhile, List.dropWhile, h0]
    rw [e, this]; rfl
theorem info_st : (Tryz.prog.info? 9).map (fun i => (i.zero, i.size, i.bytes)) = some (some (.string .empty), 1, 16) := by kernel_rfl
theorem news_st (w : World) (x : ByteArray) (t : TypeId) : ∀ j u, [Value.string x][j]? = some u → (w.alloc (.cells #[.string x] t)).cell? ((⟨w.heap.size, 0, none⟩ : Addr).add j) = some u := fun j u h => by
  have K := Known.new w #[.string x] t
  have := K.cell j
  rw [show (⟨w.heap.size, 0, none⟩ : Addr).add j = ⟨w.heap.size, j, none⟩ by unfold Addr.add; split <;> simp_all, this]
  simpa using h
theorem st_cell (x : ByteArray) : ∀ u ∈ [Value.string x], u.oneCell' = true := fun u h => by simp at h; subst h; rfl
theorem st_cells (l : List ByteArray) : ∀ u ∈ stL l, u.oneCell' = true := fun u h => by simp [stL] at h; obtain ⟨x, _, rfl⟩ := h; rfl
theorem below_grownE {base : Nat} {w w1 w2 : World} {row : Option Nat} (h : Below base w w1) (hb : base ≤ w1.heap.size) (g : w1.grownBy w2 row) (hr : ∀ k, row = some k → base ≤ k) : Below base w w2 :=
  h.trans ⟨g.os, g.tape, g.output, g.size, fun k hk => g.block k (by omega) (fun e => absurd (hr k e.symm) (by omega))⟩
theorem drop_cells {w w1 : World} {b o k : Nat} {l : List ByteArray} (hb : Below w.heap.size w w1) (hc : ∀ k (h : k < l.length), w.cell? ⟨b, o + k, none⟩ = some (.string l[k])) : ∀ j u, (stL (l.drop k))[j]? = some u → w1.cell? ((⟨b, o + k, none⟩ : Addr).add j) = some u := fun j u h => by
  have hj : j < (l.drop k).length := by
    by_cases hj : j < (l.drop k).length
    · exact hj
    · rw [List.getElem?_eq_none (by simp [stL] at hj ⊢; omega)] at h; cases h
  have hj' : k + j < l.length := by simp at hj; omega
  have e : u = .string l[k + j] := by
    simp [stL, hj'] at h
    exact h.symm
  have hcc := hc (k + j) hj'
  rw [show (⟨b, o + k, none⟩ : Addr).add j = ⟨b, o + (k + j), none⟩ by unfold Addr.add; split <;> simp_all [Nat.add_assoc], hb.cell (p := ⟨b, _, none⟩) (lt_of_cellE hcc), hcc, e]
theorem drop_len (l : List ByteArray) (k : Nat) : (stL (l.drop k)).length = (l.length - k) * 1 := by simp [stL]
def InsRel (w : World) (l : List ByteArray) (s : ByteArray) (v5 v6 : Value) (wr : World) : Prop :=
  ∃ k : Nat, k ≤ l.length ∧ v6 = .int .i64 k ∧ wr.ownsRow w.heap.size 9 1 v5 k (stL (l.take k)) ∧ Below w.heap.size w wr ∧ (∀ i (hi : i < l.length), i < k → lessB l[i] s = true)
end Go.Proofs.YtlnbeildplafbaaGreatDoor
/- Cells of directions: the document's names in a cell. -/
set_option linter.unusedSimpArgs false
set_option linter.unusedVariables false
namespace Go.Proofs.YtlnbeildplafbaaGreatDoor
open Go.RowKit Go.Grow Go.Atl

def inUp (es : List En) (s : Sp) (L : Nat) : Nat → List ByteArray
  | 0 => []
  | k + 1 => if cellAt (en es k).at' L = s then insZ (inUp es s L k) (en es k).name else inUp es s L k
theorem inUp_len (es : List En) (s : Sp) (L : Nat) : ∀ k, (inUp es s L k).length ≤ k
  | 0 => Nat.le_refl _
  | k + 1 => by
    have := inUp_len es s L k
    unfold inUp
    split
    · rw [insZ_length]; omega
    · omega
theorem str_of_owns2 {w : World} {base n : Nat} {v : Value} {p : List ByteArray} {e : TypeId} (h : w.ownsRow base e 1 v n (stL p)) : ∃ r cap, v = .slice r p.length cap ∧ p.length ≤ cap ∧ cap ≤ maxLen ∧ (r = none → cap = 0) ∧ StrAt w r p := by
  obtain ⟨r, cap, rfl, h1, h2⟩ := str_of_owns h
  obtain ⟨hl, ⟨hv, hn⟩ | ⟨g, cap', cur, hv, _, _, hc1, hc2, _⟩⟩ := h
  · simp at hv
    exact ⟨r, cap, rfl, by rw [hv.2.1]; simp, by rw [hv.2.2]; simp [maxLen], h1, h2⟩
  · simp at hv
    obtain ⟨e1, e2, e3⟩ := hv
    exact ⟨r, cap, rfl, by omega, by omega, h1, h2⟩
def DInRel (w : World) (es : List En) (s : Sp) (L : Nat) (W1 : World) (v5 v6 : Value) (wr : World) : Prop :=
  ∃ k : Nat, k ≤ es.length ∧ v6 = .int .i64 k ∧ wr.ownsRow W1.heap.size 9 1 v5 (inUp es s L k).length (stL (inUp es s L k)) ∧ Below W1.heap.size W1 wr
end Go.Proofs.YtlnbeildplafbaaGreatDoor
/- Cells of directions: the document's In below the atlas' level; the program's atlas, its size and coarse level. -/
set_option linter.unusedSimpArgs false
set_option linter.unusedVariables false
namespace Go.Proofs.YtlnbeildplafbaaGreatDoor
open Go.RowKit Go.Grow Go.Atl

/-- The program's atlas at g, its maps at m1 and m2; its row above B. -/
def AAt (w : World) (B g m1 m2 : Nat) (lev : Int) (es : List En) (v : Value) : Prop := Known w g #[.int .i64 lev, .map (some m1), v, .map (some m2), .int .i64 0] ∧ g < B ∧ B ≤ w.heap.size ∧ w.ownsRow B 93 5 v es.length (enL es)
theorem AAt.off {X : Nat → Prop} {w w' : World} {B g m1 m2 : Nat} {lev : Int} {es : List En} {v : Value} (h : AAt w B g m1 m2 lev es v) (o : Off X w w') (hg : ¬ X g) (hv : ∀ k, v.ownBlock = some k → ¬ X k) : AAt w' B g m1 m2 lev es v :=
  ⟨h.1.off o hg, h.2.1, Nat.le_trans h.2.2.1 o.size, owns_off h.2.2.2 o hv⟩
set_option maxRecDepth 100000 in
set_option maxHeartbeats 32000000 in
theorem asize_walk (w : World) (B g m1 m2 : Nat) (lev : Int) (es : List En) (v : Value) (h : AAt w B g m1 m2 lev es v) :
    Calls Tryz.prog 39 #[.pointer (some ⟨g, 0, none⟩)] w fun en' w' => en' = .returned (.int .i64 es.length) ∧ w = w' := by
  obtain ⟨r, cap, rfl, _⟩ := ens_of_owns h.2.2.2
  have g2 := h.1.cell 2
  have lg := h.1.lt
  simp only [List.getElem?_toArray, List.getElem?_cons_zero, List.getElem?_cons_succ] at g2
  clear h
  go_enter Tryz.func39, Tryz.ntmps39
  go_wp2
  go_ret
  exact ⟨rfl, rfl⟩
set_option maxRecDepth 100000 in
set_option maxHeartbeats 32000000 in
theorem coarse_walk (w : World) (B g m1 m2 : Nat) (lev : Int) (es : List En) (v : Value) (h : AAt w B g m1 m2 lev es v) :
    Calls Tryz.prog 76 #[.pointer (some ⟨g, 0, none⟩)] w fun en' w' => en' = .returned (.int .i64 (min lev 5)) ∧ w = w' := by
  have g2 := h.1.cell 0
  have lg := h.1.lt
  simp only [List.getElem?_toArray, List.getElem?_cons_zero, List.getElem?_cons_succ] at g2
  clear h
  by_cases c0 : lev ≤ 5
  · have u0 : decide (lev ≤ 5) = true := decide_eq_true c0
    have u1 : decide (5 < lev) = false := decide_eq_false (by omega)
    have hm := Lib.hid (show min lev 5 = lev by omega)
    rw [hm.out]
    go_enter Tryz.func76, Tryz.ntmps76
    go_wp2
    go_ret
    exact ⟨by first | rfl | simp [u0, u1], rfl⟩
  · have u0 : decide (lev ≤ 5) = false := decide_eq_false c0
    have u1 : decide (5 < lev) = true := decide_eq_true (by omega)
    have hm := Lib.hid (show min lev 5 = 5 by omega)
    rw [hm.out]
    go_enter Tryz.func76, Tryz.ntmps76
    go_wp2
    go_ret
    exact ⟨by first | rfl | simp [u0, u1], rfl⟩
end Go.Proofs.YtlnbeildplafbaaGreatDoor
/- Cells of directions: a new atlas. -/
set_option linter.unusedSimpArgs false
set_option linter.unusedVariables false
namespace Go.Proofs.YtlnbeildplafbaaGreatDoor
open Go.RowKit Go.Grow Go.Atl

set_option maxRecDepth 100000 in
set_option maxHeartbeats 32000000 in
theorem new_no (a : Nat → Addr) (lev : Int) (w : World) (hs : Sen a [2, 5] w) (hl : lev < 0 ∨ 12 < lev) :
    Calls Tryz.prog 36 #[.int .i64 lev] w fun e w' => e = .returned (.tuple #[.pointer none, errV a 2]) ∧ Below w.heap.size w w' := by
  have HE2 := Lib.hid (errV_pos a (show 2 ≠ 0 by decide))
  have g5 := (hs 2 (by decide)).1
  simp only [gOf] at g5
  have l5 := lt_of_cell g5
  simp only at l5
  clear hs
  by_cases h0 : lev < 0
  · have u0 : decide (lev < 0) = true := decide_eq_true h0
    clear hl
    go_enter Tryz.func36, Tryz.ntmps36
    go_wp2
    go_quiet (fail)
    go_wp2
    go_ret2
    exact ⟨by rw [HE2.out]; rfl, (by (repeat (with_reducible first | exact grow_refl _ | refine Grow.grow_drewN ?_ _ | refine Grow.grow_drew ?_)))⟩
  · have u0 : decide (lev < 0) = false := decide_eq_false h0
    have u1 : decide (12 < lev) = true := decide_eq_true (by omega)
    clear hl
    go_enter Tryz.func36, Tryz.ntmps36
    go_wp2
    go_quiet (fail)
    go_wp2
    go_ret2
    exact ⟨by rw [HE2.out]; rfl, (by (repeat (with_reducible first | exact grow_refl _ | refine Grow.grow_drewN ?_ _ | refine Grow.grow_drew ?_)))⟩
set_option maxRecDepth 100000 in
set_option maxHeartbeats 32000000 in
theorem new_good (L : Nat) (w : World) (hl : L ≤ 12) :
    Calls Tryz.prog 36 #[.int .i64 L] w fun e w' => e = .returned (.tuple #[.pointer (some ⟨w.heap.size + 2, 0, none⟩), .nilIface]) ∧ w' = ((w.alloc (.map #[] 0)).alloc (.map #[] 0)).alloc (.cells #[.int .i64 L, .map (some w.heap.size), .slice none 0 0, .map (some (w.heap.size + 1)), .int .i64 0] 101) := by
  have u0 : decide ((L : Int) < 0) = false := decide_eq_false (by omega)
  have u1 : decide (12 < (L : Int)) = false := decide_eq_false (by omega)
  have hmm := @run_makeMap Tryz.prog
  go_enter Tryz.func36, Tryz.ntmps36
  go_wp2
  go_ret2
  exact ⟨rfl, rfl⟩
end Go.Proofs.YtlnbeildplafbaaGreatDoor
