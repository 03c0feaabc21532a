/- Waves: rows of complex numbers and of pairs; the law's turning of pairs to numbers. -/
import Derived.Test.YtaakbajhbmbhcaaDoorWv1
import Derived.Test.YtaakbajhbmbhcaaDoorSx4
import Derived.Test.YtaakbajhbmbhcaaDoorOne
import Derived.Laws.AppendOwn
import Derived.Laws.OwnMore
import Derived.StillTail
set_option linter.unusedSimpArgs false
set_option linter.unusedVariables false
namespace Go.Proofs.YtaakbajhbmbhcaaDoor
open Go.RowKit Go.Fl Go.Grow Go.Tr

def cb (p : Nat × Nat) : C2 := ⟨fl p.1, fl p.2⟩
def cvL (l : List (Nat × Nat)) : List Value := l.map fun p => .complex .f64 p.1 p.2
theorem cvL_append (a b : List (Nat × Nat)) : cvL (a ++ b) = cvL a ++ cvL b := by simp [cvL]
/-- Complex numbers lie in w. -/
def CxAt (w : World) (r : Option Addr) (l : List (Nat × Nat)) : Prop := l = [] ∨ ∃ b o, r = some ⟨b, o, none⟩ ∧ ∀ k (h : k < l.length), w.cell? ⟨b, o + k, none⟩ = some (.complex .f64 l[k].1 l[k].2)
/-- Pairs lie in w. -/
def PrAt (w : World) (r : Option Addr) (l : List (Nat × Nat)) : Prop := l = [] ∨ ∃ b o, r = some ⟨b, o, none⟩ ∧ ∀ k (h : k < l.length), w.cell? ⟨b, o + k * 2, none⟩ = some (.float .f64 l[k].1) ∧ w.cell? ⟨b, o + k * 2 + 1, none⟩ = some (.float .f64 l[k].2)
theorem CxAt.below {w w' : World} {r : Option Addr} {l : List (Nat × Nat)} (h : CxAt w r l) (hb : Below w.heap.size w w') : CxAt w' r l := by
  rcases h with h | ⟨b, o, rfl, hc⟩
  · exact .inl h
  · exact .inr ⟨b, o, rfl, fun k hk => (hb.cell (p := ⟨b, o + k, none⟩) (lt_of_cell (hc k hk))).trans (hc k hk)⟩
theorem PrAt.below {w w' : World} {r : Option Addr} {l : List (Nat × Nat)} (h : PrAt w r l) (hb : Below w.heap.size w w') : PrAt w' r l := by
  rcases h with h | ⟨b, o, rfl, hc⟩
  · exact .inl h
  · refine .inr ⟨b, o, rfl, fun k hk => ?_⟩
    obtain ⟨c0, c1⟩ := hc k hk
    have hl : b < w.heap.size := lt_of_cell c0
    exact ⟨(hb.cell (p := ⟨b, o + k * 2, none⟩) hl).trans c0, (hb.cell (p := ⟨b, o + k * 2 + 1, none⟩) hl).trans c1⟩
theorem ownsRow_below {w w' : World} {base : Nat} {e : TypeId} {size : Nat} {v : Value} {n : Nat} {xs : List Value} (h : w.ownsRow base e size v n xs) (hb : Below w.heap.size w w') : w'.ownsRow base e size v n xs :=
  h.kept (row := none) ⟨hb.os, hb.tape, hb.output, hb.size, fun k hk _ => hb.block k hk⟩ (by
    cases hv : v.ownBlock with
    | none => exact .inl rfl
    | some k => exact .inr (by simp))
theorem below_grown {base : Nat} {w w1 w2 : World} {row : Option Nat} (h : Below base w w1) (hb : base ≤ w1.heap.size) (g : w1.grownBy w2 row) (hr : ∀ k, row = some k → base ≤ k) : Below base w w2 :=
  h.trans ⟨g.os, g.tape, g.output, g.size, fun k hk => g.block k (Nat.lt_of_lt_of_le hk hb) (fun e => by have := hr k e.symm; omega)⟩
theorem owns_cells {w : World} {base : Nat} {e : TypeId} {size : Nat} {g n cap : Nat} {xs : List Value} (h : w.ownsRow base e size (.slice (some ⟨g, 0, none⟩) n cap) n xs) : ∀ j u, xs[j]? = some u → w.cell? ⟨g, j, none⟩ = some u := fun j u hu => by
  have := h.cells (g := g) rfl j u hu
  rwa [add_zero] at this
/-- A row of the call's own, read. -/
theorem cx_of_owns {w : World} {base : Nat} {v : Value} {l : List (Nat × Nat)} {e : TypeId} (h : w.ownsRow base e 1 v l.length (cvL l)) : ∃ r cap, v = .slice r l.length cap ∧ CxAt w r l := by
  obtain ⟨hl, ⟨hv, hn⟩ | ⟨g, cap, cur, hv, hg⟩⟩ := h
  · exact ⟨none, 0, by rw [hv, hn], .inl (List.length_eq_zero_iff.1 hn)⟩
  · subst hv
    have hc := owns_cells (w := w) (base := base) (e := e) (size := 1) (g := g) (n := l.length) (cap := cap) (xs := cvL l) ⟨hl, .inr ⟨g, cap, cur, rfl, hg⟩⟩
    refine ⟨some ⟨g, 0, none⟩, cap, rfl, .inr ⟨g, 0, rfl, fun k hk => ?_⟩⟩
    rw [Nat.zero_add]
    exact hc k _ (by simp [cvL, hk])
theorem info_cx : (Tryd.prog.info? 36).map (fun i => (i.zero, i.size, i.bytes)) = some (some (.complex .f64 0 0), 1, 16) := by kernel_rfl
theorem one_cx (a b : Nat) : ∀ u ∈ [Value.complex .f64 a b], u.oneCell' = true := fun u h => by simp at h; subst h; rfl
def CxPost (w : World) (l : List (Nat × Nat)) (e : Ending) (w' : World) : Prop := ∃ r c, e = .returned (.slice r l.length c) ∧ CxAt w' r l ∧ Below w.heap.size w w'
def NumRel (w : World) (l : List (Nat × Nat)) (v3 v4 : Value) (wr : World) : Prop :=
  ∃ k : Nat, k ≤ l.length ∧ v4 = .int .i64 k ∧ wr.ownsRow w.heap.size 36 1 v3 (l.take k).length (cvL (l.take k)) ∧ Below w.heap.size w wr
theorem take_snocC (l : List (Nat × Nat)) (k : Nat) (h : k < l.length) : l.take (k + 1) = l.take k ++ [l[k]] := by
  rw [List.take_succ_eq_append_getElem h]
set_option maxRecDepth 100000 in
set_option maxHeartbeats 8000000 in
theorem numbers_walk (r : Option Addr) (l : List (Nat × Nat)) (cap : Nat) (w : World) (hl : l.length ≤ 1000) (hr : PrAt w r l) :
    Calls Tryd.prog 14 #[.slice r l.length cap] w (CxPost w l) := by
  obtain ⟨i0, hi, hz0, hz1, hz2⟩ := info_parts info_cx
  have HI := Lib.hid hi
  have HZ0 := Lib.hid hz0
  have HZ1 := Lib.hid hz1
  have HZ2 := Lib.hid hz2
  have HR := Lib.hid hr
  clear hr hi hz0 hz1 hz2
  go_enter Tryd.func14, Tryd.ntmps14
  go_wp2
  go_loopw [3, 4] (fun v3 v4 wr => NumRel w l v3 v4 wr) (fun _ i _ => l.length - (intOf i).toNat)
  case atStart => exact ⟨0, Nat.zero_le _, rfl, World.ownsRow_nil _ _ _ _, Below.refl _ _⟩
  case round =>
    obtain ⟨k, hk, rfl, hown, hg⟩ := hrel
    have O := Lib.hid hown
    have G := Lib.hid hg
    clear hown hg
    have hz := G.out.size
    by_cases hlt : k < l.length
    · obtain ⟨b1, o1, rfl, hc⟩ := HR.out.resolve_left (by intro h; rw [h] at hlt; exact absurd hlt (by simp))
      obtain ⟨e0, e1⟩ := hc k hlt
      have hb1 : b1 < w.heap.size := lt_of_cell e0
      rw [← G.out.cell (p := ⟨b1, _, none⟩) hb1] at e0 e1
      have TS := Lib.hid (take_snocC l k hlt)
      clear hc
      generalize l[k] = x at *
      obtain ⟨xa, xb⟩ := x
      simp only at e0 e1
      have hb1' : b1 < wr.heap.size := Nat.lt_of_lt_of_le hb1 hz
      have hi0 : (0 : Int) ≤ (k : Int) := by omega
      have hi1 : (k : Int) < (l.length : Int) := by omega
      go_wp2
      refine Grow.wp_region_reads1 [0, 1, 2, 3, 4, 6, 7, 8, 9] [5, 10] [11, 12, 13, 14] (by kernel_rfl) (by kernel_rfl) (by kernel_rfl) (by kernel_rfl) (by kernel_rfl) (by kernel_rfl) ?_ ?_
      · intro c aa d v ww h
        simp (config := {zetaDelta := true}) only [Exit.then, Exit.inBlock] at h ⊢
        exact Grow.bodyPost_blind h
      simp only [Grow.pick, List.getElem?_cons_zero, List.getElem?_cons_succ, List.cons_append, List.nil_append]
      repeat (go_big_quiet_step (fail))
      refine wpQuiet_nil ?_
      repeat (go_big_quiet_step (fail))
      refine wpQuiet_nil ?_
      have OX := Lib.hid (ownsRow_below O.out (grow_drew (grow_refl wr)))
      have GX := Lib.hid (Below.drew G.out)
      clear O G e0 e1
      generalize wr.drew = w4 at *
      have hz4 := GX.out.size
      have ltk : (l.take k).length = k := by rw [List.length_take]; omega
      have C3 := Lib.hid (show (l.take k).length + 1 ≤ maxLen by unfold maxLen; omega)
      have C4 := Lib.hid (show ((l.take k).length + 1) * 16 ≤ 140737488355328 by omega)
      have C5 := Lib.hid (show w.heap.size ≤ (w4.alloc (.cells #[Value.complex .f64 xa xb] 36)).heap.size by simp; omega)
      clear ltk
      go_wp2_with (at_builtin; refine wpList_append_own _ rfl _ _ 30 rfl w.heap.size 36 i0 (.complex .f64 0 0) 1 16 Tryd.underlying30 HI.out HZ0.out HZ1.out HZ2.out rfl (by decide) _ _ _ rfl (OX.out.alloc _) ⟨w4.heap.size, 0, none⟩ 1 1 [.complex .f64 xa xb] rfl rfl (one_new _ _ _) (one_cx _ _) C3.out C4.out C5.out ?_)
      intro v' w1 hown' hg' _
      have HO2 := Lib.hid hown'
      have HG2 := Lib.hid hg'
      clear hown' hg'
      go_wp2
      go_roundw
      case rel =>
        refine ⟨k + 1, by omega, by go_num, ?_, below_grown (GX.out.alloc hz4 _) (by simp; omega) HG2.out (fun k hk => (OX.out.lt k hk).1)⟩
        rw [TS.out, cvL_append, List.length_append]
        have e : (l.take k).length = k := by rw [List.length_take]; omega
        rw [e]
        exact HO2.out
      case measure => simp [intOf]; omega
    · obtain rfl : k = l.length := by omega
      rw [List.take_length] at O
      obtain ⟨r', c', hv, hx⟩ := cx_of_owns O.out
      subst hv
      go_wp2
      go_ret
      exact ⟨r', c', rfl, hx, G.out⟩
end Go.Proofs.YtaakbajhbmbhcaaDoor
