/- Waves by halves, the document's: the two halves put together. -/
import Derived.Test.YtaakbajhbmbhcaaDoorWf5
import Derived.Test.YtaakbajhbmbhcaaDoorWv8
set_option linter.unusedSimpArgs false
set_option linter.unusedVariables false
namespace Go.Proofs.YtaakbajhbmbhcaaDoor
open Go.RowKit Go.Fl Go.Grow Go.Tr

def upto (back : Bool) (m h : Nat) (X : Nat → C2) (k : Nat) : Nat → C2 := fun i => if i < k then fastZ back (m + 1) X i else if h ≤ i ∧ i < h + k then fastZ back (m + 1) X i else ⟨some 0, some 0⟩
theorem upto_next (back : Bool) (m h : Nat) (X : Nat → C2) (j : Nat) (hj : j < h) (i : Nat) : updC (updC (upto back m h X j) j (fastZ back (m + 1) X j)) (j + h) (fastZ back (m + 1) X (j + h)) i = upto back m h X (j + 1) i := by
  unfold updC upto
  by_cases c1 : i = j + h
  · subst c1
    rw [if_pos rfl, if_neg (by omega), if_pos (by omega)]
  · rw [if_neg c1]
    by_cases c2 : i = j
    · subst c2
      rw [if_pos rfl, if_pos (by omega)]
    · rw [if_neg c2]
      by_cases c3 : i < j
      · rw [if_pos c3, if_pos (by omega)]
      · rw [if_neg c3, if_neg (show ¬ i < j + 1 by omega)]
        by_cases c4 : h ≤ i ∧ i < h + j
        · rw [if_pos c4, if_pos (by omega)]
        · rw [if_neg c4, if_neg (by omega)]
def DRel (back : Bool) (m g h n : Nat) (X : Nat → C2) (w : World) (g6 g7 : Nat) (v13 : Value) (wr : World) : Prop :=
  ∃ k : Nat, k ≤ h ∧ v13 = .int .i64 k ∧ PRow wr g n (upto back m h X k) ∧
    PRow wr g6 h (fastZ back m (fun i => X (2 * i))) ∧ PRow wr g7 h (fastZ back m (fun i => X (2 * i + 1))) ∧ Below w.heap.size w wr
theorem mid_stride (X : Nat → C2) (f s : Nat) : (fun i => X (f + i * (2 * s))) = (fun i => (fun k => X (f + k * s)) (2 * i)) := by
  funext i
  show X (f + i * (2 * s)) = X (f + 2 * i * s)
  rw [show i * (2 * s) = 2 * i * s by rw [← Nat.mul_assoc, Nat.mul_comm i 2]]
theorem mid_stride2 (X : Nat → C2) (f s : Nat) : (fun i => X (f + s + i * (2 * s))) = (fun i => (fun k => X (f + k * s)) (2 * i + 1)) := by
  funext i
  show X (f + s + i * (2 * s)) = X (f + (2 * i + 1) * s)
  rw [show f + s + i * (2 * s) = f + (2 * i + 1) * s by rw [Nat.add_mul, ← Nat.mul_assoc, Nat.mul_comm i 2]; omega]
set_option maxRecDepth 100000 in
set_option maxHeartbeats 16000000 in
theorem halvD_more (back : Bool) (m h N : Nat) (hh : 2 ^ m = h) (hm : h ≤ 128) (hN : N ≤ 256) (cap : Nat) (r : Option Addr) (X0 : Nat → C2)
    (ih : ∀ (f s : Nat) (w : World), s * h = N → f < s → PIn w r N X0 → Calls Tryd.prog 47 #[.slice r N cap, .int .i64 f, .int .i64 s, .bool back] w (HalvD h (fastZ back m (fun i => X0 (f + i * s))) w))
    (f s : Nat) (w : World) (hs : s * (2 * h) = N) (hf : f < s) (hr : PIn w r N X0) :
    Calls Tryd.prog 47 #[.slice r N cap, .int .i64 f, .int .i64 s, .bool back] w (HalvD (2 * h) (fastZ back (m + 1) (fun i => X0 (f + i * s))) w) := by
  have hpos : 0 < h := by rw [← hh]; exact Nat.two_pow_pos m
  have hN0 : N ≤ N := Nat.le_refl _
  have hsN : s ≤ N := by rw [← hs]; exact Nat.le_mul_of_pos_right _ (by omega)
  have hsN2 : 2 * s ≤ N := by
    rw [← hs, Nat.mul_comm 2 s]
    exact Nat.mul_le_mul_left _ (by omega)
  obtain ⟨X, hX⟩ : ∃ X, X = (fun i => X0 (f + i * s)) := ⟨_, rfl⟩
  rw [← hX]
  have I1 := Lib.hid (fun W (hW : Below w.heap.size w W) => show Calls Tryd.prog 47 #[.slice r N cap, .int .i64 f, .int .i64 (2 * s : Nat), .bool back] W (HalvD h (fastZ back m (fun i => X (2 * i))) W) by
    have := ih f (2 * s) W (by rw [← hs, Nat.mul_comm 2 s, Nat.mul_assoc]) (by omega) (hr.below hW)
    rwa [mid_stride, ← hX] at this)
  have I2 := Lib.hid (fun W (hW : Below w.heap.size w W) => show Calls Tryd.prog 47 #[.slice r N cap, .int .i64 (f + s : Nat), .int .i64 (2 * s : Nat), .bool back] W (HalvD h (fastZ back m (fun i => X (2 * i + 1))) W) by
    have := ih (f + s) (2 * s) W (by rw [← hs, Nat.mul_comm 2 s, Nat.mul_assoc]) (by omega) (hr.below hW)
    rwa [mid_stride2, ← hX] at this)
  have HH := Lib.hid hh
  obtain ⟨n, hn⟩ : ∃ n, 2 * h = n := ⟨_, rfl⟩
  rw [hn] at hs ⊢
  have HN := Lib.hid hn
  have hmk := mk_pr n (by omega)
  have e0 : (N : Int).tdiv (s : Int) = (n : Int) := by
    rw [Int.tdiv_eq_ediv_of_nonneg (by omega), ← Int.natCast_ediv, ← hs, Nat.mul_div_cancel_left _ (by omega)]
  have n0 : ¬ ((s : Int) = 0) := by omega
  have d1 : ((n : Int) == 1) = false := by simp; omega
  have e1 : IntKind.i64.wrap (2 * (s : Int)) = ((2 * s : Nat) : Int) := by rw [IntWalk.i64_in _ (by omega)]; omega
  have e2 : IntKind.i64.wrap ((f : Int) + (s : Int)) = ((f + s : Nat) : Int) := by rw [IntWalk.i64_in _ (by omega)]; omega
  have e3 : IntKind.i64.wrap (n : Int) = (n : Int) := IntWalk.i64_in _ (by omega)
  have e7 : (n : Int) / 2 = (h : Int) := by omega
  generalize 2 * s = s2 at I1 I2 e1
  generalize f + s = f2 at I2 e2
  clear ih hr hX hh hs
  go_enter Tryd.func47, Tryd.ntmps47
  have s0 := trivial
  go_wp2_with (first
    | (clear s0; go_at_call 47; (with_reducible refine (I1.out _ (grow_refl _)).mono ?_); rintro e w2 ⟨g6, c6', rfl, hg6, hr6, hb6⟩; have R6 := Lib.hid hr6; have G2 := Lib.hid hb6; clear hr6 hb6; have s1 := trivial)
    | (clear s1; go_at_call 47; (with_reducible refine (I2.out _ G2.out).mono ?_); rintro e w3 ⟨g7, c7', rfl, hg7, hr7, hb7⟩; have R63 := Lib.hid (R6.out.below hb7); have HG7 := Lib.hid hg7; have R7 := Lib.hid hr7; have G3 := Lib.hid (grow_trans G2.out hb7); clear hr7 hb7))
  have NE : Hid (g6 ≠ g7) := Lib.hid (fun e => by have := HG7.out; have := R6.out.lt; omega)
  have lt6 := R63.out.lt
  have lt7 := R7.out.lt
  obtain ⟨g, hge⟩ : ∃ g, w3.heap.size = g := ⟨_, rfl⟩
  have NG6 := Lib.hid (show g6 ≠ g by omega)
  have NG7 := Lib.hid (show g7 ≠ g by omega)
  have NW := Lib.hid (show w.heap.size ≤ g by have := G3.out.size; omega)
  clear lt6 lt7
  go_loopw [13] (fun v13 wr => DRel back m w3.heap.size h n X w g6 g7 v13 wr) (fun i _ => h - (intOf i).toNat)
  case atStart =>
    refine ⟨0, Nat.zero_le _, rfl, (PRow.made _ _ _).at fun i hi => ?_, R63.out.below (grow_alloc (grow_refl _) _), R7.out.below (grow_alloc (grow_refl _) _), grow_alloc G3.out _⟩
    unfold upto
    rw [if_neg (by omega), if_neg (by omega)]
  case round =>
    clear hmk
    obtain ⟨j, hj, rfl, hrow, h6, h7, hb⟩ := hrel
    have R := Lib.hid hrow
    have S6 := Lib.hid h6
    have S7 := Lib.hid h7
    have G := Lib.hid hb
    clear hrow h6 h7 hb G2 G3 R6 R63 R7 I1 I2
    rw [hge] at R ⊢
    by_cases hjl : j < h
    · obtain ⟨xa, xb, c0, c1, x1, x2⟩ := S7.out.cell j hjl
      have X1 := Lib.hid x1
      have X2 := Lib.hid x2
      clear x1 x2
      have l7 := S7.out.lt
      have hG := G.out.size
      have FL := Lib.hid (fast_lo back X HH.out HN.out hjl)
      have FH := Lib.hid (fast_hi back X HH.out HN.out hjl)
      have e5 : (1296000000000 * (j : Int)).tdiv (n : Int) = ((angH n j : Nat) : Int) := by
        unfold angH
        rw [Int.natCast_ediv, Int.natCast_mul, Int.tdiv_eq_ediv_of_nonneg (by omega)]; rfl
      have ht : angH n j ≤ 331776000000000 := by
        unfold angH
        refine Nat.le_trans (Nat.div_le_self _ _) ?_
        have := Nat.mul_le_mul (Nat.le_refl 1296000000000) (show j ≤ 256 by omega)
        omega
      generalize angH n j = t at e5 FL FH ht
      have e4 : IntKind.i64.wrap (1296000000000 * (j : Int)) = 1296000000000 * (j : Int) := IntWalk.i64_in _ (by omega)
      have e6 : IntKind.i64.wrap (t : Int) = (t : Int) := IntWalk.i64_in _ (by omega)
      have hn1 : ¬ ((n : Int) = 0) := by omega
      have hj0 : (0 : Int) ≤ (j : Int) := by omega
      have hj1 : (j : Int) < (h : Int) := by omega
      go_wp2
      refine Rel.wp_region_rel_tail SpecD 12 (by kernel_rfl) (lexTailB_of_fast (by kernel_rfl) (by kernel_rfl) (by kernel_rfl)) ?_
      simp only [List.append_eq, List.cons_append, List.nil_append, List.take_succ_cons, List.take_zero, List.drop_succ_cons, List.drop_zero]
      repeat (first
        | (refine rel_call (f := 45) (args := #[.int .i64 _, .bool _]) (by rfl) rfl (callAt_func rfl Tryd.func45 (by kernel_rfl) (by kernel_rfl) rfl) (keeps_over (fun v h => h) fun x => waveOf_walk _ _ _) ?_; rintro _ ⟨wa, wb, rfl, hw1, hw2⟩; have W1 := Lib.hid hw1; have W2 := Lib.hid hw2; clear hw1 hw2; simp only [Act.put, List.setIfInBounds_toArray, List.set_cons_zero, List.set_cons_succ])
        | (refine rel_call (f := 44) (args := #[.agg #[.float .f64 _, .float .f64 _], .agg #[.float .f64 _, .float .f64 _]]) (by rfl) rfl (callAt_func rfl Tryd.func44 (by kernel_rfl) (by kernel_rfl) rfl) (keeps_over (fun v h => h) fun x => product_walk _ _ _ _ _) ?_; rintro _ ⟨ta, tb, rfl, ht1, ht2⟩; have T1 := Lib.hid ht1; have T2 := Lib.hid ht2; clear ht1 ht2; simp only [Act.put, List.setIfInBounds_toArray, List.set_cons_zero, List.set_cons_succ])
        | (refine rel_alloc (by rfl) rfl alloc_pr ?_; intro b10 hk10; have hk1 := hk10.1; clear hk10; simp only [Act.put, List.setIfInBounds_toArray, List.set_cons_zero, List.set_cons_succ])
        | (refine rel_plain (by rfl) rfl ?_; intro K hK; go_big_quiet_op; go_big_quiet_on)
        | (refine rel_skip (by rfl) ?_; simp only [Act.put, List.setIfInBounds_toArray, List.set_cons_zero, List.set_cons_succ]))
      refine Rel.wpRel_nil ?_
      intro w9 hB9 hG9
      simp only [Rel.holds, List.forall_mem_cons] at hG9
      obtain ⟨hx0, -⟩ := hG9
      have K10 := Known.held hx0
      have R9 := Lib.hid (R.out.below hB9)
      have S69 := Lib.hid (S6.out.below hB9)
      have S79 := Lib.hid (S7.out.below hB9)
      have G9 := Lib.hid (grow_trans G.out hB9)
      have ng : b10 ≠ g := by have := R.out.lt; omega
      have n6 : b10 ≠ g6 := by have := S6.out.lt; omega
      have n7 : b10 ≠ g7 := by omega
      have nw : w.heap.size ≤ b10 := by omega
      clear hx0 hB9 c0 c1 l7 R S6 S7 G hk1
      have l10 := K10.lt
      have c10 := K10.cell
      have f10 := K10.frozen
      go_wp2
      refine seal_wp ?_
      intro W hW
      have bW : But b10 w9 W := by rw [hW.out]; exact ((But.refl _ _).setCell _ _).setCell _ _
      have KW : Known W b10 #[.float .f64 ta, .float .f64 tb] := by rw [hW.out]; exact known_eq ((K10.same 0 _).same 1 _) rfl
      have RW := Lib.hid (R9.out.but bW (Ne.symm ng))
      have S6W := Lib.hid (S69.out.but bW (Ne.symm n6))
      have S7W := Lib.hid (S79.out.but bW (Ne.symm n7))
      have GW := Lib.hid (show Below w.heap.size w W by rw [hW.out]; exact grow_setCell (grow_setCell G9.out nw _) nw _)
      clear hW bW R9 S69 S79 G9 K10 l10 c10 f10
      obtain ⟨ya, yb, d0, d1', y1, y2⟩ := S6W.out.cell j hjl
      have Y1 := Lib.hid y1
      have Y2 := Lib.hid y2
      have HI0 := Lib.hid (And.intro y1 y2)
      clear y1 y2
      have LO1 := Lib.hid (show fadd (fl ya) (fl ta) = (fastZ back (m + 1) X j).re by
        rw [FL.out]; unfold cadd
        rw [Y1.out, T1.out, X1.out, X2.out, W1.out, W2.out])
      have LO2 := Lib.hid (show fadd (fl yb) (fl tb) = (fastZ back (m + 1) X j).im by
        rw [FL.out]; unfold cadd
        rw [Y2.out, T2.out, X1.out, X2.out, W1.out, W2.out])
      have HI1 := Lib.hid (show fsub (fl ya) (fl ta) = (fastZ back (m + 1) X (j + h)).re by
        rw [FH.out]; unfold csub
        rw [Y1.out, T1.out, X1.out, X2.out, W1.out, W2.out])
      have HI2 := Lib.hid (show fsub (fl yb) (fl tb) = (fastZ back (m + 1) X (j + h)).im by
        rw [FH.out]; unfold csub
        rw [Y2.out, T2.out, X1.out, X2.out, W1.out, W2.out])
      clear FL FH T1 T2 X1 X2 W1 W2 Y1 Y2
      have l6 := S6W.out.lt
      have l10 := KW.lt
      have c10 := KW.cell
      refine Rel.wp_region_rel_tail SpecD 20 (by kernel_rfl) (lexTailB_of_fast (by kernel_rfl) (by kernel_rfl) (by kernel_rfl)) ?_
      simp only [List.append_eq, List.cons_append, List.nil_append, List.take_succ_cons, List.take_zero, List.drop_succ_cons, List.drop_zero]
      have s0 := trivial
      repeat (first
        | (clear s0; refine rel_arith (by rfl) rfl (by rfl) rfl rfl ?_; intro p1 P1; have s1 := trivial; simp only [Act.put, List.setIfInBounds_toArray, List.set_cons_zero, List.set_cons_succ])
        | (clear s1; refine rel_arith (by rfl) rfl (by rfl) rfl rfl ?_; intro p2 P2; simp only [Act.put, List.setIfInBounds_toArray, List.set_cons_zero, List.set_cons_succ])
        | (refine rel_plain (by rfl) rfl ?_; intro K hK; go_big_quiet_op; go_big_quiet_on)
        | (refine rel_skip (by rfl) ?_; simp only [Act.put, List.setIfInBounds_toArray, List.set_cons_zero, List.set_cons_succ]))
      refine Rel.wpRel_nil ?_
      intro w4 hB4 hG4
      clear hG4 l6 l10 c10 d0 d1'
      have R4 := Lib.hid (RW.out.below hB4)
      have S64 := Lib.hid (S6W.out.below hB4)
      have S74 := Lib.hid (S7W.out.below hB4)
      have G4 := Lib.hid (grow_trans GW.out hB4)
      have K4 := KW.below hB4
      clear hB4 RW S6W S7W GW KW
      obtain ⟨z0, z1, q0, q1, _⟩ := R4.out.cell j (by omega)
      have q2 := R4.out.frozen (j * 2)
      have q3 := R4.out.frozen (j * 2 + 1)
      have q4 := R4.out.lt
      go_wp2
      refine seal_wp ?_
      intro V hV
      have bV : But g w4 V := by rw [hV.out]; exact ((But.refl _ _).setCell _ _).setCell _ _
      have KV : Known V b10 #[.float .f64 ta, .float .f64 tb] := K4.but bV ng
      have RV := Lib.hid (show PRow V g n (updC (upto back m h X j) j (fastZ back (m + 1) X j)) by rw [hV.out]; exact R4.out.set (by omega) _ (P1.out.trans LO1.out) (P2.out.trans LO2.out))
      have S6V := Lib.hid (S64.out.but bV NG6.out)
      have S7V := Lib.hid (S74.out.but bV NG7.out)
      have GV := Lib.hid (show Below w.heap.size w V by rw [hV.out]; exact grow_setCell (grow_setCell G4.out NW.out _) NW.out _)
      clear hV bV R4 S64 S74 G4 K4 q0 q1 q2 q3 q4 P1 P2 LO1 LO2
      obtain ⟨yc, yd, d0, d2', y1, y2⟩ := S6V.out.cell j hjl
      have Y3 := Lib.hid (show fsub (fl yc) (fl ta) = (fastZ back (m + 1) X (j + h)).re by rw [y1, ← HI0.out.1]; exact HI1.out)
      have Y4 := Lib.hid (show fsub (fl yd) (fl tb) = (fastZ back (m + 1) X (j + h)).im by rw [y2, ← HI0.out.2]; exact HI2.out)
      clear y1 y2 HI1 HI2
      have l6 := S6V.out.lt
      have l10 := KV.lt
      have c10 := KV.cell
      have e8 : IntKind.i64.wrap ((j : Int) + (h : Int)) = ((j + h : Nat) : Int) := by rw [IntWalk.i64_in _ (by omega)]; omega
      refine Rel.wp_region_rel_tail SpecD 23 (by kernel_rfl) (lexTailB_of_fast (by kernel_rfl) (by kernel_rfl) (by kernel_rfl)) ?_
      simp only [List.append_eq, List.cons_append, List.nil_append, List.take_succ_cons, List.take_zero, List.drop_succ_cons, List.drop_zero]
      have s0 := trivial
      repeat (first
        | (clear s0; refine rel_arith (by rfl) rfl (by rfl) rfl rfl ?_; intro p3 P3; have s1 := trivial; simp only [Act.put, List.setIfInBounds_toArray, List.set_cons_zero, List.set_cons_succ])
        | (clear s1; refine rel_arith (by rfl) rfl (by rfl) rfl rfl ?_; intro p4 P4; simp only [Act.put, List.setIfInBounds_toArray, List.set_cons_zero, List.set_cons_succ])
        | (refine rel_plain (by rfl) rfl ?_; intro K hK; go_big_quiet_op; go_big_quiet_on)
        | (refine rel_skip (by rfl) ?_; simp only [Act.put, List.setIfInBounds_toArray, List.set_cons_zero, List.set_cons_succ]))
      refine Rel.wpRel_nil ?_
      intro w5 hB5 hG5
      clear hG5 l6 l10 c10 d0 d2' KV
      have R5 := Lib.hid (RV.out.below hB5)
      have S65 := Lib.hid (S6V.out.below hB5)
      have S75 := Lib.hid (S7V.out.below hB5)
      have G5 := Lib.hid (grow_trans GV.out hB5)
      clear hB5 RV S6V S7V GV
      obtain ⟨z0, z1, q0, q1, _⟩ := R5.out.cell (j + h) (by omega)
      have q2 := R5.out.frozen ((j + h) * 2)
      have q3 := R5.out.frozen ((j + h) * 2 + 1)
      have q4 := R5.out.lt
      go_wp2
      go_roundw
      case rel =>
        have bZ : But g w5 ((w5.setCell ⟨g, (j + h) * 2, none⟩ (.float .f64 p3)).setCell ⟨g, (j + h) * 2 + 1, none⟩ (.float .f64 p4)) := ((But.refl _ _).setCell _ _).setCell _ _
        exact ⟨j + 1, by omega, by go_num, (R5.out.set (i := j + h) (by omega) _ (P3.out.trans Y3.out) (P4.out.trans Y4.out)).at fun i hi => upto_next back m h X j hjl i, S65.out.but bZ NG6.out, S75.out.but bZ NG7.out, grow_setCell (grow_setCell G5.out NW.out _) NW.out _⟩
      case measure => simp [intOf]; omega
    · obtain rfl : j = h := by omega
      go_wp2
      go_ret
      exact ⟨g, n, rfl, NW.out, R.out.at fun i hi => by
        unfold upto
        by_cases c : i < j
        · rw [if_pos c]
        · rw [if_neg c, if_pos (by omega)], G.out⟩
end Go.Proofs.YtaakbajhbmbhcaaDoor
/- Waves by halves: the document's FastOf; the law's walk. -/
set_option linter.unusedSimpArgs false
set_option linter.unusedVariables false
namespace Go.Proofs.YtaakbajhbmbhcaaDoor
open Go.RowKit Go.Fl Go.Grow Go.Tr

theorem halvD_walk (back : Bool) (N : Nat) (hN : N ≤ 256) (cap : Nat) (r : Option Addr) (X : Nat → C2) : ∀ (m h : Nat), 2 ^ m = h → h ≤ 256 → ∀ (f s : Nat) (w : World), s * h = N → f < s → PIn w r N X →
    Calls Tryd.prog 47 #[.slice r N cap, .int .i64 f, .int .i64 s, .bool back] w (HalvD h (fastZ back m (fun i => X (f + i * s))) w)
  | 0, h, hh, _, f, s, w, hs, hf, hr => by
    obtain rfl : h = 1 := by rw [← hh]
    rw [Nat.mul_one] at hs
    subst hs
    refine (halvD_one back r s f s cap X w hN (Nat.div_self (by omega)) hN hf hr).mono fun e w' ⟨g, c, he, h1, h2, h3⟩ => ⟨g, c, he, h1, h2.at fun k hk => ?_, h3⟩
    obtain rfl : k = 0 := by omega
    show X f = X (f + 0 * s)
    rw [Nat.zero_mul, Nat.add_zero]
  | m + 1, h, hh, hl, f, s, w, hs, hf, hr => by
    obtain ⟨q, hq⟩ : ∃ q, 2 ^ m = q := ⟨_, rfl⟩
    have e : 2 * q = h := by rw [← hh, Nat.pow_succ, hq]; omega
    subst e
    exact halvD_more back m q N hq (by omega) hN cap r X (fun f s w hs hf hr => halvD_walk back N hN cap r X m q hq (by omega) f s w hs hf hr) f s w hs hf hr
theorem PRow.list {w : World} {g n : Nat} {Y : Nat → C2} (h : PRow w g n Y) : ∃ L : List (Nat × Nat), L.length = n ∧ PrAt w (some ⟨g, 0, none⟩) L ∧ L.map cb = (List.range n).map Y := by
  have h1 : ∀ k : Fin n, ∃ x : Nat × Nat, w.cell? ⟨g, k.1 * 2, none⟩ = some (.float .f64 x.1) ∧ w.cell? ⟨g, k.1 * 2 + 1, none⟩ = some (.float .f64 x.2) ∧ cb x = Y k.1 := fun k => by
    obtain ⟨a, b, c0, c1, e0, e1⟩ := h.cell k.1 k.2
    exact ⟨(a, b), c0, c1, by show (⟨fl a, fl b⟩ : C2) = Y k.1; rw [e0, e1]⟩
  refine ⟨List.ofFn fun k => Classical.choose (h1 k), by simp, .inr ⟨g, 0, rfl, fun k hk => ?_⟩, ?_⟩
  · have hk2 : k < n := by simpa using hk
    have h2 := Classical.choose_spec (h1 ⟨k, hk2⟩)
    rw [List.getElem_ofFn, Nat.zero_add]
    exact ⟨h2.1, h2.2.1⟩
  · refine List.ext_getElem (by simp) fun k h3 h4 => ?_
    have hk2 : k < n := by simpa using h4
    have h2 := Classical.choose_spec (h1 ⟨k, hk2⟩)
    simp only [List.getElem_map, List.getElem_ofFn, List.getElem_range]
    exact h2.2.2
theorem PrAt.in {w : World} {r : Option Addr} {l : List (Nat × Nat)} {n : Nat} (h : PrAt w r l) (hn : l.length = n) : PIn w r n (fun k => cb (l.getD k (0, 0))) := by
  rcases h with h | ⟨b, o, rfl, hc⟩
  · exact .inl (by rw [← hn, h]; rfl)
  · refine .inr ⟨b, o, rfl, fun k hk => ?_⟩
    obtain ⟨c0, c1⟩ := hc k (by omega)
    exact ⟨_, _, c0, c1, by simp [hn, hk, cb], by simp [hn, hk, cb]⟩
set_option maxRecDepth 100000 in
set_option maxHeartbeats 8000000 in
theorem fastOf_walk (r : Option Addr) (m n cap : Nat) (back : Bool) (X : Nat → C2) (w : World) (hr : PIn w r n X) (hn : n ≤ 256) (h0 : 0 < n) (hm : 2 ^ m = n) :
    Calls Tryd.prog 28 #[.slice r n cap, .bool back] w (PrPost w ((List.range n).map (fstZ n m back X))) := by
  have HW := Lib.hid (show Calls Tryd.prog 47 #[.slice r n cap, .int .i64 0, .int .i64 1, .bool back] w (HalvD n (fastZ back m X) w) by
    have h := halvD_walk back n hn cap r X m n hm hn 0 1 w (by omega) (by omega) hr
    rwa [show (fun i => X (0 + i * 1)) = X from funext fun i => by rw [Nat.mul_one, Nat.zero_add]] at h)
  clear hr
  cases back with
  | true =>
    go_enter Tryd.func28, Tryd.ntmps28
    go_wp2_with (first
      | (go_at_call 47; (with_reducible refine HW.out.mono ?_); rintro e w1 ⟨g, c, rfl, hg, hr1, hb⟩; obtain ⟨L, hL, hp, hmap⟩ := hr1.list; have G1 := Lib.hid hb; have M1 := Lib.hid hmap; have HL := Lib.hid hL; have OW := Lib.hid (show Calls Tryd.prog 46 #[.slice (some ⟨g, 0, none⟩) n c] w1 (PrPost w1 ((List.range n).map (fstZ n m true X))) by
          have h := over_walk _ L c w1 (by omega) hp
          rw [hL, show (L.map fun p => shr n (cb p)) = (L.map cb).map (shr n) by rw [List.map_map]; rfl, hmap, List.map_map] at h
          exact h); clear hg hr1 hp hmap hb hL)
      | (go_at_call 46; (with_reducible refine OW.out.mono ?_); rintro e w2 ⟨r2, c2, L2, rfl, hp2, hm2, hb2⟩; have P2 := Lib.hid hp2; have M2 := Lib.hid hm2; have G2 := Lib.hid (grow_trans G1.out hb2); clear hp2 hm2 hb2))
    go_ret
    exact ⟨r2, c2, L2, rfl, P2.out, M2.out, G2.out⟩
  | false =>
    go_enter Tryd.func28, Tryd.ntmps28
    go_wp2_with (go_at_call 47; (with_reducible refine HW.out.mono ?_); rintro e w1 ⟨g, c, rfl, hg, hr1, hb⟩; obtain ⟨L, hL, hp, hmap⟩ := hr1.list; have G1 := Lib.hid hb; have M1 := Lib.hid hmap; have HL := Lib.hid hL; have P1 := Lib.hid hp; clear hg hr1 hp hmap hb hL)
    go_ret
    exact ⟨some ⟨g, 0, none⟩, c, L, by rw [HL.out]; rfl, P1.out, M1.out, G1.out⟩
set_option maxRecDepth 100000 in
set_option maxHeartbeats 8000000 in
theorem fast_skip (a : Nat → Addr) (r : Option Addr) (n cap : Nat) (back : Bool) (w : World) (hs : Sen a [2, 5] w) (hn : n ≤ 9223372036854775807) (h : 300 < n) :
    Calls Tryd.prog 7 #[.slice r n cap, .bool back] w fun e w' => e = .returned (.bool true) ∧ Below w.heap.size w w' := by
  have WD := Lib.hid (waved_walk a w hs)
  clear hs
  go_enter Tryd.func7, Tryd.ntmps7
  go_wp2_with (go_at_call 9; (with_reducible refine WD.out.mono ?_); rintro e w1 ⟨rfl, hb⟩; have HB := Lib.hid hb; clear hb)
  all_goals
    go_ret
    exact ⟨rfl, HB.out⟩
end Go.Proofs.YtaakbajhbmbhcaaDoor
