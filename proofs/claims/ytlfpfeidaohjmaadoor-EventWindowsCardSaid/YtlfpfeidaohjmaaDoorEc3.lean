/- The document's tracks: whether one is above a level. -/
import Derived.Test.YtlfpfeidaohjmaaDoorWd
import Derived.Test.YtlfpfeidaohjmaaDoorEb6
import Derived.Test.YtlfpfeidaohjmaaDoorEb14
import Derived.Test.YtlfpfeidaohjmaaDoorEb3
import Derived.Test.YtlfpfeidaohjmaaDoorLat2
set_option linter.unusedSimpArgs false
set_option linter.unusedVariables false
namespace Go.Proofs.YtlfpfeidaohjmaaDoor
open Go.RowKit Go.Grow Go.Fl Go.Bg

theorem dig_nil (n : Nat) : (dig n).length = 0 ↔ n = 0 := by
  constructor
  · intro h
    have h2 : dig n = [] := List.length_eq_zero_iff.1 h
    have := val_dig n
    rw [h2] at this
    exact this.symm
  · intro h; subst h; rw [dig_zero]; rfl
/-- Of two products, by signs and sizes: is the sum above nought? -/
def sumPos (a b : Int) (P Q : Nat) : Bool := decide (0 < a * (P : Int) + b * (Q : Int))
theorem sgn_or (x y : Int) : sgn x y = 1 ∨ sgn x y = -1 := by unfold sgn; split <;> simp
theorem sum_cases {s1 s2 : Int} {P Q : Nat} {AB : Bool} (h1 : s1 = 1 ∨ s1 = -1) (h2 : s2 = 1 ∨ s2 = -1) (h : AB = decide (0 < s1 * (P : Int) + s2 * (Q : Int))) :
    ((dig P).length = 0 ∧ s2 = -1 ∧ AB = false) ∨ ((dig P).length = 0 ∧ s2 = 1 ∧ AB = decide (0 < (dig Q).length)) ∨
    ((dig P).length ≠ 0 ∧ (dig Q).length = 0 ∧ AB = decide (0 < s1)) ∨ ((dig P).length ≠ 0 ∧ (dig Q).length ≠ 0 ∧ s1 = s2 ∧ AB = decide (0 < s1)) ∨
    ((dig P).length ≠ 0 ∧ (dig Q).length ≠ 0 ∧ s1 = 1 ∧ s2 = -1 ∧ AB = decide (0 < cmpN P Q)) ∨ ((dig P).length ≠ 0 ∧ (dig Q).length ≠ 0 ∧ s1 = -1 ∧ s2 = 1 ∧ AB = decide (cmpN P Q < 0)) := by
  have hP := dig_nil P
  have hQ := dig_nil Q
  by_cases p0 : P = 0
  · subst p0
    rcases h2 with rfl | rfl
    · exact .inr (.inl ⟨hP.2 rfl, rfl, by rw [h, decide_eq_decide]; omega⟩)
    · exact .inl ⟨hP.2 rfl, rfl, by rw [h, decide_eq_false_iff_not]; omega⟩
  · have p1 : (dig P).length ≠ 0 := fun h => p0 (hP.1 h)
    by_cases q0 : Q = 0
    · subst q0
      refine .inr (.inr (.inl ⟨p1, hQ.2 rfl, ?_⟩))
      rcases h1 with rfl | rfl <;> (rw [h, decide_eq_decide]; omega)
    · have q1 : (dig Q).length ≠ 0 := fun h => q0 (hQ.1 h)
      unfold cmpN
      rcases h1 with rfl | rfl <;> rcases h2 with rfl | rfl
      · exact .inr (.inr (.inr (.inl ⟨p1, q1, rfl, by rw [h, decide_eq_decide]; omega⟩)))
      · exact .inr (.inr (.inr (.inr (.inl ⟨p1, q1, rfl, rfl, by rw [h, decide_eq_decide]; split <;> (try split) <;> omega⟩))))
      · exact .inr (.inr (.inr (.inr (.inr ⟨p1, q1, rfl, rfl, by rw [h, decide_eq_decide]; split <;> (try split) <;> omega⟩))))
      · exact .inr (.inr (.inr (.inl ⟨p1, q1, rfl, by rw [h, decide_eq_decide]; omega⟩)))
set_option maxRecDepth 100000 in
set_option maxHeartbeats 16000000 in
theorem aboveAt_walk (b o : Nat) (F : Int) (S : Nat) (r : Option Addr) (c : Nat) (L : List Int) (n x : Int) (w : World) (FT : Fit F S L) (hn1 : -1099511627776 ≤ n) (hn2 : n ≤ 1099511627776) (h : TrAt w b o F S r c L) (hx1 : F ≤ x) (hx2 : x ≤ lastT F S L.length) :
    Calls Tryd.prog 67 #[.pointer (some ⟨b, o, none⟩), .int .i64 n, .int .i64 x] w fun e w' => e = .returned (.bool (above F S n L x)) ∧ Below w.heap.size w w' := by
  obtain ⟨p0, p1, p2⟩ := fit_prod FT
  obtain ⟨two, most, f1, f2, s1, l1, hh⟩ := FT
  have T := Lib.hid h
  have d0 := h.c0
  have d1 := h.c1
  have d2 := h.c2
  have lb := h.lt
  obtain ⟨i, hi, hin, hd0, hd1, hd2⟩ := seg (n := L.length) s1 hx1 hx2 (by omega)
  obtain ⟨AB, hAB⟩ : ∃ AB, above F S n L x = AB := ⟨_, rfl⟩
  rw [hAB]
  unfold above at hAB
  rw [hi, Int.toNat_natCast] at hAB
  have hq : (x - F).tdiv S = (i : Int) := by rw [Int.tdiv_eq_ediv_of_nonneg (by omega), hi]
  have hs0 : ¬ ((S : Int) = 0) := by omega
  obtain ⟨b1, o1, rfl, hc⟩ := h.row.resolve_left (by intro h; rw [h] at two; exact absurd two (by simp))
  have hb1 : b1 < w.heap.size := lt_of_cellS (hc i hin)
  have hi0 : (0 : Int) ≤ (i : Int) := by omega
  have hi1 : (i : Int) < (L.length : Int) := by omega
  by_cases he : i + 1 ≥ L.length
  · rw [if_pos he] at hAB
    have hle : i = L.length - 1 := by omega
    have c0 := hc (L.length - 1) (by omega)
    rw [show L.getD (L.length - 1) 0 = L[L.length - 1] by simp [show L.length - 1 < L.length by omega]] at hAB
    have hcast : ((L.length - 1 : Nat) : Int) = (L.length : Int) - 1 := by omega
    have ht : ((L.length : Int) - 1).toNat = L.length - 1 := by omega
    have he2 : (L.length : Int) - 1 ≤ (i : Int) := by omega
    generalize L[L.length - 1] = u at c0 hAB
    have HAB := Lib.hid hAB
    have hdc : decide ((L.length : Int) - 1 ≤ (i : Int)) = true := decide_eq_true he2
    clear hc hh hi hd0 hd1 hd2 hAB h
    go_enter Tryd.func67, Tryd.ntmps67
    go_wp2
    go_quiet (fail)
    go_wp2
    go_ret
    exact ⟨by rw [← HAB.out]; rfl, grow_drewN (grow_refl _) _⟩
  · rw [if_neg he] at hAB
    have hin2 : i + 1 < L.length := by omega
    have c0 := hc i hin
    have c1 := hc (i + 1) hin2
    have u1 := hh L[i] (by simp)
    have u2 := hh L[i + 1] (by simp)
    rw [show L.getD i 0 = L[i] by simp [hin], show L.getD (i + 1) 0 = L[i + 1] by simp [hin2]] at hAB
    have he2 : ¬ ((L.length : Int) - 1 ≤ (i : Int)) := by omega
    have he3 : decide ((L.length : Int) - 1 ≤ (i : Int)) = false := decide_eq_false he2
    have hj0 : (0 : Int) ≤ (i : Int) + 1 := by omega
    have hj1 : (i : Int) + 1 < (L.length : Int) := by omega
    have ht : ((i : Int) + 1).toNat = i + 1 := by omega
    have hm : (0 : Int) ≤ (i : Int) * (S : Int) := Int.mul_nonneg (by omega) (by omega)
    generalize L[i] = u at c0 u1 hAB
    generalize L[i + 1] = v at c1 u2 hAB
    unfold segAb at hAB
    have C1 := Lib.hid c1
    obtain ⟨dd, hdd⟩ : ∃ dd, x - F - (i : Int) * S = dd := ⟨_, rfl⟩
    rw [hdd] at hAB hd0 hd1
    have PA := Lib.hid (fun X => product_walk (u - n) (S - dd) X (by omega) (by omega))
    have PB := Lib.hid (fun X => product_walk (v - n) dd X (by omega) (by omega))
    unfold ProdPost at PA PB
    have HAB := Lib.hid (sum_cases (sgn_or (u - n) (S - dd)) (sgn_or (v - n) dd) (show AB = decide (0 < sgn (u - n) (S - dd) * (((u - n).natAbs * (S - dd).natAbs : Nat) : Int) + sgn (v - n) dd * (((v - n).natAbs * dd.natAbs : Nat) : Int)) by rw [← prod_sgn, ← prod_sgn]; exact hAB.symm))
    have LP : (u - n).natAbs * (S - dd).natAbs < 1000000 ^ 100 := mul_big (by omega) (by omega)
    have LQ : (v - n).natAbs * dd.natAbs < 1000000 ^ 100 := mul_big (by omega) (by omega)
    have CP := Lib.hid (fun r1 r2 k1 k2 X h1 h2 => dgCmp_walk r1 r2 ((u - n).natAbs * (S - dd).natAbs) ((v - n).natAbs * dd.natAbs) k1 k2 X LP LQ h1 h2)
    clear LP LQ hAB
    generalize sgn (u - n) (S - dd) = s1 at PA HAB
    generalize sgn (v - n) dd = s2 at PB HAB
    generalize (u - n).natAbs * (S - dd).natAbs = P at PA HAB CP
    generalize (v - n).natAbs * dd.natAbs = Q at PB HAB CP
    clear hc hh hi h hd2
    go_enter Tryd.func67, Tryd.ntmps67
    go_wp2
    go_quiet (fail)
    go_wp2
    go_quiet (fail)
    go_wp2
    refine Rel.wp_region_rel_late2 (fun _ _ _ => False) 15 17 18 18 19 (by kernel_rfl) (by kernel_rfl) (by kernel_rfl) (by kernel_rfl) (by kernel_rfl) (lexTailB_of_fast (by kernel_rfl) (by kernel_rfl) (by kernel_rfl)) (by decide) (by decide) (fun _ _ _ _ _ h => h) ?_
    simp only [List.append_eq, List.cons_append, List.nil_append, List.take_succ_cons, List.take_zero, List.drop_succ_cons, List.drop_zero]
    repeat (first
      | (refine rel_plain (by rfl) rfl ?_; intro K hK; go_big_quiet_op; go_big_quiet_on)
      | (refine rel_nilCheck (by rfl) rfl rfl ?_; simp only [Act.put, List.setIfInBounds_toArray, List.set_cons_zero, List.set_cons_succ])
      | (refine rel_skip (by rfl) ?_; simp only [Act.put, List.setIfInBounds_toArray, List.set_cons_zero, List.set_cons_succ]))
    refine Rel.wpRel_nil ?_
    intro w9 hB9 hG9
    have G9 := Lib.hid (show Below w.heap.size w w9 from grow_trans (grow_drewN (grow_drewN (grow_refl _) _) _) hB9)
    clear hB9 hG9 d0 d1 d2 c0 c1
    rcases HAB.out with ⟨g1, rfl, g3⟩ | ⟨g1, rfl, g3⟩ | ⟨g1, g2, g3⟩ | ⟨g1, g2, rfl, g3⟩ | ⟨g1, g2, rfl, rfl, g3⟩ | ⟨g1, g2, rfl, rfl, g3⟩
    case' inl => have z1 : ((dig P).length : Int) = 0 := by omega
    case' inr.inl => have z1 : ((dig P).length : Int) = 0 := by omega
    case' inr.inr.inl => (have z1 : ¬ ((dig P).length : Int) = 0 := by omega); (have z2 : ((dig Q).length : Int) = 0 := by omega)
    case' inr.inr.inr.inl => (have z1 : ¬ ((dig P).length : Int) = 0 := by omega); (have z2 : ¬ ((dig Q).length : Int) = 0 := by omega)
    case' inr.inr.inr.inr.inl => (have z1 : ¬ ((dig P).length : Int) = 0 := by omega); (have z2 : ¬ ((dig Q).length : Int) = 0 := by omega)
    case' inr.inr.inr.inr.inr => (have z1 : ¬ ((dig P).length : Int) = 0 := by omega); (have z2 : ¬ ((dig Q).length : Int) = 0 := by omega)
    all_goals
      clear HAB
      go_wp2_with (first
        | (go_at_call 114; (with_reducible refine (PA.out _).mono ?_); rintro e w1 ⟨ra, ca, rfl, hda, hb9⟩; have DA := Lib.hid hda; have GA := Lib.hid (grow_trans G9.out hb9); have T1 := Lib.hid (T.out.below GA.out); have d2 := T1.out.c2; have lb1 := T1.out.lt; have c1 := (GA.out.cell (p := ⟨b1, _, none⟩) hb1).trans C1.out; clear hda hb9)
        | (go_at_call 114; (with_reducible refine (PB.out _).mono ?_); rintro e w2 ⟨rb, cb, rfl, hdb, hb9⟩; have DB := Lib.hid hdb; have DA2 := Lib.hid (DA.out.below hb9); have GB := Lib.hid (grow_trans GA.out hb9); clear hdb hb9 d2 c1)
        | (go_at_call 115; (with_reducible refine (CP.out _ _ _ _ _ DA2.out DB.out).mono ?_); rintro e w3 ⟨rfl, hb9⟩; replace GB := Lib.hid (grow_trans GB.out hb9); clear hb9))
      go_ret
      refine ⟨?_, GB.out⟩
      rw [g3]
      first | rfl | (congr; done) | simp
end Go.Proofs.YtlfpfeidaohjmaaDoor
