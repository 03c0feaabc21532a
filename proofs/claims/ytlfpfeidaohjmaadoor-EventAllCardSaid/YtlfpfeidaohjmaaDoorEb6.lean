/- The document's tracks: the height at an instant. -/
import Derived.Test.YtlfpfeidaohjmaaDoorEb5
import Derived.Test.YtlfpfeidaohjmaaDoorRn
set_option linter.unusedSimpArgs false
set_option linter.unusedVariables false
namespace Go.Proofs.YtlfpfeidaohjmaaDoor
open Go.RowKit Go.Grow Go.Bg Go.Fl

/-- The height at an instant of a right track. -/
def hgt (F S : Int) (L : List Int) (x : Int) : Int :=
  if ((x - F) / S).toNat + 1 = L.length then L.getD ((x - F) / S).toNat 0
  else L.getD ((x - F) / S).toNat 0 + (L.getD (((x - F) / S).toNat + 1) 0 - L.getD ((x - F) / S).toNat 0) * (x - F - (((x - F) / S).toNat : Int) * S) / S
def hAt (F S : Int) (L : List Int) (x : Int) : Int × Nat :=
  if trE F S L ≠ 0 then (0, trE F S L) else if x < F ∨ lastT F S L.length < x then (0, 3) else (hgt F S L x, 0)
/-- What a right track has. -/
structure Fit (F S : Int) (L : List Int) : Prop where
  two : 2 ≤ L.length
  most : L.length ≤ 4000
  f1 : -300000000000000000 ≤ F
  f2 : F ≤ 300000000000000000
  s : 1 ≤ S
  l : lastT F S L.length ≤ 300000000000000000
  h : ∀ x ∈ L, -1099511627776 ≤ x ∧ x ≤ 1099511627776
theorem fit_of {F S : Int} {L : List Int} (h : trE F S L = 0) : Fit F S L := by
  unfold trE at h
  split at h
  · cases h
  · rename_i h1
    split at h
    · rename_i h2
      split at h
      · cases h
      · rename_i h3
        obtain ⟨a, b, c⟩ := h2
        obtain ⟨a1, a2⟩ := (goodT_iff F).1 a
        refine ⟨by omega, by omega, a1, a2, b, ((goodT_iff _).1 c).2, fun x hx => ?_⟩
        have h4 : hugeL L = false := by simpa using h3
        unfold hugeL at h4
        rw [List.any_eq_false] at h4
        have := h4 x hx
        simp at this
        omega
    · cases h
/-- Where an instant lies. -/
theorem seg {F S : Int} {n : Nat} {x : Int} (hS : 1 ≤ S) (h1 : F ≤ x) (h2 : x ≤ lastT F S n) (hn : 1 ≤ n) : ∃ i : Nat, (x - F) / S = (i : Int) ∧ i < n ∧ 0 ≤ x - F - (i : Int) * S ∧ x - F - (i : Int) * S < S ∧ (i + 1 = n → x - F - (i : Int) * S = 0) := by
  have h3 : 0 ≤ (x - F) / S := Int.ediv_nonneg (by omega) (by omega)
  refine ⟨((x - F) / S).toNat, by omega, ?_, ?_⟩
  · unfold lastT at h2
    have h4 : (x - F) / S < (n : Int) := by
      refine Int.ediv_lt_of_lt_mul (by omega) ?_
      rw [Int.sub_mul, Int.one_mul] at h2
      omega
    omega
  · have e : (((x - F) / S).toNat : Int) = (x - F) / S := by omega
    rw [e]
    have h5 := Int.emod_add_mul_ediv (x - F) S
    have h6 := Int.emod_nonneg (x - F) (show S ≠ 0 by omega)
    have h7 := Int.emod_lt_of_pos (x - F) (show 0 < S by omega)
    rw [Int.mul_comm] at h5
    refine ⟨by omega, by omega, fun hi => ?_⟩
    unfold lastT at h2
    have e2 : ((n : Int) - 1) = (x - F) / S := by omega
    rw [e2] at h2
    omega
def HPost (F S : Int) (L : List Int) (x : Int) (w : World) (e : Ending) (w' : World) : Prop := e = .returned (.tuple #[.int .i64 (hAt F S L x).1, .int .i64 ((hAt F S L x).2 : Nat)]) ∧ Below w.heap.size w w'
set_option maxRecDepth 100000 in
set_option maxHeartbeats 16000000 in
theorem heightAt_walk (b o : Nat) (F S : Int) (r : Option Addr) (c : Nat) (L : List Int) (x : Int) (w : World) (hl : L.length ≤ 1000000) (h : TrAt w b o F S r c L) :
    Calls Tryd.prog 64 #[.pointer (some ⟨b, o, none⟩), .int .i64 x] w (HPost F S L x w) := by
  have TE := Lib.hid (trackError_walk b o F S r c L w (by omega) h)
  have T := Lib.hid h
  clear h
  obtain ⟨A, hA⟩ : ∃ A, hAt F S L x = A := ⟨_, rfl⟩
  unfold HPost
  rw [hA]
  unfold hAt at hA
  by_cases h0 : trE F S L = 0
  case neg =>
    rw [if_pos h0] at hA
    subst hA
    generalize trE F S L = k at TE h0 ⊢
    have hk : decide (0 < k) = true := decide_eq_true (by omega)
    go_enter Tryd.func64, Tryd.ntmps64
    go_wp2_with (go_at_call 60; (with_reducible refine TE.out.mono ?_); rintro e w1 ⟨rfl, hb⟩; have G := Lib.hid hb; clear hb)
    go_ret2
    exact ⟨rfl, G.out⟩
  rw [if_neg (by simpa using h0)] at hA
  rw [h0] at TE
  obtain ⟨two, most, f1, f2, s1, l1, hh⟩ := fit_of h0
  clear h0
  obtain ⟨P, hP⟩ : ∃ P, ((L.length : Int) - 1) * S = P := ⟨_, rfl⟩
  have hlast : lastT F S L.length = F + P := by unfold lastT; rw [hP]
  have hP0 : 0 ≤ P := by rw [← hP]; exact Int.mul_nonneg (by omega) (by omega)
  have hP1 : P ≤ 600000000000000000 := by rw [hlast] at l1; omega
  have hS2 : S ≤ 600000000000000000 := by
    have h := (step_le s1 (show 1 ≤ L.length - 1 by omega)).1
    rw [show (((L.length - 1 : Nat)) : Int) = (L.length : Int) - 1 by omega, hP] at h
    have e : ((1 : Nat) : Int) * S = S := by simp
    rw [e] at h
    omega
  by_cases x1 : x < F
  · rw [if_pos (.inl x1)] at hA
    subst hA
    go_enter Tryd.func64, Tryd.ntmps64
    go_wp2_with (go_at_call 60; (with_reducible refine TE.out.mono ?_); rintro e w1 ⟨rfl, hb⟩; have G := Lib.hid hb; have T1 := Lib.hid (T.out.below hb); have d0 := T1.out.c0; have d1 := T1.out.c1; have d2 := T1.out.c2; have dd : decide (x < F) = true := decide_eq_true x1; clear hb)
    go_quiet (fail)
    go_wp2
    go_ret2
    exact ⟨rfl, grow_drewN G.out _⟩
  by_cases x2 : F + P < x
  · rw [if_pos (.inr (by rw [hlast]; exact x2))] at hA
    subst hA
    have de : decide (F + P < x) = true := decide_eq_true x2
    go_enter Tryd.func64, Tryd.ntmps64
    go_wp2_with (go_at_call 60; (with_reducible refine TE.out.mono ?_); rintro e w1 ⟨rfl, hb⟩; have G := Lib.hid hb; have T1 := Lib.hid (T.out.below hb); have d0 := T1.out.c0; have d1 := T1.out.c1; have d2 := T1.out.c2; have dd : decide (x < F) = false := decide_eq_false x1; clear hb)
    go_quiet (fail)
    go_wp2
    go_ret2
    exact ⟨rfl, grow_drewN G.out _⟩
  rw [if_neg (by rw [hlast]; omega)] at hA
  have de : decide (F + P < x) = false := decide_eq_false x2
  obtain ⟨i, hi, hin, hd0, hd1, hd2⟩ := seg (n := L.length) s1 (show F ≤ x by omega) (by rw [hlast]; omega) (by omega)
  have hq : (x - F).tdiv S = (i : Int) := by rw [Int.tdiv_eq_ediv_of_nonneg (by omega), hi]
  have hs0 : ¬ (S = 0) := by omega
  unfold hgt at hA
  rw [hi, Int.toNat_natCast] at hA
  obtain ⟨b1, o1, rfl, hc⟩ := T.out.row.resolve_left (by intro h; rw [h] at two; exact absurd two (by simp))
  have c0 := hc i hin
  have hb1 : b1 < w.heap.size := lt_of_cellS c0
  have hi0 : (0 : Int) ≤ (i : Int) := by omega
  have hi1 : (i : Int) < (L.length : Int) := by omega
  have m0 := hh _ (List.getElem_mem hin)
  by_cases he : i + 1 = L.length
  · rw [if_pos he, show L.getD i 0 = L[i] by simp [hin]] at hA
    clear hc hh
    generalize L[i] = u at c0 m0 hA
    have E0 := Lib.hid c0
    have HA := Lib.hid hA
    clear c0 hA hlast hi
    have hn1 : ((i : Int) == (L.length : Int) - 1) = true := by simp; omega
    clear he
    go_enter Tryd.func64, Tryd.ntmps64
    go_wp2_with (go_at_call 60; (with_reducible refine TE.out.mono ?_); rintro e w1 ⟨rfl, hb⟩; have G := Lib.hid hb; have T1 := Lib.hid (T.out.below hb); have d0 := T1.out.c0; have d1 := T1.out.c1; have d2 := T1.out.c2; have dd : decide (x < F) = false := decide_eq_false x1; have g0 := (G.out.cell (p := ⟨b1, _, none⟩) hb1).trans E0.out; clear hb)
    go_quiet (fail)
    go_wp2
    go_quiet (fail)
    go_wp2
    go_ret2
    exact ⟨by rw [← HA.out]; rfl, by first | exact grow_drewN G.out _ | exact grow_drewN (grow_drewN G.out _) _⟩
  · have hin2 : i + 1 < L.length := by omega
    rw [if_neg he, show L.getD i 0 = L[i] by simp [hin], show L.getD (i + 1) 0 = L[i + 1] by simp [hin2]] at hA
    have c1 := hc (i + 1) hin2
    have m1 := hh _ (List.getElem_mem hin2)
    clear hc hh
    generalize L[i] = u at c0 m0 hA
    generalize L[i + 1] = v at c1 m1 hA
    have E0 := Lib.hid c0
    have E1 := Lib.hid c1
    obtain ⟨d, hd⟩ : ∃ d, x - F - (i : Int) * S = d := ⟨_, rfl⟩
    rw [hd] at hA hd0 hd1
    obtain ⟨p, hp⟩ : ∃ p, (i : Int) * S = p := ⟨_, rfl⟩
    rw [hp] at hd
    have hp0 : 0 ≤ p := by rw [← hp]; exact Int.mul_nonneg hi0 (by omega)
    obtain ⟨sn, rfl⟩ : ∃ sn : Nat, S = (sn : Int) := ⟨S.toNat, by omega⟩
    have FW := Lib.hid (fun X => floorOf_walk (v - u) d sn X (by omega) (by omega) (by omega) (by omega) (by
      have h1 : (v - u).natAbs * d.natAbs ≤ 2199023255552 * sn := Nat.mul_le_mul (by omega) (by omega)
      have h2 : 2199023255552 * sn < 4611686018427387904 * sn := Nat.mul_lt_mul_of_pos_right (by decide) (by omega)
      omega))
    obtain ⟨Q, hQ⟩ : ∃ Q, (v - u) * d / (sn : Int) = Q := ⟨_, rfl⟩
    have hQb : -2199023255552 ≤ Q ∧ Q ≤ 2199023255552 := by
      have a1 : -2199023255552 ≤ v - u := by omega
      have a2 : v - u ≤ 2199023255552 := by omega
      have a3 : (v - u) * d ≤ 2199023255552 * d := Int.mul_le_mul_of_nonneg_right a2 hd0
      have a4 : -2199023255552 * d ≤ (v - u) * d := Int.mul_le_mul_of_nonneg_right a1 hd0
      rw [← hQ]
      constructor
      · refine Int.le_ediv_of_mul_le (by omega) ?_
        omega
      · refine Int.le_of_lt_add_one (Int.ediv_lt_of_lt_mul (by omega) ?_)
        omega
    rw [hQ] at FW hA
    have HA := Lib.hid hA
    clear c0 c1 hA hlast hi hQ
    have hn1 : ((i : Int) == (L.length : Int) - 1) = false := by simp; omega
    have hin3 : (i : Int) + 1 < (L.length : Int) := by omega
    clear he
    go_enter Tryd.func64, Tryd.ntmps64
    go_wp2_with (go_at_call 60; (with_reducible refine TE.out.mono ?_); rintro e w1 ⟨rfl, hb⟩; have G := Lib.hid hb; have T1 := Lib.hid (T.out.below hb); have d0 := T1.out.c0; have d1 := T1.out.c1; have d2 := T1.out.c2; have dd : decide (x < F) = false := decide_eq_false x1; have g0 := (G.out.cell (p := ⟨b1, _, none⟩) hb1).trans E0.out; have g1 := (G.out.cell (p := ⟨b1, _, none⟩) hb1).trans E1.out; clear hb)
    go_quiet (fail)
    go_wp2
    go_quiet (fail)
    go_wp2
    generalize hwx : w1.drewN _ = wx
    have G9 := Lib.hid (show Below w.heap.size w wx by rw [← hwx]; exact grow_drewN G.out _)
    have T9 := Lib.hid (T.out.below G9.out)
    clear hwx G T1 d0 d1 d2 g0 g1
    have d0 := T9.out.c0
    have d1 := T9.out.c1
    have d2 := T9.out.c2
    have lb := T9.out.lt
    have lb1 := Nat.lt_of_lt_of_le hb1 G9.out.size
    have g0 := (G9.out.cell (p := ⟨b1, _, none⟩) hb1).trans E0.out
    have g1 := (G9.out.cell (p := ⟨b1, _, none⟩) hb1).trans E1.out
    refine Rel.wp_region_rel (fun _ _ v => v = .int .i64 Q) (by rfl) (Grow.lexB_of_fast (by kernel_rfl) (by kernel_rfl)) ?_
    repeat (first
      | (refine rel_call (f := 106) (args := #[.int .i64 _, .int .i64 _, .int .i64 _]) (by rfl) rfl (callAt_func rfl Tryd.func106 (by kernel_rfl) (by kernel_rfl) rfl) (fun w1 _ => (FW.out w1).mono fun e w' ⟨he, hb⟩ => ⟨_, he, rfl, hb⟩) ?_; rintro _ rfl; simp only [Act.put, List.setIfInBounds_toArray, List.set_cons_zero, List.set_cons_succ])
      | (refine rel_plain (by rfl) rfl ?_; intro K hK; go_big_quiet_op; go_big_quiet_on)
      | (refine rel_nilCheck (by rfl) rfl rfl ?_; simp only [Act.put, List.setIfInBounds_toArray, List.set_cons_zero, List.set_cons_succ])
      | (refine rel_skip (by rfl) ?_; simp only [Act.put, List.setIfInBounds_toArray, List.set_cons_zero, List.set_cons_succ]))
    refine Rel.wpRel_nil ?_
    intro w9 hB9 hG9
    clear hG9
    have GF := Lib.hid (grow_trans G9.out hB9)
    go_wp2
    go_ret2
    exact ⟨by rw [← HA.out]; rfl, GF.out⟩
end Go.Proofs.YtlfpfeidaohjmaaDoor
