/- A level: whether it is too large. -/
import Derived.Test.YtlfpfeidaohjmaaDoorEb13
import Derived.Test.YtlfpfeidaohjmaaDoorWd
set_option linter.unusedSimpArgs false
set_option linter.unusedVariables false
namespace Go.Proofs.YtlfpfeidaohjmaaDoor
open Go.RowKit Go.Grow Go.Fl

set_option maxRecDepth 100000 in
set_option maxHeartbeats 8000000 in
theorem large_walk (n : Int) (w : World) : Calls Tryd.prog 61 #[.int .i64 n] w fun e w' => e = .returned (.bool (bigH n)) ∧ w = w' := by
  unfold bigH
  by_cases h1 : 1099511627776 < n
  · go_enter Tryd.func61, Tryd.ntmps61
    go_wp2
    go_ret
    exact ⟨by simp [h1] <;> omega, rfl⟩
  · by_cases h2 : n < -1099511627776
    all_goals
      go_enter Tryd.func61, Tryd.ntmps61
      go_wp2
      go_ret
      exact ⟨by simp [h1, h2] <;> omega, rfl⟩
set_option maxRecDepth 100000 in
set_option maxHeartbeats 8000000 in
theorem level_walk (a : Nat → Addr) (n : Int) (w : World) (hs : Sen a [2, 3, 5] w) : Calls Tryd.prog 95 #[.int .i64 n] w fun e w' => e = .returned (errV a (if bigH n then 5 else 0)) ∧ Below w.heap.size w w' := by
  have c5 := (hs 5 (by decide)).1
  simp only [gOf] at c5
  have hlt5 := lt_of_cellS c5
  have hu := errV_pos a (show 5 ≠ 0 by decide)
  have h0 := errV_zero a
  unfold bigH
  obtain ⟨V, hV⟩ : ∃ V, errV a (if (decide (1099511627776 < n) || decide (n < -1099511627776)) = true then 5 else 0) = V := ⟨_, rfl⟩
  rw [hV]
  by_cases h1 : 1099511627776 < n
  · rw [if_pos (by simp [h1]), hu] at hV
    subst hV
    clear hs hu h0
    go_enter Tryd.func95, Tryd.ntmps95
    go_wp2
    go_ret
    exact ⟨rfl, by first | exact grow_refl _ | exact grow_drewN (grow_refl _) _ | exact grow_drew (grow_refl _)⟩
  · by_cases h2 : n < -1099511627776
    · rw [if_pos (by simp [h2]), hu] at hV
      subst hV
      clear hs hu h0
      go_enter Tryd.func95, Tryd.ntmps95
      go_wp2
      go_ret
      exact ⟨rfl, by first | exact grow_refl _ | exact grow_drewN (grow_refl _) _ | exact grow_drew (grow_refl _)⟩
    · rw [if_neg (by simp [h1, h2] <;> omega), h0] at hV
      subst hV
      clear hs hu h0
      go_enter Tryd.func95, Tryd.ntmps95
      go_wp2
      go_ret
      exact ⟨rfl, by first | exact grow_refl _ | exact grow_drewN (grow_refl _) _ | exact grow_drew (grow_refl _)⟩
end Go.Proofs.YtlfpfeidaohjmaaDoor
/- Windows, event by event: plain. -/
set_option linter.unusedSimpArgs false
set_option linter.unusedVariables false
namespace Go.Proofs.YtlfpfeidaohjmaaDoor
open Go.Bg

/-- An event that can be taken: its instant is small; where a window ends it is behind its begin, and that behind all others. -/
def Fits (s : WSt) (e : Ev) : Prop := -900000000000000000 ≤ e.at' ∧ e.at' ≤ 900000000000000000 ∧ (e.k = 1 ∨ (e.k = 2 ∧ s.f < e.at' ∧ ∀ p ∈ s.W, p.2 < s.f))
def FarL : WSt → List Ev → Prop
  | _, [] => True
  | s, e :: l => Fits s e ∧ FarL (wstep s e) l
theorem FarL.append : ∀ {s : WSt} {l m : List Ev}, FarL s l → FarL (wfold s l) m → FarL s (l ++ m)
  | _, [], _, _, h => h
  | _, _ :: _, _, h, h2 => ⟨h.1, FarL.append h.2 h2⟩
theorem FarL.at : ∀ {s : WSt} {l : List Ev}, FarL s l → ∀ k (hk : k < l.length), Fits (wfold s (l.take k)) l[k]
  | _, [], _, k, hk => absurd hk (by simp)
  | _, _ :: _, h, 0, _ => h.1
  | s, e :: l, h, k + 1, hk => FarL.at h.2 k (by simpa using hk)
theorem wfold_succ (s : WSt) (l : List Ev) (k : Nat) (h : k < l.length) : wfold s (l.take (k + 1)) = wstep (wfold s (l.take k)) l[k] := by
  rw [List.take_succ_eq_append_getElem h]
  unfold wfold
  rw [List.foldl_append]
  rfl
theorem putW_length (W : List (Int × Int)) (f t : Int) : (putW W f t).length ≤ W.length + 1 := by
  unfold putW
  split
  · split
    · split
      · simp <;> omega
      · simp
    · simp
  · omega
theorem wstep_length (s : WSt) (e : Ev) : (wstep s e).W.length ≤ s.W.length + 1 := by
  unfold wstep
  split
  · exact Nat.le_succ _
  · exact putW_length _ _ _
theorem far_up {F : Int} {S : Nat} {n : Int} {L : List Int} (hS : 0 < S) (f1 : -300000000000000000 ≤ F) : ∀ k, k < L.length → F + (k : Int) * S ≤ 300000000000000000 → FarL ⟨[], F, decide (n < L.getD 0 0)⟩ (evUp F S n L k)
  | 0, _, _ => trivial
  | k + 1, h, hb => by
    have hn := next_t F S k
    rw [hn] at hb
    have h0 : 0 ≤ (k : Int) * S := Int.mul_nonneg (by omega) (by omega)
    refine FarL.append (far_up hS f1 k (by omega) (by omega)) ?_
    have hI := WInv.all (F := F) (n := n) (L := L) hS k (by omega)
    show FarL (wUp F S n L k) _
    generalize wUp F S n L k = s at hI ⊢
    obtain ⟨hup, hr, hin, hfr, hab⟩ := hI
    generalize ht : F + (k : Int) * S = t at *
    generalize L.getD k 0 = a at *
    generalize L.getD (k + 1) 0 = b at *
    by_cases c1 : a ≤ n ∧ n < b
    · have e : ev1 F S n a b k = [⟨1, t + ((S * (n - a).toNat / (b - a).toNat : Nat) : Int), k⟩] := by unfold ev1; rw [if_pos c1, ht]
      have hq : S * (n - a).toNat / (b - a).toNat < S := by
        refine (Nat.div_lt_iff_lt_mul (by omega)).2 ?_
        exact Nat.mul_lt_mul_of_pos_left (by omega) hS
      rw [e]
      generalize S * (n - a).toNat / (b - a).toNat = q at hq ⊢
      exact ⟨⟨by simp only; omega, by simp only; omega, .inl rfl⟩, trivial⟩
    · by_cases c2 : n < a ∧ b ≤ n
      · obtain ⟨i, e⟩ : ∃ i : Int, ev1 F S n a b k = [⟨2, t + ((upQ (S * (a - n).toNat) (a - b).toNat : Nat) : Int), i⟩] := by
          unfold ev1
          rw [if_neg c1, if_pos c2, ht]
          exact ⟨_, rfl⟩
        have hq1 : 0 < upQ (S * (a - n).toNat) (a - b).toNat := (up_lt (by omega)).2 (by rw [Nat.zero_mul]; exact Nat.mul_pos hS (by omega))
        have hq2 : ¬ S < upQ (S * (a - n).toNat) (a - b).toNat := fun h => by
          have h2 := (up_lt (by omega)).1 h
          have h3 := Nat.lt_of_mul_lt_mul_left h2
          omega
        rw [e]
        generalize upQ (S * (a - n).toNat) (a - b).toNat = q at hq1 hq2 ⊢
        obtain ⟨g1, g2, g3⟩ := hfr (by rw [hup]; exact decide_eq_true c2.1)
        exact ⟨⟨by simp only; omega, by simp only; omega, .inr ⟨rfl, by simp only; omega, g3⟩⟩, trivial⟩
      · have e : ev1 F S n a b k = [] := by unfold ev1; rw [if_neg c1, if_neg c2]
        rw [e]
        trivial
end Go.Proofs.YtlfpfeidaohjmaaDoor
