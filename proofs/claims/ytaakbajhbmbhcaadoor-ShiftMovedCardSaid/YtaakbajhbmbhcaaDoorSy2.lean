/- The document's test of a picture. -/
import Derived.Test.YtaakbajhbmbhcaaDoorSy1
set_option linter.unusedSimpArgs false
set_option linter.unusedVariables false
namespace Go.Proofs.YtaakbajhbmbhcaaDoor
open Go.RowKit Go.Grow

/-- A picture behind a pointer. -/
def PicPtr (w : World) (b o : Nat) (p : Pic) : Prop :=
  w.cell? ⟨b, o, none⟩ = some (.int .i64 p.W) ∧ w.cell? ⟨b, o + 1, none⟩ = some (.int .i64 p.H) ∧ w.cell? ⟨b, o + 2, none⟩ = some (.slice p.r p.n p.cap) ∧ PicAt w p
theorem PicPtr.below {w w' : World} {b o : Nat} {p : Pic} (h : PicPtr w b o p) (hb : Below w.heap.size w w') : PicPtr w' b o p := by
  obtain ⟨h0, h1, h2, h3⟩ := h
  have hl := lt_of_cell h0
  exact ⟨(hb.cell (p := ⟨b, o, none⟩) hl).trans h0, (hb.cell (p := ⟨b, o + 1, none⟩) hl).trans h1, (hb.cell (p := ⟨b, o + 2, none⟩) hl).trans h2, h3.below hb⟩
theorem badB_of {x : Int} (h1 : ¬ x < 0) (h2 : ¬ 65535 < x) : badB x = false := by unfold badB; rw [decide_eq_false h1, decide_eq_false h2]; rfl
theorem badB_lo {x : Int} (h1 : x < 0) : badB x = true := by unfold badB; rw [decide_eq_true h1]; rfl
theorem badB_hi {x : Int} (h1 : 65535 < x) : badB x = true := by unfold badB; rw [decide_eq_true h1]; simp
set_option maxRecDepth 100000 in
set_option maxHeartbeats 8000000 in
theorem picError_counts (b o : Nat) (p : Pic) (w : World) (hp : PicPtr w b o p) (h1 : ¬ 256 < p.W) (h2 : ¬ 256 < p.H) (h3 : ¬ p.W < 1) (h4 : ¬ p.H < 1) (h5 : (p.n : Int) = p.W * p.H) :
    Calls Tryd.prog 17 #[.pointer (some ⟨b, o, none⟩)] w fun e w' => e = .returned (.int .i64 ((if anyZ badB p.z p.n then 5 else 0 : Nat) : Int)) ∧ ∃ q, w' = w.drewN q := by
  obtain ⟨W, H, r, n, cap, z⟩ := p
  obtain ⟨c0, c1, c2, hr, hn⟩ := hp
  simp only at c0 c1 c2 hr hn h1 h2 h3 h4 h5 ⊢
  obtain ⟨m1, m2⟩ := area (W := W) (H := H) (by omega) (by omega) (by omega) (by omega)
  have d5 : ((n : Int) != W * H) = false := by simp [h5]
  have d3 : decide (W < 1) = false := decide_eq_false h3
  have d4 : decide (H < 1) = false := decide_eq_false h4
  have ew : IntKind.i64.wrap (W * H) = W * H := IntWalk.i64_in _ (by omega)
  have hn0 : 0 < n := by omega
  obtain ⟨b1, o1, rfl, hc⟩ := hr.resolve_left (by omega)
  have HC := Lib.hid hc
  have H5 := Lib.hid h5
  clear h5 hr hc
  generalize hE : (if anyZ badB z n then 5 else 0 : Nat) = E
  have HE := Lib.hid hE
  clear hE
  go_enter Tryd.func17, Tryd.ntmps17
  go_wp2
  go_quiet (fail)
  go_wp2
  go_loopw [3] (fun v3 wr => ∃ k q : Nat, k ≤ n ∧ v3 = .int .i64 k ∧ Hid (∀ j, j < k → badB (z j) = false) ∧ wr = w.drewN q) (fun i _ => n - (intOf i).toNat)
  case atStart => exact ⟨0, _, Nat.zero_le _, rfl, Lib.hid fun j h => absurd h (by omega), rfl⟩
  case round =>
    obtain ⟨k, q, hk, rfl, HNO, rfl⟩ := hrel
    by_cases hlt : k < n
    · have c3 := HC.out k hlt
      have KX := Lib.hid (show badB (z k) = true → E = 5 from fun h => by rw [← HE.out]; rw [anyZ_true h hlt]; rfl)
      have KN := Lib.hid (show badB (z k) = false → (∀ j, j < k + 1 → badB (z j) = false) from fun hx j hj => by
        rcases Nat.lt_or_ge j k with h | h
        · exact HNO.out j h
        · obtain rfl : j = k := by omega
          exact hx)
      generalize z k = x at c3 KX KN
      by_cases g1 : x < 0
      · go_wp2
        go_ret
        exact ⟨by rw [KX.out (badB_lo g1)]; rfl, _, rfl⟩
      · by_cases g2 : 65535 < x
        · go_wp2
          go_ret
          exact ⟨by rw [KX.out (badB_hi g2)]; rfl, _, rfl⟩
        · go_wp2
          go_roundw
          case rel => exact ⟨k + 1, _, by omega, by go_num, Lib.hid (KN.out (badB_of g1 g2)), rfl⟩
          case measure => simp [intOf]; omega
    · obtain rfl : k = n := by omega
      have E0 := Lib.hid (show E = 0 by rw [← HE.out]; rw [anyZ_false HNO.out]; rfl)
      go_wp2
      go_ret
      exact ⟨by rw [E0.out]; rfl, _, rfl⟩
set_option maxRecDepth 100000 in
set_option maxHeartbeats 8000000 in
theorem picError_walk (b o : Nat) (p : Pic) (w : World) (hp : PicPtr w b o p) :
    Calls Tryd.prog 17 #[.pointer (some ⟨b, o, none⟩)] w fun e w' => e = .returned (.int .i64 (picE p : Nat)) ∧ ∃ q, w' = w.drewN q := by
  unfold picE
  by_cases h1 : 256 < p.W
  · rw [if_pos (.inl h1)]
    obtain ⟨W, H, r, n, cap, z⟩ := p
    obtain ⟨c0, c1, c2, hr, hn⟩ := hp
    simp only at c0 c1 c2 hr hn h1
    clear hr
    go_enter Tryd.func17, Tryd.ntmps17
    go_wp2
    go_ret
    exact ⟨rfl, 0, rfl⟩
  · by_cases h2 : 256 < p.H
    · rw [if_pos (.inr h2)]
      obtain ⟨W, H, r, n, cap, z⟩ := p
      obtain ⟨c0, c1, c2, hr, hn⟩ := hp
      simp only at c0 c1 c2 hr hn h1 h2
      clear hr
      go_enter Tryd.func17, Tryd.ntmps17
      go_wp2
      go_ret
      exact ⟨rfl, 0, rfl⟩
    · rw [if_neg (by omega)]
      by_cases h3 : p.W < 1
      · rw [if_pos (.inl h3)]
        obtain ⟨W, H, r, n, cap, z⟩ := p
        obtain ⟨c0, c1, c2, hr, hn⟩ := hp
        simp only at c0 c1 c2 hr hn h1 h2 h3
        have d3 : decide (W < 1) = true := decide_eq_true h3
        clear hr
        go_enter Tryd.func17, Tryd.ntmps17
        go_wp2
        go_quiet (fail)
        go_wp2
        go_ret
        exact ⟨rfl, _, rfl⟩
      · by_cases h4 : p.H < 1
        · rw [if_pos (.inr (.inl h4))]
          obtain ⟨W, H, r, n, cap, z⟩ := p
          obtain ⟨c0, c1, c2, hr, hn⟩ := hp
          simp only at c0 c1 c2 hr hn h1 h2 h3 h4
          have d3 : decide (W < 1) = false := decide_eq_false h3
          have d4 : decide (H < 1) = true := decide_eq_true h4
          clear hr
          go_enter Tryd.func17, Tryd.ntmps17
          go_wp2
          go_quiet (fail)
          go_wp2
          go_ret
          exact ⟨rfl, _, rfl⟩
        · by_cases h5 : (p.n : Int) = p.W * p.H
          · rw [if_neg (by omega)]
            exact picError_counts b o p w hp h1 h2 h3 h4 h5
          · rw [if_pos (.inr (.inr h5))]
            obtain ⟨W, H, r, n, cap, z⟩ := p
            obtain ⟨c0, c1, c2, hr, hn⟩ := hp
            simp only at c0 c1 c2 hr hn h1 h2 h3 h4 h5
            have d3 : decide (W < 1) = false := decide_eq_false h3
            have d4 : decide (H < 1) = false := decide_eq_false h4
            have d5 : ((n : Int) != W * H) = true := by simp [h5]
            obtain ⟨m1, m2⟩ := area (W := W) (H := H) (by omega) (by omega) (by omega) (by omega)
            have ew : IntKind.i64.wrap (W * H) = W * H := IntWalk.i64_in _ (by omega)
            clear hr h5
            go_enter Tryd.func17, Tryd.ntmps17
            go_wp2
            go_quiet (fail)
            go_wp2
            go_ret
            exact ⟨rfl, _, rfl⟩
end Go.Proofs.YtaakbajhbmbhcaaDoor
