/- Without commands a mount is parked at last. Nothing of a program stands here. -/
import Derived.Test.YtlfpfeidaohjmaaDoorMo
set_option linter.unusedSimpArgs false
set_option linter.unusedVariables false
namespace Go.Mo
/-- Where it is to be while it parks; where it stands when it is parked. -/
structure St.right (s : St) : Prop where
  parks : s.state = 3 → s.p.to' = s.p.l.home ∧ s.q.to' = s.q.l.home
  parked : s.state = 4 → s.p.at' = s.p.l.home ∧ s.q.at' = s.q.l.home
theorem right0 (a b : Lim) (n : Int) : (st0 a b n).right := ⟨fun e => by simp [st0] at e, fun _ => ⟨rfl, rfl⟩⟩
theorem step_right {s : St} (h : s.right) : (step s).right := by
  unfold step
  split
  · rename_i hs
    rcases hs with hs | hs
    · refine ⟨fun e => ?_, fun e => ?_⟩
      · exfalso; revert e; simp only [hs]; split <;> simp
      · exfalso; revert e; simp only [hs]; split <;> simp
    · obtain ⟨g1, g2⟩ := h.parks hs
      refine ⟨fun e => ⟨g1, g2⟩, fun e => ?_⟩
      revert e
      simp only [hs]
      split
      · rename_i ht
        intro _
        simp only [there, Bool.and_eq_true, decide_eq_true_eq] at ht
        exact ⟨ht.1.trans g1, ht.2.trans g2⟩
      · intro e; simp at e
  · split
    · split
      · exact ⟨fun e => by simp at e, fun e => by simp at e⟩
      · rename_i h2 _
        exact ⟨(fun e => by rw [h2] at e; cases e), (fun e => by rw [h2] at e; cases e)⟩
    · exact h
theorem late_right {s : St} (h : s.right) : (late s).right := by
  unfold late
  split
  · exact ⟨fun _ => ⟨rfl, rfl⟩, fun e => by simp [park] at e⟩
  · exact ⟨h.parks, h.parked⟩
theorem tick_right {s : St} (h : s.right) : (tick s).right := late_right (step_right h)
theorem take_right {s : St} (h : s.right) (n : Int) (k : Kind) (a b : Int) : (take s n k a b).1.right := by
  unfold take
  split
  · exact h
  · split
    · exact h
    · cases k <;> simp only [done]
      · split
        · exact ⟨h.parks, h.parked⟩
        · split
          · exact ⟨h.parks, h.parked⟩
          · exact ⟨fun e => by simp at e, fun e => by simp at e⟩
      · split
        · exact ⟨h.parks, h.parked⟩
        · split
          · exact ⟨h.parks, h.parked⟩
          · exact ⟨fun e => by simp at e, fun e => by simp at e⟩
      · split
        · exact ⟨h.parks, h.parked⟩
        · exact ⟨fun e => by simp at e, fun e => by simp at e⟩
      · split
        · exact ⟨h.parks, h.parked⟩
        · exact ⟨fun _ => ⟨rfl, rfl⟩, fun e => by simp [park] at e⟩
      · exact ⟨h.parks, h.parked⟩
      · exact ⟨h.parks, h.parked⟩
/-! What stays: the limits, the patience; how far an axis goes. -/
theorem tick_same (s : St) : (tick s).p.l = s.p.l ∧ (tick s).q.l = s.q.l ∧ (tick s).patience = s.patience ∧ (tick s).quiet = s.quiet + 1 := by
  unfold tick late step
  split <;> split <;> (try split) <;> (try split) <;> exact ⟨rfl, rfl, rfl, rfl⟩
theorem tick_far (s : St) (h : s.ok) : (s.p.at' - s.p.l.fast ≤ (tick s).p.at' ∧ (tick s).p.at' ≤ s.p.at' + s.p.l.fast) ∧ (s.q.at' - s.q.l.fast ≤ (tick s).q.at' ∧ (tick s).q.at' ≤ s.q.at' + s.q.l.fast) := by
  have hp := h.p.1.2.2.1
  have hq := h.q.1.2.2.1
  have cp := clamp_lo (s.p.to' - s.p.at') s.p.l.fast hp
  have cq := clamp_lo (s.q.to' - s.q.at') s.q.l.fast hq
  have hl : ∀ t : St, (late t).p.at' = t.p.at' ∧ (late t).q.at' = t.q.at' := fun t => by unfold late; split <;> exact ⟨rfl, rfl⟩
  unfold tick
  rw [(hl _).1, (hl _).2]
  unfold step
  split
  · simp only [goes]; omega
  · split
    · rename_i h2
      obtain ⟨⟨b1, b2⟩, b3, b4⟩ := h.pace h2
      split
      · simp only; omega
      · simp only [move]; omega
    · omega
theorem take_same (s : St) (n : Int) (k : Kind) (a b : Int) : (take s n k a b).1.p.l = s.p.l ∧ (take s n k a b).1.q.l = s.q.l ∧ (take s n k a b).1.patience = s.patience ∧
    (take s n k a b).1.p.at' = s.p.at' ∧ (take s n k a b).1.q.at' = s.q.at' ∧ ((take s n k a b).1.quiet = s.quiet ∨ (take s n k a b).1.quiet = 0) := by
  unfold take
  split
  · exact ⟨rfl, rfl, rfl, rfl, rfl, .inl rfl⟩
  · split
    · exact ⟨rfl, rfl, rfl, rfl, rfl, .inl rfl⟩
    · cases k <;> simp only [done]
      all_goals first
        | exact ⟨rfl, rfl, rfl, rfl, rfl, .inr rfl⟩
        | exact ⟨trivial, trivial, trivial, trivial, trivial, .inr trivial⟩
        | (split <;> first | exact ⟨rfl, rfl, rfl, rfl, rfl, .inr rfl⟩ | (split <;> exact ⟨rfl, rfl, rfl, rfl, rfl, .inr rfl⟩))
theorem take_rep (s : St) (n : Int) (k : Kind) (a b : Int) : (take s n k a b).2.a = s.p.at' ∧ (take s n k a b).2.b = s.q.at' := by
  unfold take
  split
  · exact ⟨rfl, rfl⟩
  · split
    · exact ⟨rfl, rfl⟩
    · cases k <;> simp only [done, reply]
      all_goals first
        | exact ⟨rfl, rfl⟩
        | exact ⟨trivial, trivial⟩
        | (split <;> first | exact ⟨rfl, rfl⟩ | (split <;> exact ⟨rfl, rfl⟩))

def ticks : Nat → St → St
  | 0, s => s
  | n + 1, s => tick (ticks n s)
theorem ticks_ok {s : St} (h : s.ok) : ∀ n, (ticks n s).ok
  | 0 => h
  | n + 1 => tick_ok (ticks_ok h n)
theorem ticks_right {s : St} (h : s.right) : ∀ n, (ticks n s).right
  | 0 => h
  | n + 1 => tick_right (ticks_right h n)
theorem ticks_same (s : St) : ∀ n, (ticks n s).p.l = s.p.l ∧ (ticks n s).q.l = s.q.l ∧ (ticks n s).patience = s.patience ∧ (ticks n s).quiet = s.quiet + n
  | 0 => ⟨rfl, rfl, rfl, by simp [ticks]⟩
  | n + 1 => by
    obtain ⟨h1, h2, h3, h4⟩ := ticks_same s n
    obtain ⟨k1, k2, k3, k4⟩ := tick_same (ticks n s)
    exact ⟨k1.trans h1, k2.trans h2, k3.trans h3, by show (tick (ticks n s)).quiet = _; rw [k4, h4]; push_cast; omega⟩
theorem tick_four {s : St} (h : s.state = 4) : (tick s).state = 4 := by
  unfold tick late step
  simp [h]
theorem tick_three {s : St} (h : s.state = 3) : (tick s).state = if there (goes s.p) && there (goes s.q) then 4 else 3 := by
  unfold tick late step
  simp only [h]
  cases hb : (there (goes s.p) && there (goes s.q)) <;> simp
theorem tick_late {s : St} (h : s.patience ≤ s.quiet + 1) : (tick s).state = 3 ∨ (tick s).state = 4 := by
  have h1 := step_same s
  have h2 : (step s).patience = s.patience := by unfold step; split <;> (try split) <;> (try split) <;> rfl
  unfold tick late
  rw [h1, h2]
  by_cases g : (step s).state = 4
  · right; simp [g]
  · by_cases g3 : (step s).state = 3
    · left; simp [g3]
    · left; simp [h, g, g3, park]
theorem goes_near {x : Ax} (h : x.ok) (g : x.to' = x.l.home) (m : Int) (hm : 0 ≤ m) (h1 : x.l.home - x.at' ≤ (m + 1) * x.l.fast) (h2 : x.at' - x.l.home ≤ (m + 1) * x.l.fast) :
    (x.l.home - (goes x).at' ≤ m * x.l.fast) ∧ (goes x).at' - x.l.home ≤ m * x.l.fast := by
  have hf := h.1.2.2.1
  have e : (m + 1) * x.l.fast = m * x.l.fast + x.l.fast := by rw [Int.add_mul, Int.one_mul]
  have p : 0 ≤ m * x.l.fast := Int.mul_nonneg hm (by omega)
  rw [e] at h1 h2
  simp only [goes, g, clamp]
  generalize m * x.l.fast = z at *
  omega
theorem parked_in (m : Nat) : ∀ (s : St), s.ok → s.right → s.state = 3 → (s.p.l.home - s.p.at' ≤ m * s.p.l.fast ∧ s.p.at' - s.p.l.home ≤ m * s.p.l.fast) → (s.q.l.home - s.q.at' ≤ m * s.q.l.fast ∧ s.q.at' - s.q.l.home ≤ m * s.q.l.fast) →
    ∀ n, m + 1 ≤ n → (ticks n s).state = 4 := by
  have shift : ∀ n (s : St), ticks n (tick s) = ticks (n + 1) s := fun n s => by
    induction n with
    | zero => rfl
    | succ n ih => show tick (ticks n (tick s)) = tick (ticks (n + 1) s); rw [ih]
  have four : ∀ n (s : St), s.state = 4 → (ticks n s).state = 4 := fun n s h => by
    induction n with
    | zero => exact h
    | succ n ih => exact tick_four ih
  induction m with
  | zero =>
    intro s hs hr h3 hp hq n hn
    obtain ⟨g1, g2⟩ := hr.parks h3
    obtain ⟨n, rfl⟩ : ∃ k, n = k + 1 := ⟨n - 1, by omega⟩
    rw [← shift]
    refine four n _ ?_
    rw [tick_three h3]
    have e1 : there (goes s.p) = true := by
      have hf := hs.p.1.2.2.1
      simp only [there, goes, clamp, g1, decide_eq_true_eq]
      simp at hp
      omega
    have e2 : there (goes s.q) = true := by
      have hf := hs.q.1.2.2.1
      simp only [there, goes, clamp, g2, decide_eq_true_eq]
      simp at hq
      omega
    rw [e1, e2]; rfl
  | succ m ih =>
    intro s hs hr h3 hp hq n hn
    obtain ⟨g1, g2⟩ := hr.parks h3
    obtain ⟨n, rfl⟩ : ∃ k, n = k + 1 := ⟨n - 1, by omega⟩
    rw [← shift]
    have h4 := tick_three h3
    split at h4
    · exact four n _ h4
    · obtain ⟨k1, k2, k3, k4⟩ := tick_same s
      have e1 : (tick s).p.at' = (goes s.p).at' := by unfold tick late step; simp [h3]; split <;> rfl
      have e2 : (tick s).q.at' = (goes s.q).at' := by unfold tick late step; simp [h3]; split <;> rfl
      push_cast at hp hq
      refine ih (tick s) (tick_ok hs) (tick_right hr) h4 ?_ ?_ n (by omega)
      · rw [k1, e1]; exact goes_near hs.p g1 m (by omega) hp.1 hp.2
      · rw [k2, e2]; exact goes_near hs.q g2 m (by omega) hq.1 hq.2
theorem range_le {d f : Int} (hd : 0 ≤ d) (hf : 1 ≤ f) (m : Int) (hm : d / f + 1 ≤ m) : d ≤ m * f := by
  have h1 : d < (d / f + 1) * f := Int.lt_ediv_add_one_mul_self d (by omega)
  have h2 : (d / f + 1) * f ≤ m * f := Int.mul_le_mul_of_nonneg_right hm (by omega)
  omega
/-- THE END: without commands, it is parked at home. -/
theorem parked_at_last {s : St} (hs : s.ok) (hr : s.right) (hq : 0 ≤ s.quiet) (hp : 1 ≤ s.patience) (n : Nat)
    (hn : (s.p.l.high - s.p.l.low) / s.p.l.fast + (s.q.l.high - s.q.l.low) / s.q.l.fast + 4 + s.patience ≤ n) :
    (ticks n s).state = 4 ∧ (ticks n s).p.at' = s.p.l.home ∧ (ticks n s).q.at' = s.q.l.home := by
  have hfp := hs.p.1
  have hfq := hs.q.1
  obtain ⟨a1, a2, a3, a4, a5, a6⟩ := hfp
  obtain ⟨b1, b2, b3, b4, b5, b6⟩ := hfq
  have d1 : 0 ≤ (s.p.l.high - s.p.l.low) / s.p.l.fast := Int.ediv_nonneg (by omega) (by omega)
  have d2 : 0 ≤ (s.q.l.high - s.q.l.low) / s.q.l.fast := Int.ediv_nonneg (by omega) (by omega)
  have key : (ticks n s).state = 4 := by
    obtain ⟨k, hk⟩ : ∃ k : Nat, (k : Int) = s.patience := ⟨s.patience.toNat, by omega⟩
    have hk1 : 1 ≤ k := by omega
    have add : ∀ (i j : Nat) (t : St), ticks (i + j) t = ticks j (ticks i t) := fun i j t => by
      induction j with
      | zero => rfl
      | succ j ih => show tick (ticks (i + j) t) = tick (ticks j (ticks i t)); rw [ih]
    have four : ∀ n (s : St), s.state = 4 → (ticks n s).state = 4 := fun n s h => by
      induction n with
      | zero => exact h
      | succ n ih => exact tick_four ih
    obtain ⟨c1, c2, c3, c4⟩ := ticks_same s k
    have hst : (ticks k s).state = 3 ∨ (ticks k s).state = 4 := by
      obtain ⟨k', rfl⟩ : ∃ k', k = k' + 1 := ⟨k - 1, by omega⟩
      obtain ⟨e1, e2, e3, e4⟩ := ticks_same s k'
      exact tick_late (by rw [e3, e4]; push_cast at hk; omega)
    have hnk : n = k + (n - k) := by omega
    rw [hnk, add]
    rcases hst with h3 | h4
    · have ok := ticks_ok hs k
      obtain ⟨p0, p1, p2, _⟩ := ok.p
      obtain ⟨q0, q1, q2, _⟩ := ok.q
      rw [c1] at p1 p2
      rw [c2] at q1 q2
      obtain ⟨m, hm⟩ : ∃ m : Nat, (m : Int) = (s.p.l.high - s.p.l.low) / s.p.l.fast + (s.q.l.high - s.q.l.low) / s.q.l.fast + 1 := ⟨((s.p.l.high - s.p.l.low) / s.p.l.fast + (s.q.l.high - s.q.l.low) / s.q.l.fast + 1).toNat, by omega⟩
      have r1 := range_le (d := s.p.l.high - s.p.l.low) (by omega) a3 m (by omega)
      have r2 := range_le (d := s.q.l.high - s.q.l.low) (by omega) b3 m (by omega)
      refine parked_in m _ ok (ticks_right hr k) h3 ?_ ?_ _ (by omega)
      · rw [c1]; omega
      · rw [c2]; omega
    · exact four _ _ h4
  obtain ⟨e1, e2, _, _⟩ := ticks_same s n
  obtain ⟨g1, g2⟩ := (ticks_right hr n).parked key
  rw [e1] at g1
  rw [e2] at g2
  exact ⟨key, g1, g2⟩
end Go.Mo
