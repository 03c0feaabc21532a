/- A mount of two axes, as plain functions; the program's and the document's. Nothing of a program stands here. -/
import Derived.Test.YtlfpfeidaohjmaaDoorGrow
namespace Go.Mo
structure Lim where
  low : Int
  high : Int
  fast : Int
  home : Int
structure Ax where
  l : Lim
  at' : Int
  to' : Int
  by' : Int
structure St where
  p : Ax
  q : Ax
  state : Int
  patience : Int
  quiet : Int
  taken : Bool
  number : Int
  err : Nat
def big (n : Int) : Bool := decide (1099511627776 < n) || decide (n < -1099511627776)
def bad (l : Lim) : Bool := decide (l.high < l.low) || decide (l.home < l.low) || decide (l.high < l.home) || decide (l.fast < 1)
def wide (l : Lim) : Bool := big l.low || big l.high || big l.fast || big l.home
def newE (a b : Lim) (n : Int) : Nat := if bad a || bad b || decide (n < 1) then 5 else if wide a || wide b || decide (1099511627776 < n) then 2 else 0
def st0 (a b : Lim) (n : Int) : St := { p := ⟨a, a.home, 0, 0⟩, q := ⟨b, b.home, 0, 0⟩, state := 4, patience := n, quiet := 0, taken := false, number := 0, err := 0 }
def Lim.ok (l : Lim) : Prop := l.low ≤ l.home ∧ l.home ≤ l.high ∧ 1 ≤ l.fast ∧ -1099511627776 ≤ l.low ∧ l.high ≤ 1099511627776 ∧ l.fast ≤ 1099511627776
def Ax.ok (x : Ax) : Prop := x.l.ok ∧ x.l.low ≤ x.at' ∧ x.at' ≤ x.l.high ∧ -1099511627776 ≤ x.to' ∧ x.to' ≤ 1099511627776 ∧ -1099511627776 ≤ x.by' ∧ x.by' ≤ 1099511627776
def Ax.to_ok (x : Ax) : Prop := x.l.low ≤ x.to' ∧ x.to' ≤ x.l.high
def Ax.by_ok (x : Ax) : Prop := -x.l.fast ≤ x.by' ∧ x.by' ≤ x.l.fast
structure St.ok (s : St) : Prop where
  p : s.p.ok
  q : s.q.ok
  goal : s.state = 1 ∨ s.state = 3 → s.p.to_ok ∧ s.q.to_ok
  pace : s.state = 2 → s.p.by_ok ∧ s.q.by_ok
  state : 0 ≤ s.state ∧ s.state ≤ 5
def clamp (n k : Int) : Int := max (-k) (min k n)
def goes (x : Ax) : Ax := { x with at' := x.at' + clamp (x.to' - x.at') x.l.fast }
def there (x : Ax) : Bool := decide (x.at' = x.to')
def home (x : Ax) : Ax := { x with to' := x.l.home }
def park (s : St) : St := { s with p := home s.p, q := home s.q, state := 3 }
def over (x : Ax) : Bool := decide (x.at' + x.by' < x.l.low) || decide (x.l.high < x.at' + x.by')
def move (x : Ax) : Ax := { x with at' := x.at' + x.by' }
def step (s : St) : St :=
  if s.state = 1 ∨ s.state = 3 then
    { s with p := goes s.p, q := goes s.q, state := if there (goes s.p) && there (goes s.q) then (if s.state = 1 then 0 else 4) else s.state }
  else if s.state = 2 then (if over s.p || over s.q then { s with state := 5 } else { s with p := move s.p, q := move s.q })
  else s
def late (s : St) : St := if s.patience ≤ s.quiet + 1 ∧ s.state ≠ 4 ∧ s.state ≠ 3 then park { s with quiet := s.quiet + 1 } else { s with quiet := s.quiet + 1 }
def tick (s : St) : St := late (step s)
def out (x : Ax) (n : Int) : Bool := decide (n < x.l.low) || decide (x.l.high < n)
def hasty (x : Ax) (n : Int) : Bool := decide (x.l.fast < n) || decide (n < -x.l.fast)
inductive Kind | slew | track | stop | park | hello | other
def done (s : St) (k : Kind) (a b : Int) : Nat × St :=
  match k with
  | .slew => if out s.p a || out s.q b then (6, s) else if s.state = 3 then (7, s) else (0, { s with p := { s.p with to' := a }, q := { s.q with to' := b }, state := 1 })
  | .track => if hasty s.p a || hasty s.q b then (6, s) else if s.state = 4 ∨ s.state = 3 then (7, s) else (0, { s with p := { s.p with by' := a }, q := { s.q with by' := b }, state := 2 })
  | .stop => if s.state = 4 then (7, s) else (0, { s with state := 5 })
  | .park => if s.state = 4 then (0, s) else (0, Mo.park s)
  | .hello => (0, s)
  | .other => (10, s)
structure Rep where
  number : Int
  err : Nat
  a : Int
  b : Int
  state : Int
def reply (s : St) (n : Int) (e : Nat) : Rep := ⟨n, e, s.p.at', s.q.at', s.state⟩
def take (s : St) (n : Int) (k : Kind) (a b : Int) : St × Rep :=
  if s.taken && decide (n = s.number) then (s, reply s n s.err)
  else if s.taken && decide (n < s.number) then (s, reply s n 7)
  else
    let r := done { s with taken := true, number := n, quiet := 0 } k a b
    ({ r.2 with err := r.1 }, reply r.2 n r.1)
/-! The document's mount. -/
structure Rf where
  a : Lim
  b : Lim
  x : Int
  y : Int
  p : Int
  q : Int
  state : Int
  patience : Int
  quiet : Int
  taken : Bool
  number : Int
  code : Nat
def rf0 (a b : Lim) (n : Int) : Rf := { a := a, b := b, x := a.home, y := b.home, p := 0, q := 0, state := 4, patience := n, quiet := 0, taken := false, number := 0, code := 0 }
def towards (at_ to fast : Int) : Int := if fast < to - at_ then at_ + fast else if fast < at_ - to then at_ - fast else to
def rstep (m : Rf) : Rf :=
  if m.state = 1 then
    { m with x := towards m.x m.p m.a.fast, y := towards m.y m.q m.b.fast, state := if towards m.x m.p m.a.fast = m.p ∧ towards m.y m.q m.b.fast = m.q then 0 else m.state }
  else if m.state = 3 then
    { m with x := towards m.x m.a.home m.a.fast, y := towards m.y m.b.home m.b.fast, state := if towards m.x m.a.home m.a.fast = m.a.home ∧ towards m.y m.b.home m.b.fast = m.b.home then 4 else m.state }
  else if m.state = 2 then
    (if m.x + m.p < m.a.low ∨ m.a.high < m.x + m.p ∨ m.y + m.q < m.b.low ∨ m.b.high < m.y + m.q then { m with state := 5 } else { m with x := m.x + m.p, y := m.y + m.q })
  else m
def rtick (m : Rf) : Rf :=
  let r := rstep { m with quiet := m.quiet + 1 }
  if r.patience ≤ r.quiet ∧ r.state ≠ 4 then { r with state := 3 } else r
def rdone (m : Rf) (k : Kind) (a b : Int) : Nat × Rf :=
  match k with
  | .slew => if a < m.a.low ∨ m.a.high < a ∨ b < m.b.low ∨ m.b.high < b then (6, m) else if m.state = 3 then (7, m) else (0, { m with p := a, q := b, state := 1 })
  | .track => if m.a.fast < a ∨ a < -m.a.fast ∨ m.b.fast < b ∨ b < -m.b.fast then (6, m) else if m.state = 4 ∨ m.state = 3 then (7, m) else (0, { m with p := a, q := b, state := 2 })
  | .stop => if m.state = 4 then (7, m) else (0, { m with state := 5 })
  | .park => if m.state = 4 then (0, m) else (0, { m with state := 3 })
  | .hello => (0, m)
  | .other => (10, m)
def rreply (m : Rf) (n : Int) (e : Nat) : Rep := ⟨n, e, m.x, m.y, m.state⟩
def rtake (m : Rf) (n : Int) (k : Kind) (a b : Int) : Rf × Rep :=
  if m.taken && decide (n = m.number) then (m, rreply m n m.code)
  else if m.taken && decide (n < m.number) then (m, rreply m n 7)
  else
    let r := rdone { m with taken := true, number := n, quiet := 0 } k a b
    ({ r.2 with code := r.1 }, rreply r.2 n r.1)
/-- The two say the same. -/
structure Sim (s : St) (m : Rf) : Prop where
  a : s.p.l = m.a
  b : s.q.l = m.b
  x : s.p.at' = m.x
  y : s.q.at' = m.y
  state : s.state = m.state
  patience : s.patience = m.patience
  quiet : s.quiet = m.quiet
  taken : s.taken = m.taken
  number : s.number = m.number
  code : s.err = m.code
  slew : s.state = 1 → s.p.to' = m.p ∧ s.q.to' = m.q
  track : s.state = 2 → s.p.by' = m.p ∧ s.q.by' = m.q
  parks : s.state = 3 → s.p.to' = s.p.l.home ∧ s.q.to' = s.q.l.home

theorem towards_eq (at_ to fast : Int) (h : 1 ≤ fast) : at_ + clamp (to - at_) fast = towards at_ to fast := by
  unfold clamp towards; split
  · omega
  · split <;> omega
theorem sim_rep {s : St} {m : Rf} (h : Sim s m) (n : Int) (e : Nat) : reply s n e = rreply m n e := by
  unfold reply rreply; rw [h.x, h.y, h.state]
theorem st0_ok {a b : Lim} {n : Int} (h : newE a b n = 0) : (st0 a b n).ok ∧ 1 ≤ n ∧ n ≤ 1099511627776 := by
  unfold newE at h
  split at h
  · cases h
  · rename_i h1
    split at h
    · cases h
    · rename_i h2
      simp only [bad, wide, big, Bool.or_eq_true, decide_eq_true_eq, not_or, Int.not_lt] at h1 h2
      obtain ⟨⟨⟨⟨⟨a1, a2⟩, a3⟩, a4⟩, ⟨⟨b1, b2⟩, b3⟩, b4⟩, n1⟩ := h1
      obtain ⟨⟨⟨⟨⟨⟨c1, c2⟩, c3, c4⟩, c5, c6⟩, c7, c8⟩, ⟨⟨⟨d1, d2⟩, d3, d4⟩, d5, d6⟩, d7, d8⟩, n2⟩ := h2
      refine ⟨⟨?_, ?_, ?_, ?_, ?_⟩, by omega, by omega⟩
      · simp only [st0, Ax.ok, Lim.ok]; omega
      · simp only [st0, Ax.ok, Lim.ok]; omega
      · intro h; simp [st0] at h
      · intro h; simp [st0] at h
      · simp [st0]
theorem sim0 (a b : Lim) (n : Int) : Sim (st0 a b n) (rf0 a b n) := by
  constructor <;> first | rfl | (intro h; simp [st0] at h)

theorem clamp_lo (n k : Int) (h : 1 ≤ k) : -k ≤ clamp n k ∧ clamp n k ≤ k := by unfold clamp; omega
theorem clamp_in (n k : Int) (h : 1 ≤ k) : (0 ≤ n → 0 ≤ clamp n k ∧ clamp n k ≤ n) ∧ (n ≤ 0 → n ≤ clamp n k ∧ clamp n k ≤ 0) := by unfold clamp; omega
theorem goes_ok {x : Ax} (h : x.ok) (g : x.to_ok) : (goes x).ok ∧ (goes x).to_ok := by
  obtain ⟨hl, h1, h2, h3, h4, h5, h6⟩ := h
  have hl' := hl
  obtain ⟨l1, l2, l3, l4, l5, l6⟩ := hl
  obtain ⟨g1, g2⟩ := g
  have c1 := clamp_in (x.to' - x.at') x.l.fast l3
  refine ⟨⟨hl', ?_, ?_, h3, h4, h5, h6⟩, g1, g2⟩
  · show x.l.low ≤ x.at' + clamp (x.to' - x.at') x.l.fast
    rcases Int.le_total 0 (x.to' - x.at') with h | h
    · have := c1.1 h; omega
    · have := c1.2 h; omega
  · show x.at' + clamp (x.to' - x.at') x.l.fast ≤ x.l.high
    rcases Int.le_total 0 (x.to' - x.at') with h | h
    · have := c1.1 h; omega
    · have := c1.2 h; omega
theorem home_ok {x : Ax} (h : x.ok) : (home x).ok ∧ (home x).to_ok := by
  obtain ⟨hl, h1, h2, h3, h4, h5, h6⟩ := h
  have hl' := hl
  obtain ⟨l1, l2, l3, l4, l5, l6⟩ := hl
  refine ⟨⟨hl', h1, h2, ?_, ?_, h5, h6⟩, l1, l2⟩
  · show -1099511627776 ≤ x.l.home; omega
  · show x.l.home ≤ 1099511627776; omega
theorem move_ok {x : Ax} (h : x.ok) (g : over x = false) : (move x).ok := by
  simp only [over, Bool.or_eq_false_iff, decide_eq_false_iff_not, Int.not_lt] at g
  obtain ⟨hl, h1, h2, h3⟩ := h
  exact ⟨hl, g.1, g.2, h3⟩
theorem park_ok {s : St} (h : s.ok) : (park s).ok where
  p := (home_ok h.p).1
  q := (home_ok h.q).1
  goal := fun _ => ⟨(home_ok h.p).2, (home_ok h.q).2⟩
  pace := fun e => by simp [park] at e
  state := by simp [park]
theorem step_ok {s : St} (h : s.ok) : (step s).ok := by
  unfold step
  split
  · rename_i hs
    obtain ⟨gp, gq⟩ := h.goal hs
    obtain ⟨a1, a2⟩ := goes_ok h.p gp
    obtain ⟨b1, b2⟩ := goes_ok h.q gq
    refine ⟨a1, b1, fun _ => ⟨a2, b2⟩, fun e => ?_, ?_⟩
    · exfalso
      simp only at e
      split at e
      · split at e <;> omega
      · omega
    · have := h.state
      simp only
      split
      · split <;> omega
      · exact this
  · split
    · split
      · exact ⟨h.p, h.q, fun e => by simp at e, fun e => by simp at e, by simp⟩
      · rename_i hs hs2 ho
        simp only [Bool.or_eq_true, not_or, Bool.not_eq_true] at ho
        exact ⟨move_ok h.p ho.1, move_ok h.q ho.2, fun e => absurd e hs, fun e => h.pace hs2, h.state⟩
    · exact h
theorem quiet_ok {s : St} (h : s.ok) (n : Int) : ({ s with quiet := n } : St).ok := ⟨h.p, h.q, h.goal, h.pace, h.state⟩
theorem late_ok {s : St} (h : s.ok) : (late s).ok := by
  unfold late
  split
  · exact park_ok (quiet_ok h _)
  · exact quiet_ok h _
theorem tick_ok {s : St} (h : s.ok) : (tick s).ok := late_ok (step_ok h)
theorem done_ok {s : St} (h : s.ok) (k : Kind) (a b : Int) : (done s k a b).2.ok := by
  unfold done
  cases k with
  | slew =>
    dsimp only
    split
    · exact h
    · split
      · exact h
      · rename_i ho _
        simp only [out, Bool.or_eq_true, decide_eq_true_eq, not_or, Int.not_lt] at ho
        obtain ⟨⟨hl, h1, h2, h3, h4, h5, h6⟩, ⟨kl, k1, k2, k3, k4, k5, k6⟩⟩ := And.intro h.p h.q
        have hl' := hl
        have kl' := kl
        obtain ⟨l1, l2, l3, l4, l5, l6⟩ := hl
        obtain ⟨m1, m2, m3, m4, m5, m6⟩ := kl
        exact ⟨⟨hl', h1, h2, by show _ ≤ a; omega, by show a ≤ _; omega, h5, h6⟩, ⟨kl', k1, k2, by show _ ≤ b; omega, by show b ≤ _; omega, k5, k6⟩, fun _ => ⟨⟨ho.1.1, ho.1.2⟩, ⟨ho.2.1, ho.2.2⟩⟩, fun e => by simp at e, by simp⟩
  | track =>
    dsimp only
    split
    · exact h
    · split
      · exact h
      · rename_i ho _
        simp only [hasty, Bool.or_eq_true, decide_eq_true_eq, not_or, Int.not_lt] at ho
        obtain ⟨⟨hl, h1, h2, h3, h4, h5, h6⟩, ⟨kl, k1, k2, k3, k4, k5, k6⟩⟩ := And.intro h.p h.q
        have hl' := hl
        have kl' := kl
        obtain ⟨l1, l2, l3, l4, l5, l6⟩ := hl
        obtain ⟨m1, m2, m3, m4, m5, m6⟩ := kl
        exact ⟨⟨hl', h1, h2, h3, h4, by show _ ≤ a; omega, by show a ≤ _; omega⟩, ⟨kl', k1, k2, k3, k4, by show _ ≤ b; omega, by show b ≤ _; omega⟩, fun e => by simp at e, fun _ => ⟨⟨by show -s.p.l.fast ≤ a; omega, by show a ≤ s.p.l.fast; omega⟩, ⟨by show -s.q.l.fast ≤ b; omega, by show b ≤ s.q.l.fast; omega⟩⟩, by simp⟩
  | stop =>
    dsimp only
    split
    · exact h
    · exact ⟨h.p, h.q, fun e => by simp at e, fun e => by simp at e, by simp⟩
  | park =>
    dsimp only
    split
    · exact h
    · exact park_ok h
  | hello => exact h
  | other => exact h
theorem take_ok {s : St} (h : s.ok) (n : Int) (k : Kind) (a b : Int) : (take s n k a b).1.ok := by
  unfold take
  split
  · exact h
  · split
    · exact h
    · have h' : ({ s with taken := true, number := n, quiet := 0 } : St).ok := ⟨h.p, h.q, h.goal, h.pace, h.state⟩
      have := done_ok h' k a b
      exact ⟨this.p, this.q, this.goal, this.pace, this.state⟩

theorem sim_park {s : St} {m : Rf} (h : Sim s m) : Sim (park s) { m with state := 3 } where
  a := h.a
  b := h.b
  x := h.x
  y := h.y
  state := rfl
  patience := h.patience
  quiet := h.quiet
  taken := h.taken
  number := h.number
  code := h.code
  slew := fun e => by simp [park] at e
  track := fun e => by simp [park] at e
  parks := fun _ => ⟨rfl, rfl⟩
theorem rstep1 {m : Rf} (h : m.state = 1) : rstep m = { m with x := towards m.x m.p m.a.fast, y := towards m.y m.q m.b.fast, state := if towards m.x m.p m.a.fast = m.p ∧ towards m.y m.q m.b.fast = m.q then 0 else m.state } := by
  unfold rstep; rw [if_pos h]
theorem rstep3 {m : Rf} (h : m.state = 3) : rstep m = { m with x := towards m.x m.a.home m.a.fast, y := towards m.y m.b.home m.b.fast, state := if towards m.x m.a.home m.a.fast = m.a.home ∧ towards m.y m.b.home m.b.fast = m.b.home then 4 else m.state } := by
  unfold rstep; rw [if_neg (by omega), if_pos h]
theorem rstep2 {m : Rf} (h : m.state = 2) : rstep m = if m.x + m.p < m.a.low ∨ m.a.high < m.x + m.p ∨ m.y + m.q < m.b.low ∨ m.b.high < m.y + m.q then { m with state := 5 } else { m with x := m.x + m.p, y := m.y + m.q } := by
  unfold rstep; rw [if_neg (by omega), if_neg (by omega), if_pos h]
theorem rstep0 {m : Rf} (h1 : ¬ m.state = 1) (h2 : ¬ m.state = 2) (h3 : ¬ m.state = 3) : rstep m = m := by
  unfold rstep; rw [if_neg h1, if_neg h3, if_neg h2]
theorem sim_step {s : St} {m : Rf} (h : Sim s m) (ho : s.ok) : Sim (step s) (rstep m) := by
  have h0 := h
  obtain ⟨ea, eb, ex, ey, es, ep, eq, et, en, ec, h1, h2, h3⟩ := h
  have fa : 1 ≤ s.p.l.fast := ho.p.1.2.2.1
  have fb : 1 ≤ s.q.l.fast := ho.q.1.2.2.1
  have t1 := towards_eq s.p.at' s.p.to' s.p.l.fast fa
  have t2 := towards_eq s.q.at' s.q.to' s.q.l.fast fb
  unfold step
  by_cases c1 : s.state = 1
  · obtain ⟨g1, g2⟩ := h1 c1
    rw [if_pos (.inl c1), rstep1 (es.symm.trans c1)]
    refine ⟨ea, eb, ?_, ?_, ?_, ep, eq, et, en, ec, fun _ => ⟨g1, g2⟩, fun e => ?_, fun e => ?_⟩
    · show s.p.at' + clamp (s.p.to' - s.p.at') s.p.l.fast = _
      rw [t1, g1, ex, ea]
    · show s.q.at' + clamp (s.q.to' - s.q.at') s.q.l.fast = _
      rw [t2, g2, ey, eb]
    · simp only [there, goes, t1, t2, c1, if_true, Bool.and_eq_true, decide_eq_true_eq]
      rw [g1, g2, ex, ey, ea, eb, ← es, c1]
    · exfalso; revert e; simp only [c1]; split <;> simp
    · exfalso; revert e; simp only [c1]; split <;> simp
  · by_cases c3 : s.state = 3
    · obtain ⟨g1, g2⟩ := h3 c3
      rw [if_pos (.inr c3), rstep3 (es.symm.trans c3)]
      refine ⟨ea, eb, ?_, ?_, ?_, ep, eq, et, en, ec, fun e => ?_, fun e => ?_, fun e => ⟨g1, g2⟩⟩
      · show s.p.at' + clamp (s.p.to' - s.p.at') s.p.l.fast = _
        rw [t1, g1, ex, ea]
      · show s.q.at' + clamp (s.q.to' - s.q.at') s.q.l.fast = _
        rw [t2, g2, ey, eb]
      · simp only [there, goes, t1, t2, c3, Bool.and_eq_true, decide_eq_true_eq]
        rw [g1, g2, ex, ey, ea, eb, ← es, c3]
        simp
      · exfalso; revert e; simp only [c3]; split <;> simp
      · exfalso; revert e; simp only [c3]; split <;> simp
    · rw [if_neg (fun e => e.elim c1 c3)]
      by_cases c2 : s.state = 2
      · obtain ⟨g1, g2⟩ := h2 c2
        rw [if_pos c2, rstep2 (es.symm.trans c2)]
        have e : (over s.p || over s.q) = decide (m.x + m.p < m.a.low ∨ m.a.high < m.x + m.p ∨ m.y + m.q < m.b.low ∨ m.b.high < m.y + m.q) := by
          rw [Bool.eq_iff_iff]
          simp only [over, Bool.or_eq_true, decide_eq_true_eq, ea, eb, ex, ey, g1, g2, or_assoc]
        rw [e]
        by_cases hc : (m.x + m.p < m.a.low ∨ m.a.high < m.x + m.p ∨ m.y + m.q < m.b.low ∨ m.b.high < m.y + m.q)
        · rw [if_pos hc, if_pos (by simpa using hc)]
          exact ⟨ea, eb, ex, ey, rfl, ep, eq, et, en, ec, fun e => by simp at e, fun e => by simp at e, fun e => by simp at e⟩
        · rw [if_neg hc, if_neg (by simpa using hc)]
          exact ⟨ea, eb, by show s.p.at' + s.p.by' = m.x + m.p; rw [ex, g1], by show s.q.at' + s.q.by' = m.y + m.q; rw [ey, g2], es, ep, eq, et, en, ec, fun e => absurd e c1, fun _ => ⟨g1, g2⟩, fun e => absurd e c3⟩
      · rw [if_neg c2, rstep0 (fun e => c1 (es.trans e)) (fun e => c2 (es.trans e)) (fun e => c3 (es.trans e))]
        exact h0
theorem rstep_quiet (m : Rf) : (rstep m).quiet = m.quiet ∧ (rstep m).patience = m.patience := by
  unfold rstep; split
  · exact ⟨rfl, rfl⟩
  · split
    · exact ⟨rfl, rfl⟩
    · split
      · split <;> exact ⟨rfl, rfl⟩
      · exact ⟨rfl, rfl⟩
theorem step_quiet (s : St) (n : Int) : step { s with quiet := n } = { step s with quiet := n } := by
  unfold step
  dsimp only
  split
  · rfl
  · split
    · have e1 : over ({ s with quiet := n } : St).p = over s.p := rfl
      split
      · rfl
      · rfl
    · rfl
theorem step_same (s : St) : (step s).quiet = s.quiet := by
  unfold step
  split
  · rfl
  · split
    · split <;> rfl
    · rfl
theorem sim_quiet {s : St} {m : Rf} (h : Sim s m) (n : Int) : Sim { s with quiet := n } { m with quiet := n } :=
  ⟨h.a, h.b, h.x, h.y, h.state, h.patience, rfl, h.taken, h.number, h.code, h.slew, h.track, h.parks⟩
theorem sim_tick {s : St} {m : Rf} (h : Sim s m) (ho : s.ok) : Sim (tick s) (rtick m) := by
  have k := sim_step (sim_quiet h (m.quiet + 1)) (quiet_ok ho _)
  have hq := rstep_quiet { m with quiet := m.quiet + 1 }
  rw [step_quiet] at k
  have hs : (step s).quiet = m.quiet := (step_same s).trans h.quiet
  unfold tick late rtick
  generalize rstep { m with quiet := m.quiet + 1 } = r at k hq
  generalize step s = t at k hs
  obtain ⟨ea, eb, ex, ey, es, ep, eq, et, en, ec, h1, h2, h3⟩ := k
  simp only at hq ep eq es h1 h2 h3
  dsimp only
  have hq1 := hq.1
  rw [hq1, ← es, ← ep, hs]
  by_cases hl : t.patience ≤ m.quiet + 1
  · by_cases h4 : t.state = 4
    · rw [if_neg (by omega), if_neg (by omega)]
      exact ⟨ea, eb, ex, ey, es, ep, hq.1.symm, et, en, ec, h1, h2, h3⟩
    · rw [if_pos (⟨hl, h4⟩ : t.patience ≤ m.quiet + 1 ∧ t.state ≠ 4)]
      by_cases h3' : t.state = 3
      · rw [if_neg (by omega)]
        exact ⟨ea, eb, ex, ey, h3', rfl, rfl, et, en, ec, fun e => absurd (h3'.symm.trans e) (by decide), fun e => absurd (h3'.symm.trans e) (by decide), h3⟩
      · rw [if_pos ⟨hl, h4, h3'⟩]
        exact ⟨ea, eb, ex, ey, rfl, rfl, rfl, et, en, ec, fun e => by simp [park] at e, fun e => by simp [park] at e, fun _ => ⟨rfl, rfl⟩⟩
  · rw [if_neg (fun e => hl e.1), if_neg (fun e => hl e.1)]
    exact ⟨ea, eb, ex, ey, es, ep, hq.1.symm, et, en, ec, h1, h2, h3⟩
theorem sim_done {s : St} {m : Rf} (h : Sim s m) (k : Kind) (a b : Int) : (done s k a b).1 = (rdone m k a b).1 ∧ Sim (done s k a b).2 (rdone m k a b).2 := by
  have h' := h
  obtain ⟨ea, eb, ex, ey, es, ep, eq, et, en, ec, h1, h2, h3⟩ := h
  unfold done rdone
  cases k with
  | slew =>
    dsimp only
    have e : (out s.p a || out s.q b) = decide (a < m.a.low ∨ m.a.high < a ∨ b < m.b.low ∨ m.b.high < b) := by
      rw [Bool.eq_iff_iff]; simp only [out, Bool.or_eq_true, decide_eq_true_eq, ea, eb, or_assoc]
    rw [e, es]
    by_cases hc : a < m.a.low ∨ m.a.high < a ∨ b < m.b.low ∨ m.b.high < b
    · rw [if_pos hc, if_pos (by simpa using hc)]; exact ⟨rfl, h'⟩
    · rw [if_neg hc, if_neg (by simpa using hc)]
      by_cases hs : m.state = 3
      · rw [if_pos hs, if_pos hs]; exact ⟨rfl, h'⟩
      · rw [if_neg hs, if_neg hs]
        exact ⟨rfl, ea, eb, ex, ey, rfl, ep, eq, et, en, ec, fun _ => ⟨rfl, rfl⟩, fun e => by simp at e, fun e => by simp at e⟩
  | track =>
    dsimp only
    have e : (hasty s.p a || hasty s.q b) = decide (m.a.fast < a ∨ a < -m.a.fast ∨ m.b.fast < b ∨ b < -m.b.fast) := by
      rw [Bool.eq_iff_iff]; simp only [hasty, Bool.or_eq_true, decide_eq_true_eq, ea, eb, or_assoc]
    rw [e, es]
    by_cases hc : m.a.fast < a ∨ a < -m.a.fast ∨ m.b.fast < b ∨ b < -m.b.fast
    · rw [if_pos hc, if_pos (by simpa using hc)]; exact ⟨rfl, h'⟩
    · rw [if_neg hc, if_neg (by simpa using hc)]
      by_cases hs : m.state = 4 ∨ m.state = 3
      · rw [if_pos hs, if_pos hs]; exact ⟨rfl, h'⟩
      · rw [if_neg hs, if_neg hs]
        exact ⟨rfl, ea, eb, ex, ey, rfl, ep, eq, et, en, ec, fun e => by simp at e, fun _ => ⟨rfl, rfl⟩, fun e => by simp at e⟩
  | stop =>
    dsimp only
    rw [es]
    by_cases hs : m.state = 4
    · rw [if_pos hs, if_pos hs]; exact ⟨rfl, h'⟩
    · rw [if_neg hs, if_neg hs]
      exact ⟨rfl, ea, eb, ex, ey, rfl, ep, eq, et, en, ec, fun e => by simp at e, fun e => by simp at e, fun e => by simp at e⟩
  | park =>
    dsimp only
    rw [es]
    by_cases hs : m.state = 4
    · rw [if_pos hs, if_pos hs]; exact ⟨rfl, h'⟩
    · rw [if_neg hs, if_neg hs]; exact ⟨rfl, sim_park h'⟩
  | hello => exact ⟨rfl, h'⟩
  | other => exact ⟨rfl, h'⟩
theorem sim_take {s : St} {m : Rf} (h : Sim s m) (n : Int) (k : Kind) (a b : Int) : (take s n k a b).2 = (rtake m n k a b).2 ∧ Sim (take s n k a b).1 (rtake m n k a b).1 := by
  unfold take rtake
  rw [h.taken, h.number]
  split
  · exact ⟨by rw [h.code]; exact sim_rep h _ _, h⟩
  · split
    · exact ⟨sim_rep h _ _, h⟩
    · have h' : Sim ({ s with taken := true, number := n, quiet := 0 } : St) { m with taken := true, number := n, quiet := 0 } :=
        ⟨h.a, h.b, h.x, h.y, h.state, h.patience, rfl, rfl, rfl, h.code, h.slew, h.track, h.parks⟩
      obtain ⟨e, k'⟩ := sim_done h' k a b
      dsimp only
      refine ⟨?_, ?_⟩
      · rw [sim_rep k', e]
      · exact ⟨k'.a, k'.b, k'.x, k'.y, k'.state, k'.patience, k'.quiet, k'.taken, k'.number, e, k'.slew, k'.track, k'.parks⟩
end Go.Mo
