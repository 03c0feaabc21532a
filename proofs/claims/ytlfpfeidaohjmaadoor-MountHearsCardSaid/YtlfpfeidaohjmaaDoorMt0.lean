/- MountTakes: small walks of the law. -/
import Derived.Test.YtlfpfeidaohjmaaDoorRw5
import Derived.Test.YtlfpfeidaohjmaaDoorRw6
import Derived.Test.YtlfpfeidaohjmaaDoorMs0
import Derived.Test.YtlfpfeidaohjmaaDoorCode
set_option linter.unusedSimpArgs false
set_option linter.unusedVariables false
namespace Go.Proofs.YtlfpfeidaohjmaaDoor
open Go.RowKit Go.Grow Go.Mo

theorem mountOf_ok (A B : Lim) (n : Int) (h0 : newE A B n = 0) (w : World) : Calls Tryd.prog 36 #[limV A, limV B, .int .i64 n] w (RMade A B n w) := by
  rcases newE_cases A B n with ⟨_, h⟩ | ⟨_, h⟩ | ⟨_, h⟩ | ⟨_, h⟩ | ⟨_, h⟩ | ⟨_, h⟩ | ⟨h1, _⟩
  · omega
  · omega
  · omega
  · omega
  · omega
  · omega
  · exact mountOf_6 A B n h1 w
theorem mountOf_no (A B : Lim) (n : Int) (h0 : newE A B n ≠ 0) (w : World) : Calls Tryd.prog 36 #[limV A, limV B, .int .i64 n] w fun e w' => e = .returned (.tuple #[.pointer none, .int .i64 (newE A B n : Nat)]) ∧ Below w.heap.size w w' := by
  rcases newE_cases A B n with ⟨h1, h⟩ | ⟨h1, h⟩ | ⟨h1, h⟩ | ⟨h1, h⟩ | ⟨h1, h⟩ | ⟨h1, h⟩ | ⟨_, h⟩
  · rw [h]; exact mountOf_0 A B n h1 w
  · rw [h]; exact mountOf_1 A B n h1 w
  · rw [h]; exact mountOf_2 A B n h1 w
  · rw [h]; exact mountOf_3 A B n h1 w
  · rw [h]; exact mountOf_4 A B n h1 w
  · rw [h]; exact mountOf_5 A B n h1 w
  · omega
theorem newE_le (A B : Lim) (n : Int) : newE A B n ≤ 10 := by
  rcases newE_cases A B n with ⟨_, h⟩ | ⟨_, h⟩ | ⟨_, h⟩ | ⟨_, h⟩ | ⟨_, h⟩ | ⟨_, h⟩ | ⟨_, h⟩ <;> omega
theorem rb_of {s : St} {m : Rf} (h : Sim s m) (ho : s.ok) : RB m := by
  obtain ⟨ea, eb, ex, ey, es, ep, eq, et, en, ec, h1, h2, h3⟩ := h
  obtain ⟨pl, p1, p2, p3, p4, p5, p6⟩ := ho.p
  obtain ⟨ql, q1, q2, q3, q4, q5, q6⟩ := ho.q
  have pl' := pl
  have ql' := ql
  obtain ⟨a1, a2, a3, a4, a5, a6⟩ := pl
  obtain ⟨b1, b2, b3, b4, b5, b6⟩ := ql
  refine ⟨ea ▸ pl', eb ▸ ql', ?_, ?_, ?_, ?_⟩
  · rw [← ex]; omega
  · rw [← ey]; omega
  · intro hs
    rcases hs with hs | hs
    · rw [← (h1 (es.trans hs)).1]; exact ⟨p3, p4⟩
    · rw [← (h2 (es.trans hs)).1]; exact ⟨p5, p6⟩
  · intro hs
    rcases hs with hs | hs
    · rw [← (h1 (es.trans hs)).2]; exact ⟨q3, q4⟩
    · rw [← (h2 (es.trans hs)).2]; exact ⟨q5, q6⟩
theorem step_err (s : St) : (Mo.step s).err = s.err := by
  unfold Mo.step
  split
  · rfl
  · split
    · split <;> rfl
    · rfl
theorem tick_err (s : St) : (tick s).err = s.err := by
  unfold tick late
  split
  · exact step_err s
  · exact step_err s
theorem done_err (s : St) (k : Kind) (x y : Int) : (done s k x y).1 ≤ 10 := by
  cases k <;> simp only [done] <;> (try split) <;> (try split) <;> simp
theorem take_err {s : St} (h : s.err ≤ 10) (n : Int) (k : Kind) (x y : Int) : (take s n k x y).2.err ≤ 10 ∧ (take s n k x y).1.err ≤ 10 := by
  unfold take
  split
  · exact ⟨h, h⟩
  · split
    · exact ⟨by simp [reply], h⟩
    · exact ⟨done_err _ _ _ _, done_err _ _ _ _⟩

set_option maxRecDepth 100000 in
set_option maxHeartbeats 4000000 in
/-- An error, and its number. -/
theorem coded_same (a : Nat → Addr) (k : Nat) (hk : k ≤ 10) (w : World) (hs : Sen a allK w) (hh : Hand w) (hne : ∀ j ∈ allK, ∀ k ∈ allK, j ≠ k → a j ≠ a k) :
    Calls Tryd.prog 33 #[errV a k, .int .i64 k] w fun e w' => e = .returned (.bool true) ∧ Below w.heap.size w w' := by
  have C := Lib.hid (code_any a k hk w hs hh hne)
  clear hs hh hne
  rcases errV_or a k with hE | ⟨u, hE⟩
  all_goals
    rw [hE] at C ⊢
    clear hE
    go_enter Tryd.func33, Tryd.ntmps33
    go_wp2_with (go_at_call 76; (with_reducible refine C.out.mono ?_); rintro e w1 ⟨rfl, hB⟩; have HB := Lib.hid hB; clear hB)
    go_ret
    exact ⟨by simp, HB.out⟩
theorem state_same (a : Nat → Addr) (b : Nat) (s : St) (w : World) (q : Known w b (mCells a s)) :
    Calls Tryd.prog 31 #[.pointer (some ⟨b, 0, none⟩)] w fun e w' => e = .returned (.int .i64 s.state) ∧ w' = w := by
  unfold mCells at q
  have hc := q.cell
  have hf := q.frozen
  go_enter Tryd.func31, Tryd.ntmps31
  go_wp2
  go_ret
  exact ⟨rfl, rfl⟩

end Go.Proofs.YtlfpfeidaohjmaaDoor
