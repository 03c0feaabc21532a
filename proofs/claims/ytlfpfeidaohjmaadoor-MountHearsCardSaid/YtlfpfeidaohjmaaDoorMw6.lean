/- The mount takes a command. -/
import Derived.Test.YtlfpfeidaohjmaaDoorMw4
import Derived.Test.YtlfpfeidaohjmaaDoorMw5
import Derived.Deep.DeepCutAuto
set_option linter.unusedSimpArgs false
set_option linter.unusedVariables false
namespace Go.Proofs.YtlfpfeidaohjmaaDoor
open Go.RowKit Go.Grow Go.Mo

theorem done_any (a : Nat → Addr) (b : Nat) (s : St) (hs : s.ok) (n x y : Int) (c : ByteArray) (w : World) (m : Known w b (mCells a s)) (hsen : Sen a [6, 7, 10] w) :
    Calls Tryd.prog 75 #[.pointer (some ⟨b, 0, none⟩), cmdV n c x y] w fun e w' => e = .returned (errV a (done s (kindOf c) x y).1) ∧ Left a b (done s (kindOf c) x y).2 w w' := by
  cases d0 : c.toList == [115, 108, 101, 119] with
  | true => rw [show kindOf c = .slew by simp only [kindOf, d0, if_true]]; exact done_slew a b s hs n x y c w m hsen d0
  | false =>
    cases d1 : c.toList == [116, 114, 97, 99, 107] with
    | true => rw [show kindOf c = .track by simp [kindOf, d0, d1]]; exact done_track a b s hs n x y c w m hsen d0 d1
    | false =>
      cases d2 : c.toList == [115, 116, 111, 112] with
      | true => rw [show kindOf c = .stop by simp [kindOf, d0, d1, d2]]; exact done_stop a b s hs n x y c w m hsen d0 d1 d2
      | false =>
        cases d3 : c.toList == [112, 97, 114, 107] with
        | true => rw [show kindOf c = .park by simp [kindOf, d0, d1, d2, d3]]; exact done_park a b s hs n x y c w m hsen d0 d1 d2 d3
        | false =>
          cases d4 : c.toList == [104, 101, 108, 108, 111] with
          | true => rw [show kindOf c = .hello by simp [kindOf, d0, d1, d2, d3, d4]]; exact done_hello a b s hs n x y c w m hsen d0 d1 d2 d3 d4
          | false => rw [show kindOf c = .other by simp [kindOf, d0, d1, d2, d3, d4]]; exact done_other a b s hs n x y c w m hsen d0 d1 d2 d3 d4

theorem Sen.but {a : Nat → Addr} {ks : List Nat} {w w' : World} {b : Nat} (h : Sen a ks w) (hb : But b w w') (hne : ∀ k ∈ ks, gOf k ≠ b ∧ (a k).block ≠ b) : Sen a ks w' := fun k hk => by
  obtain ⟨h1, c, t, h2⟩ := h k hk
  obtain ⟨n1, n2⟩ := hne k hk
  refine ⟨?_, c, t, ?_⟩
  · rw [cell?_but hb (p := ⟨gOf k, 0, none⟩) (lt_of_cell h1) n1]; exact h1
  · rw [hb.block _ (Array.getElem?_eq_some_iff.1 h2).1 n2]; exact h2

/-- A reply as a value. -/
def repV (a : Nat → Addr) (r : Rep) : Value := .agg #[.int .i64 r.number, errV a r.err, .int .i64 r.a, .int .i64 r.b, .int .i64 r.state]

set_option maxRecDepth 100000 in
set_option maxHeartbeats 4000000 in
theorem take_same (a : Nat → Addr) (b : Nat) (s : St) (hs : s.ok) (n x y : Int) (c : ByteArray) (w : World) (m : Known w b (mCells a s)) (hsen : Sen a [6, 7, 10] w) (hbs : ∀ k ∈ [6, 7, 10], gOf k ≠ b ∧ (a k).block ≠ b) (hta : s.taken = true) (hn : n = s.number) :
    Calls Tryd.prog 28 #[.pointer (some ⟨b, 0, none⟩), cmdV n c x y] w fun e w' => e = .returned (repV a (reply s n s.err)) ∧ Left a b s w w' := by
  obtain ⟨p, q, st, pa, qu, ta, nu, er⟩ := s
  simp only at hta hn
  unfold mCells at m
  have hbw := m.lt
  have k := But.refl b w
  have HS := Lib.hid hsen
  have HBS := Lib.hid hbs
  clear hsen hbs
  subst hta
  have g1 : (n == nu) = true := by simp [hn]
  have HN := Lib.hid hn
  clear hn
  rcases errV_or a er with hE | ⟨u, hE⟩
  all_goals
    replace hE := Lib.hid hE
    have HE := hE
    clear hE
    have cm := m.cell
    have fm := m.frozen
    have lm := m.lt
    unfold cmdV
    go_enter Tryd.func28, Tryd.ntmps28
    go_wp2
    refine Grow.seal_wp ?_
    intro W hW
    clear cm fm lm
    have k2 : But b w W := by
      rw [hW.out]
      (repeat (with_reducible first | exact k | refine But.setCell ?_ _ _ | refine But.alloc ?_ _ | refine But.drewN ?_ _ | refine But.drew ?_ | refine But.fresh ?_ ?_ _ _)) <;> omega
    apply Grow.have_known (W := W)
    · rw [hW.out]
      apply Known.at m
      (repeat (with_reducible first | exact m | apply Known.same | apply Known.other | apply Known.alloc | apply Known.drewN | apply Known.drew)) <;> omega
    clear m
    intro m
    (try simp only [List.setIfInBounds_toArray, List.set_cons_zero, List.set_cons_succ] at m)
    apply Grow.have_known (W := W) (b := w.heap.size)
    · rw [hW.out]
      (repeat (with_reducible first | exact Known.new _ _ _ | (apply Known.new'; (first | rfl | (simp; done))) | apply Known.same | apply Known.other | apply Known.alloc | apply Known.drewN | apply Known.drew)) <;> omega
    intro r3
    (try simp only [List.setIfInBounds_toArray, List.set_cons_zero, List.set_cons_succ] at r3)
    apply Grow.have_known (W := W) (b := w.heap.size + 1)
    · rw [hW.out]
      (repeat (with_reducible first | exact Known.new _ _ _ | (apply Known.new'; (first | rfl | (simp; done))) | apply Known.same | apply Known.other | apply Known.alloc | apply Known.drewN | apply Known.drew)) <;> omega
    intro r4
    (try simp only [List.setIfInBounds_toArray, List.set_cons_zero, List.set_cons_succ] at r4)
    clear hW k
    have k := k2
    clear k2
    have cm := m.cell
    have fm := m.frozen
    have lm := m.lt
    have cr3 := r3.cell
    have fr3 := r3.frozen
    have lr3 := r3.lt
    have cr4 := r4.cell
    have fr4 := r4.frozen
    have lr4 := r4.lt
    go_quiet (fail)
    go_wp2
    refine Grow.seal_wp ?_
    intro W hW
    clear cm fm lm cr3 fr3 lr3 cr4 fr4 lr4
    have k2 : But b w W := by
      rw [hW.out]
      (repeat (with_reducible first | exact k | refine But.setCell ?_ _ _ | refine But.alloc ?_ _ | refine But.drewN ?_ _ | refine But.drew ?_ | refine But.fresh ?_ ?_ _ _)) <;> omega
    apply Grow.have_known (W := W)
    · rw [hW.out]
      apply Known.at m
      (repeat (with_reducible first | exact m | apply Known.same | apply Known.other | apply Known.alloc | apply Known.drewN | apply Known.drew)) <;> omega
    clear m
    intro m
    (try simp only [List.setIfInBounds_toArray, List.set_cons_zero, List.set_cons_succ] at m)
    apply Grow.have_known (W := W)
    · rw [hW.out]
      apply Known.at r3
      (repeat (with_reducible first | exact r3 | apply Known.same | apply Known.other | apply Known.alloc | apply Known.drewN | apply Known.drew)) <;> omega
    clear r3
    intro r3
    (try simp only [List.setIfInBounds_toArray, List.set_cons_zero, List.set_cons_succ] at r3)
    apply Grow.have_known (W := W)
    · rw [hW.out]
      apply Known.at r4
      (repeat (with_reducible first | exact r4 | apply Known.same | apply Known.other | apply Known.alloc | apply Known.drewN | apply Known.drew)) <;> omega
    clear r4
    intro r4
    (try simp only [List.setIfInBounds_toArray, List.set_cons_zero, List.set_cons_succ] at r4)
    clear hW k
    have k := k2
    clear k2
    have cm := m.cell
    have fm := m.frozen
    have lm := m.lt
    have cr3 := r3.cell
    have fr3 := r3.frozen
    have lr3 := r3.lt
    have cr4 := r4.cell
    have fr4 := r4.frozen
    have lr4 := r4.lt
    go_still_tail 7, (by kernel_rfl)
    go_wp2_with (go_at_call 74; refine (reply_walk a b ⟨p, q, st, pa, qu, true, nu, er⟩ _ er _ ?_).mono ?_; exact Known.drew m; rintro e w1 ⟨rfl, hB⟩; rw [HE.out]; have HB := Lib.hid hB; clear hB; clear cm fm lm cr3 fr3 lr3 cr4 fr4 lr4; replace m := (Known.drew m).below HB.out; replace r4 := (Known.drew r4).below HB.out; replace k := (k.drew).trans (But.of_below HB.out); have cm := m.cell; have fm := m.frozen; have lm := m.lt; have cr4 := r4.cell; have fr4 := r4.frozen; have lr4 := r4.lt)
    apply bodyPost_ret
    · simp [results, Tryd.results28, go_sem, cr4, fr4]; rfl
    · rfl
    · refine ⟨?_, ?_, ?_⟩
      · simp [repV, reply, HE.out]
      · apply Known.of_eq
        · apply Known.at m
          (repeat (with_reducible first | exact m | apply Known.same | apply Known.other | apply Known.alloc | apply Known.drewN | apply Known.drew)) <;> omega
        · simp [mCells]
      · (repeat (with_reducible first | exact k | refine But.setCell ?_ _ _ | refine But.alloc ?_ _ | refine But.drewN ?_ _ | refine But.drew ?_ | refine But.fresh ?_ ?_ _ _)) <;> omega

set_option maxRecDepth 100000 in
set_option maxHeartbeats 4000000 in
theorem take_old (a : Nat → Addr) (b : Nat) (s : St) (hs : s.ok) (n x y : Int) (c : ByteArray) (w : World) (m : Known w b (mCells a s)) (hsen : Sen a [6, 7, 10] w) (hbs : ∀ k ∈ [6, 7, 10], gOf k ≠ b ∧ (a k).block ≠ b) (hta : s.taken = true) (hn : n < s.number) :
    Calls Tryd.prog 28 #[.pointer (some ⟨b, 0, none⟩), cmdV n c x y] w fun e w' => e = .returned (repV a (reply s n 7)) ∧ Left a b s w w' := by
  obtain ⟨p, q, st, pa, qu, ta, nu, er⟩ := s
  simp only at hta hn
  unfold mCells at m
  have hbw := m.lt
  have k := But.refl b w
  have HS := Lib.hid hsen
  have HBS := Lib.hid hbs
  clear hsen hbs
  subst hta
  have g1 : (n == nu) = false := by simp; omega
  have g2 : decide (n < nu) = true := decide_eq_true hn
  have cm := m.cell
  have fm := m.frozen
  have lm := m.lt
  unfold cmdV
  go_enter Tryd.func28, Tryd.ntmps28
  go_wp2
  refine Grow.seal_wp ?_
  intro W hW
  clear cm fm lm
  have k2 : But b w W := by
    rw [hW.out]
    (repeat (with_reducible first | exact k | refine But.setCell ?_ _ _ | refine But.alloc ?_ _ | refine But.drewN ?_ _ | refine But.drew ?_ | refine But.fresh ?_ ?_ _ _)) <;> omega
  apply Grow.have_known (W := W)
  · rw [hW.out]
    apply Known.at m
    (repeat (with_reducible first | exact m | apply Known.same | apply Known.other | apply Known.alloc | apply Known.drewN | apply Known.drew)) <;> omega
  clear m
  intro m
  (try simp only [List.setIfInBounds_toArray, List.set_cons_zero, List.set_cons_succ] at m)
  apply Grow.have_known (W := W) (b := w.heap.size)
  · rw [hW.out]
    (repeat (with_reducible first | exact Known.new _ _ _ | (apply Known.new'; (first | rfl | (simp; done))) | apply Known.same | apply Known.other | apply Known.alloc | apply Known.drewN | apply Known.drew)) <;> omega
  intro r3
  (try simp only [List.setIfInBounds_toArray, List.set_cons_zero, List.set_cons_succ] at r3)
  apply Grow.have_known (W := W) (b := w.heap.size + 1)
  · rw [hW.out]
    (repeat (with_reducible first | exact Known.new _ _ _ | (apply Known.new'; (first | rfl | (simp; done))) | apply Known.same | apply Known.other | apply Known.alloc | apply Known.drewN | apply Known.drew)) <;> omega
  intro r4
  (try simp only [List.setIfInBounds_toArray, List.set_cons_zero, List.set_cons_succ] at r4)
  clear hW k
  have k := k2
  clear k2
  have cm := m.cell
  have fm := m.frozen
  have lm := m.lt
  have cr3 := r3.cell
  have fr3 := r3.frozen
  have lr3 := r3.lt
  have cr4 := r4.cell
  have fr4 := r4.frozen
  have lr4 := r4.lt
  go_quiet (fail)
  go_wp2
  refine Grow.seal_wp ?_
  intro W hW
  clear cm fm lm cr3 fr3 lr3 cr4 fr4 lr4
  have k2 : But b w W := by
    rw [hW.out]
    (repeat (with_reducible first | exact k | refine But.setCell ?_ _ _ | refine But.alloc ?_ _ | refine But.drewN ?_ _ | refine But.drew ?_ | refine But.fresh ?_ ?_ _ _)) <;> omega
  apply Grow.have_known (W := W)
  · rw [hW.out]
    apply Known.at m
    (repeat (with_reducible first | exact m | apply Known.same | apply Known.other | apply Known.alloc | apply Known.drewN | apply Known.drew)) <;> omega
  clear m
  intro m
  (try simp only [List.setIfInBounds_toArray, List.set_cons_zero, List.set_cons_succ] at m)
  apply Grow.have_known (W := W)
  · rw [hW.out]
    apply Known.at r3
    (repeat (with_reducible first | exact r3 | apply Known.same | apply Known.other | apply Known.alloc | apply Known.drewN | apply Known.drew)) <;> omega
  clear r3
  intro r3
  (try simp only [List.setIfInBounds_toArray, List.set_cons_zero, List.set_cons_succ] at r3)
  apply Grow.have_known (W := W)
  · rw [hW.out]
    apply Known.at r4
    (repeat (with_reducible first | exact r4 | apply Known.same | apply Known.other | apply Known.alloc | apply Known.drewN | apply Known.drew)) <;> omega
  clear r4
  intro r4
  (try simp only [List.setIfInBounds_toArray, List.set_cons_zero, List.set_cons_succ] at r4)
  clear hW k
  have k := k2
  clear k2
  have cm := m.cell
  have fm := m.frozen
  have lm := m.lt
  have cr3 := r3.cell
  have fr3 := r3.frozen
  have lr3 := r3.lt
  have cr4 := r4.cell
  have fr4 := r4.frozen
  have lr4 := r4.lt
  go_quiet (fail)
  have hS := HS.out.but k HBS.out
  have c7 : W.cell? ⟨gOf 7, 0, none⟩ = some (errV a 7) := (hS 7 (by decide)).1
  simp only [gOf] at c7
  clear hS
  have HE := Lib.hid (errV_pos a (k := 7) (by decide))
  go_wp2_with (go_at_call 74; refine (reply_walk a b ⟨p, q, st, pa, qu, true, nu, er⟩ _ 7 _ ?_).mono ?_; exact m.drewN _; rintro e w1 ⟨rfl, hB⟩; rw [HE.out]; have HB := Lib.hid hB; clear hB; clear cm fm lm cr3 fr3 lr3 cr4 fr4 lr4; replace m := (m.drewN _).below HB.out; replace r4 := (r4.drewN _).below HB.out; replace k := (k.drewN _).trans (But.of_below HB.out); have cm := m.cell; have fm := m.frozen; have lm := m.lt; have cr4 := r4.cell; have fr4 := r4.frozen; have lr4 := r4.lt)
  apply bodyPost_ret
  · simp [results, Tryd.results28, go_sem, cr4, fr4]; rfl
  · rfl
  · refine ⟨?_, ?_, ?_⟩
    · simp [repV, reply, HE.out]
    · apply Known.of_eq
      · apply Known.at m
        (repeat (with_reducible first | exact m | apply Known.same | apply Known.other | apply Known.alloc | apply Known.drewN | apply Known.drew)) <;> omega
      · simp [mCells]
    · (repeat (with_reducible first | exact k | refine But.setCell ?_ _ _ | refine But.alloc ?_ _ | refine But.drewN ?_ _ | refine But.drew ?_ | refine But.fresh ?_ ?_ _ _)) <;> omega

set_option maxRecDepth 100000 in
set_option maxHeartbeats 4000000 in
theorem take_new (a : Nat → Addr) (b : Nat) (s : St) (hs : s.ok) (n x y : Int) (c : ByteArray) (w : World) (m : Known w b (mCells a s)) (hsen : Sen a [6, 7, 10] w) (hbs : ∀ k ∈ [6, 7, 10], gOf k ≠ b ∧ (a k).block ≠ b) (hn : s.taken = false ∨ (s.taken = true ∧ s.number < n))
    (r : Nat × St) (hr : done { s with taken := true, number := n, quiet := 0 } (kindOf c) x y = r) :
    Calls Tryd.prog 28 #[.pointer (some ⟨b, 0, none⟩), cmdV n c x y] w fun e w' => e = .returned (repV a (reply r.2 n r.1)) ∧ Left a b { r.2 with err := r.1 } w w' := by
  obtain ⟨p, q, st, pa, qu, ta, nu, er⟩ := s
  simp only at hn hr
  unfold mCells at m
  have hbw := m.lt
  have k := But.refl b w
  have HS := Lib.hid hsen
  have HBS := Lib.hid hbs
  clear hsen hbs
  obtain ⟨rc, p2, q2, st2, pa2, qu2, ta2, nu2, er2⟩ := r
  simp only
  have HR := Lib.hid hr
  have hok : St.ok ⟨p, q, st, pa, 0, true, n, er⟩ := ⟨hs.p, hs.q, hs.goal, hs.pace, hs.state⟩
  have HOK := Lib.hid hok
  clear hr hok
  rcases errV_or a rc with hE | ⟨u, hE⟩ <;> rcases hn with hn | ⟨ht, hn⟩
  all_goals
    first
    | (subst hn; have g1 : True := trivial)
    | (subst ht; have g1 : (n == nu) = false := by simp; omega
       have g2 : decide (n < nu) = false := by simp; omega)
    have HE := Lib.hid hE
    clear hE
    have cm := m.cell
    have fm := m.frozen
    have lm := m.lt
    unfold cmdV
    go_enter Tryd.func28, Tryd.ntmps28
    go_wp2
    refine Grow.seal_wp ?_
    intro W hW
    clear cm fm lm
    have k2 : But b w W := by
      rw [hW.out]
      (repeat (with_reducible first | exact k | refine But.setCell ?_ _ _ | refine But.alloc ?_ _ | refine But.drewN ?_ _ | refine But.drew ?_ | refine But.fresh ?_ ?_ _ _)) <;> omega
    apply Grow.have_known (W := W)
    · rw [hW.out]
      apply Known.at m
      (repeat (with_reducible first | exact m | apply Known.same | apply Known.other | apply Known.alloc | apply Known.drewN | apply Known.drew)) <;> omega
    clear m
    intro m
    (try simp only [List.setIfInBounds_toArray, List.set_cons_zero, List.set_cons_succ] at m)
    apply Grow.have_known (W := W) (b := w.heap.size)
    · rw [hW.out]
      (repeat (with_reducible first | exact Known.new _ _ _ | (apply Known.new'; (first | rfl | (simp; done))) | apply Known.same | apply Known.other | apply Known.alloc | apply Known.drewN | apply Known.drew)) <;> omega
    intro r3
    (try simp only [List.setIfInBounds_toArray, List.set_cons_zero, List.set_cons_succ] at r3)
    apply Grow.have_known (W := W) (b := w.heap.size + 1)
    · rw [hW.out]
      (repeat (with_reducible first | exact Known.new _ _ _ | (apply Known.new'; (first | rfl | (simp; done))) | apply Known.same | apply Known.other | apply Known.alloc | apply Known.drewN | apply Known.drew)) <;> omega
    intro r4
    (try simp only [List.setIfInBounds_toArray, List.set_cons_zero, List.set_cons_succ] at r4)
    clear hW k
    have k := k2
    clear k2
    have cm := m.cell
    have fm := m.frozen
    have lm := m.lt
    have cr3 := r3.cell
    have fr3 := r3.frozen
    have lr3 := r3.lt
    have cr4 := r4.cell
    have fr4 := r4.frozen
    have lr4 := r4.lt
    go_quiet (fail)
    go_wp2
    refine Grow.seal_wp ?_
    intro W hW
    clear cm fm lm cr3 fr3 lr3 cr4 fr4 lr4
    have k2 : But b w W := by
      rw [hW.out]
      (repeat (with_reducible first | exact k | refine But.setCell ?_ _ _ | refine But.alloc ?_ _ | refine But.drewN ?_ _ | refine But.drew ?_ | refine But.fresh ?_ ?_ _ _)) <;> omega
    apply Grow.have_known (W := W)
    · rw [hW.out]
      apply Known.at m
      (repeat (with_reducible first | exact m | apply Known.same | apply Known.other | apply Known.alloc | apply Known.drewN | apply Known.drew)) <;> omega
    clear m
    intro m
    (try simp only [List.setIfInBounds_toArray, List.set_cons_zero, List.set_cons_succ] at m)
    apply Grow.have_known (W := W)
    · rw [hW.out]
      apply Known.at r3
      (repeat (with_reducible first | exact r3 | apply Known.same | apply Known.other | apply Known.alloc | apply Known.drewN | apply Known.drew)) <;> omega
    clear r3
    intro r3
    (try simp only [List.setIfInBounds_toArray, List.set_cons_zero, List.set_cons_succ] at r3)
    apply Grow.have_known (W := W)
    · rw [hW.out]
      apply Known.at r4
      (repeat (with_reducible first | exact r4 | apply Known.same | apply Known.other | apply Known.alloc | apply Known.drewN | apply Known.drew)) <;> omega
    clear r4
    intro r4
    (try simp only [List.setIfInBounds_toArray, List.set_cons_zero, List.set_cons_succ] at r4)
    clear hW k
    have k := k2
    clear k2
    have cm := m.cell
    have fm := m.frozen
    have lm := m.lt
    have cr3 := r3.cell
    have fr3 := r3.frozen
    have lr3 := r3.lt
    have cr4 := r4.cell
    have fr4 := r4.frozen
    have lr4 := r4.lt
    go_quiet (fail)
    go_wp2
    refine Grow.seal_wp ?_
    intro W hW
    clear cm fm lm cr3 fr3 lr3 cr4 fr4 lr4
    have k2 : But b w W := by
      rw [hW.out]
      (repeat (with_reducible first | exact k | refine But.setCell ?_ _ _ | refine But.alloc ?_ _ | refine But.drewN ?_ _ | refine But.drew ?_ | refine But.fresh ?_ ?_ _ _)) <;> omega
    apply Grow.have_known (W := W)
    · rw [hW.out]
      apply Known.at m
      (repeat (with_reducible first | exact m | apply Known.same | apply Known.other | apply Known.alloc | apply Known.drewN | apply Known.drew)) <;> omega
    clear m
    intro m
    (try simp only [List.setIfInBounds_toArray, List.set_cons_zero, List.set_cons_succ] at m)
    apply Grow.have_known (W := W)
    · rw [hW.out]
      apply Known.at r3
      (repeat (with_reducible first | exact r3 | apply Known.same | apply Known.other | apply Known.alloc | apply Known.drewN | apply Known.drew)) <;> omega
    clear r3
    intro r3
    (try simp only [List.setIfInBounds_toArray, List.set_cons_zero, List.set_cons_succ] at r3)
    apply Grow.have_known (W := W)
    · rw [hW.out]
      apply Known.at r4
      (repeat (with_reducible first | exact r4 | apply Known.same | apply Known.other | apply Known.alloc | apply Known.drewN | apply Known.drew)) <;> omega
    clear r4
    intro r4
    (try simp only [List.setIfInBounds_toArray, List.set_cons_zero, List.set_cons_succ] at r4)
    clear hW k
    have k := k2
    clear k2
    have cm := m.cell
    have fm := m.frozen
    have lm := m.lt
    have cr3 := r3.cell
    have fr3 := r3.frozen
    have lr3 := r3.lt
    have cr4 := r4.cell
    have fr4 := r4.frozen
    have lr4 := r4.lt
    go_upto_region 5 with fail
    go_cut [] (fun wx => Known wx b (mCells a ⟨p, q, st, pa, 0, true, n, er⟩) ∧ Known wx w.heap.size #[.int .i64 n, .string c, .int .i64 x, .int .i64 y] ∧ Known wx (w.heap.size + 1) #[.int .i64 0, .nilIface, .int .i64 0, .int .i64 0, .int .i64 0] ∧ But b w wx)
    case first =>
      go_region
      all_goals
        go_wp2_with fail
        go_meet
        refine ⟨?_, ?_, ?_, ?_⟩
        · apply Known.of_eq
          · apply Known.at m
            (repeat (with_reducible first | exact m | apply Known.same | apply Known.other | apply Known.alloc | apply Known.drewN | apply Known.drew)) <;> omega
          · simp [mCells]
        · apply Known.at r3
          (repeat (with_reducible first | exact r3 | apply Known.same | apply Known.other | apply Known.alloc | apply Known.drewN | apply Known.drew)) <;> omega
        · apply Known.at r4
          (repeat (with_reducible first | exact r4 | apply Known.same | apply Known.other | apply Known.alloc | apply Known.drewN | apply Known.drew)) <;> omega
        · (repeat (with_reducible first | exact k | refine But.setCell ?_ _ _ | refine But.alloc ?_ _ | refine But.drewN ?_ _ | refine But.drew ?_ | refine But.fresh ?_ ?_ _ _)) <;> omega
    case rest =>
      clear m r3 r4 k cm fm lm cr3 fr3 lr3 cr4 fr4 lr4
      obtain ⟨m, r3, r4, k⟩ := hcut
      have hD := done_any a b ⟨p, q, st, pa, 0, true, n, er⟩ HOK.out n x y c wc m (HS.out.but k HBS.out)
      rw [HR.out] at hD
      unfold cmdV at hD
      have D := Lib.hid hD
      clear hD
      dsimp only [mCells] at m
      have cm := m.cell
      have fm := m.frozen
      have lm := m.lt
      have cr3 := r3.cell
      have fr3 := r3.frozen
      have lr3 := r3.lt
      have cr4 := r4.cell
      have fr4 := r4.frozen
      have lr4 := r4.lt
      go_wp2_with (go_at_call 75; refine D.out.mono ?_; rintro e w1 ⟨rfl, hL⟩; simp only; rw [HE.out]; have HL := Lib.hid hL; clear hL cm fm lm cr3 fr3 lr3 cr4 fr4 lr4; replace m := HL.out.1; dsimp only [mCells] at m; replace r3 := r3.but HL.out.2 (by omega); replace r4 := r4.but HL.out.2 (by omega); replace k := k.trans HL.out.2; have cm := m.cell; have fm := m.frozen; have lm := m.lt; have cr3 := r3.cell; have fr3 := r3.frozen; have lr3 := r3.lt; have cr4 := r4.cell; have fr4 := r4.frozen; have lr4 := r4.lt)
      refine Grow.seal_wp ?_
      intro W hW
      clear cm fm lm cr3 fr3 lr3 cr4 fr4 lr4
      have k2 : But b w W := by
        rw [hW.out]
        (repeat (with_reducible first | exact k | refine But.setCell ?_ _ _ | refine But.alloc ?_ _ | refine But.drewN ?_ _ | refine But.drew ?_ | refine But.fresh ?_ ?_ _ _)) <;> omega
      apply Grow.have_known (W := W)
      · rw [hW.out]
        apply Known.at m
        (repeat (with_reducible first | exact m | apply Known.same | apply Known.other | apply Known.alloc | apply Known.drewN | apply Known.drew)) <;> omega
      clear m
      intro m
      (try simp only [List.setIfInBounds_toArray, List.set_cons_zero, List.set_cons_succ] at m)
      apply Grow.have_known (W := W)
      · rw [hW.out]
        apply Known.at r3
        (repeat (with_reducible first | exact r3 | apply Known.same | apply Known.other | apply Known.alloc | apply Known.drewN | apply Known.drew)) <;> omega
      clear r3
      intro r3
      (try simp only [List.setIfInBounds_toArray, List.set_cons_zero, List.set_cons_succ] at r3)
      apply Grow.have_known (W := W)
      · rw [hW.out]
        apply Known.at r4
        (repeat (with_reducible first | exact r4 | apply Known.same | apply Known.other | apply Known.alloc | apply Known.drewN | apply Known.drew)) <;> omega
      clear r4
      intro r4
      (try simp only [List.setIfInBounds_toArray, List.set_cons_zero, List.set_cons_succ] at r4)
      clear hW k
      have k := k2
      clear k2
      have cm := m.cell
      have fm := m.frozen
      have lm := m.lt
      have cr3 := r3.cell
      have fr3 := r3.frozen
      have lr3 := r3.lt
      have cr4 := r4.cell
      have fr4 := r4.frozen
      have lr4 := r4.lt
      rw [← HE.out] at m
      clear cm
      have cm := m.cell
      go_still_tail 7, (by kernel_rfl)
      go_wp2_with (go_at_call 74; refine (reply_walk a b ⟨p2, q2, st2, pa2, qu2, ta2, nu2, rc⟩ _ rc _ ?_).mono ?_; exact Known.drew m; rintro e w1 ⟨rfl, hB⟩; rw [HE.out]; have HB := Lib.hid hB; clear hB; clear cm fm lm cr3 fr3 lr3 cr4 fr4 lr4; replace m := (Known.drew m).below HB.out; replace r4 := (Known.drew r4).below HB.out; replace k := (k.drew).trans (But.of_below HB.out); have cm := m.cell; have fm := m.frozen; have lm := m.lt; have cr4 := r4.cell; have fr4 := r4.frozen; have lr4 := r4.lt)
      apply bodyPost_ret
      · simp [results, Tryd.results28, go_sem, cr4, fr4]; rfl
      · rfl
      · refine ⟨?_, ?_, ?_⟩
        · simp [repV, reply, HE.out]
        · apply Known.of_eq
          · apply Known.at m
            (repeat (with_reducible first | exact m | apply Known.same | apply Known.other | apply Known.alloc | apply Known.drewN | apply Known.drew)) <;> omega
          · simp [mCells]
        · (repeat (with_reducible first | exact k | refine But.setCell ?_ _ _ | refine But.alloc ?_ _ | refine But.drewN ?_ _ | refine But.drew ?_ | refine But.fresh ?_ ?_ _ _)) <;> omega

end Go.Proofs.YtlfpfeidaohjmaaDoor
