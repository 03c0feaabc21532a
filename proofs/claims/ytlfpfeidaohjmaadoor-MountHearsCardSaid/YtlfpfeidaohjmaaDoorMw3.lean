/- The mount does what a command says. -/
import Derived.Test.YtlfpfeidaohjmaaDoorMw1
set_option linter.unusedSimpArgs false
set_option linter.unusedVariables false
namespace Go.Proofs.YtlfpfeidaohjmaaDoor
open Go.RowKit Go.Grow Go.Mo

/-- What a command's kind says. -/
def kindOf (s : ByteArray) : Kind :=
  if (s.toList == [115, 108, 101, 119]) = true then .slew else if (s.toList == [116, 114, 97, 99, 107]) = true then .track else if (s.toList == [115, 116, 111, 112]) = true then .stop
  else if (s.toList == [112, 97, 114, 107]) = true then .park else if (s.toList == [104, 101, 108, 108, 111]) = true then .hello else .other
/-- A command as a value. -/
def cmdV (n : Int) (s : ByteArray) (x y : Int) : Value := .agg #[.int .i64 n, .string s, .int .i64 x, .int .i64 y]

set_option maxRecDepth 100000 in
set_option maxHeartbeats 4000000 in
theorem done_stop (a : Nat → Addr) (b : Nat) (s : St) (hs : s.ok) (n x y : Int) (c : ByteArray) (w : World) (m : Known w b (mCells a s)) (hsen : Sen a [6, 7, 10] w) (d0 : (c.toList == [115, 108, 101, 119]) = false) (d1 : (c.toList == [116, 114, 97, 99, 107]) = false) (d2 : (c.toList == [115, 116, 111, 112]) = true) :
    Calls Tryd.prog 75 #[.pointer (some ⟨b, 0, none⟩), cmdV n c x y] w fun e w' => e = .returned (errV a (done s .stop x y).1) ∧ Left a b (done s .stop x y).2 w w' := by
  have m0 := m
  obtain ⟨p, q, st, pa, qu, ta, nu, er⟩ := s
  have ok_p := hs.p
  have ok_q := hs.q
  simp only at ok_p ok_q
  clear hs
  unfold mCells at m
  have hbw := m.lt
  have k := But.refl b w
  have c6 := (hsen 6 (by decide)).1
  have c7 := (hsen 7 (by decide)).1
  have c10 := (hsen 10 (by decide)).1
  have l6 := (hsen.lt (k := 6) (by decide)).1
  have l7 := (hsen.lt (k := 7) (by decide)).1
  have l10 := (hsen.lt (k := 10) (by decide)).1
  simp only [gOf] at c6 c7 c10 l6 l7 l10
  have e6 := errV_pos a (k := 6) (by decide)
  have e7 := errV_pos a (k := 7) (by decide)
  have e10 := errV_pos a (k := 10) (by decide)
  have HE6 := Lib.hid e6
  have HE7 := Lib.hid e7
  have HE10 := Lib.hid e10
  have HS := Lib.hid hsen
  clear e6 e7 e10 hsen
  have cm := m.cell
  have fm := m.frozen
  have lm := m.lt
  unfold cmdV
  by_cases h4 : st = 4
  · have g4 : (st == 4) = true := by simp [h4]
    have H4 := Lib.hid h4
    clear h4
    go_enter Tryd.func75, Tryd.ntmps75
    go_wp2
    go_ret
    refine ⟨?_, ?_, ?_⟩
    · simp [errV_zero, done, H4.out, HE7.out]
    · apply Known.of_eq
      · apply Known.at m
        (repeat (with_reducible first | exact m | apply Known.same | apply Known.alloc | apply Known.drewN | apply Known.drew))
      · simp [mCells, done, H4.out]
    · (repeat (with_reducible first | exact k | refine But.setCell ?_ _ _ | refine But.alloc ?_ _ | refine But.drewN ?_ _ | refine But.drew ?_))
  · have g4 : (st == 4) = false := by simp [h4]
    have H4 := Lib.hid h4
    clear h4
    go_enter Tryd.func75, Tryd.ntmps75
    go_wp2
    go_ret
    refine ⟨?_, ?_, ?_⟩
    · simp [errV_zero, done, H4.out]
    · apply Known.of_eq
      · apply Known.at m
        (repeat (with_reducible first | exact m | apply Known.same | apply Known.alloc | apply Known.drewN | apply Known.drew))
      · simp [mCells, done, H4.out]
    · (repeat (with_reducible first | exact k | refine But.setCell ?_ _ _ | refine But.alloc ?_ _ | refine But.drewN ?_ _ | refine But.drew ?_))

set_option maxRecDepth 100000 in
set_option maxHeartbeats 4000000 in
theorem done_park (a : Nat → Addr) (b : Nat) (s : St) (hs : s.ok) (n x y : Int) (c : ByteArray) (w : World) (m : Known w b (mCells a s)) (hsen : Sen a [6, 7, 10] w) (d0 : (c.toList == [115, 108, 101, 119]) = false) (d1 : (c.toList == [116, 114, 97, 99, 107]) = false) (d2 : (c.toList == [115, 116, 111, 112]) = false) (d3 : (c.toList == [112, 97, 114, 107]) = true) :
    Calls Tryd.prog 75 #[.pointer (some ⟨b, 0, none⟩), cmdV n c x y] w fun e w' => e = .returned (errV a (done s .park x y).1) ∧ Left a b (done s .park x y).2 w w' := by
  have m0 := m
  obtain ⟨p, q, st, pa, qu, ta, nu, er⟩ := s
  have ok_p := hs.p
  have ok_q := hs.q
  simp only at ok_p ok_q
  clear hs
  unfold mCells at m
  have hbw := m.lt
  have k := But.refl b w
  have c6 := (hsen 6 (by decide)).1
  have c7 := (hsen 7 (by decide)).1
  have c10 := (hsen 10 (by decide)).1
  have l6 := (hsen.lt (k := 6) (by decide)).1
  have l7 := (hsen.lt (k := 7) (by decide)).1
  have l10 := (hsen.lt (k := 10) (by decide)).1
  simp only [gOf] at c6 c7 c10 l6 l7 l10
  have e6 := errV_pos a (k := 6) (by decide)
  have e7 := errV_pos a (k := 7) (by decide)
  have e10 := errV_pos a (k := 10) (by decide)
  have HE6 := Lib.hid e6
  have HE7 := Lib.hid e7
  have HE10 := Lib.hid e10
  have HS := Lib.hid hsen
  clear e6 e7 e10 hsen
  have cm := m.cell
  have fm := m.frozen
  have lm := m.lt
  unfold cmdV
  by_cases h4 : st = 4
  · have g4 : (st != 4) = false := by simp [h4]
    have H4 := Lib.hid h4
    clear h4
    go_enter Tryd.func75, Tryd.ntmps75
    go_wp2
    go_ret
    refine ⟨?_, ?_, ?_⟩
    · simp [errV_zero, done, H4.out]
    · apply Known.of_eq
      · apply Known.at m
        (repeat (with_reducible first | exact m | apply Known.same | apply Known.alloc | apply Known.drewN | apply Known.drew))
      · simp [mCells, done, H4.out]
    · (repeat (with_reducible first | exact k | refine But.setCell ?_ _ _ | refine But.alloc ?_ _ | refine But.drewN ?_ _ | refine But.drew ?_))
  · have g4 : (st != 4) = true := by simp [h4]
    have H4 := Lib.hid h4
    clear h4
    go_enter Tryd.func75, Tryd.ntmps75
    go_wp2_with (go_at_call 73; refine (park_walk a b ⟨p, q, st, pa, qu, ta, nu, er⟩ _ ?_).mono ?_; exact (m.alloc _).alloc _; rintro e w1 ⟨rfl, hL⟩; have HL := Lib.hid hL; clear hL)
    go_ret
    refine ⟨?_, ?_, ?_⟩
    · simp [errV_zero, done, H4.out]
    · have := HL.out.1
      simpa [done, H4.out] using this
    · exact ((k.alloc _).alloc _).trans HL.out.2

set_option maxRecDepth 100000 in
set_option maxHeartbeats 4000000 in
theorem done_hello (a : Nat → Addr) (b : Nat) (s : St) (hs : s.ok) (n x y : Int) (c : ByteArray) (w : World) (m : Known w b (mCells a s)) (hsen : Sen a [6, 7, 10] w) (d0 : (c.toList == [115, 108, 101, 119]) = false) (d1 : (c.toList == [116, 114, 97, 99, 107]) = false) (d2 : (c.toList == [115, 116, 111, 112]) = false) (d3 : (c.toList == [112, 97, 114, 107]) = false) (d4 : (c.toList == [104, 101, 108, 108, 111]) = true) :
    Calls Tryd.prog 75 #[.pointer (some ⟨b, 0, none⟩), cmdV n c x y] w fun e w' => e = .returned (errV a (done s .hello x y).1) ∧ Left a b (done s .hello x y).2 w w' := by
  have m0 := m
  obtain ⟨p, q, st, pa, qu, ta, nu, er⟩ := s
  have ok_p := hs.p
  have ok_q := hs.q
  simp only at ok_p ok_q
  clear hs
  unfold mCells at m
  have hbw := m.lt
  have k := But.refl b w
  have c6 := (hsen 6 (by decide)).1
  have c7 := (hsen 7 (by decide)).1
  have c10 := (hsen 10 (by decide)).1
  have l6 := (hsen.lt (k := 6) (by decide)).1
  have l7 := (hsen.lt (k := 7) (by decide)).1
  have l10 := (hsen.lt (k := 10) (by decide)).1
  simp only [gOf] at c6 c7 c10 l6 l7 l10
  have e6 := errV_pos a (k := 6) (by decide)
  have e7 := errV_pos a (k := 7) (by decide)
  have e10 := errV_pos a (k := 10) (by decide)
  have HE6 := Lib.hid e6
  have HE7 := Lib.hid e7
  have HE10 := Lib.hid e10
  have HS := Lib.hid hsen
  clear e6 e7 e10 hsen
  have cm := m.cell
  have fm := m.frozen
  have lm := m.lt
  unfold cmdV
  go_enter Tryd.func75, Tryd.ntmps75
  go_wp2
  go_ret
  refine ⟨?_, ?_, ?_⟩
  · simp [errV_zero, done]
  · apply Known.of_eq
    · apply Known.at m
      (repeat (with_reducible first | exact m | apply Known.same | apply Known.alloc | apply Known.drewN | apply Known.drew))
    · simp [mCells, done]
  · (repeat (with_reducible first | exact k | refine But.setCell ?_ _ _ | refine But.alloc ?_ _ | refine But.drewN ?_ _ | refine But.drew ?_))

set_option maxRecDepth 100000 in
set_option maxHeartbeats 4000000 in
theorem done_other (a : Nat → Addr) (b : Nat) (s : St) (hs : s.ok) (n x y : Int) (c : ByteArray) (w : World) (m : Known w b (mCells a s)) (hsen : Sen a [6, 7, 10] w) (d0 : (c.toList == [115, 108, 101, 119]) = false) (d1 : (c.toList == [116, 114, 97, 99, 107]) = false) (d2 : (c.toList == [115, 116, 111, 112]) = false) (d3 : (c.toList == [112, 97, 114, 107]) = false) (d4 : (c.toList == [104, 101, 108, 108, 111]) = false) :
    Calls Tryd.prog 75 #[.pointer (some ⟨b, 0, none⟩), cmdV n c x y] w fun e w' => e = .returned (errV a (done s .other x y).1) ∧ Left a b (done s .other x y).2 w w' := by
  have m0 := m
  obtain ⟨p, q, st, pa, qu, ta, nu, er⟩ := s
  have ok_p := hs.p
  have ok_q := hs.q
  simp only at ok_p ok_q
  clear hs
  unfold mCells at m
  have hbw := m.lt
  have k := But.refl b w
  have c6 := (hsen 6 (by decide)).1
  have c7 := (hsen 7 (by decide)).1
  have c10 := (hsen 10 (by decide)).1
  have l6 := (hsen.lt (k := 6) (by decide)).1
  have l7 := (hsen.lt (k := 7) (by decide)).1
  have l10 := (hsen.lt (k := 10) (by decide)).1
  simp only [gOf] at c6 c7 c10 l6 l7 l10
  have e6 := errV_pos a (k := 6) (by decide)
  have e7 := errV_pos a (k := 7) (by decide)
  have e10 := errV_pos a (k := 10) (by decide)
  have HE6 := Lib.hid e6
  have HE7 := Lib.hid e7
  have HE10 := Lib.hid e10
  have HS := Lib.hid hsen
  clear e6 e7 e10 hsen
  have cm := m.cell
  have fm := m.frozen
  have lm := m.lt
  unfold cmdV
  go_enter Tryd.func75, Tryd.ntmps75
  go_wp2
  go_ret
  refine ⟨?_, ?_, ?_⟩
  · simp [errV_zero, done, HE10.out]
  · apply Known.of_eq
    · apply Known.at m
      (repeat (with_reducible first | exact m | apply Known.same | apply Known.alloc | apply Known.drewN | apply Known.drew))
    · simp [mCells, done]
  · (repeat (with_reducible first | exact k | refine But.setCell ?_ _ _ | refine But.alloc ?_ _ | refine But.drewN ?_ _ | refine But.drew ?_))

end Go.Proofs.YtlfpfeidaohjmaaDoor
