/- EventSpans: the law's walk. -/
import Derived.Test.YtlfpfeidaohjmaaDoorEs20
import Derived.Test.YtlfpfeidaohjmaaDoorEs5
import Derived.Test.YtlfpfeidaohjmaaDoorRd3
set_option linter.unusedSimpArgs false
set_option linter.unusedVariables false
namespace Go.Proofs.YtlfpfeidaohjmaaDoor
open Go.RowKit Go.Grow

def OnePost (w : World) (e : Ending) (w' : World) : Prop := ∃ r c, e = .returned (.tuple #[.slice r 1 c, .nilIface]) ∧ SpAt w' r [(0, 3)] ∧ Below w.heap.size w w'
theorem const_walk (a : Nat → Addr) (X w : World) (hX : Below w.heap.size w X) (hs : Sen a [2, 5] w) :
    Calls Tryd.prog 47 #[.slice (some ⟨X.heap.size, 0, none⟩) 1 1, .slice (some ⟨X.heap.size + 1, 0, none⟩) 1 1] ((X.alloc (.cells #[.int .i64 0, .int .i64 2] 96)).alloc (.cells #[.int .i64 2, .int .i64 3] 96)) (OnePost w) := by
  have b1 := grow_alloc hX (.cells #[.int .i64 0, .int .i64 2] 96)
  have b2 := grow_alloc b1 (.cells #[.int .i64 2, .int .i64 3] 96)
  have K1 := (Known.new X #[.int .i64 0, .int .i64 2] 96).below (grow_alloc (grow_refl _) (.cells #[.int .i64 2, .int .i64 3] 96))
  have K2 := Known.new (X.alloc (.cells #[.int .i64 0, .int .i64 2] 96)) #[.int .i64 2, .int .i64 3] 96
  have hz : (X.alloc (.cells #[.int .i64 0, .int .i64 2] 96)).heap.size = X.heap.size + 1 := by simp
  rw [hz] at K2
  have h := either_yes a (some ⟨X.heap.size, 0, none⟩) (some ⟨X.heap.size + 1, 0, none⟩) [(0, 2)] [(2, 3)] 1 1 _ (hs.below b2) (.inr ⟨_, 0, rfl, fun k hk => by
      obtain rfl : k = 0 := by simpa using hk
      exact ⟨K1.cell 0, K1.cell 1⟩⟩) (.inr ⟨_, 0, rfl, fun k hk => by
      obtain rfl : k = 0 := by simpa using hk
      exact ⟨K2.cell 0, K2.cell 1⟩⟩) (by kernel_rfl)
  refine h.mono fun e w' ⟨r, c, he, hx, hb⟩ => ?_
  rw [join_const] at he hx
  exact ⟨r, c, he, hx, grow_trans b2 hb⟩
set_option maxRecDepth 100000 in
set_option maxHeartbeats 16000000 in
theorem law_skip1 (a : Nat → Addr) (r1 r2 : Option Addr) (l1 l2 : List (Int × Int)) (c1 c2 : Nat) (w : World) (hs2 : Sen a [2, 5] w) (q1 : 60 < l1.length) (q2 : l1.length ≤ 4000) :
    Calls Tryd.prog 10 #[.slice r1 l1.length c1, .slice r2 l2.length c2] w fun e w' => e = .returned (.bool true) ∧ Below w.heap.size w w' := by
  have EC := Lib.hid (fun (X : World) (hX : Below w.heap.size w X) => show Calls Tryd.prog 47 #[.slice (some ⟨X.heap.size, 0, none⟩) 1 1, .slice (some ⟨X.heap.size + 1, 0, none⟩) 1 1] ((X.alloc (.cells #[.int .i64 0, .int .i64 2] 96)).alloc (.cells #[.int .i64 2, .int .i64 3] 96)) (OnePost w) from const_walk a X w hX hs2)
  have g : Hid (Below w.heap.size w w) := Lib.hid (grow_refl w)
  have dg1 : decide ((60 : Int) < (l1.length : Int)) = true := decide_eq_true (by omega)
  have dl1 : decide ((l1.length : Int) ≤ 4000) = true := decide_eq_true (by omega)
  have ng1 : decide (60 < l1.length) = true := decide_eq_true (by omega)
  have nl1 : decide (l1.length ≤ 4000) = true := decide_eq_true (by omega)
  clear hs2 q1 q2
  go_enter Tryd.func10, Tryd.ntmps10
  go_wp2_with (first
    | (go_at_call 47; (with_reducible refine (EC.out _ g.out).mono ?_); rintro e w1 ⟨rc, cc, rfl, hc, hb⟩; obtain ⟨bc, oc, rfl, hcc⟩ := hc.resolve_left (by simp); have hd3 := (hcc 0 (by decide)).2; replace g := Lib.hid hb; clear hb hc hcc))
  go_ret
  exact ⟨rfl, by first | exact g.out | exact Grow.grow_drewN g.out _ | exact Grow.grow_drewN (Grow.grow_drewN g.out _) _⟩
set_option maxRecDepth 100000 in
set_option maxHeartbeats 16000000 in
theorem law_skip2 (a : Nat → Addr) (r1 r2 : Option Addr) (l1 l2 : List (Int × Int)) (c1 c2 : Nat) (w : World) (hs2 : Sen a [2, 5] w) (q1 : l1.length ≤ 60) (q2 : 60 < l2.length) (q3 : l2.length ≤ 4000) :
    Calls Tryd.prog 10 #[.slice r1 l1.length c1, .slice r2 l2.length c2] w fun e w' => e = .returned (.bool true) ∧ Below w.heap.size w w' := by
  have EC := Lib.hid (fun (X : World) (hX : Below w.heap.size w X) => show Calls Tryd.prog 47 #[.slice (some ⟨X.heap.size, 0, none⟩) 1 1, .slice (some ⟨X.heap.size + 1, 0, none⟩) 1 1] ((X.alloc (.cells #[.int .i64 0, .int .i64 2] 96)).alloc (.cells #[.int .i64 2, .int .i64 3] 96)) (OnePost w) from const_walk a X w hX hs2)
  have g : Hid (Below w.heap.size w w) := Lib.hid (grow_refl w)
  have dg1 : decide ((60 : Int) < (l1.length : Int)) = false := decide_eq_false (by omega)
  have dl1 : decide ((l1.length : Int) ≤ 4000) = true := decide_eq_true (by omega)
  have ng1 : decide (60 < l1.length) = false := decide_eq_false (by omega)
  have nl1 : decide (l1.length ≤ 4000) = true := decide_eq_true (by omega)
  have dg2 : decide ((60 : Int) < (l2.length : Int)) = true := decide_eq_true (by omega)
  have dl2 : decide ((l2.length : Int) ≤ 4000) = true := decide_eq_true (by omega)
  have ng2 : decide (60 < l2.length) = true := decide_eq_true (by omega)
  have nl2 : decide (l2.length ≤ 4000) = true := decide_eq_true (by omega)
  clear hs2 q1 q2 q3
  go_enter Tryd.func10, Tryd.ntmps10
  go_wp2_with (first
    | (go_at_call 47; (with_reducible refine (EC.out _ g.out).mono ?_); rintro e w1 ⟨rc, cc, rfl, hc, hb⟩; obtain ⟨bc, oc, rfl, hcc⟩ := hc.resolve_left (by simp); have hd3 := (hcc 0 (by decide)).2; replace g := Lib.hid hb; clear hb hc hcc))
  go_ret
  exact ⟨rfl, by first | exact g.out | exact Grow.grow_drewN g.out _ | exact Grow.grow_drewN (Grow.grow_drewN g.out _) _⟩
set_option maxRecDepth 100000 in
set_option maxHeartbeats 16000000 in
theorem law_skip3 (a : Nat → Addr) (r1 r2 : Option Addr) (l1 l2 : List (Int × Int)) (c1 c2 : Nat) (w : World) (hs2 : Sen a [2, 5] w) (q1 : 4000 < l1.length) (q2 : 60 < l2.length) (q3 : l2.length ≤ 4000) :
    Calls Tryd.prog 10 #[.slice r1 l1.length c1, .slice r2 l2.length c2] w fun e w' => e = .returned (.bool true) ∧ Below w.heap.size w w' := by
  have EC := Lib.hid (fun (X : World) (hX : Below w.heap.size w X) => show Calls Tryd.prog 47 #[.slice (some ⟨X.heap.size, 0, none⟩) 1 1, .slice (some ⟨X.heap.size + 1, 0, none⟩) 1 1] ((X.alloc (.cells #[.int .i64 0, .int .i64 2] 96)).alloc (.cells #[.int .i64 2, .int .i64 3] 96)) (OnePost w) from const_walk a X w hX hs2)
  have g : Hid (Below w.heap.size w w) := Lib.hid (grow_refl w)
  have dg1 : decide ((60 : Int) < (l1.length : Int)) = true := decide_eq_true (by omega)
  have dl1 : decide ((l1.length : Int) ≤ 4000) = false := decide_eq_false (by omega)
  have ng1 : decide (60 < l1.length) = true := decide_eq_true (by omega)
  have nl1 : decide (l1.length ≤ 4000) = false := decide_eq_false (by omega)
  have dg2 : decide ((60 : Int) < (l2.length : Int)) = true := decide_eq_true (by omega)
  have dl2 : decide ((l2.length : Int) ≤ 4000) = true := decide_eq_true (by omega)
  have ng2 : decide (60 < l2.length) = true := decide_eq_true (by omega)
  have nl2 : decide (l2.length ≤ 4000) = true := decide_eq_true (by omega)
  clear hs2 q1 q2 q3
  go_enter Tryd.func10, Tryd.ntmps10
  go_wp2_with (first
    | (go_at_call 47; (with_reducible refine (EC.out _ g.out).mono ?_); rintro e w1 ⟨rc, cc, rfl, hc, hb⟩; obtain ⟨bc, oc, rfl, hcc⟩ := hc.resolve_left (by simp); have hd3 := (hcc 0 (by decide)).2; replace g := Lib.hid hb; clear hb hc hcc))
  go_ret
  exact ⟨rfl, by first | exact g.out | exact Grow.grow_drewN g.out _ | exact Grow.grow_drewN (Grow.grow_drewN g.out _) _⟩
end Go.Proofs.YtlfpfeidaohjmaaDoor
