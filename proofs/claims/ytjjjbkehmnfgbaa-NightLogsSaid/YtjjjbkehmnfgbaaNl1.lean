/- A log's bytes: numbers put byte by byte. -/
import Derived.Test.YtjjjbkehmnfgbaaChecked
import Derived.Test.YtjjjbkehmnfgbaaKno
import Derived.Laws.AppendOwn
import Derived.LoopTactic
import Derived.Deep.LoopGhost
import Derived.Outline
import Derived.IntWalk
set_option linter.unusedSimpArgs false
set_option linter.unusedVariables false
namespace Go.Proofs.Ytjjjbkehmnfgbaa
open Go.RowKit Go.Grow

/-- The bytes of a number, the low one first. -/
def le : Nat → Nat → List Nat
  | 0, _ => []
  | k + 1, n => n % 256 :: le k (n / 256)
theorem le_length (k n : Nat) : (le k n).length = k := by
  induction k generalizing n with
  | zero => rfl
  | succ k ih => simp [le, ih]
theorem le_snoc (k n : Nat) : le (k + 1) n = le k n ++ [n / 256 ^ k % 256] := by
  induction k generalizing n with
  | zero => simp [le]
  | succ k ih =>
    rw [le, ih (n / 256), le, List.cons_append]
    congr 2
    rw [Nat.div_div_eq_div_mul, Nat.pow_succ, Nat.mul_comm]
/-- Bytes as values. -/
def bv (l : List Nat) : List Value := l.map fun (n : Nat) => Value.int .u8 n
theorem bv_append (a b : List Nat) : bv (a ++ b) = bv a ++ bv b := List.map_append
theorem bv_length (a : List Nat) : (bv a).length = a.length := List.length_map _
theorem info5 : (Try.prog.info? 5).map (fun i => (i.zero, i.size, i.bytes)) = some (some (.int .u8 0), 1, 1) := by kernel_rfl
/-- What a callee leaves that lets a row grow. -/
def Grown (w : World) (base : Nat) (l : List Nat) (e : Ending) (w' : World) : Prop :=
  ∃ v', e = .returned v' ∧ w'.ownsRow base 5 1 v' l.length (bv l) ∧ Below base w w'
def PutRel (w : World) (base k n : Nat) (v : Value) (l : List Nat) (v0 v1 v8 : Value) (wr : World) : Prop :=
  ∃ j : Nat, j ≤ k ∧ v8 = .int .i64 j ∧ v1 = .int .u64 (n / 256 ^ j : Nat) ∧ wr.ownsRow base 5 1 v0 (l.length + j) (bv (l ++ le j n)) ∧ Below base w wr

theorem info_parts {P : Program} {e : TypeId} {z : Option Value} {s b : Nat} (h : (P.info? e).map (fun i => (i.zero, i.size, i.bytes)) = some (z, s, b)) : ∃ i, P.info? e = some i ∧ i.zero = z ∧ i.size = s ∧ i.bytes = b := by
  cases hi : P.info? e with
  | none => rw [hi] at h; cases h
  | some i => rw [hi] at h; simp at h; exact ⟨i, rfl, h.1, h.2.1, h.2.2⟩
theorem add_zero (g j : Nat) : (⟨g, 0, none⟩ : Addr).add j = ⟨g, j, none⟩ := by
  cases j with
  | zero => rfl
  | succ j => simp [Addr.add]
theorem one_new (w : World) (x : Value) (t : TypeId) : ∀ j u, [x][j]? = some u → (w.alloc (.cells #[x] t)).cell? ((⟨w.heap.size, 0, none⟩ : Addr).add j) = some u := fun j u h => by
  cases j with
  | zero => simp at h; subst h; rw [add_zero, cell?_cells]; simp
  | succ j => simp at h
theorem one_byte (b : Int) : ∀ u ∈ [Value.int .u8 b], u.oneCell' = true := fun u h => by simp at h; subst h; rfl
theorem _root_.Go.World.heap_alloc_old' (w : World) (o : Obj) (k : Nat) (h : k < w.heap.size) : (w.alloc o).heap[k]? = w.heap[k]? := by
  show (w.heap.push o)[k]? = _
  rw [Array.getElem?_push_lt h, Array.getElem?_eq_getElem h]
theorem below_grown {base : Nat} {w w1 w2 : World} {row : Option Nat} (h : Below base w w1) (hb : base ≤ w1.heap.size) (g : w1.grownBy w2 row) (hr : ∀ k, row = some k → base ≤ k) : Below base w w2 :=
  h.trans ⟨g.os, g.tape, g.output, g.size, fun k hk => g.block k (Nat.lt_of_lt_of_le hk hb) (fun e => by have := hr k e.symm; omega)⟩
set_option maxRecDepth 100000 in
set_option maxHeartbeats 4000000 in
theorem put_walk (base : Nat) (v : Value) (l : List Nat) (n k : Nat) (w : World) (hb : base ≤ w.heap.size) (hv : w.ownsRow base 5 1 v l.length (bv l)) (hn : n < 18446744073709551616) (hk : k ≤ 8) (hl : l.length ≤ 1000000) :
    Calls Try.prog 12 #[v, .int .u64 n, .int .i64 k] w (Grown w base (l ++ le k n)) := by
  obtain ⟨i0, hi, hz0, hz1, hz2⟩ := info_parts info5
  have HI := Lib.hid hi
  have HZ0 := Lib.hid hz0
  have HZ1 := Lib.hid hz1
  have HZ2 := Lib.hid hz2
  have HV := Lib.hid hv
  clear hi hz0 hz1 hz2 hv
  go_enter Try.func12, Try.ntmps12
  go_wp2
  go_loopw [0, 1, 8] (fun v0 v1 v8 wr => PutRel w base k n v l v0 v1 v8 wr) (fun _ _ i _ => k - (intOf i).toNat)
  case atStart => exact ⟨0, Nat.zero_le _, rfl, by simp, by simpa [le] using HV.out, Below.refl _ _⟩
  case round =>
    obtain ⟨j, hj, rfl, rfl, hown, hg⟩ := hrel
    have HO := Lib.hid hown
    have HG := Lib.hid hg
    clear hown hg
    by_cases hlt : j < k
    · have hq : n / 256 ^ j < 18446744073709551616 := Nat.lt_of_le_of_lt (Nat.div_le_self _ _) hn
      generalize hqe : n / 256 ^ j = q at hq
      have HQ := Lib.hid hqe
      clear hqe
      have hm := HG.out.size
      have C3 := Lib.hid (show (l.length + j) + 1 ≤ maxLen by unfold maxLen; omega)
      have C4 := Lib.hid (show (l.length + j + 1) * 1 ≤ 140737488355328 by omega)
      have C5 := Lib.hid (show base ≤ (wr.alloc (.cells #[Value.int .u8 ((q : Int) % 256)] 5)).heap.size by simp; omega)
      go_wp2_with (at_builtin; refine wpList_append_own _ rfl _ _ 23 rfl base 5 i0 (.int .u8 0) 1 1 Try.underlying23 HI.out HZ0.out HZ1.out HZ2.out rfl (by decide) _ _ _ rfl (HO.out.alloc _) ⟨wr.heap.size, 0, none⟩ 1 1 [.int .u8 ((q : Int) % 256)] rfl rfl (one_new _ _ _) (one_byte _) C3.out C4.out C5.out ?_)
      intro v' w1 hown' hg' _
      have HO2 := Lib.hid hown'
      have HG2 := Lib.hid hg'
      have hbz := Lib.hid (show base ≤ wr.heap.size by omega)
      clear hown' hg'
      go_wp2
      go_roundw
      case rel =>
        refine ⟨j + 1, by omega, by go_num, ?_, ?_, ?_⟩
        · rw [← HQ.out, Nat.pow_succ, ← Nat.div_div_eq_div_mul]
          rw [Int.natCast_ediv]
          rfl
        · rw [le_snoc, ← List.append_assoc, bv_append, HQ.out]
          exact HO2.out
        · exact below_grown (HG.out.alloc hbz.out _) (by simp; omega) HG2.out (fun k hk => (HO.out.lt k hk).1)
      case measure => simp [intOf]; omega
    · obtain rfl : j = k := by omega
      go_wp2
      go_ret
      refine ⟨_, rfl, ?_, HG.out⟩
      rw [List.length_append, le_length]
      exact HO.out

set_option maxRecDepth 100000 in
set_option maxHeartbeats 4000000 in
theorem bytes_walk (base : Nat) (v : Value) (l : List Nat) (n k : Nat) (w : World) (hb : base ≤ w.heap.size) (hv : w.ownsRow base 5 1 v l.length (bv l)) (hn : n < 18446744073709551616) (hk : k ≤ 8) (hl : l.length ≤ 1000000) :
    Calls Try.prog 14 #[v, .int .u64 n, .int .i64 k] w (Grown w base (l ++ le k n)) := by
  obtain ⟨i0, hi, hz0, hz1, hz2⟩ := info_parts info5
  have HI := Lib.hid hi
  have HZ0 := Lib.hid hz0
  have HZ1 := Lib.hid hz1
  have HZ2 := Lib.hid hz2
  have HV := Lib.hid hv
  clear hi hz0 hz1 hz2 hv
  go_enter Try.func14, Try.ntmps14
  go_wp2
  go_loopw [0, 1, 7] (fun v0 v1 v8 wr => PutRel w base k n v l v0 v1 v8 wr) (fun _ _ i _ => k - (intOf i).toNat)
  case atStart => exact ⟨0, Nat.zero_le _, rfl, by simp, by simpa [le] using HV.out, Below.refl _ _⟩
  case round =>
    obtain ⟨j, hj, rfl, rfl, hown, hg⟩ := hrel
    have HO := Lib.hid hown
    have HG := Lib.hid hg
    clear hown hg
    by_cases hlt : j < k
    · have hq : n / 256 ^ j < 18446744073709551616 := Nat.lt_of_le_of_lt (Nat.div_le_self _ _) hn
      generalize hqe : n / 256 ^ j = q at hq
      have HQ := Lib.hid hqe
      clear hqe
      have hm := HG.out.size
      have C3 := Lib.hid (show (l.length + j) + 1 ≤ maxLen by unfold maxLen; omega)
      have C4 := Lib.hid (show (l.length + j + 1) * 1 ≤ 140737488355328 by omega)
      have C5 := Lib.hid (show base ≤ (wr.alloc (.cells #[Value.int .u8 ((q : Int) % 256)] 5)).heap.size by simp; omega)
      go_wp2_with (at_builtin; refine wpList_append_own _ rfl _ _ 23 rfl base 5 i0 (.int .u8 0) 1 1 Try.underlying23 HI.out HZ0.out HZ1.out HZ2.out rfl (by decide) _ _ _ rfl (HO.out.alloc _) ⟨wr.heap.size, 0, none⟩ 1 1 [.int .u8 ((q : Int) % 256)] rfl rfl (one_new _ _ _) (one_byte _) C3.out C4.out C5.out ?_)
      intro v' w1 hown' hg' _
      have HO2 := Lib.hid hown'
      have HG2 := Lib.hid hg'
      have hbz := Lib.hid (show base ≤ wr.heap.size by omega)
      clear hown' hg'
      go_wp2
      go_roundw
      case rel =>
        refine ⟨j + 1, by omega, by go_num, ?_, ?_, ?_⟩
        · rw [← HQ.out, Nat.pow_succ, ← Nat.div_div_eq_div_mul]
          rw [Int.natCast_ediv]
          rfl
        · rw [le_snoc, ← List.append_assoc, bv_append, HQ.out]
          exact HO2.out
        · exact below_grown (HG.out.alloc hbz.out _) (by simp; omega) HG2.out (fun k hk => (HO.out.lt k hk).1)
      case measure => simp [intOf]; omega
    · obtain rfl : j = k := by omega
      go_wp2
      go_ret
      refine ⟨_, rfl, ?_, HG.out⟩
      rw [List.length_append, le_length]
      exact HO.out
end Go.Proofs.Ytjjjbkehmnfgbaa
