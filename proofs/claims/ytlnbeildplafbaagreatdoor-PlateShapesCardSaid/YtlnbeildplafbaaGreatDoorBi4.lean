/- Whole numbers of any size in memory: words; a product by one word. -/
import Derived.Test.YtlnbeildplafbaaGreatDoorBi0
import Derived.Test.YtlnbeildplafbaaGreatDoorKno
import Derived.Test.YtlnbeildplafbaaGreatDoorShl6
import Derived.Test.YtlnbeildplafbaaGreatDoorPln
import Derived.Test.YtlnbeildplafbaaGreatDoorTw2
import Derived.Laws.Twins
import Derived.LoopTactic
import Derived.OwnWalk
import Derived.Deep.LoopGhost
import Derived.Laws.MakeOwn
set_option linter.unusedSimpArgs false
set_option linter.unusedVariables false
namespace Go.Proofs.YtlnbeildplafbaaGreatDoor
open Go.RowKit Go.Grow Go.Wd

theorem mul64_walk (x y : Nat) (hx : x < 18446744073709551616) (hy : y < 18446744073709551616) (w : World) :
    Calls Tryz.prog 160 #[.int .u64 x, .int .u64 y] w fun e w' => e = .returned (.tuple #[.int .u64 ((x * y / 18446744073709551616 : Nat) : Int), .int .u64 ((x * y % 18446744073709551616 : Nat) : Int)]) ∧ w' = w :=
  Any.bits_Mul64 YtlnbeildplafbaaGreatDoor.laysMul64 x y hx hy w
theorem add64_runs (x y c : Nat) (hc : c ≤ 1) (w : World) :
    (callFunc 118 #[.int .u64 x, .int .u64 y, .int .u64 c]).run Tryz.prog w = .ok (.value (.tuple #[.int .u64 (((x + y + c) % 18446744073709551616 : Nat) : Int), .int .u64 (((x + y + c) / 18446744073709551616 : Nat) : Int)])) w := by
  rw [run_callFunc_extern Tryz.func118 (by kernel_rfl) (by kernel_rfl) (by kernel_rfl) (e := add64Entry) (by kernel_rfl), run_add64 x y c (by omega) (by omega) (by omega) (by omega)]
  simp only [Result.andThen]
  congr 5 <;> omega
theorem enters_mulAddVWW (args : Array Value) (w : World) : (callFunc 151 args).run Tryz.prog w = .ok (.enter 63 args) w :=
  run_callFunc_twin (twin := "math/big.mulAddVWW_g") Tryz.func151 (by kernel_rfl) (by kernel_rfl) (by kernel_rfl) (by kernel_rfl) Tryz.func63 (by kernel_rfl) (by kernel_rfl) (by kernel_rfl) args w
theorem wrapN (a : Nat) (ha : a < 18446744073709551616) : IntKind.u64.wrap (a : Int) = (a : Int) := by rw [IntKind.wrap_u64]; omega
set_option maxRecDepth 100000 in
set_option maxHeartbeats 8000000 in
theorem bitsMul_walk (x y : Nat) (hx : x < 18446744073709551616) (hy : y < 18446744073709551616) (w : World) :
    Calls Tryz.prog 142 #[.int .u64 x, .int .u64 y] w fun e w' => e = .returned (.tuple #[.int .u64 ((x * y / 18446744073709551616 : Nat) : Int), .int .u64 ((x * y % 18446744073709551616 : Nat) : Int)]) ∧ w' = w := by
  have M := Lib.hid (fun X => mul64_walk x y hx hy X)
  go_enter Tryz.func142, Tryz.ntmps142
  go_wp2_with (go_at_call 160; (with_reducible refine (M.out _).mono ?_); rintro e w1 ⟨rfl, rfl⟩)
  go_ret2
  exact ⟨rfl, rfl⟩
set_option maxRecDepth 100000 in
set_option maxHeartbeats 8000000 in
theorem bitsAdd_walk (x y c : Nat) (hc : c ≤ 1) (w : World) :
    Calls Tryz.prog 91 #[.int .u64 x, .int .u64 y, .int .u64 c] w fun e w' => e = .returned (.tuple #[.int .u64 (((x + y + c) % 18446744073709551616 : Nat) : Int), .int .u64 (((x + y + c) / 18446744073709551616 : Nat) : Int)]) ∧ w' = w := by
  have A := fun X => add64_runs x y c hc X
  go_enter Tryz.func91, Tryz.ntmps91
  go_wp2
  go_ret2
  exact ⟨rfl, rfl⟩
theorem bitsAdd0_walk (x y : Nat) (w : World) :
    Calls Tryz.prog 91 #[.int .u64 x, .int .u64 y, .int .u64 0] w fun e w' => e = .returned (.tuple #[.int .u64 (((x + y + 0) % 18446744073709551616 : Nat) : Int), .int .u64 (((x + y + 0) / 18446744073709551616 : Nat) : Int)]) ∧ w' = w := bitsAdd_walk x y 0 (by omega) w
theorem hi_lo (x y c : Nat) (hx : x < 18446744073709551616) (hy : y < 18446744073709551616) (hc : c < 18446744073709551616) :
    (x * y % 18446744073709551616 + c + 0) % 18446744073709551616 = (x * y + c) % 18446744073709551616 ∧ x * y / 18446744073709551616 + (x * y % 18446744073709551616 + c + 0) / 18446744073709551616 = (x * y + c) / 18446744073709551616 ∧ (x * y + c) / 18446744073709551616 < 18446744073709551616 := by
  refine ⟨by omega, by omega, mulStep_lt hx hy hc⟩
set_option maxRecDepth 100000 in
set_option maxHeartbeats 8000000 in
theorem www_walk (x y c : Nat) (hx : x < 18446744073709551616) (hy : y < 18446744073709551616) (hc : c < 18446744073709551616) (w : World) :
    Calls Tryz.prog 144 #[.int .u64 x, .int .u64 y, .int .u64 c] w fun e w' => ∃ q r : Nat, e = .returned (.tuple #[.int .u64 q, .int .u64 r]) ∧ q = (x * y + c) / 18446744073709551616 ∧ r = (x * y + c) % 18446744073709551616 ∧ w' = w := by
  obtain ⟨h1, h2, h3⟩ := hi_lo x y c hx hy hc
  have M := Lib.hid (fun X => bitsMul_walk x y hx hy X)
  generalize x * y / 18446744073709551616 = hi at *
  generalize x * y % 18446744073709551616 = lo at *
  have A := Lib.hid (fun X => bitsAdd0_walk lo c X)
  generalize (lo + c + 0) / 18446744073709551616 = cc at *
  generalize (lo + c + 0) % 18446744073709551616 = lw at *
  have H1 := Lib.hid h1
  have H2 := Lib.hid h2
  have H3 := Lib.hid h3
  clear h1 h2 h3 hx hy hc
  go_enter Tryz.func144, Tryz.ntmps144
  go_wp2_with (first
    | (go_at_call 142; (with_reducible refine (M.out _).mono ?_); rintro e w1 ⟨rfl, rfl⟩)
    | (go_at_call 91; (with_reducible refine (A.out _).mono ?_); rintro e w2 ⟨rfl, rfl⟩))
  go_ret2
  refine ⟨hi + cc, lw, ?_, H2.out, H1.out, rfl⟩
  have h := H3.out
  rw [← H2.out] at h
  rw [← Int.natCast_add, wrapN _ h]
  rfl
end Go.Proofs.YtlnbeildplafbaaGreatDoor
/- Whole numbers of any size in memory: rows of words; a product by one word, in place or anew. -/
set_option linter.unusedSimpArgs false
set_option linter.unusedVariables false
namespace Go.Proofs.YtlnbeildplafbaaGreatDoor
open Go.RowKit Go.Grow Go.Wd

def WL (l : List Nat) : List Value := l.map fun d => Value.int .u64 (d : Nat)
theorem WL_length (l : List Nat) : (WL l).length = l.length := by simp [WL]
theorem WL_get (l : List Nat) (k : Nat) (h : k < l.length) : (WL l)[k]? = some (.int .u64 (l[k] : Nat)) := by simp [WL, h]
/-- A block of words: its cells. -/
def Blk (w : World) (g : Nat) (cur : Array Value) : Prop := w.heap[g]? = some (.cells cur 119 (0, 0))
theorem Blk.lt {w : World} {g : Nat} {cur : Array Value} (h : Blk w g cur) : g < w.heap.size := (Array.getElem?_eq_some_iff.1 h).1
theorem Blk.cell {w : World} {g : Nat} {cur : Array Value} (h : Blk w g cur) (j : Nat) : w.cell? ⟨g, j, none⟩ = cur[j]? := by
  unfold World.cell?
  rw [show w.heap[(⟨g, j, none⟩ : Addr).block]? = _ from h]
  rfl
theorem Blk.frozen {w : World} {g : Nat} {cur : Array Value} (h : Blk w g cur) (j : Nat) : w.frozen? ⟨g, j, none⟩ = false := by
  unfold World.frozen?
  rw [show w.heap[(⟨g, j, none⟩ : Addr).block]? = _ from h]
  simp
theorem Blk.set {w : World} {g : Nat} {cur : Array Value} (h : Blk w g cur) (j : Nat) (u : Value) : Blk (w.setCell ⟨g, j, none⟩ u) g (cur.setIfInBounds j u) := by
  unfold Blk World.setCell at *
  simp only [Array.getElem?_modify, if_true, h]
  rfl
theorem Blk.drew {w : World} {g : Nat} {cur : Array Value} (h : Blk w g cur) : Blk w.drew g cur := h
theorem bset_grown {w w' : World} {g : Nat} (h : w.grownBy w' (some g)) (j : Nat) (u : Value) : w.grownBy (w'.setCell ⟨g, j, none⟩ u) (some g) := by
  refine ⟨h.os, h.tape, h.output, by unfold World.setCell; simp only [Array.size_modify]; exact h.size, fun k hk hne => ?_⟩
  rw [← h.block k hk hne]
  unfold World.setCell
  simp only [Array.getElem?_modify]
  rw [if_neg (fun e => hne (by rw [← e]))]
theorem grown_refl (w : World) (r : Option Nat) : w.grownBy w r := ⟨rfl, rfl, rfl, Nat.le_refl _, fun _ _ _ => rfl⟩
theorem grown_trans {w w1 w2 : World} {r : Option Nat} (h : w.grownBy w1 r) (h2 : w1.grownBy w2 r) : w.grownBy w2 r :=
  ⟨h2.os.trans h.os, h2.tape.trans h.tape, h2.output.trans h.output, Nat.le_trans h.size h2.size, fun k hk hne => (h2.block k (Nat.lt_of_lt_of_le hk h.size) hne).trans (h.block k hk hne)⟩
theorem grown_below {w w1 : World} (r : Option Nat) (h : Below w.heap.size w w1) : w.grownBy w1 r := ⟨h.os, h.tape, h.output, h.size, fun k hk _ => h.block k hk⟩
theorem take_snoc {cur : Array Value} {k : Nat} {l : List Value} {u : Value} (h : cur.toList.take k = l) (hk : k < cur.size) : (cur.setIfInBounds k u).toList.take (k + 1) = l ++ [u] := by
  have e : (cur.setIfInBounds k u).toList = cur.toList.set k u := by simp
  rw [e, List.take_succ_eq_append_getElem (by simpa using hk), List.take_set_of_le (Nat.le_refl _), h]
  simp
/-- What the loop keeps. -/
def MulInv (w : World) (gz gx capz m : Nat) (x : List Nat) (d a : Nat) (v8 v19 : Value) (wr : World) : Prop :=
  ∃ k cur, k ≤ m ∧ v19 = .int .i64 (k : Nat) ∧ v8 = .int .u64 ((mulUp x d a k).2 : Nat) ∧ Blk wr gz cur ∧ cur.size = capz ∧ cur.toList.take k = WL (mulUp x d a k).1 ∧ (∀ j, k ≤ j → j < m → wr.cell? ⟨gx, j, none⟩ = some (.int .u64 (x.getD j 0 : Nat))) ∧ w.grownBy wr (some gz)
set_option maxRecDepth 100000 in
set_option maxHeartbeats 16000000 in
theorem mulVWW_walk (w : World) (gz gx capz capx : Nat) (cur : Array Value) (x : List Nat) (d a : Nat) (hx : Small x) (hd : d < 18446744073709551616) (ha : a < 18446744073709551616)
    (hb : Blk w gz cur) (hs : cur.size = capz) (hm : x.length ≤ capz) (hc : ∀ j, j < x.length → w.cell? ⟨gx, j, none⟩ = some (.int .u64 (x.getD j 0 : Nat))) (hl : x.length ≤ 1000000) :
    Calls Tryz.prog 63 #[.slice (some ⟨gz, 0, none⟩) x.length capz, .slice (some ⟨gx, 0, none⟩) x.length capx, .int .u64 d, .int .u64 a] w fun e w' =>
      e = .returned (.int .u64 ((mulUp x d a x.length).2 : Nat)) ∧ ∃ cur', Blk w' gz cur' ∧ cur'.size = capz ∧ cur'.toList.take x.length = WL (mulUp x d a x.length).1 ∧ w.grownBy w' (some gz) := by
  have WW := Lib.hid (fun k (h : k < x.length) X => www_walk (x.getD k 0) d (mulUp x d a k).2 (by rw [getD_get h]; exact hx.get h) hd (mulUp_over hx hd ha k (by omega)) X)
  have ST := Lib.hid (show MulInv w gz gx capz x.length x d a (.int .u64 a) (.int .i64 0) w from ⟨0, cur, Nat.zero_le _, rfl, rfl, hb, hs, rfl, fun j _ h => hc j h, grown_refl _ _⟩)
  clear hb hs hc
  go_enter Tryz.func63, Tryz.ntmps63
  go_wp2
  go_loopw [8, 19] (fun v8 v19 wr => MulInv w gz gx capz x.length x d a v8 v19 wr) (fun _ i _ => x.length - (intOf i).toNat)
  case atStart => exact ST.out
  case round =>
    obtain ⟨k, cu, hk, rfl, rfl, hb, hs, ht, hc, hg⟩ := hrel
    have HB := Lib.hid hb
    have HS := Lib.hid hs
    have HT := Lib.hid ht
    have HC := Lib.hid hc
    have HG := Lib.hid hg
    clear hb hs ht hc hg ST
    by_cases hlt : k < x.length
    · have d1 : (k : Int) < (x.length : Int) := by omega
      have d0 : (0 : Int) ≤ (k : Int) := by omega
      have d2 : (k : Int) < (capz : Int) := by omega
      have e1 := HC.out k (Nat.le_refl _) hlt
      have l1 : gx < wr.heap.size := World.block_lt_of_cell? wr _ e1
      have e2 : ∃ u, wr.cell? ⟨gz, k, none⟩ = some u := by
        rw [HB.out.cell]
        exact ⟨_, Array.getElem?_eq_getElem (by rw [HS.out]; omega)⟩
      obtain ⟨u, e2⟩ := e2
      have f2 := HB.out.frozen k
      have l2 := HB.out.lt
      have W1 := Lib.hid (WW.out k hlt)
      generalize hx : x.getD k 0 = xk at *
      generalize hc : (mulUp x d a k).2 = ck at *
      have HX := Lib.hid hx
      have HCK := Lib.hid hc
      clear hx hc
      go_wp2_with (go_at_call 144; (with_reducible refine (W1.out _).mono ?_); rintro e w1 ⟨q, r, rfl, hq, hr, rfl⟩; have HQ := Lib.hid hq; have HR := Lib.hid hr; clear hq hr)
      go_roundw
      case rel =>
        refine ⟨k + 1, cu.setIfInBounds k (.int .u64 (r : Nat)), by omega, by go_num, ?_, HB.out.set k _, by simp [HS.out], ?_, fun j h1 h2 => ?_, bset_grown HG.out k _⟩
        · rw [mulUp, HX.out, HCK.out, HQ.out]
        · rw [take_snoc HT.out (by rw [HS.out]; omega), mulUp, HX.out, HCK.out, HR.out]
          simp [WL]
        · rw [World.cell?_setCell_other _ _ _ _ (fun e => by cases e; omega)]
          exact HC.out j (by omega) h2
      case measure => simp [intOf]; omega
    · obtain rfl : k = x.length := by omega
      go_wp2
      go_ret
      exact ⟨rfl, cu, HB.out, HS.out, HT.out, HG.out⟩
end Go.Proofs.YtlnbeildplafbaaGreatDoor
/- Whole numbers of any size in memory: room for words; noughts at the end left out. -/
set_option linter.unusedSimpArgs false
set_option linter.unusedVariables false
namespace Go.Proofs.YtlnbeildplafbaaGreatDoor
open Go.RowKit Go.Grow Go.Wd

theorem info_word : (Tryz.prog.info? 119).map (fun i => (i.zero, i.size, i.bytes)) = some (some (.int .u64 0), 1, 8) := by kernel_rfl
theorem mk_more (n : Nat) (hn : n ≤ 1000000) (W : World) :
    (Instr.makeSlice 74 (.int .i64 (n : Int)) (.int .i64 ((n : Int) + 4))).run Tryz.prog W = .ok (.slice (some ⟨W.heap.size, 0, none⟩) n (n + 4)) (W.alloc (.cells (madeCells #[.int .u64 0] ((n + 4) * 1)) 119)) := by
  obtain ⟨i0, hi, hz0, hz1, hz2⟩ := info_parts info_word
  have hr := run_make (P := Tryz.prog) W 74 119 i0 (.int .u64 0) Tryz.underlying74 hi hz0 .i64 .i64 (n : Int) ((n : Int) + 4) (by omega) (by omega) (by rw [hz2]; omega) (by omega)
  rw [hr, hz1]
  congr 1
theorem mk_one (W : World) :
    (Instr.makeSlice 74 (.int .i64 1) (.int .i64 1)).run Tryz.prog W = .ok (.slice (some ⟨W.heap.size, 0, none⟩) 1 1) (W.alloc (.cells (madeCells #[.int .u64 0] 1) 119)) := by
  obtain ⟨i0, hi, hz0, hz1, hz2⟩ := info_parts info_word
  have hr := run_make (P := Tryz.prog) W 74 119 i0 (.int .u64 0) Tryz.underlying74 hi hz0 .i64 .i64 1 1 (by omega) (by omega) (by rw [hz2]; omega) (by omega)
  rw [hr, hz1]
  rfl
set_option maxRecDepth 100000 in
set_option maxHeartbeats 8000000 in
theorem make_fits (g len cap n : Nat) (w : World) (hn : n ≤ cap) (hc : cap ≤ 9223372036854775807) :
    Calls Tryz.prog 87 #[.slice (some ⟨g, 0, none⟩) len cap, .int .i64 (n : Nat)] w fun e w' => e = .returned (.slice (some ⟨g, 0, none⟩) n cap) ∧ w' = w := by
  have d1 : (n : Int) ≤ (cap : Int) := by omega
  go_enter Tryz.func87, Tryz.ntmps87
  go_wp2
  go_ret
  exact ⟨by simp, rfl⟩
set_option maxRecDepth 100000 in
set_option maxHeartbeats 8000000 in
theorem make_new (r : Option Addr) (len cap n : Nat) (w : World) (hn : cap < n) (h2 : 2 ≤ n) (hc : n ≤ 1000000) :
    Calls Tryz.prog 87 #[.slice r len cap, .int .i64 (n : Nat)] w fun e w' => e = .returned (.slice (some ⟨w.heap.size, 0, none⟩) n (n + 4)) ∧ w' = w.alloc (.cells (madeCells #[.int .u64 0] ((n + 4) * 1)) 119) := by
  have d1 : ¬ (n : Int) ≤ (cap : Int) := by omega
  have d2 : ¬ (n : Int) = 1 := by omega
  have hm := mk_more n hc
  go_enter Tryz.func87, Tryz.ntmps87
  go_wp2
  go_ret
  exact ⟨rfl, rfl⟩
set_option maxRecDepth 100000 in
set_option maxHeartbeats 8000000 in
theorem make_one (w : World) :
    Calls Tryz.prog 87 #[.slice none 0 0, .int .i64 1] w fun e w' => e = .returned (.slice (some ⟨w.heap.size, 0, none⟩) 1 1) ∧ w' = w.alloc (.cells (madeCells #[.int .u64 0] 1) 119) := by
  have hm := mk_one
  go_enter Tryz.func87, Tryz.ntmps87
  go_wp2
  go_ret
  exact ⟨rfl, rfl⟩
set_option maxRecDepth 100000 in
set_option maxHeartbeats 8000000 in
theorem norm_walk (g cap : Nat) (l : List Nat) (w : World) (hl : l.length ≤ cap) (hc : cap ≤ 9223372036854775807) (hw : ∀ j, j < l.length → w.cell? ⟨g, j, none⟩ = some (.int .u64 (l.getD j 0 : Nat))) :
    Calls Tryz.prog 90 #[.slice (some ⟨g, 0, none⟩) l.length cap] w fun e w' => e = .returned (.slice (some ⟨g, 0, none⟩) (cutTo l l.length) cap) ∧ w.grownBy w' none := by
  have HW := Lib.hid hw
  have ST := Lib.hid (grown_refl w none)
  clear hw
  go_enter Tryz.func90, Tryz.ntmps90
  go_wp2
  go_loopw [3] (fun v3 wr => ∃ n : Nat, n ≤ l.length ∧ v3 = .int .i64 (n : Nat) ∧ cutTo l l.length = cutTo l n ∧ w.grownBy wr none) (fun i _ => (intOf i).toNat)
  case atStart => exact ⟨l.length, Nat.le_refl _, rfl, rfl, ST.out⟩
  case round =>
    obtain ⟨n, hn, rfl, hq, hg⟩ := hrel
    have HQ := Lib.hid hq
    have HG := Lib.hid hg
    clear hq hg ST
    by_cases h0 : n = 0
    · subst h0
      have d2 : (0 : Int) ≤ (cap : Int) := by omega
      go_wp2
      go_ret
      exact ⟨by rw [HQ.out]; rfl, HG.out⟩
    · have d0 : (0 : Int) < (n : Int) := by omega
      have e1 := HG.out.cell (HW.out (n - 1) (by omega)) (by simp)
      have l1 : g < wr.heap.size := World.block_lt_of_cell? wr _ e1
      have ea : (((n - 1 : Nat) : Int)) = (n : Int) - 1 := by omega
      have d3 : (0 : Int) ≤ (n : Int) - 1 := by omega
      have d4 : (n : Int) - 1 < (l.length : Int) := by omega
      have d5 : (((n : Int) - 1).toNat) = n - 1 := by omega
      have HC := Lib.hid (show cutTo l n = if l.getD (n - 1) 0 = 0 then cutTo l (n - 1) else n by
        obtain ⟨k, rfl⟩ : ∃ k, n = k + 1 := ⟨n - 1, by omega⟩
        rfl)
      generalize l.getD (n - 1) 0 = x at *
      by_cases hx : x = 0
      · subst hx
        go_wp2
        go_roundw
        case rel => exact ⟨n - 1, by omega, by go_num, by rw [HQ.out, HC.out, if_pos rfl], by exact HG.out⟩
        case measure => simp [intOf]; omega
      · have d6 : ¬ (x : Int) = 0 := by omega
        have d7 : (n : Int) ≤ (cap : Int) := by omega
        go_wp2
        go_ret
        exact ⟨by rw [HQ.out, HC.out, if_neg hx]; simp, HG.out⟩
end Go.Proofs.YtlnbeildplafbaaGreatDoor
/- Whole numbers of any size in memory: words times one word. -/
set_option linter.unusedSimpArgs false
set_option linter.unusedVariables false
namespace Go.Proofs.YtlnbeildplafbaaGreatDoor
open Go.RowKit Go.Grow Go.Wd

/-- The words of a number: none, or in a block of their own. -/
def Wds (w : World) (v : Value) (l : List Nat) : Prop :=
  (v = .slice none 0 0 ∧ l = []) ∨ ∃ g cap cur, v = .slice (some ⟨g, 0, none⟩) l.length cap ∧ l.length ≤ cap ∧ cap ≤ 9223372036854775807 ∧ Blk w g cur ∧ cur.size = cap ∧ ∀ j, j < l.length → cur[j]? = some (.int .u64 (l.getD j 0 : Nat))
theorem cells_of_take {cur : Array Value} {n : Nat} {l : List Nat} (hl : l.length = n) (h : cur.toList.take n = WL l) : ∀ j, j < n → cur[j]? = some (.int .u64 (l.getD j 0 : Nat)) := fun j hj => by
  have e : (cur.toList.take n)[j]? = (WL l)[j]? := by rw [h]
  rw [List.getElem?_take_of_lt hj, WL_get l j (by omega)] at e
  rw [getD_get (by omega), ← e]
  simp
theorem known_grownB {w w' : World} {b m : Nat} {c : Array Value} (h : Known w b c) (g : w.grownBy w' (some m)) (hne : b ≠ m) : Known w' b c := by
  have e := g.block b h.lt (fun he => hne (by simpa using he))
  refine ⟨fun i => ?_, fun i => ?_, Nat.lt_of_lt_of_le h.lt g.size⟩
  · rw [← h.cell i]; unfold World.cell?; simp only [e]
  · rw [← h.frozen i]; unfold World.frozen?; simp only [e]
theorem Blk.grown {w w' : World} {g : Nat} {r : Option Nat} {cur : Array Value} (h : Blk w g cur) (hg : w.grownBy w' r) (hne : some g ≠ r) : Blk w' g cur := (hg.block g h.lt hne).trans h
theorem Blk.new (w : World) (cur : Array Value) : Blk (w.alloc (.cells cur 119)) w.heap.size cur := heap_alloc_new w _
/-- What a product by one word leaves. -/
def WwPost (g : Nat) (l : List Nat) (w : World) (e : Ending) (w' : World) : Prop :=
  ∃ g' cap' cur', e = .returned (.slice (some ⟨g', 0, none⟩) l.length cap') ∧ l.length ≤ cap' ∧ cap' ≤ 9223372036854775807 ∧ Blk w' g' cur' ∧ cur'.size = cap' ∧ (∀ j, j < l.length → cur'[j]? = some (.int .u64 (l.getD j 0 : Nat))) ∧ w.grownBy w' (some g) ∧ (g' = g ∨ w.heap.size ≤ g')
theorem mulUp_cells {w : World} {g : Nat} {cur : Array Value} {x : List Nat} {d a : Nat} (hb : Blk w g cur) (hm : x.length < cur.size) (ht : cur.toList.take x.length = WL (mulUp x d a x.length).1) :
    ∀ j, j < x.length + 1 → (w.setCell ⟨g, x.length, none⟩ (.int .u64 ((mulUp x d a x.length).2 : Nat))).cell? ⟨g, j, none⟩ = some (.int .u64 ((mulAll x d a).getD j 0 : Nat)) := fun j hj => by
  rw [(hb.set x.length _).cell]
  refine cells_of_take (mulAll_length x d a) ?_ j hj
  rw [take_snoc ht hm]
  simp [WL, mulAll]
theorem grown_weak {w w' : World} (h : w.grownBy w' none) (r : Option Nat) : w.grownBy w' r := ⟨h.os, h.tape, h.output, h.size, fun k hk _ => h.block k hk (by simp)⟩
theorem grown_over {w w1 w2 : World} {g : Nat} (r : Option Nat) (h : w.grownBy w1 r) (h2 : w1.grownBy w2 (some g)) (hg : w.heap.size ≤ g) : w.grownBy w2 r :=
  ⟨h2.os.trans h.os, h2.tape.trans h.tape, h2.output.trans h.output, Nat.le_trans h.size h2.size, fun k hk hne => (h2.block k (Nat.lt_of_lt_of_le hk h.size) (fun e => by cases e; omega)).trans (h.block k hk hne)⟩
theorem grown_new (w : World) (o : Obj) (r : Option Nat) : w.grownBy (w.alloc o) r := World.grownBy_alloc w o r
theorem take_getD (l : List Nat) (n j : Nat) (h : j < n) : (l.take n).getD j 0 = l.getD j 0 := by
  rw [List.getD_eq_getElem?_getD, List.getD_eq_getElem?_getD, List.getElem?_take_of_lt h]
/-- The end of a product: the noughts left out. -/
theorem ww_end {w w2 w3 : World} {g g' cap : Nat} {cu : Array Value} {x : List Nat} {d : Nat} (hb : Blk w2 g' cu) (hs : cu.size = cap) (hm : x.length < cap) (hcap : cap ≤ 9223372036854775807) (ht : cu.toList.take x.length = WL (mulUp x d 0 x.length).1)
    (hd : (mulAll x d 0).take (cutTo (mulAll x d 0) (mulAll x d 0).length) = dig (val x * d + 0)) (hg : w.grownBy w2 (some g)) (hg' : g' = g ∨ w.heap.size ≤ g')
    (h3 : (w2.setCell ⟨g', x.length, none⟩ (.int .u64 ((mulUp x d 0 x.length).2 : Nat))).grownBy w3 none) : WwPost g (dig (val x * d)) w (.returned (.slice (some ⟨g', 0, none⟩) (cutTo (mulAll x d 0) (x.length + 1)) cap)) w3 := by
  rw [mulAll_length] at hd
  change _ = dig (val x * d) at hd
  have hle := cutTo_le (mulAll x d 0) (x.length + 1)
  have hlen : (dig (val x * d)).length = cutTo (mulAll x d 0) (x.length + 1) := by
    rw [← hd, List.length_take, mulAll_length]; omega
  have hset := hb.set x.length (.int .u64 ((mulUp x d 0 x.length).2 : Nat))
  refine ⟨g', cap, _, by rw [hlen], by omega, hcap, hset.grown h3 (by simp), by simp [hs], fun j hj => ?_, ?_, hg'⟩
  · rw [hlen] at hj
    have h := mulUp_cells hb (by rw [hs]; exact hm) ht j (by omega)
    rw [hset.cell] at h
    rw [h, ← hd, take_getD _ _ _ hj]
  · rcases hg' with rfl | hg'
    · exact grown_trans (bset_grown hg _ _) (grown_weak h3 _)
    · exact grown_trans (grown_over _ hg (bset_grown (grown_refl w2 _) _ _) hg') (grown_weak h3 _)
theorem make_newA (r : Option Addr) (len cap n : Nat) (w : World) (hn : cap < n) (h2 : 2 ≤ n) (hc : n ≤ 1000000) :
    Calls Tryz.prog 87 #[.slice r len cap, .int .i64 (n : Nat)] w fun e w' => ∃ cur, e = .returned (.slice (some ⟨w.heap.size, 0, none⟩) n (n + 4)) ∧ cur.size = n + 4 ∧ w' = w.alloc (.cells cur 119) :=
  (make_new r len cap n w hn h2 hc).mono fun e w' ⟨h1, h2⟩ => ⟨_, h1, by rw [size_madeCells]; omega, h2⟩
theorem mulVWW0_walk (w : World) (gz gx capz capx : Nat) (cur : Array Value) (x : List Nat) (d : Nat) (hx : Small x) (hd : d < 18446744073709551616)
    (hb : Blk w gz cur) (hs : cur.size = capz) (hm : x.length ≤ capz) (hc : ∀ j, j < x.length → w.cell? ⟨gx, j, none⟩ = some (.int .u64 (x.getD j 0 : Nat))) (hl : x.length ≤ 1000000) :
    Calls Tryz.prog 63 #[.slice (some ⟨gz, 0, none⟩) x.length capz, .slice (some ⟨gx, 0, none⟩) x.length capx, .int .u64 d, .int .u64 0] w fun e w' =>
      e = .returned (.int .u64 ((mulUp x d 0 x.length).2 : Nat)) ∧ ∃ cur', Blk w' gz cur' ∧ cur'.size = capz ∧ cur'.toList.take x.length = WL (mulUp x d 0 x.length).1 ∧ w.grownBy w' (some gz) := mulVWW_walk w gz gx capz capx cur x d 0 hx hd (by decide) hb hs hm hc hl
set_option maxRecDepth 100000 in
set_option maxHeartbeats 16000000 in
theorem mulWW_walk (w : World) (g cap : Nat) (cur : Array Value) (x : List Nat) (d : Nat) (hx : Small x) (hd : d < 18446744073709551616) (hd0 : 0 < d) (h1 : 1 ≤ x.length)
    (hb : Blk w g cur) (hs : cur.size = cap) (hm : x.length ≤ cap) (hcap : cap ≤ 9223372036854775807) (hc : ∀ j, j < x.length → cur[j]? = some (.int .u64 (x.getD j 0 : Nat))) (hl : x.length ≤ 100000) :
    Calls Tryz.prog 128 #[.slice (some ⟨g, 0, none⟩) x.length cap, .slice (some ⟨g, 0, none⟩) x.length cap, .int .u64 d, .int .u64 0] w fun e w' => WwPost g (dig (val x * d)) w e w' := by
  have HD := Lib.hid (mulAll_dig (x := x) (m := d) (a := 0) hx hd (by decide))
  have HL := Lib.hid (mulAll_length x d 0)
  have ent := enters_mulAddVWW
  have q1 : ((x.length : Int) == 0) = false := by simp; intro h; rw [h] at h1; simp at h1
  have q2 : ((d : Int) == 0) = false := by simp; omega
  have m0 : (0 : Int) ≤ (x.length : Int) := by omega
  have EC := Lib.hid (show (x.length : Int) + 1 = ((x.length + 1 : Nat) : Int) by omega)
  have m5 : (x.length : Int) < (x.length : Int) + 1 := by omega
  by_cases hfit : x.length + 1 ≤ cap
  · have MK := Lib.hid (fun n (hn : n ≤ cap) X => make_fits g x.length cap n X hn hcap)
    have ML := Lib.hid (fun X (hX : Blk X g cur) => mulVWW0_walk X g g cap cap cur x d hx hd hX hs hm (fun j hj => by rw [hX.cell]; exact hc j hj) (by omega))
    have NO := Lib.hid (fun X (hX : ∀ j, j < (mulAll x d 0).length → X.cell? ⟨g, j, none⟩ = some (.int .u64 ((mulAll x d 0).getD j 0 : Nat))) => norm_walk g cap (mulAll x d 0) X (by rw [mulAll_length]; exact hfit) hcap hX)
    rw [mulAll_length] at NO
    have HB := Lib.hid hb
    have HS := Lib.hid hs
    clear hb hc hs
    have m3 : (x.length : Int) ≤ (cap : Int) := by omega
    go_enter Tryz.func128, Tryz.ntmps128
    go_wp2_with (first
      | (go_at_call 87; (rw [EC.out]; (with_reducible refine (MK.out _ hfit _).mono ?_); rintro e w1 ⟨rfl, rfl⟩; have m6 : (x.length : Int) ≤ ((x.length + 1 : Nat) : Int) := (by omega); have m7 : (x.length : Int) < ((x.length + 1 : Nat) : Int) := (by omega)))
      | (go_at_call 63; ((with_reducible refine (ML.out _ HB.out).mono ?_); rintro e w2 ⟨rfl, cu, hb2, hs2, ht2, hg2⟩; have HB2 := Lib.hid hb2; have HS2 := Lib.hid hs2; have HT2 := Lib.hid ht2; have HG2 := Lib.hid hg2; have f2 := hb2.frozen x.length; have l2 := hb2.lt; obtain ⟨u, e2⟩ : ∃ u, w2.cell? ⟨g, x.length, none⟩ = some u := ⟨_, by rw [hb2.cell]; exact Array.getElem?_eq_getElem (by rw [hs2]; omega)⟩; have hm2 : x.length < cu.size := (by rw [hs2]; omega); have NQ := Lib.hid (NO.out _ (mulUp_cells hb2 hm2 ht2)); clear hm2; clear hb2 hs2 ht2 hg2))
      | (go_at_call 90; ((with_reducible refine NQ.out.mono ?_); rintro e w3 ⟨rfl, hg3⟩; have HG3 := Lib.hid hg3; clear hg3)))
    go_ret
    exact ww_end HB2.out HS2.out (by omega) hcap HT2.out HD.out HG2.out (.inl rfl) HG3.out
  · have MK := Lib.hid (fun X => make_newA (some ⟨g, 0, none⟩) x.length cap (x.length + 1) X (by omega) (by omega) (by omega))
    have ML := Lib.hid (fun (X : World) c0 (h0 : c0.size = x.length + 1 + 4) => mulVWW0_walk (X.alloc (.cells c0 119)) X.heap.size g (x.length + 1 + 4) cap c0 x d hx hd (Blk.new _ _) h0 (by omega))
    have NO := Lib.hid (fun g' X (hX : ∀ j, j < (mulAll x d 0).length → X.cell? ⟨g', j, none⟩ = some (.int .u64 ((mulAll x d 0).getD j 0 : Nat))) => norm_walk g' (x.length + 1 + 4) (mulAll x d 0) X (by rw [mulAll_length]; omega) (by omega) hX)
    rw [mulAll_length] at NO
    have HB := Lib.hid hb
    have MX := Lib.hid (fun c0 h0 => ML.out w c0 h0 (fun j hj => by rw [(hb.grown (grown_new _ _ none) (by simp)).cell]; exact hc j hj) (by omega))
    have m3 : (x.length : Int) ≤ ((x.length + 1 + 4 : Nat) : Int) := by omega
    clear hb hc hs
    go_enter Tryz.func128, Tryz.ntmps128
    go_wp2_with (first
      | (go_at_call 87; (rw [EC.out]; (with_reducible refine (MK.out _).mono ?_); rintro e w1 ⟨c0, rfl, h0, rfl⟩; have MY := Lib.hid (MX.out c0 h0); clear h0; have m6 : (x.length : Int) ≤ ((x.length + 1 : Nat) : Int) := (by omega); have m7 : (x.length : Int) < ((x.length + 1 : Nat) : Int) := (by omega)))
      | (go_at_call 63; ((with_reducible refine MY.out.mono ?_); rintro e w2 ⟨rfl, cu, hb2, hs2, ht2, hg2⟩; have HB2 := Lib.hid hb2; have HS2 := Lib.hid hs2; have HT2 := Lib.hid ht2; have HG2 := Lib.hid hg2; have f2 := hb2.frozen x.length; have l2 := hb2.lt; obtain ⟨u, e2⟩ : ∃ u, w2.cell? ⟨w.heap.size, x.length, none⟩ = some u := ⟨_, by rw [hb2.cell]; exact Array.getElem?_eq_getElem (by rw [hs2]; omega)⟩; have hm2 : x.length < cu.size := (by rw [hs2]; omega); have NQ := Lib.hid (NO.out _ _ (mulUp_cells hb2 hm2 ht2)); clear hm2; clear hb2 hs2 ht2 hg2))
      | (go_at_call 90; ((with_reducible refine NQ.out.mono ?_); rintro e w3 ⟨rfl, hg3⟩; have HG3 := Lib.hid hg3; clear hg3)))
    go_ret
    exact ww_end HB2.out HS2.out (by omega) (by omega) HT2.out HD.out (grown_over _ (grown_new _ _ _) HG2.out (Nat.le_refl _)) (.inr (Nat.le_refl _)) HG3.out
end Go.Proofs.YtlnbeildplafbaaGreatDoor
