/- Rows of words: sums and differences, word by word. Nothing of a program stands here. -/
import Derived.Test.YtlnbeildplafbaaGreatDoorBi0
import Derived.Test.YtlnbeildplafbaaGreatDoorBi8
import Derived.Shelf.Spec.BitsCarry
import Derived.Laws.CopyOwn
import Derived.LaidEqlPtr
set_option linter.unusedSimpArgs false
set_option linter.unusedVariables false
namespace Go.Wd

theorem small_getD {x : List Nat} (h : Small x) (k : Nat) : x.getD k 0 < 18446744073709551616 := by
  by_cases hk : k < x.length
  · rw [List.getD_eq_getElem?_getD, List.getElem?_eq_getElem hk]
    exact h.get hk
  · rw [List.getD_eq_getElem?_getD, List.getElem?_eq_none (by omega)]
    decide
theorem val_takeD (x : List Nat) (k : Nat) : val (x.take (k + 1)) = val (x.take k) + x.getD k 0 * 18446744073709551616 ^ k := by
  by_cases hk : k < x.length
  · rw [val_take_succ x k hk, List.getD_eq_getElem?_getD, List.getElem?_eq_getElem hk]
    rfl
  · rw [List.take_of_length_le (by omega), List.take_of_length_le (by omega), List.getD_eq_getElem?_getD, List.getElem?_eq_none (by omega)]
    simp
/-- Sums, word by word: what stands, what is carried. -/
def sumUp (x y : List Nat) : Nat → List Nat × Nat
  | 0 => ([], 0)
  | k + 1 => ((sumUp x y k).1 ++ [(x.getD k 0 + y.getD k 0 + (sumUp x y k).2) % 18446744073709551616], (x.getD k 0 + y.getD k 0 + (sumUp x y k).2) / 18446744073709551616)
theorem sumUp_length (x y : List Nat) : ∀ k, (sumUp x y k).1.length = k
  | 0 => rfl
  | k + 1 => by rw [sumUp, List.length_append, sumUp_length x y k]; rfl
theorem sumUp_small (x y : List Nat) : ∀ k, Small (sumUp x y k).1
  | 0 => fun d h => by cases h
  | k + 1 => by
    rw [sumUp]
    exact (sumUp_small x y k).snoc (Nat.mod_lt _ (by decide))
theorem sumUp_over {x y : List Nat} (hx : Small x) (hy : Small y) : ∀ k, (sumUp x y k).2 ≤ 1
  | 0 => Nat.zero_le _
  | k + 1 => by
    have h1 := sumUp_over hx hy k
    have h2 := small_getD hx k
    have h3 := small_getD hy k
    rw [sumUp]
    show (x.getD k 0 + y.getD k 0 + (sumUp x y k).2) / 18446744073709551616 ≤ 1
    omega
theorem step_sum {a b c v p q r s : Nat} (h : v + c * p = a + b) (e : q + s * 18446744073709551616 = r + c) :
    v + q * p + s * (p * 18446744073709551616) = a + b + r * p := by
  have e2 : q * p + s * 18446744073709551616 * p = r * p + c * p := by rw [← Nat.add_mul, e, Nat.add_mul]
  have e3 : s * (p * 18446744073709551616) = s * 18446744073709551616 * p := by rw [Nat.mul_comm p, Nat.mul_assoc]
  omega
theorem sumUp_val (x y : List Nat) : ∀ k, val (sumUp x y k).1 + (sumUp x y k).2 * 18446744073709551616 ^ k = val (x.take k) + val (y.take k)
  | 0 => by simp [sumUp, val]
  | k + 1 => by
    have h := sumUp_val x y k
    rw [sumUp, val_snoc, sumUp_length, val_takeD, val_takeD, Nat.pow_succ]
    have e : (x.getD k 0 + y.getD k 0 + (sumUp x y k).2) % 18446744073709551616 + (x.getD k 0 + y.getD k 0 + (sumUp x y k).2) / 18446744073709551616 * 18446744073709551616 = x.getD k 0 + y.getD k 0 + (sumUp x y k).2 := by omega
    have := step_sum h e
    have e4 : (x.getD k 0 + y.getD k 0) * 18446744073709551616 ^ k = x.getD k 0 * 18446744073709551616 ^ k + y.getD k 0 * 18446744073709551616 ^ k := Nat.add_mul _ _ _
    generalize (x.getD k 0 + y.getD k 0 + (sumUp x y k).2) % 18446744073709551616 = q at *
    generalize (x.getD k 0 + y.getD k 0 + (sumUp x y k).2) / 18446744073709551616 = t at *
    rw [this, e4]
    omega
def sumAll (x y : List Nat) : List Nat := (sumUp x y x.length).1 ++ [(sumUp x y x.length).2]
theorem sumAll_length (x y : List Nat) : (sumAll x y).length = x.length + 1 := by simp [sumAll, sumUp_length]
theorem sumAll_small {x y : List Nat} (hx : Small x) (hy : Small y) : Small (sumAll x y) :=
  (sumUp_small x y _).snoc (by have := sumUp_over hx hy x.length; omega)
theorem sumAll_val {x y : List Nat} (hl : y.length ≤ x.length) : val (sumAll x y) = val x + val y := by
  have h := sumUp_val x y x.length
  rw [List.take_of_length_le (Nat.le_refl _), List.take_of_length_le hl] at h
  rw [sumAll, val_snoc, sumUp_length]
  exact h
theorem sumAll_dig {x y : List Nat} (hx : Small x) (hy : Small y) (hl : y.length ≤ x.length) : (sumAll x y).take (cutTo (sumAll x y) (sumAll x y).length) = dig (val x + val y) := by
  rw [cut_dig (sumAll_small hx hy), sumAll_val hl]
theorem sumUp_get (x y : List Nat) : ∀ k j, j < k → (sumUp x y k).1[j]? = (sumUp x y (j + 1)).1[j]?
  | k + 1, j, h => by
    rcases Nat.lt_or_eq_of_le (Nat.le_of_lt_succ h) with h1 | rfl
    · rw [sumUp, List.getElem?_append_left (by rw [sumUp_length]; exact h1)]
      exact sumUp_get x y k j h1
    · rfl
/-- Nothing is carried, nothing comes: the rest is as it was. -/
theorem sumUp_rest {x y : List Nat} (hx : Small x) {k : Nat} (hy : y.length ≤ k) (h0 : (sumUp x y k).2 = 0) : ∀ n, k + n ≤ x.length → sumUp x y (k + n) = ((sumUp x y k).1 ++ (x.drop k).take n, 0)
  | 0, _ => by
    rw [Nat.add_zero, List.take_zero, List.append_nil, ← h0]
  | n + 1, h => by
    have h1 := sumUp_rest hx hy h0 n (by omega)
    have h2 := small_getD hx (k + n)
    have h3 : y.getD (k + n) 0 = 0 := by rw [List.getD_eq_getElem?_getD, List.getElem?_eq_none (by omega)]; rfl
    have h4 : x.getD (k + n) 0 = x[k + n] := by rw [List.getD_eq_getElem?_getD, List.getElem?_eq_getElem (by omega)]; rfl
    rw [← Nat.add_assoc, sumUp, h1, h3]
    simp only [Nat.add_zero]
    rw [Nat.mod_eq_of_lt h2, Nat.div_eq_of_lt h2, List.append_assoc, List.take_succ_eq_append_getElem (by simp; omega), h4]
    simp
/-- Differences, word by word: what stands, what is lent. -/
def difUp (x y : List Nat) : Nat → List Nat × Nat
  | 0 => ([], 0)
  | k + 1 => ((difUp x y k).1 ++ [(x.getD k 0 + 18446744073709551616 - y.getD k 0 - (difUp x y k).2) % 18446744073709551616], if x.getD k 0 < y.getD k 0 + (difUp x y k).2 then 1 else 0)
theorem difUp_length (x y : List Nat) : ∀ k, (difUp x y k).1.length = k
  | 0 => rfl
  | k + 1 => by rw [difUp, List.length_append, difUp_length x y k]; rfl
theorem difUp_small (x y : List Nat) : ∀ k, Small (difUp x y k).1
  | 0 => fun d h => by cases h
  | k + 1 => by
    rw [difUp]
    exact (difUp_small x y k).snoc (Nat.mod_lt _ (by decide))
theorem difUp_over (x y : List Nat) : ∀ k, (difUp x y k).2 ≤ 1
  | 0 => Nat.zero_le _
  | k + 1 => by
    rw [difUp]
    show (if _ then 1 else 0) ≤ 1
    split <;> omega
theorem step_dif {a b c v p q r s t : Nat} (h : v + b = a + c * p) (e : q + t + c = r + s * 18446744073709551616) :
    v + q * p + (b + t * p) = a + r * p + s * (p * 18446744073709551616) := by
  have e2 : q * p + t * p + c * p = r * p + s * 18446744073709551616 * p := by rw [← Nat.add_mul, ← Nat.add_mul, e, Nat.add_mul]
  have e3 : s * (p * 18446744073709551616) = s * 18446744073709551616 * p := by rw [Nat.mul_comm p, Nat.mul_assoc]
  omega
theorem difUp_val {x y : List Nat} (hx : Small x) (hy : Small y) : ∀ k, val (difUp x y k).1 + val (y.take k) = val (x.take k) + (difUp x y k).2 * 18446744073709551616 ^ k
  | 0 => by simp [difUp, val]
  | k + 1 => by
    have h := difUp_val hx hy k
    have h1 := difUp_over x y k
    have h2 := small_getD hx k
    have h3 := small_getD hy k
    rw [difUp, val_snoc, difUp_length, val_takeD, val_takeD, Nat.pow_succ]
    generalize difUp x y k = z at *
    obtain ⟨z, c⟩ := z
    simp only at *
    generalize x.getD k 0 = a at *
    generalize y.getD k 0 = b at *
    refine step_dif h ?_
    split <;> omega
theorem difUp_none {x y : List Nat} (hx : Small x) (hy : Small y) (hl : y.length ≤ x.length) (h : val y ≤ val x) : (difUp x y x.length).2 = 0 ∧ val (difUp x y x.length).1 = val x - val y := by
  have h1 := difUp_val hx hy x.length
  have h2 := difUp_over x y x.length
  have h3 := val_lt (difUp_small x y x.length)
  rw [difUp_length] at h3
  rw [List.take_of_length_le (Nat.le_refl _), List.take_of_length_le hl] at h1
  generalize (difUp x y x.length).2 = c at *
  rcases Nat.lt_or_ge 0 c with hc | hc
  · obtain rfl : c = 1 := by omega
    omega
  · obtain rfl : c = 0 := by omega
    refine ⟨rfl, by omega⟩
theorem difUp_dig {x y : List Nat} (hx : Small x) (hy : Small y) (hl : y.length ≤ x.length) (h : val y ≤ val x) : (difUp x y x.length).1.take (cutTo (difUp x y x.length).1 x.length) = dig (val x - val y) := by
  have h1 := cut_dig (difUp_small x y x.length)
  rw [difUp_length] at h1
  rw [h1, (difUp_none hx hy hl h).2]
/-- Nothing is lent, nothing goes: the rest is as it was. -/
theorem difUp_rest {x y : List Nat} (hx : Small x) {k : Nat} (hy : y.length ≤ k) (h0 : (difUp x y k).2 = 0) : ∀ n, k + n ≤ x.length → difUp x y (k + n) = ((difUp x y k).1 ++ (x.drop k).take n, 0)
  | 0, _ => by
    rw [Nat.add_zero, List.take_zero, List.append_nil, ← h0]
  | n + 1, h => by
    have h1 := difUp_rest hx hy h0 n (by omega)
    have h2 := small_getD hx (k + n)
    have h3 : y.getD (k + n) 0 = 0 := by rw [List.getD_eq_getElem?_getD, List.getElem?_eq_none (by omega)]; rfl
    have h4 : x.getD (k + n) 0 = x[k + n] := by rw [List.getD_eq_getElem?_getD, List.getElem?_eq_getElem (by omega)]; rfl
    rw [← Nat.add_assoc, difUp, h1, h3]
    simp only [Nat.add_zero, Nat.sub_zero, Nat.not_lt_zero, if_false]
    rw [show (x.getD (k + n) 0 + 18446744073709551616) % 18446744073709551616 = x.getD (k + n) 0 by omega, List.append_assoc, List.take_succ_eq_append_getElem (by simp; omega), h4]
    simp
end Go.Wd
/- Whole numbers of any size in memory: sums and differences of rows of words. -/
set_option linter.unusedSimpArgs false
set_option linter.unusedVariables false
namespace Go.Proofs.YtlnbeildplafbaaGreatDoor
open Go.RowKit Go.Grow Go.Wd

theorem sub64_runs (x y c : Nat) (hc : c ≤ 1) (w : World) :
    (callFunc 120 #[.int .u64 x, .int .u64 y, .int .u64 c]).run Tryz.prog w = .ok (.value (.tuple #[.int .u64 (((x + 18446744073709551616 - y - c) % 18446744073709551616 : Nat) : Int), .int .u64 ((if x < y + c then 1 else 0 : Nat) : Int)])) w := by
  rw [run_callFunc_extern Tryz.func120 (by kernel_rfl) (by kernel_rfl) (by kernel_rfl) (e := sub64Entry) (by kernel_rfl), run_sub64 x y c hc]
  simp only [Result.andThen]
set_option maxRecDepth 100000 in
set_option maxHeartbeats 8000000 in
theorem bitsSub_walk (x y c : Nat) (hc : c ≤ 1) (w : World) :
    Calls Tryz.prog 94 #[.int .u64 x, .int .u64 y, .int .u64 c] w fun e w' => e = .returned (.tuple #[.int .u64 (((x + 18446744073709551616 - y - c) % 18446744073709551616 : Nat) : Int), .int .u64 ((if x < y + c then 1 else 0 : Nat) : Int)]) ∧ w' = w := by
  have A := fun X => sub64_runs x y c hc X
  generalize (x + 18446744073709551616 - y - c) % 18446744073709551616 = d at *
  generalize (if x < y + c then 1 else 0 : Nat) = q at *
  go_enter Tryz.func94, Tryz.ntmps94
  go_wp2
  go_ret2
  exact ⟨rfl, rfl⟩
theorem enters_addVV (args : Array Value) (w : World) : (callFunc 88 args).run Tryz.prog w = .ok (.enter 59 args) w :=
  run_callFunc_twin (twin := "math/big.addVV_g") Tryz.func88 (by kernel_rfl) (by kernel_rfl) (by kernel_rfl) (by kernel_rfl) Tryz.func59 (by kernel_rfl) (by kernel_rfl) (by kernel_rfl) args w
theorem enters_subVV (args : Array Value) (w : World) : (callFunc 92 args).run Tryz.prog w = .ok (.enter 60 args) w :=
  run_callFunc_twin (twin := "math/big.subVV_g") Tryz.func92 (by kernel_rfl) (by kernel_rfl) (by kernel_rfl) (by kernel_rfl) Tryz.func60 (by kernel_rfl) (by kernel_rfl) (by kernel_rfl) args w
/-- What the loop keeps. -/
def SumInv (w : World) (gz gx gy capz n : Nat) (x y : List Nat) (v6 v25 : Value) (wr : World) : Prop :=
  ∃ k cur, k ≤ n ∧ v25 = .int .i64 (k : Nat) ∧ v6 = .int .u64 ((sumUp x y k).2 : Nat) ∧ Blk wr gz cur ∧ cur.size = capz ∧ cur.toList.take k = WL (sumUp x y k).1 ∧ (∀ j, k ≤ j → j < x.length → wr.cell? ⟨gx, j, none⟩ = some (.int .u64 (x.getD j 0 : Nat))) ∧ (∀ j, k ≤ j → j < n → wr.cell? ⟨gy, j, none⟩ = some (.int .u64 (y.getD j 0 : Nat))) ∧ w.grownBy wr (some gz)
set_option maxRecDepth 100000 in
set_option maxHeartbeats 16000000 in
theorem addVV_walk (w : World) (gz gx gy cz capz capx capy n : Nat) (cur : Array Value) (x y : List Nat) (hx : Small x) (hy : Small y)
    (hb : Blk w gz cur) (hs : cur.size = capz) (hn : n ≤ capz) (hnx : n ≤ x.length) (hc : ∀ j, j < x.length → w.cell? ⟨gx, j, none⟩ = some (.int .u64 (x.getD j 0 : Nat))) (hd : ∀ j, j < n → w.cell? ⟨gy, j, none⟩ = some (.int .u64 (y.getD j 0 : Nat))) (hl : n ≤ 1000000) :
    Calls Tryz.prog 59 #[.slice (some ⟨gz, 0, none⟩) n cz, .slice (some ⟨gx, 0, none⟩) n capx, .slice (some ⟨gy, 0, none⟩) n capy] w fun e w' =>
      e = .returned (.int .u64 ((sumUp x y n).2 : Nat)) ∧ ∃ cur', Blk w' gz cur' ∧ cur'.size = capz ∧ cur'.toList.take n = WL (sumUp x y n).1 ∧ (∀ j, n ≤ j → j < x.length → w'.cell? ⟨gx, j, none⟩ = some (.int .u64 (x.getD j 0 : Nat))) ∧ w.grownBy w' (some gz) := by
  have WW := Lib.hid (fun k X => bitsAdd_walk (x.getD k 0) (y.getD k 0) (sumUp x y k).2 (sumUp_over hx hy k) X)
  have ST := Lib.hid (show SumInv w gz gx gy capz n x y (.int .u64 0) (.int .i64 0) w from ⟨0, cur, Nat.zero_le _, rfl, rfl, hb, hs, rfl, fun j _ h => hc j h, fun j _ h => hd j h, grown_refl _ _⟩)
  clear hb hs hc hd
  go_enter Tryz.func59, Tryz.ntmps59
  go_wp2
  go_loopw [6, 25] (fun v6 v25 wr => SumInv w gz gx gy capz n x y v6 v25 wr) (fun _ i _ => n - (intOf i).toNat)
  case atStart => exact ST.out
  case round =>
    obtain ⟨k, cu, hk, rfl, rfl, hb, hs, ht, hc, hd, hg⟩ := hrel
    have HB := Lib.hid hb
    have HS := Lib.hid hs
    have HT := Lib.hid ht
    have HC := Lib.hid hc
    have HDD := Lib.hid hd
    have HG := Lib.hid hg
    clear hb hs ht hc hd hg ST
    by_cases hlt : k < n
    · have d1 : (k : Int) < (n : Int) := by omega
      have d0 : (0 : Int) ≤ (k : Int) := by omega
      have e1 := HC.out k (Nat.le_refl _) (by omega)
      have e3 := HDD.out k (Nat.le_refl _) hlt
      have l1 : gx < wr.heap.size := World.block_lt_of_cell? wr _ e1
      have l3 : gy < wr.heap.size := World.block_lt_of_cell? wr _ e3
      have W1 := Lib.hid (WW.out k)
      have HU := Lib.hid (show sumUp x y (k + 1) = ((sumUp x y k).1 ++ [(x.getD k 0 + y.getD k 0 + (sumUp x y k).2) % 18446744073709551616], (x.getD k 0 + y.getD k 0 + (sumUp x y k).2) / 18446744073709551616) from rfl)
      generalize (x.getD k 0 + y.getD k 0 + (sumUp x y k).2) % 18446744073709551616 = dk at *
      generalize ((x.getD k 0 + y.getD k 0 + (sumUp x y k).2) / 18446744073709551616 : Nat) = ck2 at *
      generalize x.getD k 0 = xk at *
      generalize y.getD k 0 = yk at *
      generalize hc : (sumUp x y k).2 = ck at *
      clear hc
      go_upto_region 6 with (fail)
      go_quiet (first | (go_at_call 91; with_reducible exact Calls.quiet_of_same (W1.out _)))
      have e2 : ∃ u, wr.cell? ⟨gz, k, none⟩ = some u := by
        rw [HB.out.cell]
        exact ⟨_, Array.getElem?_eq_getElem (by rw [HS.out]; omega)⟩
      obtain ⟨u, e2⟩ := e2
      have f2 := HB.out.frozen k
      have l2 := HB.out.lt
      clear e1 e3
      go_wp2
      go_roundw
      case rel =>
        have G : Below wr.heap.size wr (wr.drewN nq) := grow_drewN (grow_refl wr) nq
        refine ⟨k + 1, cu.setIfInBounds k (.int .u64 (dk : Nat)), by omega, by go_num, by rw [HU.out], (HB.out.grown (grown_below none G) (by simp)).set k _, by simp [HS.out], ?_, fun j h1 h2 => ?_, fun j h1 h2 => ?_, bset_grown (grown_trans HG.out (grown_below _ G)) k _⟩
        · rw [take_snoc HT.out (by rw [HS.out]; omega), HU.out]
          simp [WL]
        · rw [World.cell?_setCell_other _ _ _ _ (fun e => by cases e; omega)]
          have h := HC.out j (by omega) h2
          exact (G.cell (World.block_lt_of_cell? wr _ h)).trans h
        · rw [World.cell?_setCell_other _ _ _ _ (fun e => by cases e; omega)]
          have h := HDD.out j (by omega) h2
          exact (G.cell (World.block_lt_of_cell? wr _ h)).trans h
      case measure => simp [intOf]; omega
    · obtain rfl : k = n := by omega
      go_wp2
      go_ret
      exact ⟨rfl, cu, HB.out, HS.out, HT.out, HC.out, HG.out⟩
/-- What the loop keeps. -/
def DifInv (w : World) (gz gx gy capz n : Nat) (x y : List Nat) (v6 v25 : Value) (wr : World) : Prop :=
  ∃ k cur, k ≤ n ∧ v25 = .int .i64 (k : Nat) ∧ v6 = .int .u64 ((difUp x y k).2 : Nat) ∧ Blk wr gz cur ∧ cur.size = capz ∧ cur.toList.take k = WL (difUp x y k).1 ∧ (∀ j, k ≤ j → j < x.length → wr.cell? ⟨gx, j, none⟩ = some (.int .u64 (x.getD j 0 : Nat))) ∧ (∀ j, k ≤ j → j < n → wr.cell? ⟨gy, j, none⟩ = some (.int .u64 (y.getD j 0 : Nat))) ∧ w.grownBy wr (some gz)
set_option maxRecDepth 100000 in
set_option maxHeartbeats 16000000 in
theorem subVV_walk (w : World) (gz gx gy cz capz capx capy n : Nat) (cur : Array Value) (x y : List Nat) (hx : Small x) (hy : Small y)
    (hb : Blk w gz cur) (hs : cur.size = capz) (hn : n ≤ capz) (hnx : n ≤ x.length) (hc : ∀ j, j < x.length → w.cell? ⟨gx, j, none⟩ = some (.int .u64 (x.getD j 0 : Nat))) (hd : ∀ j, j < n → w.cell? ⟨gy, j, none⟩ = some (.int .u64 (y.getD j 0 : Nat))) (hl : n ≤ 1000000) :
    Calls Tryz.prog 60 #[.slice (some ⟨gz, 0, none⟩) n cz, .slice (some ⟨gx, 0, none⟩) n capx, .slice (some ⟨gy, 0, none⟩) n capy] w fun e w' =>
      e = .returned (.int .u64 ((difUp x y n).2 : Nat)) ∧ ∃ cur', Blk w' gz cur' ∧ cur'.size = capz ∧ cur'.toList.take n = WL (difUp x y n).1 ∧ (∀ j, n ≤ j → j < x.length → w'.cell? ⟨gx, j, none⟩ = some (.int .u64 (x.getD j 0 : Nat))) ∧ w.grownBy w' (some gz) := by
  have WW := Lib.hid (fun k X => bitsSub_walk (x.getD k 0) (y.getD k 0) (difUp x y k).2 (difUp_over x y k) X)
  have ST := Lib.hid (show DifInv w gz gx gy capz n x y (.int .u64 0) (.int .i64 0) w from ⟨0, cur, Nat.zero_le _, rfl, rfl, hb, hs, rfl, fun j _ h => hc j h, fun j _ h => hd j h, grown_refl _ _⟩)
  clear hb hs hc hd
  go_enter Tryz.func60, Tryz.ntmps60
  go_wp2
  go_loopw [6, 25] (fun v6 v25 wr => DifInv w gz gx gy capz n x y v6 v25 wr) (fun _ i _ => n - (intOf i).toNat)
  case atStart => exact ST.out
  case round =>
    obtain ⟨k, cu, hk, rfl, rfl, hb, hs, ht, hc, hd, hg⟩ := hrel
    have HB := Lib.hid hb
    have HS := Lib.hid hs
    have HT := Lib.hid ht
    have HC := Lib.hid hc
    have HDD := Lib.hid hd
    have HG := Lib.hid hg
    clear hb hs ht hc hd hg ST
    by_cases hlt : k < n
    · have d1 : (k : Int) < (n : Int) := by omega
      have d0 : (0 : Int) ≤ (k : Int) := by omega
      have e1 := HC.out k (Nat.le_refl _) (by omega)
      have e3 := HDD.out k (Nat.le_refl _) hlt
      have l1 : gx < wr.heap.size := World.block_lt_of_cell? wr _ e1
      have l3 : gy < wr.heap.size := World.block_lt_of_cell? wr _ e3
      have W1 := Lib.hid (WW.out k)
      have HU := Lib.hid (show difUp x y (k + 1) = ((difUp x y k).1 ++ [(x.getD k 0 + 18446744073709551616 - y.getD k 0 - (difUp x y k).2) % 18446744073709551616], if x.getD k 0 < y.getD k 0 + (difUp x y k).2 then 1 else 0) from rfl)
      generalize (x.getD k 0 + 18446744073709551616 - y.getD k 0 - (difUp x y k).2) % 18446744073709551616 = dk at *
      generalize (if x.getD k 0 < y.getD k 0 + (difUp x y k).2 then 1 else 0 : Nat) = ck2 at *
      generalize x.getD k 0 = xk at *
      generalize y.getD k 0 = yk at *
      generalize hc : (difUp x y k).2 = ck at *
      clear hc
      go_upto_region 6 with (fail)
      go_quiet (first | (go_at_call 94; with_reducible exact Calls.quiet_of_same (W1.out _)))
      have e2 : ∃ u, wr.cell? ⟨gz, k, none⟩ = some u := by
        rw [HB.out.cell]
        exact ⟨_, Array.getElem?_eq_getElem (by rw [HS.out]; omega)⟩
      obtain ⟨u, e2⟩ := e2
      have f2 := HB.out.frozen k
      have l2 := HB.out.lt
      clear e1 e3
      go_wp2
      go_roundw
      case rel =>
        have G : Below wr.heap.size wr (wr.drewN nq) := grow_drewN (grow_refl wr) nq
        refine ⟨k + 1, cu.setIfInBounds k (.int .u64 (dk : Nat)), by omega, by go_num, by rw [HU.out], (HB.out.grown (grown_below none G) (by simp)).set k _, by simp [HS.out], ?_, fun j h1 h2 => ?_, fun j h1 h2 => ?_, bset_grown (grown_trans HG.out (grown_below _ G)) k _⟩
        · rw [take_snoc HT.out (by rw [HS.out]; omega), HU.out]
          simp [WL]
        · rw [World.cell?_setCell_other _ _ _ _ (fun e => by cases e; omega)]
          have h := HC.out j (by omega) h2
          exact (G.cell (World.block_lt_of_cell? wr _ h)).trans h
        · rw [World.cell?_setCell_other _ _ _ _ (fun e => by cases e; omega)]
          have h := HDD.out j (by omega) h2
          exact (G.cell (World.block_lt_of_cell? wr _ h)).trans h
      case measure => simp [intOf]; omega
    · obtain rfl : k = n := by omega
      go_wp2
      go_ret
      exact ⟨rfl, cu, HB.out, HS.out, HT.out, HC.out, HG.out⟩
end Go.Proofs.YtlnbeildplafbaaGreatDoor
/- Whole numbers of any size in memory: room for words; words copied; a sum, a difference of one word. -/
set_option linter.unusedSimpArgs false
set_option linter.unusedVariables false
namespace Go.Proofs.YtlnbeildplafbaaGreatDoor
open Go.RowKit Go.Grow Go.Wd

/-- A row that may be written: none, or from a block's beginning. -/
def Rz (w : World) (v : Value) : Prop := v = .slice none 0 0 ∨ ∃ g n cap cur, v = .slice (some ⟨g, 0, none⟩) n cap ∧ cap ≤ 9223372036854775807 ∧ Blk w g cur ∧ cur.size = cap
theorem Wds.rz {w : World} {v : Value} {l : List Nat} (h : Wds w v l) : Rz w v := by
  rcases h with ⟨h, _⟩ | ⟨g, cap, cur, h1, _, h3, h4, h5, _⟩
  · exact .inl h
  · exact .inr ⟨g, _, cap, cur, h1, h3, h4, h5⟩
theorem Rz.below {w w' : World} {v : Value} (h : Rz w v) (hb : Below w.heap.size w w') : Rz w' v := by
  rcases h with h | ⟨g, n, cap, cur, h1, h3, h4, h5⟩
  · exact .inl h
  · exact .inr ⟨g, n, cap, cur, h1, h3, (hb.block g h4.lt).trans h4, h5⟩
def MkPost (v : Value) (n : Nat) (w : World) (e : Ending) (w' : World) : Prop :=
  ∃ g cap cur, e = .returned (.slice (some ⟨g, 0, none⟩) n cap) ∧ n ≤ cap ∧ cap ≤ 9223372036854775807 ∧ Blk w' g cur ∧ cur.size = cap ∧ Below w.heap.size w w' ∧ (v.ownBlock = some g ∨ w.heap.size ≤ g)
set_option maxRecDepth 100000 in
set_option maxHeartbeats 16000000 in
theorem make_one0 (r : Option Addr) (len : Nat) (w : World) :
    Calls Tryz.prog 87 #[.slice r len 0, .int .i64 1] w fun e w' => e = .returned (.slice (some ⟨w.heap.size, 0, none⟩) 1 1) ∧ w' = w.alloc (.cells (madeCells #[.int .u64 0] 1) 119) := by
  have hm := mk_one
  go_enter Tryz.func87, Tryz.ntmps87
  go_wp2
  go_ret
  exact ⟨rfl, rfl⟩
theorem make_any (w : World) (v : Value) (n : Nat) (h : Rz w v) (h1 : 1 ≤ n) (h2 : n ≤ 1000000) : Calls Tryz.prog 87 #[v, .int .i64 (n : Nat)] w (MkPost v n w) := by
  have one : ∀ r len, v = .slice r len 0 → n = 1 → Calls Tryz.prog 87 #[v, .int .i64 (n : Nat)] w (MkPost v n w) := fun r len hv hn => by
    subst hv hn
    refine (make_one0 r len w).mono ?_
    rintro e w' ⟨rfl, rfl⟩
    exact ⟨w.heap.size, 1, _, rfl, Nat.le_refl _, by omega, Blk.new _ _, by rw [size_madeCells], grow_alloc (grow_refl _) _, .inr (Nat.le_refl _)⟩
  have more : ∀ r len cap, v = .slice r len cap → cap < n → 2 ≤ n → Calls Tryz.prog 87 #[v, .int .i64 (n : Nat)] w (MkPost v n w) := fun r len cap hv hn hm => by
    subst hv
    refine (make_newA r len cap n w hn hm h2).mono ?_
    rintro e w' ⟨cur, rfl, hs, rfl⟩
    exact ⟨w.heap.size, n + 4, cur, rfl, by omega, by omega, Blk.new _ _, hs, grow_alloc (grow_refl _) _, .inr (Nat.le_refl _)⟩
  rcases h with hv | ⟨g, m, cap, cur, hv, hc, hb, hs⟩
  · by_cases hn : n = 1
    · exact one _ _ hv hn
    · exact more _ _ _ hv (by omega) (by omega)
  · by_cases hf : n ≤ cap
    · subst hv
      refine (make_fits g m cap n w hf hc).mono ?_
      rintro e w' ⟨rfl, rfl⟩
      exact ⟨g, cap, cur, rfl, hf, hc, hb, hs, grow_refl _, .inl rfl⟩
    · by_cases hn : n = 1
      · obtain rfl : cap = 0 := by omega
        exact one _ _ hv hn
      · exact more _ _ _ hv (by omega) (by omega)
theorem addW (b o k : Nat) : (⟨b, o, none⟩ : Addr).add k = ⟨b, o + k, none⟩ := by
  unfold Addr.add
  split <;> simp_all
theorem wl_get? {l : List Nat} {j : Nat} (h : j < l.length) : (WL l)[j]? = some (.int .u64 (l.getD j 0 : Nat)) := by rw [WL_get l j h, getD_get h]
theorem wl_one (l : List Nat) : ∀ v ∈ WL l, v.oneCell' = true := fun v h => by
  unfold WL at h
  obtain ⟨d, _, rfl⟩ := List.mem_map.1 h
  rfl
theorem Wds.cells2 {w : World} {v : Value} {l : List Nat} (h : Wds w v l) (hl : 0 < l.length) : ∃ g c cur, v = .slice (some ⟨g, 0, none⟩) l.length c ∧ l.length ≤ c ∧ c ≤ 9223372036854775807 ∧ Blk w g cur ∧ ∀ j, j < l.length → w.cell? ⟨g, j, none⟩ = some (.int .u64 (l.getD j 0 : Nat)) := by
  rcases h with ⟨_, rfl⟩ | ⟨g, cap, cur, rfl, h2, h3, h4, _, h6⟩
  · exact absurd hl (by simp)
  · exact ⟨g, cap, cur, rfl, h2, h3, h4, fun j hj => by rw [h4.cell]; exact h6 j hj⟩
theorem info_word1 : (Tryz.prog.info? 119).map (·.size) = some 1 := by
  obtain ⟨i0, hi, _, hz1, _⟩ := info_parts info_word
  rw [hi]
  exact congrArg some hz1
theorem set_row {w : World} {g : Nat} {cur : Array Value} (h : Blk w g cur) (L : List Value) : Blk (w.setRow g L.toArray) g L.toArray := setRow_heap w g _ _ _ _ h
theorem row_grown (w : World) (g : Nat) (a : Array Value) : w.grownBy (w.setRow g a) (some g) := ⟨rfl, rfl, rfl, by simp [World.setRow], fun k _ hne => setRow_other w g k a (fun e => hne (by rw [e]))⟩
theorem set_end {w w1 : World} {v : Value} {l : List Nat} {g cap : Nat} {cur : Array Value} (hl : l.length ≤ cap) (hcap : cap ≤ 9223372036854775807) (hb : Blk w1 g cur) (hs : cur.size = cap) (hB : Below w.heap.size w w1) (ho : v.ownBlock = some g ∨ w.heap.size ≤ g) :
    NatPost v l w (.returned (.slice (some ⟨g, 0, none⟩) l.length cap)) (w1.setRow g (WL l ++ cur.toList.drop (WL l).length).toArray) := by
  have h2 := set_row hb (WL l ++ cur.toList.drop (WL l).length)
  refine ⟨_, rfl, .inr ⟨g, cap, _, rfl, hl, hcap, h2, ?_, fun j hj => ?_⟩, ?_, fun k hk => ?_⟩
  · simp [WL_length]
    omega
  · simp only [List.getElem?_toArray]
    rw [List.getElem?_append_left (by rw [WL_length]; exact hj)]
    exact wl_get? hj
  · rcases ho with h | h
    · rw [h]
      exact grown_trans (grown_below _ hB) (row_grown _ _ _)
    · exact grown_over _ (grown_below _ hB) (row_grown _ _ _) h
  · cases hk
    exact ho
set_option maxRecDepth 100000 in
set_option maxHeartbeats 16000000 in
theorem setN_walk (w : World) (v vx : Value) (a : Nat) (ha : 0 < a) (hA : (dig a).length ≤ 100000) (hz : Rz w v) (hx : Wds w vx (dig a)) : Calls Tryz.prog 86 #[v, vx] w fun e w' => NatPost v (dig a) w e w' := by
  have hl : 1 ≤ (dig a).length := by rw [dig_pos ha]; simp
  obtain ⟨gx, cx, curx, rfl, hx1, hx2, hx3, hx4⟩ := hx.cells2 hl
  have MK := Lib.hid (make_any w v (dig a).length hz hl (by omega))
  have HX := Lib.hid hx4
  have lx := hx3.lt
  clear hx hx3 hx4 hz
  generalize dig a = l at *
  go_enter Tryz.func86, Tryz.ntmps86
  go_wp2_with (first
    | (go_at_call 87; go_loud ((with_reducible refine (MK.out).mono ?_); rintro e w1 ⟨g, cap, cur, rfl, k1, k2, k3, k4, k5, k6⟩; have K3 := Lib.hid k3; have K4 := Lib.hid k4; have K5 := Lib.hid k5; have K6 := Lib.hid k6; clear k3 k4 k5 k6))
    | (refine wpList_copy_own (o := ⟨some 11, _, _, _, _, _⟩) rfl (.tmp 9) (.tmp 10) 74 74 rfl 119 Tryz.underlying74 info_word1 g 0 l.length cap ⟨gx, 0, none⟩ l.length cx rfl rfl cur _ K3.out (WL l) (by rw [WL_length]; simp) (fun j v h => (by
        have hj : j < l.length := by rw [← WL_length l]; exact (List.getElem?_eq_some_iff.1 h).1
        rw [wl_get? hj] at h
        cases h
        rw [addW gx 0 j, Nat.zero_add]
        exact (K5.out.cell (World.block_lt_of_cell? _ _ (HX.out j hj))).trans (HX.out j hj))) (by rw [WL_length, K4.out]; omega) (wl_one l) ?_))
  go_ret
  exact set_end k1 k2 K3.out K4.out K5.out K6.out
theorem run_neq_ptr_same {P : Program} {w : World} {tp te : TypeId} {j : TypeInfo} (a : Addr) (hp : P.underlying tp = some (.pointer te)) (hte : P.info? te = some j) :
    (binOp .neq tp (.pointer (some a)) (.pointer (some a))).run P w = .ok (.bool false) w := by
  have h : ∀ d : Nat, (Op.equalIn (d + 1) tp (.pointer (some a)) (.pointer (some a))).run P w = .ok true w := fun d => by
    simp [Op.equalIn, run_underlying hp, sizeOf, typeInfo, hte, run_sameAddr_same]
  simp only [binOp]
  simp [Op.equal, Op.maxDepth, h 9999]
theorem run_neq_ptr_other {P : Program} {w : World} {tp te : TypeId} {j : TypeInfo} {a b : Addr} {ca cb : Array Value} {ta tb : TypeId} (hp : P.underlying tp = some (.pointer te)) (hte : P.info? te = some j) (hsz : j.size ≠ 0)
    (hne : a ≠ b) (ha : w.heap[a.block]? = some (.cells ca ta (0, 0))) (hb : w.heap[b.block]? = some (.cells cb tb (0, 0))) :
    (binOp .neq tp (.pointer (some a)) (.pointer (some b))).run P w = .ok (.bool true) w := by
  have h : ∀ d : Nat, (Op.equalIn (d + 1) tp (.pointer (some a)) (.pointer (some b))).run P w = .ok false w := fun d => by
    simp [Op.equalIn, run_underlying hp, sizeOf, typeInfo, hte, hsz, run_sameAddr_other w hne ha hb]
  simp only [binOp]
  simp [Op.equal, Op.maxDepth, h 9999]
theorem word_other {w : World} {g h i : Nat} {c d : Array Value} (h1 : Blk w g c) (h2 : Blk w h d) (hne : ¬ g = h) : (binOp .neq 170 (.pointer (some ⟨g, i, none⟩)) (.pointer (some ⟨h, i, none⟩))).run Tryz.prog w = .ok (.bool true) w := by
  obtain ⟨i0, hi, _, hz1, _⟩ := info_parts info_word
  exact run_neq_ptr_other Tryz.underlying170 hi (by omega) (fun e => hne (by cases e; rfl)) h1 h2
theorem word_same (w : World) (g i : Nat) : (binOp .neq 170 (.pointer (some ⟨g, i, none⟩)) (.pointer (some ⟨g, i, none⟩))).run Tryz.prog w = .ok (.bool false) w := by
  obtain ⟨i0, hi, _, hz1, _⟩ := info_parts info_word
  exact run_neq_ptr_same _ Tryz.underlying170 hi
set_option maxRecDepth 100000 in
set_option maxHeartbeats 16000000 in
theorem addVW1_walk (w : World) (gz gx cz cx : Nat) (cur curx : Array Value) (x c : Nat) (hx : x < 18446744073709551616) (hc : c < 18446744073709551616) (hb : Blk w gz cur) (hs : 1 < cur.size) (hbx : Blk w gx curx) (hcx : curx[1]? = some (.int .u64 (x : Nat))) (h1 : 1 ≤ cz) (h2 : 1 ≤ cx) :
    Calls Tryz.prog 89 #[.slice (some ⟨gz, 1, none⟩) 1 cz, .slice (some ⟨gx, 1, none⟩) 1 cx, .int .u64 c] w fun e w' => e = .returned (.int .u64 (((x + c + 0) / 18446744073709551616 : Nat) : Int)) ∧ Blk w' gz (cur.setIfInBounds 1 (.int .u64 (((x + c + 0) % 18446744073709551616 : Nat) : Int))) ∧ w.grownBy w' (some gz) := by
  have A := Lib.hid (fun X => bitsAdd0_walk x c X)
  have hq : (x + c + 0) / 18446744073709551616 = 0 ∨ (x + c + 0) / 18446744073709551616 = 1 := by omega
  generalize (x + c + 0) / 18446744073709551616 = q at *
  generalize (x + c + 0) % 18446744073709551616 = r at *
  have c1 : w.cell? ⟨gx, 1, none⟩ = some (.int .u64 (x : Nat)) := by rw [hbx.cell]; exact hcx
  obtain ⟨u, c2⟩ : ∃ u, w.cell? ⟨gz, 1, none⟩ = some u := ⟨_, by rw [hb.cell]; exact Array.getElem?_eq_getElem hs⟩
  have f2 := hb.frozen 1
  have l1 := hbx.lt
  have l2 := hb.lt
  have HB := Lib.hid hb
  have HBX := Lib.hid hbx
  clear hb hbx hcx
  rcases hq with rfl | rfl
  · go_enter Tryz.func89, Tryz.ntmps89
    go_upto_region 8 with (first | (go_at_call 91; (with_reducible refine (A.out _).mono ?_); rintro e w1 ⟨rfl, rfl⟩))
    have B2 := HB.out.set 1 (.int .u64 (r : Nat))
    have G2 := bset_grown (grown_refl w1 (some gz)) 1 (.int .u64 (r : Nat))
    by_cases e : gz = gx
    · subst e
      refine seal_wp fun W2 hW2 => ?_
      have HB2 : Blk W2 gz (cur.setIfInBounds 1 (.int .u64 (r : Nat))) := by rw [hW2.out]; exact B2
      have HG2 : w1.grownBy W2 (some gz) := by rw [hW2.out]; exact G2
      have np := fun X => word_same X gz 1
      clear B2 G2 hW2 c1 c2 f2 l1 l2
      go_quiet (fail)
      go_wp2
      go_ret
      exact ⟨rfl, HB2.grown (grown_below none (grow_drewN (grow_refl _) _)) (by simp), grown_trans HG2 (grown_below _ (grow_drewN (grow_refl _) _))⟩
    · have BX2 : Blk (w1.setCell ⟨gz, 1, none⟩ (.int .u64 (r : Nat))) gx curx := HBX.out.other e 1 _
      refine seal_wp fun W2 hW2 => ?_
      have HB2 : Blk W2 gz (cur.setIfInBounds 1 (.int .u64 (r : Nat))) := by rw [hW2.out]; exact B2
      have HX2 : Blk W2 gx curx := by rw [hW2.out]; exact BX2
      have HG2 : w1.grownBy W2 (some gz) := by rw [hW2.out]; exact G2
      have np := word_other (i := 1) HB2 HX2 e
      have np2 := fun n => word_other (w := W2.drewN n) (i := 1) (HB2.grown (grown_below none (grow_drewN (grow_refl _) _)) (by simp)) (HX2.grown (grown_below none (grow_drewN (grow_refl _) _)) (by simp)) e
      clear B2 G2 BX2 hW2 c1 c2 f2 l1 l2
      go_quiet (fail)
      have HQ := Lib.hid (show Blk (W2.drewN nq) gz (cur.setIfInBounds 1 (.int .u64 (r : Nat))) ∧ w1.grownBy (W2.drewN nq) (some gz) from ⟨HB2.grown (grown_below none (grow_drewN (grow_refl _) _)) (by simp), grown_trans HG2 (grown_below _ (grow_drewN (grow_refl _) _))⟩)
      generalize W2.drewN nq = W3 at *
      clear np np2 HB2 HX2 HG2
      rcases Nat.lt_or_eq_of_le h1 with hz1 | rfl <;> rcases Nat.lt_or_eq_of_le h2 with hx1 | rfl
      all_goals
        (try have z1 : (1 : Int) < (cz : Int) := by omega)
        (try have z2 : (1 : Int) < (cx : Int) := by omega)
        go_upto_region 9 with (fail)
        refine Grow.wp_region_plan (.quiet [0, 1, 2, 3] (.tail [4])) (by kernel_rfl) (by kernel_rfl) (by kernel_rfl) (by kernel_rfl) ?_ ?_
        · intro c aa d v ww h
          first
            | exact Grow.bodyPost_blind h
            | (simp (config := {zetaDelta := true}) only [Exit.then, Exit.inBlock] at h ⊢; first | exact Grow.bodyPost_blind h | exact h)
        simp only [Grow.Plan.wp, Grow.pick, List.getElem?_cons_zero, List.getElem?_cons_succ, List.cons_append, List.nil_append]
        repeat (go_big_quiet_step (fail))
        refine wpQuiet_nil ?_
        refine wpList_copy_nothing rfl (.tmp 40) (.tmp 42) 73 73 rfl 119 Tryz.underlying73 info_word1 _ _ _ _ _ _ rfl rfl rfl ?_
        go_wp2
        go_ret
        exact ⟨rfl, HQ.out.1.grown (grown_below none (grow_drew (grow_refl _))) (by simp), grown_trans HQ.out.2 (grown_below _ (grow_drew (grow_refl _)))⟩
  · go_enter Tryz.func89, Tryz.ntmps89
    go_wp2_with (first | (go_at_call 91; (with_reducible refine (A.out _).mono ?_); rintro e w1 ⟨rfl, rfl⟩))
    refine wp_loop_rounds 1 ?_
    rw [rounds_succ]
    go_wp2
    go_ret
    exact ⟨rfl, HB.out.set 1 _, bset_grown (grown_refl _ _) 1 _⟩
theorem bitsSub0_walk (x c : Nat) (w : World) :
    Calls Tryz.prog 94 #[.int .u64 x, .int .u64 c, .int .u64 0] w fun e w' => e = .returned (.tuple #[.int .u64 (((x + 18446744073709551616 - c - 0) % 18446744073709551616 : Nat) : Int), .int .u64 ((if x < c + 0 then 1 else 0 : Nat) : Int)]) ∧ w' = w := bitsSub_walk x c 0 (by omega) w
set_option maxRecDepth 100000 in
set_option maxHeartbeats 16000000 in
theorem subVW1_walk (w : World) (gz gx cz cx : Nat) (cur curx : Array Value) (x c : Nat) (hx : x < 18446744073709551616) (hc : c < 18446744073709551616) (hb : Blk w gz cur) (hs : 1 < cur.size) (hbx : Blk w gx curx) (hcx : curx[1]? = some (.int .u64 (x : Nat))) (h1 : 1 ≤ cz) (h2 : 1 ≤ cx) :
    Calls Tryz.prog 93 #[.slice (some ⟨gz, 1, none⟩) 1 cz, .slice (some ⟨gx, 1, none⟩) 1 cx, .int .u64 c] w fun e w' => e = .returned (.int .u64 ((if x < c + 0 then 1 else 0 : Nat) : Int)) ∧ Blk w' gz (cur.setIfInBounds 1 (.int .u64 (((x + 18446744073709551616 - c - 0) % 18446744073709551616 : Nat) : Int))) ∧ w.grownBy w' (some gz) := by
  have A := Lib.hid (fun X => bitsSub0_walk x c X)
  have hq : (if x < c + 0 then 1 else 0) = 0 ∨ (if x < c + 0 then 1 else 0) = 1 := by split <;> simp
  generalize (if x < c + 0 then 1 else 0) = q at *
  generalize (x + 18446744073709551616 - c - 0) % 18446744073709551616 = r at *
  have c1 : w.cell? ⟨gx, 1, none⟩ = some (.int .u64 (x : Nat)) := by rw [hbx.cell]; exact hcx
  obtain ⟨u, c2⟩ : ∃ u, w.cell? ⟨gz, 1, none⟩ = some u := ⟨_, by rw [hb.cell]; exact Array.getElem?_eq_getElem hs⟩
  have f2 := hb.frozen 1
  have l1 := hbx.lt
  have l2 := hb.lt
  have HB := Lib.hid hb
  have HBX := Lib.hid hbx
  clear hb hbx hcx
  rcases hq with rfl | rfl
  · go_enter Tryz.func93, Tryz.ntmps93
    go_upto_region 8 with (first | (go_at_call 94; (with_reducible refine (A.out _).mono ?_); rintro e w1 ⟨rfl, rfl⟩))
    have B2 := HB.out.set 1 (.int .u64 (r : Nat))
    have G2 := bset_grown (grown_refl w1 (some gz)) 1 (.int .u64 (r : Nat))
    by_cases e : gz = gx
    · subst e
      refine seal_wp fun W2 hW2 => ?_
      have HB2 : Blk W2 gz (cur.setIfInBounds 1 (.int .u64 (r : Nat))) := by rw [hW2.out]; exact B2
      have HG2 : w1.grownBy W2 (some gz) := by rw [hW2.out]; exact G2
      have np := fun X => word_same X gz 1
      clear B2 G2 hW2 c1 c2 f2 l1 l2
      go_quiet (fail)
      go_wp2
      go_ret
      exact ⟨rfl, HB2.grown (grown_below none (grow_drewN (grow_refl _) _)) (by simp), grown_trans HG2 (grown_below _ (grow_drewN (grow_refl _) _))⟩
    · have BX2 : Blk (w1.setCell ⟨gz, 1, none⟩ (.int .u64 (r : Nat))) gx curx := HBX.out.other e 1 _
      refine seal_wp fun W2 hW2 => ?_
      have HB2 : Blk W2 gz (cur.setIfInBounds 1 (.int .u64 (r : Nat))) := by rw [hW2.out]; exact B2
      have HX2 : Blk W2 gx curx := by rw [hW2.out]; exact BX2
      have HG2 : w1.grownBy W2 (some gz) := by rw [hW2.out]; exact G2
      have np := word_other (i := 1) HB2 HX2 e
      have np2 := fun n => word_other (w := W2.drewN n) (i := 1) (HB2.grown (grown_below none (grow_drewN (grow_refl _) _)) (by simp)) (HX2.grown (grown_below none (grow_drewN (grow_refl _) _)) (by simp)) e
      clear B2 G2 BX2 hW2 c1 c2 f2 l1 l2
      go_quiet (fail)
      have HQ := Lib.hid (show Blk (W2.drewN nq) gz (cur.setIfInBounds 1 (.int .u64 (r : Nat))) ∧ w1.grownBy (W2.drewN nq) (some gz) from ⟨HB2.grown (grown_below none (grow_drewN (grow_refl _) _)) (by simp), grown_trans HG2 (grown_below _ (grow_drewN (grow_refl _) _))⟩)
      generalize W2.drewN nq = W3 at *
      clear np np2 HB2 HX2 HG2
      rcases Nat.lt_or_eq_of_le h1 with hz1 | rfl <;> rcases Nat.lt_or_eq_of_le h2 with hx1 | rfl
      all_goals
        (try have z1 : (1 : Int) < (cz : Int) := by omega)
        (try have z2 : (1 : Int) < (cx : Int) := by omega)
        go_upto_region 9 with (fail)
        refine Grow.wp_region_plan (.quiet [0, 1, 2, 3] (.tail [4])) (by kernel_rfl) (by kernel_rfl) (by kernel_rfl) (by kernel_rfl) ?_ ?_
        · intro c aa d v ww h
          first
            | exact Grow.bodyPost_blind h
            | (simp (config := {zetaDelta := true}) only [Exit.then, Exit.inBlock] at h ⊢; first | exact Grow.bodyPost_blind h | exact h)
        simp only [Grow.Plan.wp, Grow.pick, List.getElem?_cons_zero, List.getElem?_cons_succ, List.cons_append, List.nil_append]
        repeat (go_big_quiet_step (fail))
        refine wpQuiet_nil ?_
        refine wpList_copy_nothing rfl (.tmp 40) (.tmp 42) 73 73 rfl 119 Tryz.underlying73 info_word1 _ _ _ _ _ _ rfl rfl rfl ?_
        go_wp2
        go_ret
        exact ⟨rfl, HQ.out.1.grown (grown_below none (grow_drew (grow_refl _))) (by simp), grown_trans HQ.out.2 (grown_below _ (grow_drew (grow_refl _)))⟩
  · go_enter Tryz.func93, Tryz.ntmps93
    go_wp2_with (first | (go_at_call 94; (with_reducible refine (A.out _).mono ?_); rintro e w1 ⟨rfl, rfl⟩))
    refine wp_loop_rounds 1 ?_
    rw [rounds_succ]
    go_wp2
    go_ret
    exact ⟨rfl, HB.out.set 1 _, bset_grown (grown_refl _ _) 1 _⟩
end Go.Proofs.YtlnbeildplafbaaGreatDoor
/- Whole numbers of any size in memory: sums and differences of two words at most. -/
set_option linter.unusedSimpArgs false
set_option linter.unusedVariables false
namespace Go.Proofs.YtlnbeildplafbaaGreatDoor
open Go.RowKit Go.Grow Go.Wd

theorem blk_after {w w2 : World} {g gx : Nat} {cu curx : Array Value} (hx : Blk w gx curx) (hg : w.grownBy w2 (some g)) (h2 : Blk w2 g cu) : ∃ c, Blk w2 gx c := by
  by_cases e : gx = g
  · subst e; exact ⟨cu, h2⟩
  · exact ⟨curx, hx.grown hg (fun h => e (by cases h; rfl))⟩
/-- The end: the noughts left out. -/
theorem nat_end {w w3 w4 : World} {v : Value} {g cap N : Nat} {cu : Array Value} {L : List Nat} {k : Nat} (hlen : L.length = k) (hd : L.take (cutTo L k) = dig N) (hb : Blk w3 g cu) (hs : cu.size = cap) (hk : k ≤ cap) (hcap : cap ≤ 9223372036854775807) (ht : cu.toList.take k = WL L)
    (hg : w.grownBy w3 (some g)) (ho : v.ownBlock = some g ∨ w.heap.size ≤ g) (h4 : w3.grownBy w4 none) : NatPost v (dig N) w (.returned (.slice (some ⟨g, 0, none⟩) (cutTo L k) cap)) w4 := by
  have hle := cutTo_le L k
  have hl : (dig N).length = cutTo L k := by rw [← hd, List.length_take, hlen]; omega
  refine ⟨_, rfl, .inr ⟨g, cap, cu, by rw [hl], by omega, hcap, hb.grown h4 (by simp), hs, fun j hj => ?_⟩, ?_, fun i hi => ?_⟩
  · rw [hl] at hj
    have h := cells_of_take hlen ht j (by omega)
    rw [h, ← hd, take_getD _ _ _ hj]
  · rcases ho with h | h
    · rw [h]; exact grown_trans hg (grown_weak h4 _)
    · refine grown_trans ?_ (grown_weak h4 _)
      exact ⟨hg.os, hg.tape, hg.output, hg.size, fun k hk hne => hg.block k hk (fun e => by cases e; omega)⟩
  · cases hi
    exact ho
theorem sum_take {cur : Array Value} {x y : List Nat} {m : Nat} (hxl : x.length = m) (hm : m < cur.size) (ht : cur.toList.take m = WL (sumUp x y m).1) : (cur.setIfInBounds m (.int .u64 ((sumUp x y m).2 : Nat))).toList.take (m + 1) = WL (sumAll x y) := by
  rw [take_snoc ht hm]
  simp [WL, sumAll, hxl]
theorem sum_cells {w : World} {g : Nat} {cur : Array Value} {x y : List Nat} {m : Nat} (hxl : x.length = m) (hb : Blk w g cur) (hm : m < cur.size) (ht : cur.toList.take m = WL (sumUp x y m).1) :
    ∀ j, j < m + 1 → (w.setCell ⟨g, m, none⟩ (.int .u64 ((sumUp x y m).2 : Nat))).cell? ⟨g, j, none⟩ = some (.int .u64 ((sumAll x y).getD j 0 : Nat)) := fun j hj => by
  rw [(hb.set m _).cell]
  exact cells_of_take (by rw [sumAll_length, hxl]) (sum_take hxl hm ht) j hj
theorem sum_two {x y : List Nat} (hy : y.length = 1) : sumUp x y 2 = ((sumUp x y 1).1 ++ [(x.getD 1 0 + (sumUp x y 1).2 + 0) % 18446744073709551616], (x.getD 1 0 + (sumUp x y 1).2 + 0) / 18446744073709551616) := by
  have h : y.getD 1 0 = 0 := by rw [List.getD_eq_getElem?_getD, List.getElem?_eq_none (by omega)]; rfl
  rw [show (2 : Nat) = 1 + 1 from rfl, sumUp, h]
  simp only [Nat.add_zero]
theorem dif_two {x y : List Nat} (hy : y.length = 1) : difUp x y 2 = ((difUp x y 1).1 ++ [(x.getD 1 0 + 18446744073709551616 - (difUp x y 1).2 - 0) % 18446744073709551616], if x.getD 1 0 < (difUp x y 1).2 + 0 then 1 else 0) := by
  have h : y.getD 1 0 = 0 := by rw [List.getD_eq_getElem?_getD, List.getElem?_eq_none (by omega)]; rfl
  rw [show (2 : Nat) = 1 + 1 from rfl, difUp, h]
  simp only [Nat.add_zero, Nat.sub_zero, Nat.zero_add]
set_option maxRecDepth 100000 in
set_option maxHeartbeats 16000000 in
theorem subN_11 (w : World) (v : Value) (gx gy cx cy : Nat) (curx : Array Value) (x y : List Nat) (hz : Rz w v) (hxl : x.length = 1) (hyl : y.length = 1) (hx : Small x) (hy : Small y) (hyx : val y ≤ val x) (hbx : Blk w gx curx)
    (hcx : ∀ j, j < x.length → w.cell? ⟨gx, j, none⟩ = some (.int .u64 (x.getD j 0 : Nat))) (hcy : ∀ j, j < 1 → w.cell? ⟨gy, j, none⟩ = some (.int .u64 (y.getD j 0 : Nat))) (hmx : 1 ≤ cx) (hny : 1 ≤ cy) :
    Calls Tryz.prog 67 #[v, .slice (some ⟨gx, 0, none⟩) 1 cx, .slice (some ⟨gy, 0, none⟩) 1 cy] w fun e w' => NatPost v (dig (val x - val y)) w e w' := by
  have MK := Lib.hid (show Calls Tryz.prog 87 #[v, .int .i64 1] w (MkPost v 1 w) from make_any w v 1 hz (by omega) (by omega))
  have AV := Lib.hid (fun X g cap cur (hb : Blk X g cur) (hs : cur.size = cap) (hn : 1 ≤ cap) (hB : Below w.heap.size w X) => subVV_walk X g gx gy cap cap cx cy 1 cur x y hx hy hb hs (by omega) (by omega)
    (fun j hj => (hB.cell (World.block_lt_of_cell? _ _ (hcx j hj))).trans (hcx j hj)) (fun j hj => (hB.cell (World.block_lt_of_cell? _ _ (hcy j hj))).trans (hcy j hj)) (by omega))
  have SO := difUp_over x y 1
  have SX := small_getD hx 1
  have NO := Lib.hid (fun g cap X (h1 : 1 ≤ cap) (h2 : cap ≤ 9223372036854775807) (hX : ∀ j, j < 1 → X.cell? ⟨g, j, none⟩ = some (.int .u64 ((difUp x y 1).1.getD j 0 : Nat))) => norm_walk g cap (difUp x y 1).1 X (by rw [difUp_length]; omega) h2 (by rw [difUp_length]; exact hX))
  rw [show (difUp x y 1).1.length = 1 by rw [difUp_length]] at NO
  have DG := Lib.hid (difUp_dig hx hy (by omega) hyx)
  have DZ := (difUp_none hx hy (by omega) hyx).1
  rw [hxl] at DG DZ
  have HBX := Lib.hid hbx
  have ent := enters_subVV
  clear hz hcx hcy hbx hyx
  rw [DZ] at AV
  have x1 : (1 : Int) ≤ (cx : Int) := by omega
  have x2 : (1 : Int) ≤ (cy : Int) := by omega
  go_enter Tryz.func67, Tryz.ntmps67
  go_upto_region 10 with (first
    | (go_at_call 87; go_loud ((with_reducible refine (MK.out).mono ?_); rintro e w1 ⟨g, cap, cur, rfl, k1, k2, k3, k4, k5, k6⟩; have AQ := Lib.hid (AV.out w1.drew g cap cur k3.drew k4 k1 (grow_drew k5)); have K5 := Lib.hid (grow_drew k5 : Below w.heap.size w w1.drew); have K6 := Lib.hid k6; have BX1 := Lib.hid (HBX.out.grown (grown_below none (grow_drew k5)) (by simp)); clear k3 k4 k5 k6)))
  have z1 : (1 : Int) ≤ (cap : Int) := by omega
  have z2 : (1 : Int) ≤ (cap : Int) := by omega
  refine Grow.wp_region_plan (.quiet [0, 1, 2, 3, 4, 5, 6, 7, 8] (.tail [9, 10])) (by kernel_rfl) (by kernel_rfl) (by kernel_rfl) (by kernel_rfl) ?_ ?_
  · intro c aa d v ww h
    first
      | exact Grow.bodyPost_blind h
      | (simp (config := {zetaDelta := true}) only [Exit.then, Exit.inBlock] at h ⊢; first | exact Grow.bodyPost_blind h | exact h)
  simp only [Grow.Plan.wp, Grow.pick, List.getElem?_cons_zero, List.getElem?_cons_succ, List.cons_append, List.nil_append]
  repeat (go_big_quiet_step (fail))
  refine wpQuiet_nil ?_
  go_wp2_with (first
    | (go_at_call 60; go_loud ((with_reducible refine (AQ.out).mono ?_); rintro e w2 ⟨rfl, cu, h1, h2, h3, h4, h5⟩; have H1 := Lib.hid h1; have H2 := Lib.hid h2; have H3 := Lib.hid h3; have H5 := Lib.hid (grown_trans (grown_below (some g) K5.out) h5); have NQ := Lib.hid (NO.out g cap _ k1 k2 (fun j hj => by rw [h1.cell]; exact cells_of_take (by rw [difUp_length]) h3 j hj)); clear h1 h2 h3 h4 h5))
    | (go_at_call 90; ((with_reducible refine NQ.out.mono ?_); rintro e w4 ⟨rfl, hg4⟩; have HG4 := Lib.hid hg4; clear hg4)))
  go_ret
  exact nat_end (by rw [difUp_length]) DG.out H1.out H2.out k1 k2 H3.out H5.out K6.out HG4.out
set_option maxRecDepth 100000 in
set_option maxHeartbeats 16000000 in
theorem subN_21 (w : World) (v : Value) (gx gy cx cy : Nat) (curx : Array Value) (x y : List Nat) (hz : Rz w v) (hxl : x.length = 2) (hyl : y.length = 1) (hx : Small x) (hy : Small y) (hyx : val y ≤ val x) (hbx : Blk w gx curx)
    (hcx : ∀ j, j < x.length → w.cell? ⟨gx, j, none⟩ = some (.int .u64 (x.getD j 0 : Nat))) (hcy : ∀ j, j < 1 → w.cell? ⟨gy, j, none⟩ = some (.int .u64 (y.getD j 0 : Nat))) (hmx : 2 ≤ cx) (hny : 1 ≤ cy) :
    Calls Tryz.prog 67 #[v, .slice (some ⟨gx, 0, none⟩) 2 cx, .slice (some ⟨gy, 0, none⟩) 1 cy] w fun e w' => NatPost v (dig (val x - val y)) w e w' := by
  have MK := Lib.hid (show Calls Tryz.prog 87 #[v, .int .i64 2] w (MkPost v 2 w) from make_any w v 2 hz (by omega) (by omega))
  have AV := Lib.hid (fun X g cap cur (hb : Blk X g cur) (hs : cur.size = cap) (hn : 2 ≤ cap) (hB : Below w.heap.size w X) => subVV_walk X g gx gy cap cap cx cy 1 cur x y hx hy hb hs (by omega) (by omega)
    (fun j hj => (hB.cell (World.block_lt_of_cell? _ _ (hcx j hj))).trans (hcx j hj)) (fun j hj => (hB.cell (World.block_lt_of_cell? _ _ (hcy j hj))).trans (hcy j hj)) (by omega))
  have SO := difUp_over x y 1
  have SX := small_getD hx 1
  have NO := Lib.hid (fun g cap X (h1 : 2 ≤ cap) (h2 : cap ≤ 9223372036854775807) (hX : ∀ j, j < 2 → X.cell? ⟨g, j, none⟩ = some (.int .u64 ((difUp x y 2).1.getD j 0 : Nat))) => norm_walk g cap (difUp x y 2).1 X (by rw [difUp_length]; omega) h2 (by rw [difUp_length]; exact hX))
  rw [show (difUp x y 2).1.length = 2 by rw [difUp_length]] at NO
  have DG := Lib.hid (difUp_dig hx hy (by omega) hyx)
  have DZ := (difUp_none hx hy (by omega) hyx).1
  rw [hxl] at DG DZ
  have HBX := Lib.hid hbx
  have ent := enters_subVV
  clear hz hcx hcy hbx hyx
  have x1 : (1 : Int) ≤ (cx : Int) := by omega
  have x2 : (1 : Int) ≤ (cy : Int) := by omega
  go_enter Tryz.func67, Tryz.ntmps67
  go_upto_region 10 with (first
    | (go_at_call 87; go_loud ((with_reducible refine (MK.out).mono ?_); rintro e w1 ⟨g, cap, cur, rfl, k1, k2, k3, k4, k5, k6⟩; have AQ := Lib.hid (AV.out w1.drew g cap cur k3.drew k4 k1 (grow_drew k5)); have K5 := Lib.hid (grow_drew k5 : Below w.heap.size w w1.drew); have K6 := Lib.hid k6; have BX1 := Lib.hid (HBX.out.grown (grown_below none (grow_drew k5)) (by simp)); clear k3 k4 k5 k6)))
  have z1 : (1 : Int) ≤ (cap : Int) := by omega
  have z2 : (2 : Int) ≤ (cap : Int) := by omega
  refine Grow.wp_region_plan (.quiet [0, 1, 2, 3, 4, 5, 6, 7, 8] (.tail [9, 10])) (by kernel_rfl) (by kernel_rfl) (by kernel_rfl) (by kernel_rfl) ?_ ?_
  · intro c aa d v ww h
    first
      | exact Grow.bodyPost_blind h
      | (simp (config := {zetaDelta := true}) only [Exit.then, Exit.inBlock] at h ⊢; first | exact Grow.bodyPost_blind h | exact h)
  simp only [Grow.Plan.wp, Grow.pick, List.getElem?_cons_zero, List.getElem?_cons_succ, List.cons_append, List.nil_append]
  repeat (go_big_quiet_step (fail))
  refine wpQuiet_nil ?_
  go_upto_region 12 with (first
    | (go_at_call 60; go_loud ((with_reducible refine (AQ.out).mono ?_); rintro e w2 ⟨rfl, cu, h1, h2, h3, h4, h5⟩; have H1 := Lib.hid h1; have H2 := Lib.hid h2; have H3 := Lib.hid h3; have H5 := Lib.hid (grown_trans (grown_below (some g) K5.out) h5); have H4 := Lib.hid (h4 1 (by omega) (by omega)); obtain ⟨curx2, hx2⟩ := blk_after BX1.out h5 h1; have HX2 := Lib.hid hx2; clear h1 h2 h3 h4 h5 hx2)))
  have AW := Lib.hid (subVW1_walk w2.drew g gx (cap - 1) (cx - 1) cu curx2 (x.getD 1 0) (difUp x y 1).2 SX (by omega) H1.out.drew (by rw [H2.out]; omega) HX2.out.drew (by rw [← HX2.out.cell]; exact H4.out) (by omega) (by omega))
  have ST := Lib.hid (dif_two (x := x) hyl)
  have Q0 : (if x.getD 1 0 < (difUp x y 1).2 + 0 then 1 else 0) = 0 := by
    have := DZ
    rw [ST.out] at this
    exact this
  rw [Q0] at AW
  generalize (x.getD 1 0 + 18446744073709551616 - (difUp x y 1).2 - 0) % 18446744073709551616 = r at *
  clear Q0
  have z3 : (1 : Int) < (cx : Int) := by omega
  have z4 : (1 : Int) < (cap : Int) := by omega
  refine Grow.wp_region_plan (.quiet [0, 1, 2, 3, 4, 5, 6] (.tail [7, 8])) (by kernel_rfl) (by kernel_rfl) (by kernel_rfl) (by kernel_rfl) ?_ ?_
  · intro c aa d v ww h
    first
      | exact Grow.bodyPost_blind h
      | (simp (config := {zetaDelta := true}) only [Exit.then, Exit.inBlock] at h ⊢; first | exact Grow.bodyPost_blind h | exact h)
  simp only [Grow.Plan.wp, Grow.pick, List.getElem?_cons_zero, List.getElem?_cons_succ, List.cons_append, List.nil_append]
  repeat (go_big_quiet_step (fail))
  refine wpQuiet_nil ?_
  have T2 := Lib.hid (show (cu.setIfInBounds 1 (.int .u64 (r : Nat))).toList.take 2 = WL (difUp x y 2).1 by rw [take_snoc H3.out (by rw [H2.out]; omega), ST.out]; simp [WL])
  go_wp2_with (first
    | (go_at_call 93; go_loud ((with_reducible refine (AW.out).mono ?_); rintro e w3 ⟨rfl, h1, h2⟩; have J1 := Lib.hid h1; have J2 := Lib.hid (grown_trans (grown_trans H5.out (grown_below _ (grow_drew (grow_refl _)))) h2); have NQ := Lib.hid (NO.out g cap _ k1 k2 (fun j hj => by rw [h1.cell]; exact cells_of_take (by rw [difUp_length]) T2.out j hj)); clear h1 h2))
    | (go_at_call 90; ((with_reducible refine NQ.out.mono ?_); rintro e w4 ⟨rfl, hg4⟩; have HG4 := Lib.hid hg4; clear hg4)))
  go_ret
  exact nat_end (by rw [difUp_length]) DG.out J1.out (by simp [H2.out]) k1 k2 T2.out J2.out K6.out HG4.out
set_option maxRecDepth 100000 in
set_option maxHeartbeats 16000000 in
theorem subN_22 (w : World) (v : Value) (gx gy cx cy : Nat) (curx : Array Value) (x y : List Nat) (hz : Rz w v) (hxl : x.length = 2) (hyl : y.length = 2) (hx : Small x) (hy : Small y) (hyx : val y ≤ val x) (hbx : Blk w gx curx)
    (hcx : ∀ j, j < x.length → w.cell? ⟨gx, j, none⟩ = some (.int .u64 (x.getD j 0 : Nat))) (hcy : ∀ j, j < 2 → w.cell? ⟨gy, j, none⟩ = some (.int .u64 (y.getD j 0 : Nat))) (hmx : 2 ≤ cx) (hny : 2 ≤ cy) :
    Calls Tryz.prog 67 #[v, .slice (some ⟨gx, 0, none⟩) 2 cx, .slice (some ⟨gy, 0, none⟩) 2 cy] w fun e w' => NatPost v (dig (val x - val y)) w e w' := by
  have MK := Lib.hid (show Calls Tryz.prog 87 #[v, .int .i64 2] w (MkPost v 2 w) from make_any w v 2 hz (by omega) (by omega))
  have AV := Lib.hid (fun X g cap cur (hb : Blk X g cur) (hs : cur.size = cap) (hn : 2 ≤ cap) (hB : Below w.heap.size w X) => subVV_walk X g gx gy cap cap cx cy 2 cur x y hx hy hb hs (by omega) (by omega)
    (fun j hj => (hB.cell (World.block_lt_of_cell? _ _ (hcx j hj))).trans (hcx j hj)) (fun j hj => (hB.cell (World.block_lt_of_cell? _ _ (hcy j hj))).trans (hcy j hj)) (by omega))
  have SO := difUp_over x y 2
  have SX := small_getD hx 1
  have NO := Lib.hid (fun g cap X (h1 : 2 ≤ cap) (h2 : cap ≤ 9223372036854775807) (hX : ∀ j, j < 2 → X.cell? ⟨g, j, none⟩ = some (.int .u64 ((difUp x y 2).1.getD j 0 : Nat))) => norm_walk g cap (difUp x y 2).1 X (by rw [difUp_length]; omega) h2 (by rw [difUp_length]; exact hX))
  rw [show (difUp x y 2).1.length = 2 by rw [difUp_length]] at NO
  have DG := Lib.hid (difUp_dig hx hy (by omega) hyx)
  have DZ := (difUp_none hx hy (by omega) hyx).1
  rw [hxl] at DG DZ
  have HBX := Lib.hid hbx
  have ent := enters_subVV
  clear hz hcx hcy hbx hyx
  rw [DZ] at AV
  have x1 : (2 : Int) ≤ (cx : Int) := by omega
  have x2 : (2 : Int) ≤ (cy : Int) := by omega
  go_enter Tryz.func67, Tryz.ntmps67
  go_upto_region 10 with (first
    | (go_at_call 87; go_loud ((with_reducible refine (MK.out).mono ?_); rintro e w1 ⟨g, cap, cur, rfl, k1, k2, k3, k4, k5, k6⟩; have AQ := Lib.hid (AV.out w1.drew g cap cur k3.drew k4 k1 (grow_drew k5)); have K5 := Lib.hid (grow_drew k5 : Below w.heap.size w w1.drew); have K6 := Lib.hid k6; have BX1 := Lib.hid (HBX.out.grown (grown_below none (grow_drew k5)) (by simp)); clear k3 k4 k5 k6)))
  have z1 : (2 : Int) ≤ (cap : Int) := by omega
  have z2 : (2 : Int) ≤ (cap : Int) := by omega
  refine Grow.wp_region_plan (.quiet [0, 1, 2, 3, 4, 5, 6, 7, 8] (.tail [9, 10])) (by kernel_rfl) (by kernel_rfl) (by kernel_rfl) (by kernel_rfl) ?_ ?_
  · intro c aa d v ww h
    first
      | exact Grow.bodyPost_blind h
      | (simp (config := {zetaDelta := true}) only [Exit.then, Exit.inBlock] at h ⊢; first | exact Grow.bodyPost_blind h | exact h)
  simp only [Grow.Plan.wp, Grow.pick, List.getElem?_cons_zero, List.getElem?_cons_succ, List.cons_append, List.nil_append]
  repeat (go_big_quiet_step (fail))
  refine wpQuiet_nil ?_
  go_wp2_with (first
    | (go_at_call 60; go_loud ((with_reducible refine (AQ.out).mono ?_); rintro e w2 ⟨rfl, cu, h1, h2, h3, h4, h5⟩; have H1 := Lib.hid h1; have H2 := Lib.hid h2; have H3 := Lib.hid h3; have H5 := Lib.hid (grown_trans (grown_below (some g) K5.out) h5); have NQ := Lib.hid (NO.out g cap _ k1 k2 (fun j hj => by rw [h1.cell]; exact cells_of_take (by rw [difUp_length]) h3 j hj)); clear h1 h2 h3 h4 h5))
    | (go_at_call 90; ((with_reducible refine NQ.out.mono ?_); rintro e w4 ⟨rfl, hg4⟩; have HG4 := Lib.hid hg4; clear hg4)))
  go_ret
  exact nat_end (by rw [difUp_length]) DG.out H1.out H2.out k1 k2 H3.out H5.out K6.out HG4.out
set_option maxRecDepth 100000 in
set_option maxHeartbeats 16000000 in
theorem addN_11 (w : World) (v : Value) (gx gy cx cy : Nat) (curx : Array Value) (x y : List Nat) (hz : Rz w v) (hxl : x.length = 1) (hyl : y.length = 1) (hx : Small x) (hy : Small y) (hbx : Blk w gx curx)
    (hcx : ∀ j, j < x.length → w.cell? ⟨gx, j, none⟩ = some (.int .u64 (x.getD j 0 : Nat))) (hcy : ∀ j, j < 1 → w.cell? ⟨gy, j, none⟩ = some (.int .u64 (y.getD j 0 : Nat))) (hmx : 1 ≤ cx) (hny : 1 ≤ cy) :
    Calls Tryz.prog 65 #[v, .slice (some ⟨gx, 0, none⟩) 1 cx, .slice (some ⟨gy, 0, none⟩) 1 cy] w fun e w' => NatPost v (dig (val x + val y)) w e w' := by
  have MK := Lib.hid (show Calls Tryz.prog 87 #[v, .int .i64 2] w (MkPost v 2 w) from make_any w v 2 hz (by omega) (by omega))
  have AV := Lib.hid (fun X g cap cur (hb : Blk X g cur) (hs : cur.size = cap) (hn : 2 ≤ cap) (hB : Below w.heap.size w X) => addVV_walk X g gx gy cap cap cx cy 1 cur x y hx hy hb hs (by omega) (by omega)
    (fun j hj => (hB.cell (World.block_lt_of_cell? _ _ (hcx j hj))).trans (hcx j hj)) (fun j hj => (hB.cell (World.block_lt_of_cell? _ _ (hcy j hj))).trans (hcy j hj)) (by omega))
  have SO := sumUp_over hx hy 1
  have SX := small_getD hx 1
  have NO := Lib.hid (fun g cap X (h1 : 2 ≤ cap) (h2 : cap ≤ 9223372036854775807) (hX : ∀ j, j < 2 → X.cell? ⟨g, j, none⟩ = some (.int .u64 ((sumAll x y).getD j 0 : Nat))) => norm_walk g cap (sumAll x y) X (by rw [sumAll_length]; omega) h2 (by rw [sumAll_length, hxl]; exact hX))
  rw [show (sumAll x y).length = 2 by rw [sumAll_length, hxl]] at NO
  have DG := Lib.hid (sumAll_dig hx hy (by omega))
  rw [show (sumAll x y).length = 2 by rw [sumAll_length, hxl]] at DG
  have HBX := Lib.hid hbx
  have ent := enters_addVV
  clear hz hcx hcy hbx
  have x1 : (1 : Int) ≤ (cx : Int) := by omega
  have x2 : (1 : Int) ≤ (cy : Int) := by omega
  go_enter Tryz.func65, Tryz.ntmps65
  go_upto_region 10 with (first
    | (go_at_call 87; go_loud ((with_reducible refine (MK.out).mono ?_); rintro e w1 ⟨g, cap, cur, rfl, k1, k2, k3, k4, k5, k6⟩; have AQ := Lib.hid (AV.out w1.drew g cap cur k3.drew k4 k1 (grow_drew k5)); have K5 := Lib.hid (grow_drew k5 : Below w.heap.size w w1.drew); have K6 := Lib.hid k6; have BX1 := Lib.hid (HBX.out.grown (grown_below none (grow_drew k5)) (by simp)); clear k3 k4 k5 k6)))
  have z1 : (1 : Int) ≤ (cap : Int) := by omega
  have z2 : (1 : Int) ≤ (cap : Int) := by omega
  refine Grow.wp_region_plan (.quiet [0, 1, 2, 3, 4, 5, 6, 7, 8] (.tail [9, 10])) (by kernel_rfl) (by kernel_rfl) (by kernel_rfl) (by kernel_rfl) ?_ ?_
  · intro c aa d v ww h
    first
      | exact Grow.bodyPost_blind h
      | (simp (config := {zetaDelta := true}) only [Exit.then, Exit.inBlock] at h ⊢; first | exact Grow.bodyPost_blind h | exact h)
  simp only [Grow.Plan.wp, Grow.pick, List.getElem?_cons_zero, List.getElem?_cons_succ, List.cons_append, List.nil_append]
  repeat (go_big_quiet_step (fail))
  refine wpQuiet_nil ?_
  go_wp2_with (first
    | (go_at_call 59; go_loud ((with_reducible refine (AQ.out).mono ?_); rintro e w2 ⟨rfl, cu, h1, h2, h3, h4, h5⟩; have H1 := Lib.hid h1; have H2 := Lib.hid h2; have H3 := Lib.hid h3; have H5 := Lib.hid (grown_trans (grown_below (some g) K5.out) h5); have hm2 : 1 < cu.size := (by rw [h2]; omega); have f2 := h1.frozen 1; have l2 := h1.lt; obtain ⟨u, e2⟩ : ∃ u, w2.cell? ⟨g, 1, none⟩ = some u := ⟨_, by rw [h1.cell]; exact Array.getElem?_eq_getElem hm2⟩; have NQ := Lib.hid (NO.out g cap _ k1 k2 (sum_cells hxl h1 hm2 h3)); clear h1 h2 h3 h4 h5))
    | (go_at_call 90; ((with_reducible refine NQ.out.mono ?_); rintro e w4 ⟨rfl, hg4⟩; have HG4 := Lib.hid hg4; clear hg4)))
  go_ret
  exact nat_end (by rw [sumAll_length, hxl]) DG.out (H1.out.set 1 _) (by simp [H2.out]) k1 k2 (sum_take hxl hm2 H3.out) (bset_grown H5.out 1 _) K6.out HG4.out
set_option maxRecDepth 100000 in
set_option maxHeartbeats 16000000 in
theorem addN_21 (w : World) (v : Value) (gx gy cx cy : Nat) (curx : Array Value) (x y : List Nat) (hz : Rz w v) (hxl : x.length = 2) (hyl : y.length = 1) (hx : Small x) (hy : Small y) (hbx : Blk w gx curx)
    (hcx : ∀ j, j < x.length → w.cell? ⟨gx, j, none⟩ = some (.int .u64 (x.getD j 0 : Nat))) (hcy : ∀ j, j < 1 → w.cell? ⟨gy, j, none⟩ = some (.int .u64 (y.getD j 0 : Nat))) (hmx : 2 ≤ cx) (hny : 1 ≤ cy) :
    Calls Tryz.prog 65 #[v, .slice (some ⟨gx, 0, none⟩) 2 cx, .slice (some ⟨gy, 0, none⟩) 1 cy] w fun e w' => NatPost v (dig (val x + val y)) w e w' := by
  have MK := Lib.hid (show Calls Tryz.prog 87 #[v, .int .i64 3] w (MkPost v 3 w) from make_any w v 3 hz (by omega) (by omega))
  have AV := Lib.hid (fun X g cap cur (hb : Blk X g cur) (hs : cur.size = cap) (hn : 3 ≤ cap) (hB : Below w.heap.size w X) => addVV_walk X g gx gy cap cap cx cy 1 cur x y hx hy hb hs (by omega) (by omega)
    (fun j hj => (hB.cell (World.block_lt_of_cell? _ _ (hcx j hj))).trans (hcx j hj)) (fun j hj => (hB.cell (World.block_lt_of_cell? _ _ (hcy j hj))).trans (hcy j hj)) (by omega))
  have SO := sumUp_over hx hy 1
  have SX := small_getD hx 1
  have NO := Lib.hid (fun g cap X (h1 : 3 ≤ cap) (h2 : cap ≤ 9223372036854775807) (hX : ∀ j, j < 3 → X.cell? ⟨g, j, none⟩ = some (.int .u64 ((sumAll x y).getD j 0 : Nat))) => norm_walk g cap (sumAll x y) X (by rw [sumAll_length]; omega) h2 (by rw [sumAll_length, hxl]; exact hX))
  rw [show (sumAll x y).length = 3 by rw [sumAll_length, hxl]] at NO
  have DG := Lib.hid (sumAll_dig hx hy (by omega))
  rw [show (sumAll x y).length = 3 by rw [sumAll_length, hxl]] at DG
  have HBX := Lib.hid hbx
  have ent := enters_addVV
  clear hz hcx hcy hbx
  have x1 : (1 : Int) ≤ (cx : Int) := by omega
  have x2 : (1 : Int) ≤ (cy : Int) := by omega
  go_enter Tryz.func65, Tryz.ntmps65
  go_upto_region 10 with (first
    | (go_at_call 87; go_loud ((with_reducible refine (MK.out).mono ?_); rintro e w1 ⟨g, cap, cur, rfl, k1, k2, k3, k4, k5, k6⟩; have AQ := Lib.hid (AV.out w1.drew g cap cur k3.drew k4 k1 (grow_drew k5)); have K5 := Lib.hid (grow_drew k5 : Below w.heap.size w w1.drew); have K6 := Lib.hid k6; have BX1 := Lib.hid (HBX.out.grown (grown_below none (grow_drew k5)) (by simp)); clear k3 k4 k5 k6)))
  have z1 : (1 : Int) ≤ (cap : Int) := by omega
  have z2 : (2 : Int) ≤ (cap : Int) := by omega
  refine Grow.wp_region_plan (.quiet [0, 1, 2, 3, 4, 5, 6, 7, 8] (.tail [9, 10])) (by kernel_rfl) (by kernel_rfl) (by kernel_rfl) (by kernel_rfl) ?_ ?_
  · intro c aa d v ww h
    first
      | exact Grow.bodyPost_blind h
      | (simp (config := {zetaDelta := true}) only [Exit.then, Exit.inBlock] at h ⊢; first | exact Grow.bodyPost_blind h | exact h)
  simp only [Grow.Plan.wp, Grow.pick, List.getElem?_cons_zero, List.getElem?_cons_succ, List.cons_append, List.nil_append]
  repeat (go_big_quiet_step (fail))
  refine wpQuiet_nil ?_
  go_upto_region 12 with (first
    | (go_at_call 59; go_loud ((with_reducible refine (AQ.out).mono ?_); rintro e w2 ⟨rfl, cu, h1, h2, h3, h4, h5⟩; have H1 := Lib.hid h1; have H2 := Lib.hid h2; have H3 := Lib.hid h3; have H5 := Lib.hid (grown_trans (grown_below (some g) K5.out) h5); have H4 := Lib.hid (h4 1 (by omega) (by omega)); obtain ⟨curx2, hx2⟩ := blk_after BX1.out h5 h1; have HX2 := Lib.hid hx2; clear h1 h2 h3 h4 h5 hx2)))
  have AW := Lib.hid (addVW1_walk w2.drew g gx (cap - 1) (cx - 1) cu curx2 (x.getD 1 0) (sumUp x y 1).2 SX (by omega) H1.out.drew (by rw [H2.out]; omega) HX2.out.drew (by rw [← HX2.out.cell]; exact H4.out) (by omega) (by omega))
  have ST := Lib.hid (sum_two (x := x) hyl)
  generalize (x.getD 1 0 + (sumUp x y 1).2 + 0) / 18446744073709551616 = q at *
  generalize (x.getD 1 0 + (sumUp x y 1).2 + 0) % 18446744073709551616 = r at *
  have z3 : (1 : Int) < (cx : Int) := by omega
  have z4 : (1 : Int) < (cap : Int) := by omega
  refine Grow.wp_region_plan (.quiet [0, 1, 2, 3, 4, 5, 6, 7] (.tail [8, 9])) (by kernel_rfl) (by kernel_rfl) (by kernel_rfl) (by kernel_rfl) ?_ ?_
  · intro c aa d v ww h
    first
      | exact Grow.bodyPost_blind h
      | (simp (config := {zetaDelta := true}) only [Exit.then, Exit.inBlock] at h ⊢; first | exact Grow.bodyPost_blind h | exact h)
  simp only [Grow.Plan.wp, Grow.pick, List.getElem?_cons_zero, List.getElem?_cons_succ, List.cons_append, List.nil_append]
  repeat (go_big_quiet_step (fail))
  refine wpQuiet_nil ?_
  have T2 := Lib.hid (show (cu.setIfInBounds 1 (.int .u64 (r : Nat))).toList.take 2 = WL (sumUp x y 2).1 by rw [take_snoc H3.out (by rw [H2.out]; omega), ST.out]; simp [WL])
  have hq : q = (sumUp x y 2).2 := by rw [ST.out]
  subst hq
  go_wp2_with (first
    | (go_at_call 89; go_loud ((with_reducible refine (AW.out).mono ?_); rintro e w3 ⟨rfl, h1, h2⟩; have J1 := Lib.hid h1; have J2 := Lib.hid (grown_trans (grown_trans H5.out (grown_below _ (grow_drew (grow_refl _)))) h2); have hm2 : 2 < (cu.setIfInBounds 1 (.int .u64 (r : Nat))).size := (by simp [H2.out]; omega); have f2 := h1.frozen 2; have l2 := h1.lt; obtain ⟨u, e2⟩ : ∃ u, w3.cell? ⟨g, 2, none⟩ = some u := ⟨_, by rw [h1.cell]; exact Array.getElem?_eq_getElem hm2⟩; have NQ := Lib.hid (NO.out g cap _ k1 k2 (sum_cells hxl h1 hm2 T2.out)); clear h1 h2))
    | (go_at_call 90; ((with_reducible refine NQ.out.mono ?_); rintro e w4 ⟨rfl, hg4⟩; have HG4 := Lib.hid hg4; clear hg4)))
  go_ret
  exact nat_end (by rw [sumAll_length, hxl]) DG.out (J1.out.set 2 _) (by simp [H2.out]) k1 k2 (sum_take hxl hm2 T2.out) (bset_grown J2.out 2 _) K6.out HG4.out
set_option maxRecDepth 100000 in
set_option maxHeartbeats 16000000 in
theorem addN_22 (w : World) (v : Value) (gx gy cx cy : Nat) (curx : Array Value) (x y : List Nat) (hz : Rz w v) (hxl : x.length = 2) (hyl : y.length = 2) (hx : Small x) (hy : Small y) (hbx : Blk w gx curx)
    (hcx : ∀ j, j < x.length → w.cell? ⟨gx, j, none⟩ = some (.int .u64 (x.getD j 0 : Nat))) (hcy : ∀ j, j < 2 → w.cell? ⟨gy, j, none⟩ = some (.int .u64 (y.getD j 0 : Nat))) (hmx : 2 ≤ cx) (hny : 2 ≤ cy) :
    Calls Tryz.prog 65 #[v, .slice (some ⟨gx, 0, none⟩) 2 cx, .slice (some ⟨gy, 0, none⟩) 2 cy] w fun e w' => NatPost v (dig (val x + val y)) w e w' := by
  have MK := Lib.hid (show Calls Tryz.prog 87 #[v, .int .i64 3] w (MkPost v 3 w) from make_any w v 3 hz (by omega) (by omega))
  have AV := Lib.hid (fun X g cap cur (hb : Blk X g cur) (hs : cur.size = cap) (hn : 3 ≤ cap) (hB : Below w.heap.size w X) => addVV_walk X g gx gy cap cap cx cy 2 cur x y hx hy hb hs (by omega) (by omega)
    (fun j hj => (hB.cell (World.block_lt_of_cell? _ _ (hcx j hj))).trans (hcx j hj)) (fun j hj => (hB.cell (World.block_lt_of_cell? _ _ (hcy j hj))).trans (hcy j hj)) (by omega))
  have SO := sumUp_over hx hy 2
  have SX := small_getD hx 1
  have NO := Lib.hid (fun g cap X (h1 : 3 ≤ cap) (h2 : cap ≤ 9223372036854775807) (hX : ∀ j, j < 3 → X.cell? ⟨g, j, none⟩ = some (.int .u64 ((sumAll x y).getD j 0 : Nat))) => norm_walk g cap (sumAll x y) X (by rw [sumAll_length]; omega) h2 (by rw [sumAll_length, hxl]; exact hX))
  rw [show (sumAll x y).length = 3 by rw [sumAll_length, hxl]] at NO
  have DG := Lib.hid (sumAll_dig hx hy (by omega))
  rw [show (sumAll x y).length = 3 by rw [sumAll_length, hxl]] at DG
  have HBX := Lib.hid hbx
  have ent := enters_addVV
  clear hz hcx hcy hbx
  have x1 : (2 : Int) ≤ (cx : Int) := by omega
  have x2 : (2 : Int) ≤ (cy : Int) := by omega
  go_enter Tryz.func65, Tryz.ntmps65
  go_upto_region 10 with (first
    | (go_at_call 87; go_loud ((with_reducible refine (MK.out).mono ?_); rintro e w1 ⟨g, cap, cur, rfl, k1, k2, k3, k4, k5, k6⟩; have AQ := Lib.hid (AV.out w1.drew g cap cur k3.drew k4 k1 (grow_drew k5)); have K5 := Lib.hid (grow_drew k5 : Below w.heap.size w w1.drew); have K6 := Lib.hid k6; have BX1 := Lib.hid (HBX.out.grown (grown_below none (grow_drew k5)) (by simp)); clear k3 k4 k5 k6)))
  have z1 : (2 : Int) ≤ (cap : Int) := by omega
  have z2 : (2 : Int) ≤ (cap : Int) := by omega
  refine Grow.wp_region_plan (.quiet [0, 1, 2, 3, 4, 5, 6, 7, 8] (.tail [9, 10])) (by kernel_rfl) (by kernel_rfl) (by kernel_rfl) (by kernel_rfl) ?_ ?_
  · intro c aa d v ww h
    first
      | exact Grow.bodyPost_blind h
      | (simp (config := {zetaDelta := true}) only [Exit.then, Exit.inBlock] at h ⊢; first | exact Grow.bodyPost_blind h | exact h)
  simp only [Grow.Plan.wp, Grow.pick, List.getElem?_cons_zero, List.getElem?_cons_succ, List.cons_append, List.nil_append]
  repeat (go_big_quiet_step (fail))
  refine wpQuiet_nil ?_
  go_wp2_with (first
    | (go_at_call 59; go_loud ((with_reducible refine (AQ.out).mono ?_); rintro e w2 ⟨rfl, cu, h1, h2, h3, h4, h5⟩; have H1 := Lib.hid h1; have H2 := Lib.hid h2; have H3 := Lib.hid h3; have H5 := Lib.hid (grown_trans (grown_below (some g) K5.out) h5); have hm2 : 2 < cu.size := (by rw [h2]; omega); have f2 := h1.frozen 2; have l2 := h1.lt; obtain ⟨u, e2⟩ : ∃ u, w2.cell? ⟨g, 2, none⟩ = some u := ⟨_, by rw [h1.cell]; exact Array.getElem?_eq_getElem hm2⟩; have NQ := Lib.hid (NO.out g cap _ k1 k2 (sum_cells hxl h1 hm2 h3)); clear h1 h2 h3 h4 h5))
    | (go_at_call 90; ((with_reducible refine NQ.out.mono ?_); rintro e w4 ⟨rfl, hg4⟩; have HG4 := Lib.hid hg4; clear hg4)))
  go_ret
  exact nat_end (by rw [sumAll_length, hxl]) DG.out (H1.out.set 2 _) (by simp [H2.out]) k1 k2 (sum_take hxl hm2 H3.out) (bset_grown H5.out 2 _) K6.out HG4.out
end Go.Proofs.YtlnbeildplafbaaGreatDoor
