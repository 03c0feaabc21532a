/- Digits to the base of a million: differences. Nothing of a program stands here. -/
import Derived.Test.YtlnbeildplafbaaGreatDoorBh
import Derived.Test.YtlnbeildplafbaaGreatDoorEb3
import Derived.Test.YtlnbeildplafbaaGreatDoorAp1
set_option linter.unusedSimpArgs false
set_option linter.unusedVariables false
namespace Go.Bg

theorem val_cons (d : Nat) (l : List Nat) : val (d :: l) = d + 1000000 * val l := rfl
theorem Small.take {l : List Nat} (h : Small l) (k : Nat) : Small (l.take k) := fun x hx => h x (List.mem_of_mem_take hx)
theorem Small.drop {l : List Nat} (h : Small l) (k : Nat) : Small (l.drop k) := fun x hx => h x (List.mem_of_mem_drop hx)
theorem Small.get {l : List Nat} (h : Small l) {k : Nat} (hk : k < l.length) : l[k] < 1000000 := h _ (List.getElem_mem hk)
theorem Small.snoc {l : List Nat} (h : Small l) {d : Nat} (hd : d < 1000000) : Small (l ++ [d]) := fun x hx => by
  rcases List.mem_append.1 hx with h1 | h1
  · exact h x h1
  · simp at h1; omega
theorem val_snoc (l : List Nat) (d : Nat) : val (l ++ [d]) = val l + d * 1000000 ^ l.length := by
  rw [val_append]
  show _ + _ * (d + 1000000 * 0) = _
  rw [Nat.mul_zero, Nat.add_zero, Nat.mul_comm]
theorem small_getD {x : List Nat} (h : Small x) (k : Nat) : x.getD k 0 < 1000000 := by
  by_cases hk : k < x.length
  · rw [List.getD_eq_getElem?_getD, List.getElem?_eq_getElem hk]
    exact h.get hk
  · rw [List.getD_eq_getElem?_getD, List.getElem?_eq_none (by omega)]
    decide
theorem val_takeD (x : List Nat) (k : Nat) : val (x.take (k + 1)) = val (x.take k) + x.getD k 0 * 1000000 ^ k := by
  by_cases hk : k < x.length
  · rw [val_take_succ x k hk, List.getD_eq_getElem?_getD, List.getElem?_eq_getElem hk]
    rfl
  · rw [List.take_of_length_le (by omega), List.take_of_length_le (by omega), List.getD_eq_getElem?_getD, List.getElem?_eq_none (by omega)]
    simp
/-- Differences, word by word: what stands, what is lent. -/
def difUp (x y : List Nat) : Nat → List Nat × Nat
  | 0 => ([], 0)
  | k + 1 => ((difUp x y k).1 ++ [(x.getD k 0 + 1000000 - y.getD k 0 - (difUp x y k).2) % 1000000], if x.getD k 0 < y.getD k 0 + (difUp x y k).2 then 1 else 0)
theorem difUp_length (x y : List Nat) : ∀ k, (difUp x y k).1.length = k
  | 0 => rfl
  | k + 1 => by rw [difUp, List.length_append, difUp_length x y k]; rfl
theorem difUp_small (x y : List Nat) : ∀ k, Small (difUp x y k).1
  | 0 => fun d h => by cases h
  | k + 1 => by
    rw [difUp]
    exact (difUp_small x y k).snoc (Nat.mod_lt _ (by decide))
theorem difUp_over (x y : List Nat) : ∀ k, (difUp x y k).2 ≤ 1
  | 0 => Nat.zero_le _
  | k + 1 => by
    rw [difUp]
    show (if _ then 1 else 0) ≤ 1
    split <;> omega
theorem step_dif {a b c v p q r s t : Nat} (h : v + b = a + c * p) (e : q + t + c = r + s * 1000000) :
    v + q * p + (b + t * p) = a + r * p + s * (p * 1000000) := by
  have e2 : q * p + t * p + c * p = r * p + s * 1000000 * p := by rw [← Nat.add_mul, ← Nat.add_mul, e, Nat.add_mul]
  have e3 : s * (p * 1000000) = s * 1000000 * p := by rw [Nat.mul_comm p, Nat.mul_assoc]
  omega
theorem difUp_val {x y : List Nat} (hx : Small x) (hy : Small y) : ∀ k, val (difUp x y k).1 + val (y.take k) = val (x.take k) + (difUp x y k).2 * 1000000 ^ k
  | 0 => by simp [difUp, val]
  | k + 1 => by
    have h := difUp_val hx hy k
    have h1 := difUp_over x y k
    have h2 := small_getD hx k
    have h3 := small_getD hy k
    rw [difUp, val_snoc, difUp_length, val_takeD, val_takeD, Nat.pow_succ]
    generalize difUp x y k = z at *
    obtain ⟨z, c⟩ := z
    simp only at *
    generalize x.getD k 0 = a at *
    generalize y.getD k 0 = b at *
    refine step_dif h ?_
    split <;> omega
theorem difUp_none {x y : List Nat} (hx : Small x) (hy : Small y) (hl : y.length ≤ x.length) (h : val y ≤ val x) : (difUp x y x.length).2 = 0 ∧ val (difUp x y x.length).1 = val x - val y := by
  have h1 := difUp_val hx hy x.length
  have h2 := difUp_over x y x.length
  have h3 := val_lt (difUp_small x y x.length)
  rw [difUp_length] at h3
  rw [List.take_of_length_le (Nat.le_refl _), List.take_of_length_le hl] at h1
  generalize (difUp x y x.length).2 = c at *
  rcases Nat.lt_or_ge 0 c with hc | hc
  · obtain rfl : c = 1 := by omega
    omega
  · obtain rfl : c = 0 := by omega
    refine ⟨rfl, by omega⟩
theorem difUp_dig {x y : List Nat} (hx : Small x) (hy : Small y) (hl : y.length ≤ x.length) (h : val y ≤ val x) : (difUp x y x.length).1.take (cutTo (difUp x y x.length).1 x.length) = dig (val x - val y) := by
  have h1 := cut_dig (difUp_small x y x.length)
  rw [difUp_length] at h1
  rw [h1, (difUp_none hx hy hl h).2]
end Go.Bg
/- The document's large numbers: a difference. -/
set_option linter.unusedSimpArgs false
set_option linter.unusedVariables false
namespace Go.Proofs.YtlnbeildplafbaaGreatDoor
open Go.RowKit Go.Grow Go.Bg

def SubInv (W : World) (x y : List Nat) (v5 v6 v7 : Value) (wr : World) : Prop :=
  ∃ k : Nat, k ≤ x.length ∧ v7 = .int .i64 (k : Nat) ∧ v6 = .int .i64 ((difUp x y k).2 : Nat) ∧ wr.ownsRow W.heap.size 3 1 v5 k (vL (difUp x y k).1) ∧ Below W.heap.size W wr
set_option maxRecDepth 100000 in
set_option maxHeartbeats 16000000 in
theorem bigSub_walk (b o c1 : Nat) (r2 : Option Addr) (c2 : Nat) (x y : List Nat) (w : World) (hx : Small x) (hy : Small y) (hl : x.length ≤ 1000) (h0 : 0 < x.length) (hyl : y.length ≤ x.length)
    (h1 : ∀ k, k < x.length → w.cell? ⟨b, o + k, none⟩ = some (.int .i64 (x.getD k 0 : Nat))) (h2 : DgAt w r2 y) :
    Calls Tryz.prog 72 #[.slice (some ⟨b, o, none⟩) x.length c1, .slice r2 y.length c2] w fun e w' => ∃ g c, e = .returned (.slice (some ⟨g, 0, none⟩) (cutTo (difUp x y x.length).1 x.length) c) ∧ DgAt w' (some ⟨g, 0, none⟩) ((difUp x y x.length).1.take (cutTo (difUp x y x.length).1 x.length)) ∧ Below w.heap.size w w' := by
  obtain ⟨i0, hi, hz0, hz1, hz2⟩ := info_parts info_in
  have HI := Lib.hid hi
  have HZ0 := Lib.hid hz0
  have HZ1 := Lib.hid hz1
  have HZ2 := Lib.hid hz2
  have H1 := Lib.hid h1
  have H2 := Lib.hid h2
  have TR := Lib.hid (fun g c X (hc : x.length ≤ c) (hr : ∀ k, k < x.length → X.cell? ⟨g, k, none⟩ = some (.int .i64 ((difUp x y x.length).1.getD k 0 : Nat))) (hg : g < X.heap.size) => (show Calls Tryz.prog 83 #[.slice (some ⟨g, 0, none⟩) x.length c] X (TrimPost g (cutTo (difUp x y x.length).1 x.length) c X) from by
    have h := trimmed_walk g c (difUp x y x.length).1 X (by rw [difUp_length]; omega) (by rw [difUp_length]; exact hc) (fun k hk => by
      have := hr k (by rw [difUp_length] at hk; exact hk)
      rw [this, List.getD_eq_getElem?_getD, List.getElem?_eq_getElem hk]
      rfl) hg
    rw [difUp_length] at h
    exact h))
  clear hi hz0 hz1 hz2 h1 h2
  go_enter Tryz.func72, Tryz.ntmps72
  go_wp2
  go_loopw [5, 6, 7] (fun v5 v6 v7 wr => SubInv w x y v5 v6 v7 wr) (fun _ _ i _ => x.length - (intOf i).toNat)
  case atStart => exact ⟨0, Nat.zero_le _, rfl, rfl, World.ownsRow_nil _ _ _ _, Below.refl _ _⟩
  case round =>
    obtain ⟨k, hk, rfl, rfl, hown, hg⟩ := hrel
    have O := Lib.hid hown
    have G := Lib.hid hg
    clear hown hg
    by_cases hlt : k < x.length
    · have d1 : (k : Int) < (x.length : Int) := by omega
      have d0 : (0 : Int) ≤ (k : Int) := by omega
      have e1 := (G.out.cell (World.block_lt_of_cell? _ _ (H1.out k hlt))).trans (H1.out k hlt)
      have l1 : b < wr.heap.size := World.block_lt_of_cell? wr _ e1
      have hbr := difUp_over x y k
      have hxk := small_getD hx k
      have hyk := small_getD hy k
      have HU := Lib.hid (show difUp x y (k + 1) = ((difUp x y k).1 ++ [(x.getD k 0 + 1000000 - y.getD k 0 - (difUp x y k).2) % 1000000], if x.getD k 0 < y.getD k 0 + (difUp x y k).2 then 1 else 0) from rfl)
      have HL := Lib.hid (difUp_length x y k)
      have hz := G.out.size
      by_cases hky : k < y.length
      · obtain ⟨b2, o2, rfl, hc2⟩ := H2.out.resolve_left (by intro h; rw [h] at hky; exact absurd hky (by simp))
        have e2' : w.cell? ⟨b2, o2 + k, none⟩ = some (.int .i64 (y.getD k 0 : Nat)) := by
          have := hc2 k hky
          rw [this]
          simp [hky]
        have e2 := (G.out.cell (World.block_lt_of_cell? _ _ e2')).trans e2'
        have l2 : b2 < wr.heap.size := World.block_lt_of_cell? wr _ e2
        have d2 : (k : Int) < (y.length : Int) := by omega
        clear hc2 e2'
        generalize x.getD k 0 = xk at *
        generalize y.getD k 0 = yk at *
        generalize hds : difUp x y k = ds at *
        obtain ⟨D, c⟩ := ds
        simp only at hbr HU HL
        by_cases hn : xk < yk + c
        · have m1 : wrap64 ((xk : Int) - (c : Int)) = (xk : Int) - (c : Int) := wrap64_mid (by omega)
          have m2 : wrap64 ((xk : Int) - (c : Int) - (yk : Int)) = (xk : Int) - (c : Int) - (yk : Int) := wrap64_mid (by omega)
          obtain ⟨dd, hdd⟩ : ∃ d : Nat, (xk + 1000000 - yk - c) % 1000000 = d := ⟨_, rfl⟩
          have dk : decide ((xk : Int) - (c : Int) - (yk : Int) < 0) = true := decide_eq_true (by omega)
          have m3 : wrap64 ((xk : Int) - (c : Int) - (yk : Int) + 1000000) = (xk : Int) - (c : Int) - (yk : Int) + 1000000 := wrap64_mid (by omega)
          have EE := Lib.hid (show (xk : Int) - (c : Int) - (yk : Int) + 1000000 = (dd : Int) by omega)
          rw [hdd, if_pos hn] at HU
          clear hdd hn
          have C3 := Lib.hid (show k + 1 ≤ maxLen by unfold maxLen; omega)
          have C4 := Lib.hid (show (k + 1) * 8 ≤ 140737488355328 by omega)
          have C5 := Lib.hid (show w.heap.size ≤ (wr.alloc (.cells (vL [dd]).toArray 3)).heap.size by simp; omega)
          go_upto_region 13 with (fail)
          simp only [EE.out]
          go_wp2_with (at_builtin; refine wpList_append_own _ rfl _ _ 107 rfl w.heap.size 3 i0 (.int .i64 0) 1 8 Tryz.underlying107 HI.out HZ0.out HZ1.out HZ2.out rfl (by decide) _ _ _ rfl (O.out.alloc _) ⟨wr.heap.size, 0, none⟩ 1 1 (vL [dd]) rfl rfl (news_vl wr [dd] 3) (vl_cell _) C3.out C4.out C5.out ?_)
          intro v' w1' hown' hg' _
          have HO2 := Lib.hid hown'
          have HG2 := Lib.hid hg'
          clear hown' hg'
          go_wp2
          go_roundw
          case rel =>
            refine ⟨k + 1, by omega, by go_num, by rw [HU.out]; rfl, ?_, below_grownS (G.out.alloc hz _) (by simp; omega) HG2.out (fun k hk => (O.out.lt k hk).1)⟩
            rw [HU.out, vL_append]
            exact HO2.out
          case measure => simp [intOf]; omega
        · have m1 : wrap64 ((xk : Int) - (c : Int)) = (xk : Int) - (c : Int) := wrap64_mid (by omega)
          have m2 : wrap64 ((xk : Int) - (c : Int) - (yk : Int)) = (xk : Int) - (c : Int) - (yk : Int) := wrap64_mid (by omega)
          obtain ⟨dd, hdd⟩ : ∃ d : Nat, (xk + 1000000 - yk - c) % 1000000 = d := ⟨_, rfl⟩
          have dk : decide ((xk : Int) - (c : Int) - (yk : Int) < 0) = false := decide_eq_false (by omega)
          have EE := Lib.hid (show (xk : Int) - (c : Int) - (yk : Int) = (dd : Int) by omega)
          rw [hdd, if_neg hn] at HU
          clear hdd hn
          have C3 := Lib.hid (show k + 1 ≤ maxLen by unfold maxLen; omega)
          have C4 := Lib.hid (show (k + 1) * 8 ≤ 140737488355328 by omega)
          have C5 := Lib.hid (show w.heap.size ≤ (wr.alloc (.cells (vL [dd]).toArray 3)).heap.size by simp; omega)
          go_upto_region 13 with (fail)
          simp only [EE.out]
          go_wp2_with (at_builtin; refine wpList_append_own _ rfl _ _ 107 rfl w.heap.size 3 i0 (.int .i64 0) 1 8 Tryz.underlying107 HI.out HZ0.out HZ1.out HZ2.out rfl (by decide) _ _ _ rfl (O.out.alloc _) ⟨wr.heap.size, 0, none⟩ 1 1 (vL [dd]) rfl rfl (news_vl wr [dd] 3) (vl_cell _) C3.out C4.out C5.out ?_)
          intro v' w1' hown' hg' _
          have HO2 := Lib.hid hown'
          have HG2 := Lib.hid hg'
          clear hown' hg'
          go_wp2
          go_roundw
          case rel =>
            refine ⟨k + 1, by omega, by go_num, by rw [HU.out]; rfl, ?_, below_grownS (G.out.alloc hz _) (by simp; omega) HG2.out (fun k hk => (O.out.lt k hk).1)⟩
            rw [HU.out, vL_append]
            exact HO2.out
          case measure => simp [intOf]; omega
      · have hy0 : y.getD k 0 = 0 := by rw [List.getD_eq_getElem?_getD, List.getElem?_eq_none (by omega)]; rfl
        have d2 : ¬ (k : Int) < (y.length : Int) := by omega
        rw [hy0] at HU
        clear hyk
        generalize x.getD k 0 = xk at *
        generalize hds : difUp x y k = ds at *
        obtain ⟨D, c⟩ := ds
        simp only at hbr HU HL
        by_cases hn : xk < 0 + c
        · have m1 : wrap64 ((xk : Int) - (c : Int)) = (xk : Int) - (c : Int) := wrap64_mid (by omega)
          obtain ⟨dd, hdd⟩ : ∃ d : Nat, (xk + 1000000 - 0 - c) % 1000000 = d := ⟨_, rfl⟩
          have dk : decide ((xk : Int) - (c : Int) < 0) = true := decide_eq_true (by omega)
          have m3 : wrap64 ((xk : Int) - (c : Int) + 1000000) = (xk : Int) - (c : Int) + 1000000 := wrap64_mid (by omega)
          have EE := Lib.hid (show (xk : Int) - (c : Int) + 1000000 = (dd : Int) by omega)
          rw [hdd, if_pos hn] at HU
          clear hdd hn
          have C3 := Lib.hid (show k + 1 ≤ maxLen by unfold maxLen; omega)
          have C4 := Lib.hid (show (k + 1) * 8 ≤ 140737488355328 by omega)
          have C5 := Lib.hid (show w.heap.size ≤ (wr.alloc (.cells (vL [dd]).toArray 3)).heap.size by simp; omega)
          go_upto_region 13 with (fail)
          simp only [EE.out]
          go_wp2_with (at_builtin; refine wpList_append_own _ rfl _ _ 107 rfl w.heap.size 3 i0 (.int .i64 0) 1 8 Tryz.underlying107 HI.out HZ0.out HZ1.out HZ2.out rfl (by decide) _ _ _ rfl (O.out.alloc _) ⟨wr.heap.size, 0, none⟩ 1 1 (vL [dd]) rfl rfl (news_vl wr [dd] 3) (vl_cell _) C3.out C4.out C5.out ?_)
          intro v' w1' hown' hg' _
          have HO2 := Lib.hid hown'
          have HG2 := Lib.hid hg'
          clear hown' hg'
          go_wp2
          go_roundw
          case rel =>
            refine ⟨k + 1, by omega, by go_num, by rw [HU.out]; rfl, ?_, below_grownS (G.out.alloc hz _) (by simp; omega) HG2.out (fun k hk => (O.out.lt k hk).1)⟩
            rw [HU.out, vL_append]
            exact HO2.out
          case measure => simp [intOf]; omega
        · have m1 : wrap64 ((xk : Int) - (c : Int)) = (xk : Int) - (c : Int) := wrap64_mid (by omega)
          obtain ⟨dd, hdd⟩ : ∃ d : Nat, (xk + 1000000 - 0 - c) % 1000000 = d := ⟨_, rfl⟩
          have dk : decide ((xk : Int) - (c : Int) < 0) = false := decide_eq_false (by omega)
          have EE := Lib.hid (show (xk : Int) - (c : Int) = (dd : Int) by omega)
          rw [hdd, if_neg hn] at HU
          clear hdd hn
          have C3 := Lib.hid (show k + 1 ≤ maxLen by unfold maxLen; omega)
          have C4 := Lib.hid (show (k + 1) * 8 ≤ 140737488355328 by omega)
          have C5 := Lib.hid (show w.heap.size ≤ (wr.alloc (.cells (vL [dd]).toArray 3)).heap.size by simp; omega)
          go_upto_region 13 with (fail)
          simp only [EE.out]
          go_wp2_with (at_builtin; refine wpList_append_own _ rfl _ _ 107 rfl w.heap.size 3 i0 (.int .i64 0) 1 8 Tryz.underlying107 HI.out HZ0.out HZ1.out HZ2.out rfl (by decide) _ _ _ rfl (O.out.alloc _) ⟨wr.heap.size, 0, none⟩ 1 1 (vL [dd]) rfl rfl (news_vl wr [dd] 3) (vl_cell _) C3.out C4.out C5.out ?_)
          intro v' w1' hown' hg' _
          have HO2 := Lib.hid hown'
          have HG2 := Lib.hid hg'
          clear hown' hg'
          go_wp2
          go_roundw
          case rel =>
            refine ⟨k + 1, by omega, by go_num, by rw [HU.out]; rfl, ?_, below_grownS (G.out.alloc hz _) (by simp; omega) HG2.out (fun k hk => (O.out.lt k hk).1)⟩
            rw [HU.out, vL_append]
            exact HO2.out
          case measure => simp [intOf]; omega
    · obtain rfl : k = x.length := by omega
      have hown := O.out
      have hlen := difUp_length x y x.length
      obtain ⟨_, ⟨_, hn0⟩ | ⟨g, cap, cur, rfl, hbg, hgg, hnc, hcm, hcs, htk⟩⟩ := hown
      · omega
      · have hcell : ∀ j, j < x.length → wr.cell? ⟨g, j, none⟩ = some (.int .i64 ((difUp x y x.length).1.getD j 0 : Nat)) := fun j hj => by
          refine owns_cellsS O.out j _ ?_
          unfold vL
          rw [List.getElem?_map, List.getD_eq_getElem?_getD, List.getElem?_eq_getElem (by omega)]
          rfl
        have hgl : g < wr.heap.size := (Array.getElem?_eq_some_iff.1 hgg).1
        have T1 := Lib.hid (TR.out g cap wr hnc hcell hgl)
        have HC := Lib.hid hcell
        clear hcell hgg htk hlen
        go_wp2_with (go_at_call 83; go_loud ((with_reducible refine (T1.out).mono ?_); rintro e w2 ⟨rfl, hb⟩; have HB := Lib.hid hb; clear hb))
        go_ret
        refine ⟨g, cap, rfl, .inr ⟨g, 0, rfl, fun j hj => ?_⟩, grow_trans G.out HB.out⟩
        have hj' : j < x.length := by
          rw [List.length_take, difUp_length] at hj
          omega
        rw [Nat.zero_add]
        refine (HB.out.cell (p := ⟨g, j, none⟩) hgl).trans ((HC.out j hj').trans ?_)
        rw [List.getElem_take, List.getD_eq_getElem?_getD, List.getElem?_eq_getElem (by rw [difUp_length]; exact hj')]
        rfl
end Go.Proofs.YtlnbeildplafbaaGreatDoor
