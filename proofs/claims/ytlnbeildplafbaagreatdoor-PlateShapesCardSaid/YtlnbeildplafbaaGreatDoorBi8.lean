/- Whole numbers of any size in memory: a number times a number of one word, over the first. -/
import Derived.Test.YtlnbeildplafbaaGreatDoorBi4
import Derived.Deep.DeepCutAuto
import Derived.Deep.CutBlock
import Derived.Outline
import Derived.LaidEqlPtr
import Derived.StillTailTactics
import Derived.BigQuiet
set_option linter.unusedSimpArgs false
set_option linter.unusedVariables false
namespace Go.Proofs.YtlnbeildplafbaaGreatDoor
open Go.RowKit Go.Grow Go.Wd

/-- A row that is none, or one from a block's beginning. -/
inductive Rw : Option Addr → Nat → Prop
  | none : Rw none 0
  | some (g cap : Nat) : Rw (some ⟨g, 0, none⟩) cap
set_option maxRecDepth 100000 in
set_option maxHeartbeats 16000000 in
theorem mulN_zero (rz : Option Addr) (lz cz : Nat) (hz : Rw rz cz) (rx ry : Option Addr) (m cx cy : Nat) (w : World) :
    Calls Tryz.prog 96 #[.slice rz lz cz, .pointer none, .slice rx m cx, .slice ry 0 cy] w fun e w' => e = .returned (.slice rz 0 cz) ∧ w' = w := by
  have d1 : ¬ (m : Int) < 0 := by omega
  have d2 : (0 : Int) ≤ (cz : Int) := by omega
  cases hm : ((m : Int) == 0) <;> cases hz <;>
  · go_enter Tryz.func96, Tryz.ntmps96
    go_wp2
    go_ret
    exact ⟨rfl, rfl⟩
set_option maxRecDepth 100000 in
set_option maxHeartbeats 16000000 in
theorem mulN_swap (rz : Option Addr) (lz cz : Nat) (hz : Rw rz cz) (rx ry : Option Addr) (n cx cy : Nat) (hn : 0 < n) (w : World) :
    Calls Tryz.prog 96 #[.slice rz lz cz, .pointer none, .slice rx 0 cx, .slice ry n cy] w fun e w' => e = .returned (.slice rz 0 cz) ∧ w' = w := by
  have d1 : (0 : Int) < (n : Int) := by omega
  have MZ := Lib.hid (fun X => mulN_zero rz lz cz hz ry rx n cy cx X)
  go_enter Tryz.func96, Tryz.ntmps96
  go_wp2_with (go_at_call 96; (with_reducible refine (MZ.out _).mono ?_); rintro e w1 ⟨rfl, rfl⟩)
  go_ret
  exact ⟨rfl, rfl⟩
set_option maxRecDepth 100000 in
set_option maxHeartbeats 16000000 in
theorem mulN_word (w : World) (g cap : Nat) (cur : Array Value) (x : List Nat) (d : Nat) (gy cy : Nat) (hx : Small x) (hd : d < 18446744073709551616) (hd0 : 0 < d) (h1 : 1 ≤ x.length)
    (hb : Blk w g cur) (hs : cur.size = cap) (hm : x.length ≤ cap) (hcap : cap ≤ 9223372036854775807) (hc : ∀ j, j < x.length → cur[j]? = some (.int .u64 (x.getD j 0 : Nat))) (hl : x.length ≤ 100000)
    (hy : w.cell? ⟨gy, 0, none⟩ = some (.int .u64 d)) :
    Calls Tryz.prog 96 #[.slice (some ⟨g, 0, none⟩) x.length cap, .pointer none, .slice (some ⟨g, 0, none⟩) x.length cap, .slice (some ⟨gy, 0, none⟩) 1 cy] w fun e w' => WwPost g (dig (val x * d)) w e w' := by
  have WW := Lib.hid (mulWW_walk w g cap cur x d hx hd hd0 h1 hb hs hm hcap hc hl)
  have d1 : ¬ (x.length : Int) < 1 := by omega
  have q1 : ((x.length : Int) == 0) = false := by simp; intro h; rw [h] at h1; simp at h1
  have l1 : gy < w.heap.size := World.block_lt_of_cell? w _ hy
  clear hb hs hc
  go_enter Tryz.func96, Tryz.ntmps96
  go_wp2_with (go_at_call 128; go_loud ((with_reducible refine (WW.out).mono ?_); rintro e w1 ⟨g', cap', cur', rfl, k1, k2, k3, k4, k5, k6, k7⟩; have PP := Lib.hid (show WwPost g (dig (val x * d)) w (.returned (.slice (some ⟨g', 0, none⟩) (dig (val x * d)).length cap')) w1 from ⟨g', cap', cur', rfl, k1, k2, k3, k4, k5, k6, k7⟩); clear k1 k2 k3 k4 k5 k6 k7))
  go_ret
  exact PP.out
/-- What a product leaves: the row that was, or a new one. -/
def NatPost (v : Value) (l : List Nat) (w : World) (e : Ending) (w' : World) : Prop :=
  ∃ v', e = .returned v' ∧ Wds w' v' l ∧ w.grownBy w' v.ownBlock ∧ (∀ k, v'.ownBlock = some k → v.ownBlock = some k ∨ w.heap.size ≤ k)
theorem WwPost.nat {g n cap : Nat} {l : List Nat} {w w' : World} {e : Ending} (h : WwPost g l w e w') : NatPost (.slice (some ⟨g, 0, none⟩) n cap) l w e w' := by
  obtain ⟨g', cap', cur', rfl, k1, k2, k3, k4, k5, k6, k7⟩ := h
  refine ⟨_, rfl, .inr ⟨g', cap', cur', rfl, k1, k2, k3, k4, k5⟩, k6, fun k hk => ?_⟩
  cases hk
  rcases k7 with rfl | h
  · exact .inl rfl
  · exact .inr h
/-- A number times a number of one word, over the first. -/
theorem mulN_walk (w : World) (v vy : Value) (A d : Nat) (hA : (dig A).length ≤ 100000) (hd : d < 18446744073709551616) (hv : Wds w v (dig A)) (hy : Wds w vy (dig d)) :
    Calls Tryz.prog 96 #[v, .pointer none, v, vy] w fun e w' => NatPost v (dig (A * d)) w e w' := by
  rcases Nat.eq_zero_or_pos d with rfl | hd0
  · obtain ⟨ry, cy, rfl⟩ : ∃ ry cy, vy = .slice ry 0 cy := by
      rw [dig_zero] at hy
      rcases hy with ⟨h, _⟩ | ⟨g, cap, cur, h, _⟩
      · exact ⟨_, _, h⟩
      · exact ⟨_, _, h⟩
    rw [Nat.mul_zero, dig_zero]
    rcases hv with ⟨rfl, hA0⟩ | ⟨g, cap, cur, rfl, k1, k2, k3, k4, k5⟩
    · refine (mulN_zero none 0 0 .none none ry 0 0 cy w).mono ?_
      rintro e w' ⟨rfl, rfl⟩
      exact ⟨_, rfl, .inl ⟨rfl, rfl⟩, grown_refl _ _, fun k hk => by cases hk⟩
    · refine (mulN_zero (some ⟨g, 0, none⟩) _ cap (.some g cap) (some ⟨g, 0, none⟩) ry _ cap cy w).mono ?_
      rintro e w' ⟨rfl, rfl⟩
      exact ⟨_, rfl, .inr ⟨g, cap, cur, rfl, Nat.zero_le _, k2, k3, k4, fun j hj => absurd hj (by simp)⟩, grown_refl _ _, fun k hk => .inl hk⟩
  · rw [dig_one hd0 hd] at hy
    rcases hy with ⟨rfl, h⟩ | ⟨gy, cy, cury, rfl, y1, y2, y3, y4, y5⟩
    · cases h
    · rcases Nat.eq_zero_or_pos A with rfl | hA0
      · rw [Nat.zero_mul, dig_zero]
        rw [dig_zero] at hv
        rcases hv with ⟨rfl, _⟩ | ⟨g, cap, cur, rfl, k1, k2, k3, k4, k5⟩
        · refine (mulN_swap none 0 0 .none none _ 1 0 cy (by omega) w).mono ?_
          rintro e w' ⟨rfl, rfl⟩
          exact ⟨_, rfl, .inl ⟨rfl, rfl⟩, grown_refl _ _, fun k hk => by cases hk⟩
        · refine (mulN_swap (some ⟨g, 0, none⟩) 0 cap (.some g cap) (some ⟨g, 0, none⟩) _ 1 cap cy (by omega) w).mono ?_
          rintro e w' ⟨rfl, rfl⟩
          exact ⟨_, rfl, .inr ⟨g, cap, cur, rfl, Nat.zero_le _, k2, k3, k4, fun j hj => absurd hj (by simp)⟩, grown_refl _ _, fun k hk => .inl hk⟩
      · have hl : 1 ≤ (dig A).length := by rw [dig_pos hA0]; simp
        rcases hv with ⟨rfl, h⟩ | ⟨g, cap, cur, rfl, k1, k2, k3, k4, k5⟩
        · rw [h] at hl; exact absurd hl (by simp)
        · have hw := y5 0 (by simp)
          refine (mulN_word w g cap cur (dig A) d gy cy (small_dig A) hd hd0 hl k3 k4 k1 k2 k5 hA (by rw [y3.cell]; exact hw)).mono ?_
          intro e w' hp
          rw [val_dig] at hp
          exact hp.nat
end Go.Proofs.YtlnbeildplafbaaGreatDoor
/- Whole numbers of any size in memory: new ones; a product over the first. -/
set_option linter.unusedSimpArgs false
set_option linter.unusedVariables false
namespace Go.Proofs.YtlnbeildplafbaaGreatDoor
open Go.RowKit Go.Grow Go.Wd

/-- A number's own block: its sign, its words. -/
def Bx (w : World) (p : Nat) (c : Array Value) : Prop := w.heap[p]? = some (.cells c 76 (0, 0))
theorem Bx.lt {w : World} {g : Nat} {cur : Array Value} (h : Bx w g cur) : g < w.heap.size := (Array.getElem?_eq_some_iff.1 h).1
theorem Bx.cell {w : World} {g : Nat} {cur : Array Value} (h : Bx w g cur) (j : Nat) : w.cell? ⟨g, j, none⟩ = cur[j]? := by
  unfold World.cell?
  rw [show w.heap[(⟨g, j, none⟩ : Addr).block]? = _ from h]
  rfl
theorem Bx.frozen {w : World} {g : Nat} {cur : Array Value} (h : Bx w g cur) (j : Nat) : w.frozen? ⟨g, j, none⟩ = false := by
  unfold World.frozen?
  rw [show w.heap[(⟨g, j, none⟩ : Addr).block]? = _ from h]
  simp
theorem Bx.set {w : World} {g : Nat} {cur : Array Value} (h : Bx w g cur) (j : Nat) (u : Value) : Bx (w.setCell ⟨g, j, none⟩ u) g (cur.setIfInBounds j u) := by
  unfold Bx World.setCell at *
  simp only [Array.getElem?_modify, if_true, h]
  rfl
theorem Bx.grown {w w' : World} {g : Nat} {r : Option Nat} {cur : Array Value} (h : Bx w g cur) (hg : w.grownBy w' r) (hne : some g ≠ r) : Bx w' g cur := (hg.block g h.lt hne).trans h
theorem Bx.below {w w' : World} {g : Nat} {cur : Array Value} (h : Bx w g cur) (hb : Below w.heap.size w w') : Bx w' g cur := (hb.block g h.lt).trans h
theorem Bx.new (w : World) (cur : Array Value) : Bx (w.alloc (.cells cur 76)) w.heap.size cur := heap_alloc_new w _
theorem Bx.new' {w : World} {cur : Array Value} {p : Nat} (h : p = w.heap.size) : Bx (w.alloc (.cells cur 76)) p cur := h ▸ Bx.new w cur
theorem Bx.other {w : World} {g : Nat} {cur : Array Value} (h : Bx w g cur) {b : Nat} (hb : b ≠ g) (j : Nat) (u : Value) : Bx (w.setCell ⟨b, j, none⟩ u) g cur := by
  unfold Bx World.setCell at *
  simp only [Array.getElem?_modify]
  rw [if_neg hb]
  exact h
/-- A whole number in memory, from B on. -/
def IntAt (B : Nat) (w : World) (p : Nat) (n : Int) : Prop :=
  B ≤ p ∧ ∃ v, Bx w p #[.bool (decide (n < 0)), v] ∧ Wds w v (dig n.natAbs) ∧ ∀ k, v.ownBlock = some k → B ≤ k ∧ k ≠ p
theorem Wds.below {w w' : World} {v : Value} {l : List Nat} (h : Wds w v l) (hb : Below w.heap.size w w') : Wds w' v l := by
  rcases h with h | ⟨g, cap, cur, h1, h2, h3, h4, h5, h6⟩
  · exact .inl h
  · exact .inr ⟨g, cap, cur, h1, h2, h3, (hb.block g h4.lt).trans h4, h5, h6⟩
theorem IntAt.below {B : Nat} {w w' : World} {p : Nat} {n : Int} (h : IntAt B w p n) (hb : Below w.heap.size w w') : IntAt B w' p n := by
  obtain ⟨h0, v, h1, h2, h3⟩ := h
  exact ⟨h0, v, h1.below hb, h2.below hb, h3⟩
theorem IntAt.lt {B : Nat} {w : World} {p : Nat} {n : Int} (h : IntAt B w p n) : p < w.heap.size := by
  obtain ⟨_, v, h1, _⟩ := h
  exact h1.lt
def NewPost (x : Int) (w : World) (e : Ending) (w' : World) : Prop := ∃ p, e = .returned (.pointer (some ⟨p, 0, none⟩)) ∧ IntAt w.heap.size w' p x ∧ Below w.heap.size w w'
theorem new_end (w : World) (u : Nat) (x : Int) (hx : dig x.natAbs = [u]) :
    NewPost x w (.returned (.pointer (some ⟨w.heap.size + 1, 0, none⟩))) ((w.alloc (.cells #[.int .u64 (u : Nat)] 119)).alloc (.cells #[.bool (decide (x < 0)), .slice (some ⟨w.heap.size, 0, none⟩) 1 1] 76)) := by
  have hb := Blk.new w #[.int .u64 (u : Nat)]
  have hG : Below (w.alloc (.cells #[.int .u64 (u : Nat)] 119)).heap.size (w.alloc (.cells #[.int .u64 (u : Nat)] 119)) ((w.alloc (.cells #[.int .u64 (u : Nat)] 119)).alloc (.cells #[.bool (decide (x < 0)), .slice (some ⟨w.heap.size, 0, none⟩) 1 1] 76)) := grow_alloc (grow_refl _) _
  refine ⟨_, rfl, ⟨by omega, _, Bx.new' (by simp), ?_, fun k hk => ?_⟩, grow_alloc (grow_alloc (grow_refl _) _) _⟩
  · rw [hx]
    exact .inr ⟨w.heap.size, 1, _, rfl, by simp, by omega, (hG.block _ hb.lt).trans hb, rfl, fun j hj => by
      have : j = 0 := by simpa using hj
      subst this
      rfl⟩
  · cases hk
    exact ⟨Nat.le_refl _, by simp⟩
set_option maxRecDepth 100000 in
set_option maxHeartbeats 16000000 in
theorem newInt_zero (w : World) : Calls Tryz.prog 31 #[.int .i64 0] w (NewPost 0 w) := by
  go_enter Tryz.func31, Tryz.ntmps31
  go_wp2
  go_ret
  refine ⟨w.heap.size, rfl, ⟨Nat.le_refl _, .slice none 0 0, Bx.new w _, ?_, fun k hk => by cases hk⟩, grow_alloc (grow_refl _) _⟩
  show Wds _ _ (dig 0)
  rw [dig_zero]
  exact .inl ⟨rfl, rfl⟩
set_option maxRecDepth 100000 in
set_option maxHeartbeats 16000000 in
theorem newInt_pos (n : Nat) (h0 : 0 < n) (h1 : n ≤ 9223372036854775807) (w : World) : Calls Tryz.prog 31 #[.int .i64 (n : Nat)] w (NewPost (n : Nat) w) := by
  have d0 : ¬ (n : Int) < 0 := by omega
  have d1 : ¬ (n : Int) = 0 := by omega
  have hw : IntKind.u64.wrap (n : Int) = (n : Int) := wrapN n (by omega)
  have E := Lib.hid (new_end w n (n : Nat) (by rw [Int.natAbs_natCast]; exact dig_one h0 (by omega)))
  rw [decide_eq_false d0] at E
  go_enter Tryz.func31, Tryz.ntmps31
  go_wp2
  go_ret
  exact E.out
set_option maxRecDepth 100000 in
set_option maxHeartbeats 16000000 in
theorem newInt_neg (n : Nat) (h0 : 0 < n) (h1 : n ≤ 9223372036854775808) (w : World) : Calls Tryz.prog 31 #[.int .i64 (-(n : Nat))] w (NewPost (-(n : Nat)) w) := by
  have d0 : -(n : Int) < 0 := by omega
  have d1 : ¬ (n : Int) = 0 := by omega
  have d2 : ¬ -(n : Int) = 0 := by omega
  have hw : IntKind.u64.wrap (-(n : Int)) = 18446744073709551616 - (n : Int) := by rw [IntKind.wrap_u64]; omega
  have hw2 : IntKind.u64.wrap (-(18446744073709551616 - (n : Int))) = (n : Int) := by rw [IntKind.wrap_u64]; omega
  have E := Lib.hid (new_end w n (-(n : Nat)) (by rw [Int.natAbs_neg, Int.natAbs_natCast]; exact dig_one h0 (by omega)))
  rw [decide_eq_true d0] at E
  go_enter Tryz.func31, Tryz.ntmps31
  go_wp2
  go_ret
  exact E.out
theorem newInt_walk (x : Int) (h1 : -9223372036854775808 ≤ x) (h2 : x ≤ 9223372036854775807) (w : World) : Calls Tryz.prog 31 #[.int .i64 x] w (NewPost x w) := by
  rcases Int.lt_trichotomy x 0 with h | rfl | h
  · obtain ⟨n, rfl⟩ : ∃ n : Nat, x = -(n : Nat) := ⟨x.natAbs, by omega⟩
    exact newInt_neg n (by omega) (by omega) w
  · exact newInt_zero w
  · obtain ⟨n, rfl⟩ : ∃ n : Nat, x = (n : Nat) := ⟨x.natAbs, by omega⟩
    exact newInt_pos n (by omega) (by omega) w
end Go.Proofs.YtlnbeildplafbaaGreatDoor
/- Whole numbers of any size in memory: Mul over the first. -/
set_option linter.unusedSimpArgs false
set_option linter.unusedVariables false
namespace Go.Proofs.YtlnbeildplafbaaGreatDoor
open Go.RowKit Go.Grow Go.Wd

theorem Wds.blk_lt {w : World} {v : Value} {l : List Nat} (h : Wds w v l) : ∀ k, v.ownBlock = some k → k < w.heap.size := fun k hk => by
  rcases h with ⟨rfl, _⟩ | ⟨g, cap, cur, rfl, _, _, h4, _⟩
  · cases hk
  · cases hk
    exact h4.lt
theorem Wds.slice {w : World} {v : Value} {l : List Nat} (h : Wds w v l) : ∃ r c, v = .slice r l.length c := by
  rcases h with ⟨rfl, rfl⟩ | ⟨g, cap, cur, rfl, _⟩
  · exact ⟨_, _, rfl⟩
  · exact ⟨_, _, rfl⟩
theorem neg_mul (A d : Int) (h : 0 < (A * d).natAbs) : ((decide (A < 0)) != (decide (d < 0))) = decide (A * d < 0) := by
  have hA : A ≠ 0 := fun e => by rw [e, Int.zero_mul] at h; exact absurd h (by decide)
  have hd : d ≠ 0 := fun e => by rw [e, Int.mul_zero] at h; exact absurd h (by decide)
  rcases Int.lt_or_gt_of_ne hA with a | a <;> rcases Int.lt_or_gt_of_ne hd with b | b
  · have := Int.mul_pos_of_neg_of_neg a b
    rw [decide_eq_true a, decide_eq_true b, decide_eq_false (by omega)]; rfl
  · have := Int.mul_neg_of_neg_of_pos a b
    rw [decide_eq_true a, decide_eq_false (by omega), decide_eq_true this]; rfl
  · have := Int.mul_neg_of_pos_of_neg a b
    rw [decide_eq_false (by omega), decide_eq_true b, decide_eq_true this]; rfl
  · have := Int.mul_pos a b
    rw [decide_eq_false (by omega), decide_eq_false (by omega), decide_eq_false (by omega)]; rfl
theorem info_Int : ∃ j, Tryz.prog.info? 76 = some j ∧ j.size ≠ 0 := by
  have h : (Tryz.prog.info? 76).map (fun i => i.size) = some 2 := by kernel_rfl
  cases hi : Tryz.prog.info? 76 with
  | none => rw [hi] at h; cases h
  | some j => rw [hi] at h; exact ⟨j, rfl, by simp at h; omega⟩
theorem ptr_other {w : World} {p q : Nat} {c d : Array Value} (h1 : Bx w p c) (h2 : Bx w q d) (hne : ¬ p = q) : (binOp .eql 72 (.pointer (some ⟨p, 0, none⟩)) (.pointer (some ⟨q, 0, none⟩))).run Tryz.prog w = .ok (.bool false) w := by
  obtain ⟨j, hj, hs⟩ := info_Int
  exact run_eql_ptr_other w Tryz.underlying72 hj hs (fun e => hne (by cases e; rfl)) h1 h2
theorem Blk.other {w : World} {g : Nat} {cur : Array Value} (h : Blk w g cur) {b : Nat} (hb : b ≠ g) (j : Nat) (u : Value) : Blk (w.setCell ⟨b, j, none⟩ u) g cur := by
  unfold Blk World.setCell at *
  simp only [Array.getElem?_modify]
  rw [if_neg hb]
  exact h
theorem Wds.other {w : World} {v : Value} {l : List Nat} (h : Wds w v l) {b : Nat} (hb : ∀ k, v.ownBlock = some k → k ≠ b) (j : Nat) (u : Value) : Wds (w.setCell ⟨b, j, none⟩ u) v l := by
  rcases h with h | ⟨g, cap, cur, rfl, h2, h3, h4, h5, h6⟩
  · exact .inl h
  · exact .inr ⟨g, cap, cur, rfl, h2, h3, h4.other (fun e => hb g rfl e.symm) _ _, h5, h6⟩
theorem mul_end {B : Nat} {w0 w w1 : World} {p : Nat} {A N : Int} {v v1 : Value} {b : Bool} (hB : B ≤ p) (hp : p < w0.heap.size) (hb : Below w0.heap.size w0 w) (op : ∀ k, v.ownBlock = some k → B ≤ k ∧ k ≠ p)
    (hg1 : w.drew.grownBy w1 v.ownBlock) (kp1 : Bx w1 p #[.bool (decide (A < 0)), v]) (hw1 : Wds w1 v1 (dig N.natAbs)) (ho1 : ∀ k, v1.ownBlock = some k → v.ownBlock = some k ∨ w.drew.heap.size ≤ k) (hbb : b = decide (N < 0)) :
    IntAt B ((w1.setCell ⟨p, 1, none⟩ v1).setCell ⟨p, 0, none⟩ (.bool b)).drew p N ∧ Below B w ((w1.setCell ⟨p, 1, none⟩ v1).setCell ⟨p, 0, none⟩ (.bool b)).drew := by
  have hsz : w0.heap.size ≤ w.drew.heap.size := hb.size
  have hk : ∀ k, v1.ownBlock = some k → B ≤ k ∧ k ≠ p := fun k hk => by
    rcases ho1 k hk with h | h
    · exact op k h
    · omega
  have hne : ∀ k, v1.ownBlock = some k → k ≠ p := fun k h => (hk k h).2
  subst hbb
  refine ⟨⟨hB, v1, ((kp1.set 1 v1).set 0 _).below (grow_drew (grow_refl _)), ((hw1.other hne 1 v1).other hne 0 _).below (grow_drew (grow_refl _)), hk⟩, ?_⟩
  have h1 : Below B w w1 := Below.grown (Below.refl B w).drew hg1 (by omega) (fun k h => (op k h).1)
  exact ((h1.setCell hB _).setCell hB _).drew
set_option maxRecDepth 100000 in
set_option maxHeartbeats 16000000 in
theorem mul_walk (B : Nat) (w0 w : World) (p q : Nat) (A d : Int) (hA : (dig A.natAbs).length ≤ 100000) (hd : d.natAbs < 18446744073709551616) (h1 : IntAt B w0 p A) (hb : Below w0.heap.size w0 w) (h2 : IntAt w0.heap.size w q d) :
    Calls Tryz.prog 68 #[.pointer (some ⟨p, 0, none⟩), .pointer none, .pointer (some ⟨p, 0, none⟩), .pointer (some ⟨q, 0, none⟩)] w fun e w' => e = .returned (.tuple #[]) ∧ IntAt B w' p (A * d) ∧ Below B w w' := by
  have hp := h1.lt
  obtain ⟨hB, v, kp, wp, op⟩ := h1
  obtain ⟨hq, u, kq, wq, oq⟩ := h2
  have vlt := wp.blk_lt
  have kp := kp.below hb
  have wp := wp.below hb
  have MN := Lib.hid (mulN_walk w.drew v u A.natAbs d.natAbs hA hd (wp.below (grow_drew (grow_refl w))) (wq.below (grow_drew (grow_refl w))))
  have KP := Lib.hid kp
  have KQ := Lib.hid kq
  have hne : ¬ p = q := by omega
  have p0 := KP.out.cell 0
  have p1 := KP.out.cell 1
  have pl := KP.out.lt
  have q0 := KQ.out.cell 0
  have q1 := KQ.out.cell 1
  have ql := KQ.out.lt
  have pf := KP.out.frozen 1
  simp only [List.getElem?_toArray, List.getElem?_cons_zero, List.getElem?_cons_succ] at p0 p1 q0 q1
  have heq := ptr_other kp kq hne
  clear wp wq kp kq
  go_enter Tryz.func68, Tryz.ntmps68
  go_upto_region 3 with (fail)
  refine Grow.wp_region_plan (.quiet [0, 1, 2, 3, 5, 6, 7, 8, 10, 11, 12] (.reads [4, 9, 13] (.tail [14, 15, 16, 17]))) (by kernel_rfl) (by kernel_rfl) (by kernel_rfl) (by kernel_rfl) ?_ ?_
  · intro c aa d v ww h
    first
      | exact Grow.bodyPost_blind h
      | (simp (config := {zetaDelta := true}) only [Exit.then, Exit.inBlock] at h ⊢; first | exact Grow.bodyPost_blind h | exact h)
  simp only [Grow.Plan.wp, Grow.pick, List.getElem?_cons_zero, List.getElem?_cons_succ, List.cons_append, List.nil_append]
  repeat (go_big_quiet_step (fail))
  refine wpQuiet_nil ?_
  repeat (go_big_quiet_step (fail))
  refine wpQuiet_nil ?_
  go_upto_region 4 with (go_at_call 96; go_loud ((with_reducible refine (MN.out).mono ?_); rintro e w1 ⟨v1, rfl, hw1, hg1, ho1⟩; obtain ⟨r1, c1, rfl⟩ := hw1.slice; have HW1 := Lib.hid hw1; have HO1 := Lib.hid ho1; have KP1 := Lib.hid ((KP.out.below (grow_drew (grow_refl w))).grown hg1 (fun e => (op p e.symm).2 rfl)); have KQ1 := Lib.hid ((KQ.out.below (grow_drew (grow_refl w))).grown hg1 (fun e => absurd (vlt q e.symm) (by omega))); have HG1 := Lib.hid hg1; clear hw1 hg1 ho1 p0 p1 pl q0 q1 ql pf; have p1 := KP1.out.cell 1; have pl := KP1.out.lt; have pf := KP1.out.frozen 1; simp only [List.getElem?_toArray, List.getElem?_cons_zero, List.getElem?_cons_succ] at p1))
  refine seal_wp fun W2 hW2 => ?_
  have KP2 : Bx W2 p #[.bool (decide (A < 0)), .slice r1 (dig (A.natAbs * d.natAbs)).length c1] := by rw [hW2.out]; exact KP1.out.set 1 _
  have KQ2 : Bx W2 q #[.bool (decide (d < 0)), u] := by rw [hW2.out]; exact KQ1.out.other hne 1 _
  have HP2 := Lib.hid KP2
  have HQ2 := Lib.hid KQ2
  have HW2 := Lib.hid hW2.out
  clear hW2 p1 pl pf
  have p0 := KP2.cell 0
  have p1 := KP2.cell 1
  have pl := KP2.lt
  have pf := KP2.frozen 0
  have q0 := KQ2.cell 0
  have ql := KQ2.lt
  simp only [List.getElem?_toArray, List.getElem?_cons_zero, List.getElem?_cons_succ] at p0 p1 q0
  clear KP2 KQ2 heq MN KP KQ KQ1
  by_cases hz : (A * d).natAbs = 0
  · have hz' : A.natAbs * d.natAbs = 0 := by rw [← Int.natAbs_mul]; exact hz
    rw [hz', dig_zero] at HW1 HP2 HW2 p1 HO1
    rw [hz', dig_zero]
    refine Grow.wp_region_plan (.quiet [0, 1, 2, 3] (.reads [4, 5] (.quiet [6, 7, 8, 9, 10, 12, 13, 14] (.reads [11, 15] (.quiet [16, 17] (.tail [18, 19, 20])))))) (by kernel_rfl) (by kernel_rfl) (by kernel_rfl) (by kernel_rfl) ?_ ?_
    · intro c aa d v ww h
      first
        | exact Grow.bodyPost_blind h
        | (simp (config := {zetaDelta := true}) only [Exit.then, Exit.inBlock] at h ⊢; first | exact Grow.bodyPost_blind h | exact h)
    simp only [Grow.Plan.wp, Grow.pick, List.getElem?_cons_zero, List.getElem?_cons_succ, List.cons_append, List.nil_append]
    repeat (go_big_quiet_step (fail))
    refine wpQuiet_nil ?_
    repeat (go_big_quiet_step (fail))
    refine wpQuiet_nil ?_
    repeat (go_big_quiet_step (fail))
    refine wpQuiet_nil ?_
    repeat (go_big_quiet_step (fail))
    refine wpQuiet_nil ?_
    repeat (go_big_quiet_step (fail))
    refine wpQuiet_nil ?_
    go_wp2
    go_end0
    rw [HW2.out]
    refine ⟨rfl, mul_end hB hp hb op HG1.out KP1.out (by rw [hz, dig_zero]; exact HW1.out) HO1.out ?_⟩
    exact (decide_eq_false (by have : A * d = 0 := Int.natAbs_eq_zero.1 hz; omega)).symm
  · have hz' : 0 < A.natAbs * d.natAbs := by rw [← Int.natAbs_mul]; omega
    have hl : decide (0 < (dig (A.natAbs * d.natAbs)).length) = true := decide_eq_true (by rw [dig_pos hz']; simp)
    refine Grow.wp_region_plan (.quiet [0, 1, 2, 3] (.reads [4, 5] (.quiet [6, 7, 8, 9, 10, 12, 13, 14] (.reads [11, 15] (.quiet [16, 17] (.tail [18, 19, 20])))))) (by kernel_rfl) (by kernel_rfl) (by kernel_rfl) (by kernel_rfl) ?_ ?_
    · intro c aa d v ww h
      first
        | exact Grow.bodyPost_blind h
        | (simp (config := {zetaDelta := true}) only [Exit.then, Exit.inBlock] at h ⊢; first | exact Grow.bodyPost_blind h | exact h)
    simp only [Grow.Plan.wp, Grow.pick, List.getElem?_cons_zero, List.getElem?_cons_succ, List.cons_append, List.nil_append]
    repeat (go_big_quiet_step (fail))
    refine wpQuiet_nil ?_
    repeat (go_big_quiet_step (fail))
    refine wpQuiet_nil ?_
    repeat (go_big_quiet_step (fail))
    refine wpQuiet_nil ?_
    repeat (go_big_quiet_step (fail))
    refine wpQuiet_nil ?_
    repeat (go_big_quiet_step (fail))
    refine wpQuiet_nil ?_
    go_wp2
    go_end0
    rw [HW2.out]
    exact ⟨rfl, mul_end hB hp hb op HG1.out KP1.out (by rw [Int.natAbs_mul]; exact HW1.out) HO1.out (by rw [← neg_mul A d (by omega)]; rfl)⟩
end Go.Proofs.YtlnbeildplafbaaGreatDoor
/- Whole numbers of any size in memory: Mul as called; the product of a row. -/
set_option linter.unusedSimpArgs false
set_option linter.unusedVariables false
namespace Go.Proofs.YtlnbeildplafbaaGreatDoor
open Go.RowKit Go.Grow Go.Wd

set_option maxRecDepth 100000 in
set_option maxHeartbeats 16000000 in
theorem Mul_walk (B : Nat) (w0 w : World) (p q : Nat) (A d : Int) (hA : (dig A.natAbs).length ≤ 100000) (hd : d.natAbs < 18446744073709551616) (h1 : IntAt B w0 p A) (hb : Below w0.heap.size w0 w) (h2 : IntAt w0.heap.size w q d) :
    Calls Tryz.prog 29 #[.pointer (some ⟨p, 0, none⟩), .pointer (some ⟨p, 0, none⟩), .pointer (some ⟨q, 0, none⟩)] w fun e w' => e = .returned (.pointer (some ⟨p, 0, none⟩)) ∧ IntAt B w' p (A * d) ∧ Below B w w' := by
  have M := Lib.hid (mul_walk B w0 w p q A d hA hd h1 hb h2)
  clear h1 h2 hb
  go_enter Tryz.func29, Tryz.ntmps29
  go_wp2_with (go_at_call 68; (with_reducible refine (M.out).mono ?_); rintro e w1 ⟨rfl, hi, hb⟩; have HI := Lib.hid hi; have HB := Lib.hid hb; clear hi hb)
  go_ret
  exact ⟨rfl, HI.out, HB.out⟩
/-- Numbers in a row. -/
def NsAt (w : World) (r : Option Addr) (l : List Int) : Prop := l = [] ∨ ∃ b o, r = some ⟨b, o, none⟩ ∧ ∀ k, k < l.length → w.cell? ⟨b, o + k, none⟩ = some (.int .i64 (l.getD k 0))
def prodI (l : List Int) : Int := l.foldl (· * ·) 1
theorem prodI_snoc (l : List Int) (x : Int) : prodI (l ++ [x]) = prodI l * x := by simp [prodI]
theorem prodI_take (l : List Int) (k : Nat) (h : k < l.length) : prodI (l.take (k + 1)) = prodI (l.take k) * l.getD k 0 := by
  rw [List.take_succ_eq_append_getElem h, prodI_snoc]
  simp [h]
theorem prodI_small {l : List Int} (hl : ∀ k, k < l.length → (l.getD k 0).natAbs < 18446744073709551616) : ∀ k, k ≤ l.length → (prodI (l.take k)).natAbs < 18446744073709551616 ^ k ∨ k = 0 ∧ (prodI (l.take k)).natAbs = 1
  | 0, _ => .inr ⟨rfl, rfl⟩
  | k + 1, h => by
    rw [prodI_take l k (by omega), Int.natAbs_mul, Nat.pow_succ]
    have h2 := hl k (by omega)
    rcases prodI_small hl k (by omega) with h1 | ⟨rfl, h1⟩
    · exact .inl (Nat.mul_lt_mul'' h1 h2)
    · left
      rw [h1, Nat.one_mul, Nat.pow_zero, Nat.one_mul]
      exact h2
theorem prodI_words {l : List Int} (hl : ∀ k, k < l.length → (l.getD k 0).natAbs < 18446744073709551616) {k : Nat} (hk : k ≤ l.length) (h5 : l.length ≤ 10) : (dig (prodI (l.take k)).natAbs).length ≤ 100000 := by
  have h : (dig (prodI (l.take k)).natAbs).length ≤ 11 := by
    rcases prodI_small hl k hk with h1 | ⟨rfl, h1⟩
    · have := dig_length_le _ k h1
      omega
    · rw [h1, dig_one (by decide) (by decide)]; simp
  omega
def ProdInv (B : Nat) (w : World) (p : Nat) (l : List Int) (v9 : Value) (wr : World) : Prop := ∃ k : Nat, k ≤ l.length ∧ v9 = .int .i64 (k : Nat) ∧ IntAt B wr p (prodI (l.take k)) ∧ Below B w wr ∧ B ≤ wr.heap.size
set_option maxRecDepth 100000 in
set_option maxHeartbeats 16000000 in
theorem atlasProd_walk (r : Option Addr) (l : List Int) (cap : Nat) (w : World) (h5 : l.length ≤ 10) (hl : ∀ k, k < l.length → -9223372036854775808 ≤ l.getD k 0 ∧ l.getD k 0 ≤ 9223372036854775807) (hr : NsAt w r l) :
    Calls Tryz.prog 79 #[.slice r l.length cap] w fun e w' => ∃ p, e = .returned (.pointer (some ⟨p, 0, none⟩)) ∧ IntAt w.heap.size w' p (prodI l) ∧ Below w.heap.size w w' := by
  have HN := Lib.hid (fun x (h : -9223372036854775808 ≤ x ∧ x ≤ 9223372036854775807) X => newInt_walk x h.1 h.2 X)
  have N1 := Lib.hid (newInt_walk 1 (by decide) (by decide) w)
  have HR := Lib.hid hr
  have HL := Lib.hid hl
  have HW := Lib.hid (fun k (hk : k ≤ l.length) => prodI_words (l := l) (fun k hk => by have := hl k hk; omega) hk h5)
  clear hr hl
  go_enter Tryz.func79, Tryz.ntmps79
  go_wp2_with (go_at_call 31; (with_reducible refine (N1.out).mono ?_); rintro e w1 ⟨p, rfl, hi, hb⟩; have HI := Lib.hid hi; have HB := Lib.hid hb; clear hi hb)
  have HZ := Lib.hid HB.out.size
  go_loopw [9] (fun v9 wr => ProdInv w.heap.size w p l v9 wr) (fun i _ => l.length - (intOf i).toNat)
  case atStart => exact ⟨0, Nat.zero_le _, rfl, HI.out, HB.out, HZ.out⟩
  case round =>
    obtain ⟨k, hk, rfl, hi, hb, hz⟩ := hrel
    have I1 := Lib.hid hi
    have B1 := Lib.hid hb
    have Z1 := Lib.hid hz
    clear hi hb hz HI HB HZ N1
    by_cases hlt : k < l.length
    · obtain ⟨b, o, rfl, hc⟩ := HR.out.resolve_left (by intro h; rw [h] at hlt; exact absurd hlt (by simp))
      have e0 := hc k hlt
      have l0 := World.block_lt_of_cell? w _ e0
      have e1 : wr.cell? ⟨b, o + k, none⟩ = some (.int .i64 (l.getD k 0)) := (B1.out.cell (p := ⟨b, o + k, none⟩) l0).trans e0
      have l1 : b < wr.heap.size := World.block_lt_of_cell? wr _ e1
      have d1 : (k : Int) < (l.length : Int) := by omega
      have d0 : (0 : Int) ≤ (k : Int) := by omega
      have HX := Lib.hid (HN.out (l.getD k 0) (HL.out k hlt) wr)
      have HT := Lib.hid (prodI_take l k hlt)
      have HM := Lib.hid (fun q X (hX : Below wr.heap.size wr X) (hq : IntAt wr.heap.size X q (l.getD k 0)) => Mul_walk w.heap.size wr X p q (prodI (l.take k)) (l.getD k 0) (HW.out k hk) (by have := HL.out k hlt; omega) I1.out hX hq)
      generalize l.getD k 0 = x at *
      clear e0 hc l0
      go_wp2_with (first
        | (go_at_call 31; go_loud ((with_reducible refine (HX.out).mono ?_); rintro e w1 ⟨q, rfl, hi, hb⟩; have I2 := Lib.hid hi; have B2 := Lib.hid hb; clear hi hb))
        | (go_at_call 29; go_loud ((with_reducible refine (HM.out q _ B2.out I2.out).mono ?_); rintro e w2 ⟨rfl, hi, hb⟩; have I3 := Lib.hid hi; have B3 := Lib.hid hb; clear hi hb)))
      go_roundw
      case rel => exact ⟨k + 1, by omega, by go_num, by rw [HT.out]; exact I3.out, (B1.out.trans (B2.out.mono Z1.out)).trans B3.out, Nat.le_trans (Nat.le_trans Z1.out B2.out.size) B3.out.size⟩
      case measure => simp [intOf]; omega
    · obtain rfl : k = l.length := by omega
      go_wp2
      go_ret
      exact ⟨p, rfl, by have := I1.out; rw [List.take_length] at this; exact this, B1.out⟩
set_option maxRecDepth 100000 in
set_option maxHeartbeats 16000000 in
theorem plateProd_walk (r : Option Addr) (l : List Int) (cap : Nat) (w : World) (h5 : l.length ≤ 10) (hl : ∀ k, k < l.length → -9223372036854775808 ≤ l.getD k 0 ∧ l.getD k 0 ≤ 9223372036854775807) (hr : NsAt w r l) :
    Calls Tryz.prog 28 #[.slice r l.length cap] w fun e w' => ∃ p, e = .returned (.pointer (some ⟨p, 0, none⟩)) ∧ IntAt w.heap.size w' p (prodI l) ∧ Below w.heap.size w w' := by
  have HN := Lib.hid (fun x (h : -9223372036854775808 ≤ x ∧ x ≤ 9223372036854775807) X => newInt_walk x h.1 h.2 X)
  have N1 := Lib.hid (newInt_walk 1 (by decide) (by decide) w)
  have HR := Lib.hid hr
  have HL := Lib.hid hl
  have HW := Lib.hid (fun k (hk : k ≤ l.length) => prodI_words (l := l) (fun k hk => by have := hl k hk; omega) hk h5)
  clear hr hl
  go_enter Tryz.func28, Tryz.ntmps28
  go_wp2_with (go_at_call 31; (with_reducible refine (N1.out).mono ?_); rintro e w1 ⟨p, rfl, hi, hb⟩; have HI := Lib.hid hi; have HB := Lib.hid hb; clear hi hb)
  have HZ := Lib.hid HB.out.size
  go_loopw [9] (fun v9 wr => ProdInv w.heap.size w p l v9 wr) (fun i _ => l.length - (intOf i).toNat)
  case atStart => exact ⟨0, Nat.zero_le _, rfl, HI.out, HB.out, HZ.out⟩
  case round =>
    obtain ⟨k, hk, rfl, hi, hb, hz⟩ := hrel
    have I1 := Lib.hid hi
    have B1 := Lib.hid hb
    have Z1 := Lib.hid hz
    clear hi hb hz HI HB HZ N1
    by_cases hlt : k < l.length
    · obtain ⟨b, o, rfl, hc⟩ := HR.out.resolve_left (by intro h; rw [h] at hlt; exact absurd hlt (by simp))
      have e0 := hc k hlt
      have l0 := World.block_lt_of_cell? w _ e0
      have e1 : wr.cell? ⟨b, o + k, none⟩ = some (.int .i64 (l.getD k 0)) := (B1.out.cell (p := ⟨b, o + k, none⟩) l0).trans e0
      have l1 : b < wr.heap.size := World.block_lt_of_cell? wr _ e1
      have d1 : (k : Int) < (l.length : Int) := by omega
      have d0 : (0 : Int) ≤ (k : Int) := by omega
      have HX := Lib.hid (HN.out (l.getD k 0) (HL.out k hlt) wr)
      have HT := Lib.hid (prodI_take l k hlt)
      have HM := Lib.hid (fun q X (hX : Below wr.heap.size wr X) (hq : IntAt wr.heap.size X q (l.getD k 0)) => Mul_walk w.heap.size wr X p q (prodI (l.take k)) (l.getD k 0) (HW.out k hk) (by have := HL.out k hlt; omega) I1.out hX hq)
      generalize l.getD k 0 = x at *
      clear e0 hc l0
      go_wp2_with (first
        | (go_at_call 31; go_loud ((with_reducible refine (HX.out).mono ?_); rintro e w1 ⟨q, rfl, hi, hb⟩; have I2 := Lib.hid hi; have B2 := Lib.hid hb; clear hi hb))
        | (go_at_call 29; go_loud ((with_reducible refine (HM.out q _ B2.out I2.out).mono ?_); rintro e w2 ⟨rfl, hi, hb⟩; have I3 := Lib.hid hi; have B3 := Lib.hid hb; clear hi hb)))
      go_roundw
      case rel => exact ⟨k + 1, by omega, by go_num, by rw [HT.out]; exact I3.out, (B1.out.trans (B2.out.mono Z1.out)).trans B3.out, Nat.le_trans (Nat.le_trans Z1.out B2.out.size) B3.out.size⟩
      case measure => simp [intOf]; omega
    · obtain rfl : k = l.length := by omega
      go_wp2
      go_ret
      exact ⟨p, rfl, by have := I1.out; rw [List.take_length] at this; exact this, B1.out⟩
end Go.Proofs.YtlnbeildplafbaaGreatDoor
