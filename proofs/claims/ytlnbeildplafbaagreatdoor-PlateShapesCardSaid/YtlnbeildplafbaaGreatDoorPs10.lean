/- Shapes of three points: whether two ratios are near. -/
import Derived.Test.YtlnbeildplafbaaGreatDoorPs9
import Derived.Test.YtlnbeildplafbaaGreatDoorBi16
set_option linter.unusedSimpArgs false
set_option linter.unusedVariables false
namespace Go.Proofs.YtlnbeildplafbaaGreatDoor
open Go.RowKit Go.Grow Go.Wd Go.Atl Go.Pl

theorem alloc_int (w : World) : (Instr.alloc 76 true (.tuple #[])).run Tryz.prog w = .ok (.pointer (some ⟨w.heap.size, 0, none⟩)) (w.alloc (.cells #[.bool false, .slice none 0 0] 76)) := by kernel_rfl
theorem Rd.below {w w' : World} {p : Nat} {n : Int} {v : Value} (h : Rd w p n v) (hb : Below w.heap.size w w') : Rd w' p n v := ⟨h.1.below hb, h.2.below hb⟩
theorem Rd.lt {w : World} {p : Nat} {n : Int} {v : Value} (h : Rd w p n v) : p < w.heap.size := h.1.lt
theorem prod2_walk (x y : Int) (hx : -9223372036854775808 ≤ x ∧ x ≤ 9223372036854775807) (hy : -9223372036854775808 ≤ y ∧ y ≤ 9223372036854775807) (g : Nat) (w : World) (h : Known w g #[.int .i64 x, .int .i64 y]) :
    Calls Tryz.prog 28 #[.slice (some ⟨g, 0, none⟩) 2 2] w fun e w' => ∃ p, e = .returned (.pointer (some ⟨p, 0, none⟩)) ∧ IntAt w.heap.size w' p (x * y) ∧ Below w.heap.size w w' := by
  have := plateProd_walk (some ⟨g, 0, none⟩) [x, y] 2 w (by simp) (fun k hk => by
    match k, hk with
    | 0, _ => exact hx
    | 1, _ => exact hy) (.inr ⟨g, 0, rfl, fun k hk => by
    match k, hk with
    | 0, _ => exact h.cell 0
    | 1, _ => exact h.cell 1⟩)
  rw [show prodI [x, y] = x * y by simp [prodI]] at this
  exact this
theorem prod3_walk (x y z : Int) (hx : -9223372036854775808 ≤ x ∧ x ≤ 9223372036854775807) (hy : -9223372036854775808 ≤ y ∧ y ≤ 9223372036854775807) (hz : -9223372036854775808 ≤ z ∧ z ≤ 9223372036854775807) (g : Nat) (w : World) (h : Known w g #[.int .i64 x, .int .i64 y, .int .i64 z]) :
    Calls Tryz.prog 28 #[.slice (some ⟨g, 0, none⟩) 3 3] w fun e w' => ∃ p, e = .returned (.pointer (some ⟨p, 0, none⟩)) ∧ IntAt w.heap.size w' p (x * y * z) ∧ Below w.heap.size w w' := by
  have := plateProd_walk (some ⟨g, 0, none⟩) [x, y, z] 3 w (by simp) (fun k hk => by
    match k, hk with
    | 0, _ => exact hx
    | 1, _ => exact hy
    | 2, _ => exact hz) (.inr ⟨g, 0, rfl, fun k hk => by
    match k, hk with
    | 0, _ => exact h.cell 0
    | 1, _ => exact h.cell 1
    | 2, _ => exact h.cell 2⟩)
  rw [show prodI [x, y, z] = x * y * z by simp [prodI]] at this
  exact this
theorem IntAt.belowB {B : Nat} {w w' : World} {p : Nat} {n : Int} (h : IntAt B w p n) {C : Nat} (hb : Below C w w') (hp : p < C) (ho : ∀ v k, Rd w p n v → v.ownBlock = some k → k < C) : IntAt B w' p n := by
  obtain ⟨h0, v, h1, h2, h3⟩ := h
  refine ⟨h0, v, (hb.block p hp).trans h1, ?_, h3⟩
  rcases h2 with h | ⟨g, cap, cur, e1, e2, e3, e4, e5, e6⟩
  · exact .inl h
  · exact .inr ⟨g, cap, cur, e1, e2, e3, (hb.block g (ho v g ⟨h1, .inr ⟨g, cap, cur, e1, e2, e3, e4, e5, e6⟩⟩ (by rw [e1]; rfl))).trans e4, e5, e6⟩
theorem known_of {w : World} {g : Nat} {c : Array Value} {t : TypeId} (h : w.heap[g]? = some (.cells c t (0, 0))) : Known w g c := by
  refine ⟨fun j => ?_, fun j => ?_, (Array.getElem?_eq_some_iff.1 h).1⟩
  · unfold World.cell?
    rw [show w.heap[(⟨g, j, none⟩ : Addr).block]? = _ from h]
    rfl
  · unfold World.frozen?
    rw [show w.heap[(⟨g, j, none⟩ : Addr).block]? = _ from h]
    simp
theorem row_apart {w : World} {g p B : Nat} {n : Int} {c : Array Value} (h : w.heap[g]? = some (.cells c 3 (0, 0))) (hi : IntAt B w p n) : g ≠ p ∧ ∀ v, Rd w p n v → v.ownBlock ≠ some g := by
  refine ⟨fun e => ?_, fun v hr he => ?_⟩
  · obtain ⟨_, v, h1, _⟩ := hi
    rw [e, show w.heap[p]? = _ from h1] at h
    simp at h
  · rcases hr.2 with ⟨rfl, _⟩ | ⟨g', cap, cur, rfl, _, _, h4, _⟩
    · cases he
    · cases he
      rw [show w.heap[g']? = _ from h4] at h
      simp at h
theorem cmp_le (a b : Int) : decide (cmpI a b ≤ 0) = decide (a ≤ b) := by
  unfold cmpI
  split
  · rw [decide_eq_true (by decide), decide_eq_true (by omega)]
  · split
    · rw [decide_eq_false (by decide), decide_eq_false (by omega)]
    · rw [decide_eq_true (by decide), decide_eq_true (by omega)]
/-- 1000 |m L' - n L| is at most k L L'. -/
def nearB (m n bL aL k : Int) : Bool := decide (((m * bL - n * aL).natAbs : Int) * 1000 ≤ k * aL * bL)
set_option maxRecDepth 100000 in
set_option maxHeartbeats 16000000 in
theorem near_walk (m n bL aL k : Int) (hm : 0 ≤ m ∧ m ≤ 274877906944) (hn : 0 ≤ n ∧ n ≤ 274877906944) (hbl : 0 ≤ bL ∧ bL ≤ 274877906944) (hal : 0 ≤ aL ∧ aL ≤ 274877906944) (hk : 0 ≤ k ∧ k ≤ 1000)
    (b1 b2 b3 a1 a2 a3 : Int) (bb ba bk : Nat) (w : World) (hb : Known w bb #[.int .i64 bL, .int .i64 b1, .int .i64 b2, .int .i64 b3]) (ha : Known w ba #[.int .i64 aL, .int .i64 a1, .int .i64 a2, .int .i64 a3]) (hkk : Known w bk #[.int .i64 k]) :
    Calls Tryz.prog 26 #[.int .i64 m, .int .i64 n, .pointer (some ⟨bb, 0, none⟩), .pointer (some ⟨ba, 0, none⟩), .pointer (some ⟨bk, 0, none⟩)] w fun e w' => e = .returned (.bool (nearB m n bL aL k)) ∧ Below w.heap.size w w' := by
  have hmb : 0 ≤ m * bL ∧ m * bL ≤ 75557863725914323419136 := by
    have h1 : (m * bL).natAbs ≤ 274877906944 * 274877906944 := by rw [Int.natAbs_mul]; exact Nat.mul_le_mul (by omega) (by omega)
    have h2 := Int.mul_nonneg hm.1 hbl.1
    omega
  have hna : 0 ≤ n * aL ∧ n * aL ≤ 75557863725914323419136 := by
    have h1 : (n * aL).natAbs ≤ 274877906944 * 274877906944 := by rw [Int.natAbs_mul]; exact Nat.mul_le_mul (by omega) (by omega)
    have h2 := Int.mul_nonneg hn.1 hal.1
    omega
  have P1 := Lib.hid (fun g X (hX : Known X g #[.int .i64 m, .int .i64 bL]) => prod2_walk m bL (by omega) (by omega) g X hX)
  have P2 := Lib.hid (fun g X (hX : Known X g #[.int .i64 n, .int .i64 aL]) => prod2_walk n aL (by omega) (by omega) g X hX)
  have P3 := Lib.hid (fun g X (hX : Known X g #[.int .i64 k, .int .i64 aL, .int .i64 bL]) => prod3_walk k aL bL (by omega) (by omega) (by omega) g X hX)
  have SB := Lib.hid (fun X pd px py vx vy (hp : w.heap.size ≤ pd) (hB : Below w.heap.size w X) (hd : Bx X pd #[.bool false, .slice none 0 0]) (hx : Rd X px (m * bL) vx) (hy : Rd X py (n * aL) vy) => Sub_walk w.heap.size X pd px py false (.slice none 0 0) vx vy (m * bL) (n * aL) ⟨hp, hd, .inl rfl, fun k hk => by cases hk⟩ hx hy hB.size (by omega) (by omega))
  have NI := Lib.hid (fun X => newInt_walk 1000 (by decide) (by decide) X)
  have HB := Lib.hid hb
  have HA := Lib.hid ha
  have HK := Lib.hid hkk
  have ai := alloc_int
  have HN := Lib.hid (show nearB m n bL aL k = decide (((m * bL - n * aL).natAbs : Int) * 1000 ≤ k * aL * bL) from rfl)
  have e0 := hb.cell 0
  have e1 := hb.lt
  have e2 := ha.cell 0
  have e3 := ha.lt
  have e4 := hkk.cell 0
  have e5 := hkk.lt
  simp only [List.getElem?_toArray, List.getElem?_cons_zero, List.getElem?_cons_succ] at e0 e2 e4
  clear hb ha hkk
  generalize nearB m n bL aL k = res at *
  go_enter Tryz.func26, Tryz.ntmps26
  go_upto_region 1 with (fail)
  go_cut [8] (fun v8 wx => ∃ pd, v8 = .pointer (some ⟨pd, 0, none⟩) ∧ IntAt w.heap.size wx pd (m * bL - n * aL) ∧ Below w.heap.size w wx)
  case first =>
    refine Grow.wp_region_planC (grow_refl w) [1, 2, 6, 7] (.reads [3, 8] (.three 0 (.two 4 (.two 5 (.tail [9, 10, 11, 12]) 9 (.tail [5, 10, 11, 12])) 9 (.tail [4, 5, 10, 11, 12])) 4 (.three 0 (.two 5 (.tail [9, 10, 11, 12]) 9 (.tail [5, 10, 11, 12])) 5 (.two 0 (.tail [9, 10, 11, 12]) 9 (.two 0 (.tail [10, 11, 12]) 10 (.tail [0, 11, 12]))) 9 (.two 0 (.tail [5, 10, 11, 12]) 5 (.two 0 (.tail [10, 11, 12]) 10 (.tail [0, 11, 12])))) 9 (.two 0 (.tail [4, 5, 10, 11, 12]) 4 (.two 0 (.tail [5, 10, 11, 12]) 5 (.two 0 (.tail [10, 11, 12]) 10 (.tail [0, 11, 12])))))) (by kernel_rfl) (by kernel_rfl) (by kernel_rfl) (by kernel_rfl) (by kernel_rfl) ?_ ?_
    · intro c aa d v ww h
      simp (config := {zetaDelta := true}) only [Exit.then, Exit.inBlock] at h ⊢
      first | exact h | exact Grow.bodyPost_blind h
    simp only [Grow.Plan.wpC, Grow.pick, List.getElem?_cons_zero, List.getElem?_cons_succ, List.cons_append, List.nil_append]
    repeat (go_big_quiet_step (fail))
    refine wpQuiet_nil ?_
    repeat (go_big_quiet_step (fail))
    refine wpQuiet_nil ?_
    clear e0 e1 e2 e3 e4 e5
    have BZ : Below w.heap.size w w.drew := grow_drew (grow_refl w)
    generalize w.drew = w1 at *
    refine ⟨?_, ?_, ?_⟩
    · (try unfold oneC)
      go_wp2
      have S : Below w1.heap.size w1 (w1.alloc (.cells #[.bool false, .slice none 0 0] 76)) := grow_alloc (grow_refl _) _
      have B1 : Below w.heap.size w (w1.alloc (.cells #[.bool false, .slice none 0 0] 76)) := grow_trans BZ S
      have HKD : w.heap.size ≤ w1.heap.size := BZ.size
      have KD := Lib.hid (show Bx (w1.alloc (.cells #[.bool false, .slice none 0 0] 76)) w1.heap.size #[.bool false, .slice none 0 0] from Bx.new _ _)
      first
        | refine ⟨B1, ?_⟩
        | skip
      clear S
      generalize w1.alloc (.cells #[.bool false, .slice none 0 0] 76) = v1 at *
      generalize w1.heap.size = pKD at *
      refine ⟨?_, ?_⟩
      · (try unfold oneC)
        go_wp2
        have S : Below v1.heap.size v1 (v1.alloc (.cells #[.int .i64 m, .int .i64 bL] 3)) := grow_alloc (grow_refl _) _
        have B2 : Below w.heap.size w (v1.alloc (.cells #[.int .i64 m, .int .i64 bL] 3)) := grow_trans B1 S
        have HK1 : w.heap.size ≤ v1.heap.size := B1.size
        have K1 := Lib.hid (show Known (v1.alloc (.cells #[.int .i64 m, .int .i64 bL] 3)) v1.heap.size #[.int .i64 m, .int .i64 bL] from Known.new _ _ _)
        replace KD := Lib.hid (KD.out.below S)
        first
          | refine ⟨B2, ?_⟩
          | skip
        clear S
        generalize v1.alloc (.cells #[.int .i64 m, .int .i64 bL] 3) = v2 at *
        generalize v1.heap.size = pK1 at *
        refine ⟨?_, ?_⟩
        · (try unfold oneC)
          go_wp2_with (go_at_call 28; go_loud ((with_reducible refine (P1.out _ _ K1.out).mono ?_); rintro e v3 ⟨px, rfl, hi, hb⟩; obtain ⟨vx, hx⟩ := hi.rd; have RX := Lib.hid hx; have S := hb; have B3 : Below w.heap.size w v3 := grow_trans B2 hb; clear hi hx hb))
          clear K1
          replace KD := Lib.hid (KD.out.below S)
          first
            | refine ⟨B3, ?_⟩
            | skip
          clear S
          (try unfold seqC)
          go_wp2
          have S : Below v3.heap.size v3 (v3.alloc (.cells #[.int .i64 n, .int .i64 aL] 3)) := grow_alloc (grow_refl _) _
          have B4 : Below w.heap.size w (v3.alloc (.cells #[.int .i64 n, .int .i64 aL] 3)) := grow_trans B3 S
          have HK2 : w.heap.size ≤ v3.heap.size := B3.size
          have K2 := Lib.hid (show Known (v3.alloc (.cells #[.int .i64 n, .int .i64 aL] 3)) v3.heap.size #[.int .i64 n, .int .i64 aL] from Known.new _ _ _)
          replace KD := Lib.hid (KD.out.below S)
          replace RX := Lib.hid (RX.out.below S)
          first
            | refine ⟨B4, ?_⟩
            | skip
          clear S
          generalize v3.alloc (.cells #[.int .i64 n, .int .i64 aL] 3) = v4 at *
          generalize v3.heap.size = pK2 at *
          (try unfold seqC)
          go_wp2_with (go_at_call 28; go_loud ((with_reducible refine (P2.out _ _ K2.out).mono ?_); rintro e v5 ⟨py, rfl, hi, hb⟩; obtain ⟨vy, hx⟩ := hi.rd; have RY := Lib.hid hx; have S := hb; have B5 : Below w.heap.size w v5 := grow_trans B4 hb; clear hi hx hb))
          clear K2
          replace KD := Lib.hid (KD.out.below S)
          replace RX := Lib.hid (RX.out.below S)
          first
            | refine ⟨B5, ?_⟩
            | skip
          clear S
          (try unfold seqC)
          go_wp2_with (go_at_call 27; go_loud ((with_reducible refine (SB.out _ _ _ _ _ _ HKD B5 KD.out RX.out RY.out).mono ?_); rintro e v6 ⟨rfl, hi, hb⟩; have ID := Lib.hid hi; have B6 : Below w.heap.size w v6 := Below.trans B5 hb; clear hi hb))
          clear RX RY KD
          first
            | refine ⟨B6, ?_⟩
            | skip
          (try unfold seqC)
          go_wp2
          first
            | refine ⟨B6, ?_⟩
            | skip
          (try unfold seqC)
          go_wp2
          go_meet
          exact ⟨_, rfl, ID.out, B6⟩
        · (try unfold oneC)
          go_wp2
          have S : Below v2.heap.size v2 (v2.alloc (.cells #[.int .i64 n, .int .i64 aL] 3)) := grow_alloc (grow_refl _) _
          have B7 : Below w.heap.size w (v2.alloc (.cells #[.int .i64 n, .int .i64 aL] 3)) := grow_trans B2 S
          have HK2 : w.heap.size ≤ v2.heap.size := B2.size
          have K2 := Lib.hid (show Known (v2.alloc (.cells #[.int .i64 n, .int .i64 aL] 3)) v2.heap.size #[.int .i64 n, .int .i64 aL] from Known.new _ _ _)
          replace KD := Lib.hid (KD.out.below S)
          replace K1 := Lib.hid (K1.out.below S)
          first
            | refine ⟨B7, ?_⟩
            | skip
          clear S
          generalize v2.alloc (.cells #[.int .i64 n, .int .i64 aL] 3) = v7 at *
          generalize v2.heap.size = pK2 at *
          (try unfold seqC)
          go_wp2_with (go_at_call 28; go_loud ((with_reducible refine (P1.out _ _ K1.out).mono ?_); rintro e v8 ⟨px, rfl, hi, hb⟩; obtain ⟨vx, hx⟩ := hi.rd; have RX := Lib.hid hx; have S := hb; have B8 : Below w.heap.size w v8 := grow_trans B7 hb; clear hi hx hb))
          clear K1
          replace KD := Lib.hid (KD.out.below S)
          replace K2 := Lib.hid (K2.out.below S)
          first
            | refine ⟨B8, ?_⟩
            | skip
          clear S
          (try unfold seqC)
          go_wp2_with (go_at_call 28; go_loud ((with_reducible refine (P2.out _ _ K2.out).mono ?_); rintro e v9 ⟨py, rfl, hi, hb⟩; obtain ⟨vy, hx⟩ := hi.rd; have RY := Lib.hid hx; have S := hb; have B9 : Below w.heap.size w v9 := grow_trans B8 hb; clear hi hx hb))
          clear K2
          replace KD := Lib.hid (KD.out.below S)
          replace RX := Lib.hid (RX.out.below S)
          first
            | refine ⟨B9, ?_⟩
            | skip
          clear S
          (try unfold seqC)
          go_wp2_with (go_at_call 27; go_loud ((with_reducible refine (SB.out _ _ _ _ _ _ HKD B9 KD.out RX.out RY.out).mono ?_); rintro e v10 ⟨rfl, hi, hb⟩; have ID := Lib.hid hi; have B10 : Below w.heap.size w v10 := Below.trans B9 hb; clear hi hb))
          clear RX RY KD
          first
            | refine ⟨B10, ?_⟩
            | skip
          (try unfold seqC)
          go_wp2
          first
            | refine ⟨B10, ?_⟩
            | skip
          (try unfold seqC)
          go_wp2
          go_meet
          exact ⟨_, rfl, ID.out, B10⟩
      · (try unfold oneC)
        go_wp2
        have S : Below v1.heap.size v1 (v1.alloc (.cells #[.int .i64 n, .int .i64 aL] 3)) := grow_alloc (grow_refl _) _
        have B11 : Below w.heap.size w (v1.alloc (.cells #[.int .i64 n, .int .i64 aL] 3)) := grow_trans B1 S
        have HK2 : w.heap.size ≤ v1.heap.size := B1.size
        have K2 := Lib.hid (show Known (v1.alloc (.cells #[.int .i64 n, .int .i64 aL] 3)) v1.heap.size #[.int .i64 n, .int .i64 aL] from Known.new _ _ _)
        replace KD := Lib.hid (KD.out.below S)
        first
          | refine ⟨B11, ?_⟩
          | skip
        clear S
        generalize v1.alloc (.cells #[.int .i64 n, .int .i64 aL] 3) = v11 at *
        generalize v1.heap.size = pK2 at *
        (try unfold seqC)
        go_wp2
        have S : Below v11.heap.size v11 (v11.alloc (.cells #[.int .i64 m, .int .i64 bL] 3)) := grow_alloc (grow_refl _) _
        have B12 : Below w.heap.size w (v11.alloc (.cells #[.int .i64 m, .int .i64 bL] 3)) := grow_trans B11 S
        have HK1 : w.heap.size ≤ v11.heap.size := B11.size
        have K1 := Lib.hid (show Known (v11.alloc (.cells #[.int .i64 m, .int .i64 bL] 3)) v11.heap.size #[.int .i64 m, .int .i64 bL] from Known.new _ _ _)
        replace KD := Lib.hid (KD.out.below S)
        replace K2 := Lib.hid (K2.out.below S)
        first
          | refine ⟨B12, ?_⟩
          | skip
        clear S
        generalize v11.alloc (.cells #[.int .i64 m, .int .i64 bL] 3) = v12 at *
        generalize v11.heap.size = pK1 at *
        (try unfold seqC)
        go_wp2_with (go_at_call 28; go_loud ((with_reducible refine (P1.out _ _ K1.out).mono ?_); rintro e v13 ⟨px, rfl, hi, hb⟩; obtain ⟨vx, hx⟩ := hi.rd; have RX := Lib.hid hx; have S := hb; have B13 : Below w.heap.size w v13 := grow_trans B12 hb; clear hi hx hb))
        clear K1
        replace KD := Lib.hid (KD.out.below S)
        replace K2 := Lib.hid (K2.out.below S)
        first
          | refine ⟨B13, ?_⟩
          | skip
        clear S
        (try unfold seqC)
        go_wp2_with (go_at_call 28; go_loud ((with_reducible refine (P2.out _ _ K2.out).mono ?_); rintro e v14 ⟨py, rfl, hi, hb⟩; obtain ⟨vy, hx⟩ := hi.rd; have RY := Lib.hid hx; have S := hb; have B14 : Below w.heap.size w v14 := grow_trans B13 hb; clear hi hx hb))
        clear K2
        replace KD := Lib.hid (KD.out.below S)
        replace RX := Lib.hid (RX.out.below S)
        first
          | refine ⟨B14, ?_⟩
          | skip
        clear S
        (try unfold seqC)
        go_wp2_with (go_at_call 27; go_loud ((with_reducible refine (SB.out _ _ _ _ _ _ HKD B14 KD.out RX.out RY.out).mono ?_); rintro e v15 ⟨rfl, hi, hb⟩; have ID := Lib.hid hi; have B15 : Below w.heap.size w v15 := Below.trans B14 hb; clear hi hb))
        clear RX RY KD
        first
          | refine ⟨B15, ?_⟩
          | skip
        (try unfold seqC)
        go_wp2
        first
          | refine ⟨B15, ?_⟩
          | skip
        (try unfold seqC)
        go_wp2
        go_meet
        exact ⟨_, rfl, ID.out, B15⟩
    · (try unfold oneC)
      go_wp2
      have S : Below w1.heap.size w1 (w1.alloc (.cells #[.int .i64 m, .int .i64 bL] 3)) := grow_alloc (grow_refl _) _
      have B16 : Below w.heap.size w (w1.alloc (.cells #[.int .i64 m, .int .i64 bL] 3)) := grow_trans BZ S
      have HK1 : w.heap.size ≤ w1.heap.size := BZ.size
      have K1 := Lib.hid (show Known (w1.alloc (.cells #[.int .i64 m, .int .i64 bL] 3)) w1.heap.size #[.int .i64 m, .int .i64 bL] from Known.new _ _ _)
      first
        | refine ⟨B16, ?_⟩
        | skip
      clear S
      generalize w1.alloc (.cells #[.int .i64 m, .int .i64 bL] 3) = v16 at *
      generalize w1.heap.size = pK1 at *
      refine ⟨?_, ?_, ?_⟩
      · (try unfold oneC)
        go_wp2
        have S : Below v16.heap.size v16 (v16.alloc (.cells #[.bool false, .slice none 0 0] 76)) := grow_alloc (grow_refl _) _
        have B17 : Below w.heap.size w (v16.alloc (.cells #[.bool false, .slice none 0 0] 76)) := grow_trans B16 S
        have HKD : w.heap.size ≤ v16.heap.size := B16.size
        have KD := Lib.hid (show Bx (v16.alloc (.cells #[.bool false, .slice none 0 0] 76)) v16.heap.size #[.bool false, .slice none 0 0] from Bx.new _ _)
        replace K1 := Lib.hid (K1.out.below S)
        first
          | refine ⟨B17, ?_⟩
          | skip
        clear S
        generalize v16.alloc (.cells #[.bool false, .slice none 0 0] 76) = v17 at *
        generalize v16.heap.size = pKD at *
        refine ⟨?_, ?_⟩
        · (try unfold oneC)
          go_wp2_with (go_at_call 28; go_loud ((with_reducible refine (P1.out _ _ K1.out).mono ?_); rintro e v18 ⟨px, rfl, hi, hb⟩; obtain ⟨vx, hx⟩ := hi.rd; have RX := Lib.hid hx; have S := hb; have B18 : Below w.heap.size w v18 := grow_trans B17 hb; clear hi hx hb))
          clear K1
          replace KD := Lib.hid (KD.out.below S)
          first
            | refine ⟨B18, ?_⟩
            | skip
          clear S
          (try unfold seqC)
          go_wp2
          have S : Below v18.heap.size v18 (v18.alloc (.cells #[.int .i64 n, .int .i64 aL] 3)) := grow_alloc (grow_refl _) _
          have B19 : Below w.heap.size w (v18.alloc (.cells #[.int .i64 n, .int .i64 aL] 3)) := grow_trans B18 S
          have HK2 : w.heap.size ≤ v18.heap.size := B18.size
          have K2 := Lib.hid (show Known (v18.alloc (.cells #[.int .i64 n, .int .i64 aL] 3)) v18.heap.size #[.int .i64 n, .int .i64 aL] from Known.new _ _ _)
          replace KD := Lib.hid (KD.out.below S)
          replace RX := Lib.hid (RX.out.below S)
          first
            | refine ⟨B19, ?_⟩
            | skip
          clear S
          generalize v18.alloc (.cells #[.int .i64 n, .int .i64 aL] 3) = v19 at *
          generalize v18.heap.size = pK2 at *
          (try unfold seqC)
          go_wp2_with (go_at_call 28; go_loud ((with_reducible refine (P2.out _ _ K2.out).mono ?_); rintro e v20 ⟨py, rfl, hi, hb⟩; obtain ⟨vy, hx⟩ := hi.rd; have RY := Lib.hid hx; have S := hb; have B20 : Below w.heap.size w v20 := grow_trans B19 hb; clear hi hx hb))
          clear K2
          replace KD := Lib.hid (KD.out.below S)
          replace RX := Lib.hid (RX.out.below S)
          first
            | refine ⟨B20, ?_⟩
            | skip
          clear S
          (try unfold seqC)
          go_wp2_with (go_at_call 27; go_loud ((with_reducible refine (SB.out _ _ _ _ _ _ HKD B20 KD.out RX.out RY.out).mono ?_); rintro e v21 ⟨rfl, hi, hb⟩; have ID := Lib.hid hi; have B21 : Below w.heap.size w v21 := Below.trans B20 hb; clear hi hb))
          clear RX RY KD
          first
            | refine ⟨B21, ?_⟩
            | skip
          (try unfold seqC)
          go_wp2
          first
            | refine ⟨B21, ?_⟩
            | skip
          (try unfold seqC)
          go_wp2
          go_meet
          exact ⟨_, rfl, ID.out, B21⟩
        · (try unfold oneC)
          go_wp2
          have S : Below v17.heap.size v17 (v17.alloc (.cells #[.int .i64 n, .int .i64 aL] 3)) := grow_alloc (grow_refl _) _
          have B22 : Below w.heap.size w (v17.alloc (.cells #[.int .i64 n, .int .i64 aL] 3)) := grow_trans B17 S
          have HK2 : w.heap.size ≤ v17.heap.size := B17.size
          have K2 := Lib.hid (show Known (v17.alloc (.cells #[.int .i64 n, .int .i64 aL] 3)) v17.heap.size #[.int .i64 n, .int .i64 aL] from Known.new _ _ _)
          replace K1 := Lib.hid (K1.out.below S)
          replace KD := Lib.hid (KD.out.below S)
          first
            | refine ⟨B22, ?_⟩
            | skip
          clear S
          generalize v17.alloc (.cells #[.int .i64 n, .int .i64 aL] 3) = v22 at *
          generalize v17.heap.size = pK2 at *
          (try unfold seqC)
          go_wp2_with (go_at_call 28; go_loud ((with_reducible refine (P1.out _ _ K1.out).mono ?_); rintro e v23 ⟨px, rfl, hi, hb⟩; obtain ⟨vx, hx⟩ := hi.rd; have RX := Lib.hid hx; have S := hb; have B23 : Below w.heap.size w v23 := grow_trans B22 hb; clear hi hx hb))
          clear K1
          replace KD := Lib.hid (KD.out.below S)
          replace K2 := Lib.hid (K2.out.below S)
          first
            | refine ⟨B23, ?_⟩
            | skip
          clear S
          (try unfold seqC)
          go_wp2_with (go_at_call 28; go_loud ((with_reducible refine (P2.out _ _ K2.out).mono ?_); rintro e v24 ⟨py, rfl, hi, hb⟩; obtain ⟨vy, hx⟩ := hi.rd; have RY := Lib.hid hx; have S := hb; have B24 : Below w.heap.size w v24 := grow_trans B23 hb; clear hi hx hb))
          clear K2
          replace KD := Lib.hid (KD.out.below S)
          replace RX := Lib.hid (RX.out.below S)
          first
            | refine ⟨B24, ?_⟩
            | skip
          clear S
          (try unfold seqC)
          go_wp2_with (go_at_call 27; go_loud ((with_reducible refine (SB.out _ _ _ _ _ _ HKD B24 KD.out RX.out RY.out).mono ?_); rintro e v25 ⟨rfl, hi, hb⟩; have ID := Lib.hid hi; have B25 : Below w.heap.size w v25 := Below.trans B24 hb; clear hi hb))
          clear RX RY KD
          first
            | refine ⟨B25, ?_⟩
            | skip
          (try unfold seqC)
          go_wp2
          first
            | refine ⟨B25, ?_⟩
            | skip
          (try unfold seqC)
          go_wp2
          go_meet
          exact ⟨_, rfl, ID.out, B25⟩
      · (try unfold oneC)
        go_wp2_with (go_at_call 28; go_loud ((with_reducible refine (P1.out _ _ K1.out).mono ?_); rintro e v26 ⟨px, rfl, hi, hb⟩; obtain ⟨vx, hx⟩ := hi.rd; have RX := Lib.hid hx; have S := hb; have B26 : Below w.heap.size w v26 := grow_trans B16 hb; clear hi hx hb))
        clear K1
        first
          | refine ⟨B26, ?_⟩
          | skip
        clear S
        refine ⟨?_, ?_⟩
        · (try unfold oneC)
          go_wp2
          have S : Below v26.heap.size v26 (v26.alloc (.cells #[.bool false, .slice none 0 0] 76)) := grow_alloc (grow_refl _) _
          have B27 : Below w.heap.size w (v26.alloc (.cells #[.bool false, .slice none 0 0] 76)) := grow_trans B26 S
          have HKD : w.heap.size ≤ v26.heap.size := B26.size
          have KD := Lib.hid (show Bx (v26.alloc (.cells #[.bool false, .slice none 0 0] 76)) v26.heap.size #[.bool false, .slice none 0 0] from Bx.new _ _)
          replace RX := Lib.hid (RX.out.below S)
          first
            | refine ⟨B27, ?_⟩
            | skip
          clear S
          generalize v26.alloc (.cells #[.bool false, .slice none 0 0] 76) = v27 at *
          generalize v26.heap.size = pKD at *
          (try unfold seqC)
          go_wp2
          have S : Below v27.heap.size v27 (v27.alloc (.cells #[.int .i64 n, .int .i64 aL] 3)) := grow_alloc (grow_refl _) _
          have B28 : Below w.heap.size w (v27.alloc (.cells #[.int .i64 n, .int .i64 aL] 3)) := grow_trans B27 S
          have HK2 : w.heap.size ≤ v27.heap.size := B27.size
          have K2 := Lib.hid (show Known (v27.alloc (.cells #[.int .i64 n, .int .i64 aL] 3)) v27.heap.size #[.int .i64 n, .int .i64 aL] from Known.new _ _ _)
          replace RX := Lib.hid (RX.out.below S)
          replace KD := Lib.hid (KD.out.below S)
          first
            | refine ⟨B28, ?_⟩
            | skip
          clear S
          generalize v27.alloc (.cells #[.int .i64 n, .int .i64 aL] 3) = v28 at *
          generalize v27.heap.size = pK2 at *
          (try unfold seqC)
          go_wp2_with (go_at_call 28; go_loud ((with_reducible refine (P2.out _ _ K2.out).mono ?_); rintro e v29 ⟨py, rfl, hi, hb⟩; obtain ⟨vy, hx⟩ := hi.rd; have RY := Lib.hid hx; have S := hb; have B29 : Below w.heap.size w v29 := grow_trans B28 hb; clear hi hx hb))
          clear K2
          replace RX := Lib.hid (RX.out.below S)
          replace KD := Lib.hid (KD.out.below S)
          first
            | refine ⟨B29, ?_⟩
            | skip
          clear S
          (try unfold seqC)
          go_wp2_with (go_at_call 27; go_loud ((with_reducible refine (SB.out _ _ _ _ _ _ HKD B29 KD.out RX.out RY.out).mono ?_); rintro e v30 ⟨rfl, hi, hb⟩; have ID := Lib.hid hi; have B30 : Below w.heap.size w v30 := Below.trans B29 hb; clear hi hb))
          clear RX RY KD
          first
            | refine ⟨B30, ?_⟩
            | skip
          (try unfold seqC)
          go_wp2
          first
            | refine ⟨B30, ?_⟩
            | skip
          (try unfold seqC)
          go_wp2
          go_meet
          exact ⟨_, rfl, ID.out, B30⟩
        · (try unfold oneC)
          go_wp2
          have S : Below v26.heap.size v26 (v26.alloc (.cells #[.int .i64 n, .int .i64 aL] 3)) := grow_alloc (grow_refl _) _
          have B31 : Below w.heap.size w (v26.alloc (.cells #[.int .i64 n, .int .i64 aL] 3)) := grow_trans B26 S
          have HK2 : w.heap.size ≤ v26.heap.size := B26.size
          have K2 := Lib.hid (show Known (v26.alloc (.cells #[.int .i64 n, .int .i64 aL] 3)) v26.heap.size #[.int .i64 n, .int .i64 aL] from Known.new _ _ _)
          replace RX := Lib.hid (RX.out.below S)
          first
            | refine ⟨B31, ?_⟩
            | skip
          clear S
          generalize v26.alloc (.cells #[.int .i64 n, .int .i64 aL] 3) = v31 at *
          generalize v26.heap.size = pK2 at *
          refine ⟨?_, ?_⟩
          · (try unfold oneC)
            go_wp2
            have S : Below v31.heap.size v31 (v31.alloc (.cells #[.bool false, .slice none 0 0] 76)) := grow_alloc (grow_refl _) _
            have B32 : Below w.heap.size w (v31.alloc (.cells #[.bool false, .slice none 0 0] 76)) := grow_trans B31 S
            have HKD : w.heap.size ≤ v31.heap.size := B31.size
            have KD := Lib.hid (show Bx (v31.alloc (.cells #[.bool false, .slice none 0 0] 76)) v31.heap.size #[.bool false, .slice none 0 0] from Bx.new _ _)
            replace RX := Lib.hid (RX.out.below S)
            replace K2 := Lib.hid (K2.out.below S)
            first
              | refine ⟨B32, ?_⟩
              | skip
            clear S
            generalize v31.alloc (.cells #[.bool false, .slice none 0 0] 76) = v32 at *
            generalize v31.heap.size = pKD at *
            (try unfold seqC)
            go_wp2_with (go_at_call 28; go_loud ((with_reducible refine (P2.out _ _ K2.out).mono ?_); rintro e v33 ⟨py, rfl, hi, hb⟩; obtain ⟨vy, hx⟩ := hi.rd; have RY := Lib.hid hx; have S := hb; have B33 : Below w.heap.size w v33 := grow_trans B32 hb; clear hi hx hb))
            clear K2
            replace RX := Lib.hid (RX.out.below S)
            replace KD := Lib.hid (KD.out.below S)
            first
              | refine ⟨B33, ?_⟩
              | skip
            clear S
            (try unfold seqC)
            go_wp2_with (go_at_call 27; go_loud ((with_reducible refine (SB.out _ _ _ _ _ _ HKD B33 KD.out RX.out RY.out).mono ?_); rintro e v34 ⟨rfl, hi, hb⟩; have ID := Lib.hid hi; have B34 : Below w.heap.size w v34 := Below.trans B33 hb; clear hi hb))
            clear RX RY KD
            first
              | refine ⟨B34, ?_⟩
              | skip
            (try unfold seqC)
            go_wp2
            first
              | refine ⟨B34, ?_⟩
              | skip
            (try unfold seqC)
            go_wp2
            go_meet
            exact ⟨_, rfl, ID.out, B34⟩
          · (try unfold oneC)
            go_wp2_with (go_at_call 28; go_loud ((with_reducible refine (P2.out _ _ K2.out).mono ?_); rintro e v35 ⟨py, rfl, hi, hb⟩; obtain ⟨vy, hx⟩ := hi.rd; have RY := Lib.hid hx; have S := hb; have B35 : Below w.heap.size w v35 := grow_trans B31 hb; clear hi hx hb))
            clear K2
            replace RX := Lib.hid (RX.out.below S)
            first
              | refine ⟨B35, ?_⟩
              | skip
            clear S
            (try unfold seqC)
            go_wp2
            have S : Below v35.heap.size v35 (v35.alloc (.cells #[.bool false, .slice none 0 0] 76)) := grow_alloc (grow_refl _) _
            have B36 : Below w.heap.size w (v35.alloc (.cells #[.bool false, .slice none 0 0] 76)) := grow_trans B35 S
            have HKD : w.heap.size ≤ v35.heap.size := B35.size
            have KD := Lib.hid (show Bx (v35.alloc (.cells #[.bool false, .slice none 0 0] 76)) v35.heap.size #[.bool false, .slice none 0 0] from Bx.new _ _)
            replace RX := Lib.hid (RX.out.below S)
            replace RY := Lib.hid (RY.out.below S)
            first
              | refine ⟨B36, ?_⟩
              | skip
            clear S
            generalize v35.alloc (.cells #[.bool false, .slice none 0 0] 76) = v36 at *
            generalize v35.heap.size = pKD at *
            (try unfold seqC)
            go_wp2_with (go_at_call 27; go_loud ((with_reducible refine (SB.out _ _ _ _ _ _ HKD B36 KD.out RX.out RY.out).mono ?_); rintro e v37 ⟨rfl, hi, hb⟩; have ID := Lib.hid hi; have B37 : Below w.heap.size w v37 := Below.trans B36 hb; clear hi hb))
            clear RX RY KD
            first
              | refine ⟨B37, ?_⟩
              | skip
            (try unfold seqC)
            go_wp2
            first
              | refine ⟨B37, ?_⟩
              | skip
            (try unfold seqC)
            go_wp2
            go_meet
            exact ⟨_, rfl, ID.out, B37⟩
      · (try unfold oneC)
        go_wp2
        have S : Below v16.heap.size v16 (v16.alloc (.cells #[.int .i64 n, .int .i64 aL] 3)) := grow_alloc (grow_refl _) _
        have B38 : Below w.heap.size w (v16.alloc (.cells #[.int .i64 n, .int .i64 aL] 3)) := grow_trans B16 S
        have HK2 : w.heap.size ≤ v16.heap.size := B16.size
        have K2 := Lib.hid (show Known (v16.alloc (.cells #[.int .i64 n, .int .i64 aL] 3)) v16.heap.size #[.int .i64 n, .int .i64 aL] from Known.new _ _ _)
        replace K1 := Lib.hid (K1.out.below S)
        first
          | refine ⟨B38, ?_⟩
          | skip
        clear S
        generalize v16.alloc (.cells #[.int .i64 n, .int .i64 aL] 3) = v38 at *
        generalize v16.heap.size = pK2 at *
        refine ⟨?_, ?_⟩
        · (try unfold oneC)
          go_wp2
          have S : Below v38.heap.size v38 (v38.alloc (.cells #[.bool false, .slice none 0 0] 76)) := grow_alloc (grow_refl _) _
          have B39 : Below w.heap.size w (v38.alloc (.cells #[.bool false, .slice none 0 0] 76)) := grow_trans B38 S
          have HKD : w.heap.size ≤ v38.heap.size := B38.size
          have KD := Lib.hid (show Bx (v38.alloc (.cells #[.bool false, .slice none 0 0] 76)) v38.heap.size #[.bool false, .slice none 0 0] from Bx.new _ _)
          replace K1 := Lib.hid (K1.out.below S)
          replace K2 := Lib.hid (K2.out.below S)
          first
            | refine ⟨B39, ?_⟩
            | skip
          clear S
          generalize v38.alloc (.cells #[.bool false, .slice none 0 0] 76) = v39 at *
          generalize v38.heap.size = pKD at *
          (try unfold seqC)
          go_wp2_with (go_at_call 28; go_loud ((with_reducible refine (P1.out _ _ K1.out).mono ?_); rintro e v40 ⟨px, rfl, hi, hb⟩; obtain ⟨vx, hx⟩ := hi.rd; have RX := Lib.hid hx; have S := hb; have B40 : Below w.heap.size w v40 := grow_trans B39 hb; clear hi hx hb))
          clear K1
          replace K2 := Lib.hid (K2.out.below S)
          replace KD := Lib.hid (KD.out.below S)
          first
            | refine ⟨B40, ?_⟩
            | skip
          clear S
          (try unfold seqC)
          go_wp2_with (go_at_call 28; go_loud ((with_reducible refine (P2.out _ _ K2.out).mono ?_); rintro e v41 ⟨py, rfl, hi, hb⟩; obtain ⟨vy, hx⟩ := hi.rd; have RY := Lib.hid hx; have S := hb; have B41 : Below w.heap.size w v41 := grow_trans B40 hb; clear hi hx hb))
          clear K2
          replace KD := Lib.hid (KD.out.below S)
          replace RX := Lib.hid (RX.out.below S)
          first
            | refine ⟨B41, ?_⟩
            | skip
          clear S
          (try unfold seqC)
          go_wp2_with (go_at_call 27; go_loud ((with_reducible refine (SB.out _ _ _ _ _ _ HKD B41 KD.out RX.out RY.out).mono ?_); rintro e v42 ⟨rfl, hi, hb⟩; have ID := Lib.hid hi; have B42 : Below w.heap.size w v42 := Below.trans B41 hb; clear hi hb))
          clear RX RY KD
          first
            | refine ⟨B42, ?_⟩
            | skip
          (try unfold seqC)
          go_wp2
          first
            | refine ⟨B42, ?_⟩
            | skip
          (try unfold seqC)
          go_wp2
          go_meet
          exact ⟨_, rfl, ID.out, B42⟩
        · (try unfold oneC)
          go_wp2_with (go_at_call 28; go_loud ((with_reducible refine (P1.out _ _ K1.out).mono ?_); rintro e v43 ⟨px, rfl, hi, hb⟩; obtain ⟨vx, hx⟩ := hi.rd; have RX := Lib.hid hx; have S := hb; have B43 : Below w.heap.size w v43 := grow_trans B38 hb; clear hi hx hb))
          clear K1
          replace K2 := Lib.hid (K2.out.below S)
          first
            | refine ⟨B43, ?_⟩
            | skip
          clear S
          refine ⟨?_, ?_⟩
          · (try unfold oneC)
            go_wp2
            have S : Below v43.heap.size v43 (v43.alloc (.cells #[.bool false, .slice none 0 0] 76)) := grow_alloc (grow_refl _) _
            have B44 : Below w.heap.size w (v43.alloc (.cells #[.bool false, .slice none 0 0] 76)) := grow_trans B43 S
            have HKD : w.heap.size ≤ v43.heap.size := B43.size
            have KD := Lib.hid (show Bx (v43.alloc (.cells #[.bool false, .slice none 0 0] 76)) v43.heap.size #[.bool false, .slice none 0 0] from Bx.new _ _)
            replace K2 := Lib.hid (K2.out.below S)
            replace RX := Lib.hid (RX.out.below S)
            first
              | refine ⟨B44, ?_⟩
              | skip
            clear S
            generalize v43.alloc (.cells #[.bool false, .slice none 0 0] 76) = v44 at *
            generalize v43.heap.size = pKD at *
            (try unfold seqC)
            go_wp2_with (go_at_call 28; go_loud ((with_reducible refine (P2.out _ _ K2.out).mono ?_); rintro e v45 ⟨py, rfl, hi, hb⟩; obtain ⟨vy, hx⟩ := hi.rd; have RY := Lib.hid hx; have S := hb; have B45 : Below w.heap.size w v45 := grow_trans B44 hb; clear hi hx hb))
            clear K2
            replace RX := Lib.hid (RX.out.below S)
            replace KD := Lib.hid (KD.out.below S)
            first
              | refine ⟨B45, ?_⟩
              | skip
            clear S
            (try unfold seqC)
            go_wp2_with (go_at_call 27; go_loud ((with_reducible refine (SB.out _ _ _ _ _ _ HKD B45 KD.out RX.out RY.out).mono ?_); rintro e v46 ⟨rfl, hi, hb⟩; have ID := Lib.hid hi; have B46 : Below w.heap.size w v46 := Below.trans B45 hb; clear hi hb))
            clear RX RY KD
            first
              | refine ⟨B46, ?_⟩
              | skip
            (try unfold seqC)
            go_wp2
            first
              | refine ⟨B46, ?_⟩
              | skip
            (try unfold seqC)
            go_wp2
            go_meet
            exact ⟨_, rfl, ID.out, B46⟩
          · (try unfold oneC)
            go_wp2_with (go_at_call 28; go_loud ((with_reducible refine (P2.out _ _ K2.out).mono ?_); rintro e v47 ⟨py, rfl, hi, hb⟩; obtain ⟨vy, hx⟩ := hi.rd; have RY := Lib.hid hx; have S := hb; have B47 : Below w.heap.size w v47 := grow_trans B43 hb; clear hi hx hb))
            clear K2
            replace RX := Lib.hid (RX.out.below S)
            first
              | refine ⟨B47, ?_⟩
              | skip
            clear S
            (try unfold seqC)
            go_wp2
            have S : Below v47.heap.size v47 (v47.alloc (.cells #[.bool false, .slice none 0 0] 76)) := grow_alloc (grow_refl _) _
            have B48 : Below w.heap.size w (v47.alloc (.cells #[.bool false, .slice none 0 0] 76)) := grow_trans B47 S
            have HKD : w.heap.size ≤ v47.heap.size := B47.size
            have KD := Lib.hid (show Bx (v47.alloc (.cells #[.bool false, .slice none 0 0] 76)) v47.heap.size #[.bool false, .slice none 0 0] from Bx.new _ _)
            replace RX := Lib.hid (RX.out.below S)
            replace RY := Lib.hid (RY.out.below S)
            first
              | refine ⟨B48, ?_⟩
              | skip
            clear S
            generalize v47.alloc (.cells #[.bool false, .slice none 0 0] 76) = v48 at *
            generalize v47.heap.size = pKD at *
            (try unfold seqC)
            go_wp2_with (go_at_call 27; go_loud ((with_reducible refine (SB.out _ _ _ _ _ _ HKD B48 KD.out RX.out RY.out).mono ?_); rintro e v49 ⟨rfl, hi, hb⟩; have ID := Lib.hid hi; have B49 : Below w.heap.size w v49 := Below.trans B48 hb; clear hi hb))
            clear RX RY KD
            first
              | refine ⟨B49, ?_⟩
              | skip
            (try unfold seqC)
            go_wp2
            first
              | refine ⟨B49, ?_⟩
              | skip
            (try unfold seqC)
            go_wp2
            go_meet
            exact ⟨_, rfl, ID.out, B49⟩
    · (try unfold oneC)
      go_wp2
      have S : Below w1.heap.size w1 (w1.alloc (.cells #[.int .i64 n, .int .i64 aL] 3)) := grow_alloc (grow_refl _) _
      have B50 : Below w.heap.size w (w1.alloc (.cells #[.int .i64 n, .int .i64 aL] 3)) := grow_trans BZ S
      have HK2 : w.heap.size ≤ w1.heap.size := BZ.size
      have K2 := Lib.hid (show Known (w1.alloc (.cells #[.int .i64 n, .int .i64 aL] 3)) w1.heap.size #[.int .i64 n, .int .i64 aL] from Known.new _ _ _)
      first
        | refine ⟨B50, ?_⟩
        | skip
      clear S
      generalize w1.alloc (.cells #[.int .i64 n, .int .i64 aL] 3) = v50 at *
      generalize w1.heap.size = pK2 at *
      refine ⟨?_, ?_⟩
      · (try unfold oneC)
        go_wp2
        have S : Below v50.heap.size v50 (v50.alloc (.cells #[.bool false, .slice none 0 0] 76)) := grow_alloc (grow_refl _) _
        have B51 : Below w.heap.size w (v50.alloc (.cells #[.bool false, .slice none 0 0] 76)) := grow_trans B50 S
        have HKD : w.heap.size ≤ v50.heap.size := B50.size
        have KD := Lib.hid (show Bx (v50.alloc (.cells #[.bool false, .slice none 0 0] 76)) v50.heap.size #[.bool false, .slice none 0 0] from Bx.new _ _)
        replace K2 := Lib.hid (K2.out.below S)
        first
          | refine ⟨B51, ?_⟩
          | skip
        clear S
        generalize v50.alloc (.cells #[.bool false, .slice none 0 0] 76) = v51 at *
        generalize v50.heap.size = pKD at *
        (try unfold seqC)
        go_wp2
        have S : Below v51.heap.size v51 (v51.alloc (.cells #[.int .i64 m, .int .i64 bL] 3)) := grow_alloc (grow_refl _) _
        have B52 : Below w.heap.size w (v51.alloc (.cells #[.int .i64 m, .int .i64 bL] 3)) := grow_trans B51 S
        have HK1 : w.heap.size ≤ v51.heap.size := B51.size
        have K1 := Lib.hid (show Known (v51.alloc (.cells #[.int .i64 m, .int .i64 bL] 3)) v51.heap.size #[.int .i64 m, .int .i64 bL] from Known.new _ _ _)
        replace K2 := Lib.hid (K2.out.below S)
        replace KD := Lib.hid (KD.out.below S)
        first
          | refine ⟨B52, ?_⟩
          | skip
        clear S
        generalize v51.alloc (.cells #[.int .i64 m, .int .i64 bL] 3) = v52 at *
        generalize v51.heap.size = pK1 at *
        (try unfold seqC)
        go_wp2_with (go_at_call 28; go_loud ((with_reducible refine (P1.out _ _ K1.out).mono ?_); rintro e v53 ⟨px, rfl, hi, hb⟩; obtain ⟨vx, hx⟩ := hi.rd; have RX := Lib.hid hx; have S := hb; have B53 : Below w.heap.size w v53 := grow_trans B52 hb; clear hi hx hb))
        clear K1
        replace K2 := Lib.hid (K2.out.below S)
        replace KD := Lib.hid (KD.out.below S)
        first
          | refine ⟨B53, ?_⟩
          | skip
        clear S
        (try unfold seqC)
        go_wp2_with (go_at_call 28; go_loud ((with_reducible refine (P2.out _ _ K2.out).mono ?_); rintro e v54 ⟨py, rfl, hi, hb⟩; obtain ⟨vy, hx⟩ := hi.rd; have RY := Lib.hid hx; have S := hb; have B54 : Below w.heap.size w v54 := grow_trans B53 hb; clear hi hx hb))
        clear K2
        replace KD := Lib.hid (KD.out.below S)
        replace RX := Lib.hid (RX.out.below S)
        first
          | refine ⟨B54, ?_⟩
          | skip
        clear S
        (try unfold seqC)
        go_wp2_with (go_at_call 27; go_loud ((with_reducible refine (SB.out _ _ _ _ _ _ HKD B54 KD.out RX.out RY.out).mono ?_); rintro e v55 ⟨rfl, hi, hb⟩; have ID := Lib.hid hi; have B55 : Below w.heap.size w v55 := Below.trans B54 hb; clear hi hb))
        clear RX RY KD
        first
          | refine ⟨B55, ?_⟩
          | skip
        (try unfold seqC)
        go_wp2
        first
          | refine ⟨B55, ?_⟩
          | skip
        (try unfold seqC)
        go_wp2
        go_meet
        exact ⟨_, rfl, ID.out, B55⟩
      · (try unfold oneC)
        go_wp2
        have S : Below v50.heap.size v50 (v50.alloc (.cells #[.int .i64 m, .int .i64 bL] 3)) := grow_alloc (grow_refl _) _
        have B56 : Below w.heap.size w (v50.alloc (.cells #[.int .i64 m, .int .i64 bL] 3)) := grow_trans B50 S
        have HK1 : w.heap.size ≤ v50.heap.size := B50.size
        have K1 := Lib.hid (show Known (v50.alloc (.cells #[.int .i64 m, .int .i64 bL] 3)) v50.heap.size #[.int .i64 m, .int .i64 bL] from Known.new _ _ _)
        replace K2 := Lib.hid (K2.out.below S)
        first
          | refine ⟨B56, ?_⟩
          | skip
        clear S
        generalize v50.alloc (.cells #[.int .i64 m, .int .i64 bL] 3) = v56 at *
        generalize v50.heap.size = pK1 at *
        refine ⟨?_, ?_⟩
        · (try unfold oneC)
          go_wp2
          have S : Below v56.heap.size v56 (v56.alloc (.cells #[.bool false, .slice none 0 0] 76)) := grow_alloc (grow_refl _) _
          have B57 : Below w.heap.size w (v56.alloc (.cells #[.bool false, .slice none 0 0] 76)) := grow_trans B56 S
          have HKD : w.heap.size ≤ v56.heap.size := B56.size
          have KD := Lib.hid (show Bx (v56.alloc (.cells #[.bool false, .slice none 0 0] 76)) v56.heap.size #[.bool false, .slice none 0 0] from Bx.new _ _)
          replace K2 := Lib.hid (K2.out.below S)
          replace K1 := Lib.hid (K1.out.below S)
          first
            | refine ⟨B57, ?_⟩
            | skip
          clear S
          generalize v56.alloc (.cells #[.bool false, .slice none 0 0] 76) = v57 at *
          generalize v56.heap.size = pKD at *
          (try unfold seqC)
          go_wp2_with (go_at_call 28; go_loud ((with_reducible refine (P1.out _ _ K1.out).mono ?_); rintro e v58 ⟨px, rfl, hi, hb⟩; obtain ⟨vx, hx⟩ := hi.rd; have RX := Lib.hid hx; have S := hb; have B58 : Below w.heap.size w v58 := grow_trans B57 hb; clear hi hx hb))
          clear K1
          replace K2 := Lib.hid (K2.out.below S)
          replace KD := Lib.hid (KD.out.below S)
          first
            | refine ⟨B58, ?_⟩
            | skip
          clear S
          (try unfold seqC)
          go_wp2_with (go_at_call 28; go_loud ((with_reducible refine (P2.out _ _ K2.out).mono ?_); rintro e v59 ⟨py, rfl, hi, hb⟩; obtain ⟨vy, hx⟩ := hi.rd; have RY := Lib.hid hx; have S := hb; have B59 : Below w.heap.size w v59 := grow_trans B58 hb; clear hi hx hb))
          clear K2
          replace KD := Lib.hid (KD.out.below S)
          replace RX := Lib.hid (RX.out.below S)
          first
            | refine ⟨B59, ?_⟩
            | skip
          clear S
          (try unfold seqC)
          go_wp2_with (go_at_call 27; go_loud ((with_reducible refine (SB.out _ _ _ _ _ _ HKD B59 KD.out RX.out RY.out).mono ?_); rintro e v60 ⟨rfl, hi, hb⟩; have ID := Lib.hid hi; have B60 : Below w.heap.size w v60 := Below.trans B59 hb; clear hi hb))
          clear RX RY KD
          first
            | refine ⟨B60, ?_⟩
            | skip
          (try unfold seqC)
          go_wp2
          first
            | refine ⟨B60, ?_⟩
            | skip
          (try unfold seqC)
          go_wp2
          go_meet
          exact ⟨_, rfl, ID.out, B60⟩
        · (try unfold oneC)
          go_wp2_with (go_at_call 28; go_loud ((with_reducible refine (P1.out _ _ K1.out).mono ?_); rintro e v61 ⟨px, rfl, hi, hb⟩; obtain ⟨vx, hx⟩ := hi.rd; have RX := Lib.hid hx; have S := hb; have B61 : Below w.heap.size w v61 := grow_trans B56 hb; clear hi hx hb))
          clear K1
          replace K2 := Lib.hid (K2.out.below S)
          first
            | refine ⟨B61, ?_⟩
            | skip
          clear S
          refine ⟨?_, ?_⟩
          · (try unfold oneC)
            go_wp2
            have S : Below v61.heap.size v61 (v61.alloc (.cells #[.bool false, .slice none 0 0] 76)) := grow_alloc (grow_refl _) _
            have B62 : Below w.heap.size w (v61.alloc (.cells #[.bool false, .slice none 0 0] 76)) := grow_trans B61 S
            have HKD : w.heap.size ≤ v61.heap.size := B61.size
            have KD := Lib.hid (show Bx (v61.alloc (.cells #[.bool false, .slice none 0 0] 76)) v61.heap.size #[.bool false, .slice none 0 0] from Bx.new _ _)
            replace K2 := Lib.hid (K2.out.below S)
            replace RX := Lib.hid (RX.out.below S)
            first
              | refine ⟨B62, ?_⟩
              | skip
            clear S
            generalize v61.alloc (.cells #[.bool false, .slice none 0 0] 76) = v62 at *
            generalize v61.heap.size = pKD at *
            (try unfold seqC)
            go_wp2_with (go_at_call 28; go_loud ((with_reducible refine (P2.out _ _ K2.out).mono ?_); rintro e v63 ⟨py, rfl, hi, hb⟩; obtain ⟨vy, hx⟩ := hi.rd; have RY := Lib.hid hx; have S := hb; have B63 : Below w.heap.size w v63 := grow_trans B62 hb; clear hi hx hb))
            clear K2
            replace RX := Lib.hid (RX.out.below S)
            replace KD := Lib.hid (KD.out.below S)
            first
              | refine ⟨B63, ?_⟩
              | skip
            clear S
            (try unfold seqC)
            go_wp2_with (go_at_call 27; go_loud ((with_reducible refine (SB.out _ _ _ _ _ _ HKD B63 KD.out RX.out RY.out).mono ?_); rintro e v64 ⟨rfl, hi, hb⟩; have ID := Lib.hid hi; have B64 : Below w.heap.size w v64 := Below.trans B63 hb; clear hi hb))
            clear RX RY KD
            first
              | refine ⟨B64, ?_⟩
              | skip
            (try unfold seqC)
            go_wp2
            first
              | refine ⟨B64, ?_⟩
              | skip
            (try unfold seqC)
            go_wp2
            go_meet
            exact ⟨_, rfl, ID.out, B64⟩
          · (try unfold oneC)
            go_wp2_with (go_at_call 28; go_loud ((with_reducible refine (P2.out _ _ K2.out).mono ?_); rintro e v65 ⟨py, rfl, hi, hb⟩; obtain ⟨vy, hx⟩ := hi.rd; have RY := Lib.hid hx; have S := hb; have B65 : Below w.heap.size w v65 := grow_trans B61 hb; clear hi hx hb))
            clear K2
            replace RX := Lib.hid (RX.out.below S)
            first
              | refine ⟨B65, ?_⟩
              | skip
            clear S
            (try unfold seqC)
            go_wp2
            have S : Below v65.heap.size v65 (v65.alloc (.cells #[.bool false, .slice none 0 0] 76)) := grow_alloc (grow_refl _) _
            have B66 : Below w.heap.size w (v65.alloc (.cells #[.bool false, .slice none 0 0] 76)) := grow_trans B65 S
            have HKD : w.heap.size ≤ v65.heap.size := B65.size
            have KD := Lib.hid (show Bx (v65.alloc (.cells #[.bool false, .slice none 0 0] 76)) v65.heap.size #[.bool false, .slice none 0 0] from Bx.new _ _)
            replace RX := Lib.hid (RX.out.below S)
            replace RY := Lib.hid (RY.out.below S)
            first
              | refine ⟨B66, ?_⟩
              | skip
            clear S
            generalize v65.alloc (.cells #[.bool false, .slice none 0 0] 76) = v66 at *
            generalize v65.heap.size = pKD at *
            (try unfold seqC)
            go_wp2_with (go_at_call 27; go_loud ((with_reducible refine (SB.out _ _ _ _ _ _ HKD B66 KD.out RX.out RY.out).mono ?_); rintro e v67 ⟨rfl, hi, hb⟩; have ID := Lib.hid hi; have B67 : Below w.heap.size w v67 := Below.trans B66 hb; clear hi hb))
            clear RX RY KD
            first
              | refine ⟨B67, ?_⟩
              | skip
            (try unfold seqC)
            go_wp2
            first
              | refine ⟨B67, ?_⟩
              | skip
            (try unfold seqC)
            go_wp2
            go_meet
            exact ⟨_, rfl, ID.out, B67⟩
  case rest =>
    obtain ⟨pd, rfl, hid, hbd⟩ := hcut
    have ID := Lib.hid hid
    have BD := Lib.hid hbd
    clear hid hbd
    have hD : (m * bL - n * aL).natAbs ≤ 75557863725914323419136 := by omega
    generalize m * bL - n * aL = D at *
    have AB := Lib.hid (fun X (h : IntAt w.heap.size X pd D) => AbsK_walk w.heap.size X pd D h)
    have MU := Lib.hid (fun W0 X q (h1 : IntAt w.heap.size W0 pd (D.natAbs : Nat)) (hb : Below W0.heap.size W0 X) (h2 : IntAt W0.heap.size X q 1000) => MulK_walk w.heap.size W0 X pd q (D.natAbs : Nat) 1000 (by rw [Int.natAbs_natCast]; have := dig_two (a := D.natAbs) (by omega); omega) (by decide) h1 hb h2)
    have CM := Lib.hid (fun X B2 q (h1 : IntAt w.heap.size X pd ((D.natAbs : Nat) * 1000)) (h2 : IntAt B2 X q (k * aL * bL)) (hne : ¬ pd = q) => Cmp_walk w.heap.size B2 X pd q ((D.natAbs : Nat) * 1000) (k * aL * bL) (by have := dig_two (a := (((D.natAbs : Nat) : Int) * 1000).natAbs) (by omega); omega) h1 h2 hne)
    have dc := cmp_le ((D.natAbs : Nat) * 1000) (k * aL * bL)
    rw [← HN.out] at dc
    clear hmb hna hD
    generalize hcc : cmpI ((D.natAbs : Nat) * 1000) (k * aL * bL) = cc at *
    clear hcc
    have BZ : Below w.heap.size w wc.drew := Below.drew BD.out
    have e0 := HB.out.cell 0
    have e1 := HB.out.lt
    have e2 := HA.out.cell 0
    have e3 := HA.out.lt
    have e4 := HK.out.cell 0
    have e5 := HK.out.lt
    simp only [List.getElem?_toArray, List.getElem?_cons_zero, List.getElem?_cons_succ] at e0 e2 e4
    go_upto_region 2 with (fail)
    refine Grow.wp_region_planC BD.out [0, 1, 2, 7, 9] (.reads [6, 8, 10] (.two 3 (.two 4 (.two 5 (.tail [11, 12, 13, 14, 15]) 11 (.tail [5, 12, 13, 14, 15])) 11 (.tail [4, 5, 12, 13, 14, 15])) 11 (.tail [3, 4, 5, 12, 13, 14, 15]))) (by kernel_rfl) (by kernel_rfl) (by kernel_rfl) (by kernel_rfl) (by kernel_rfl) ?_ ?_
    · intro c aa d v ww h
      first
        | exact Grow.bodyPost_blind h
        | (simp (config := {zetaDelta := true}) only [Exit.then, Exit.inBlock] at h ⊢; first | exact Grow.bodyPost_blind h | exact h)
    simp only [Grow.Plan.wpC, Grow.pick, List.getElem?_cons_zero, List.getElem?_cons_succ, List.cons_append, List.nil_append]
    repeat (go_big_quiet_step (fail))
    refine wpQuiet_nil ?_
    repeat (go_big_quiet_step (fail))
    refine wpQuiet_nil ?_
    clear e0 e1 e2 e3 e4 e5
    replace ID := Lib.hid (ID.out.below (grow_drew (grow_refl wc)))
    clear BD
    generalize wc.drew = x1 at *
    refine ⟨?_, ?_⟩
    · (try unfold oneC)
      go_wp2_with (go_at_call 30; go_loud ((with_reducible refine (AB.out _ ID.out).mono ?_); rintro e v1 ⟨rfl, hi, hb, hkp⟩; have B1 : Below w.heap.size w v1 := Below.trans BZ hb; have IA := Lib.hid hi; have KP := Lib.hid hkp; clear hi hb hkp))
      clear KP ID
      first
        | refine ⟨B1, ?_⟩
        | skip
      refine ⟨?_, ?_⟩
      · (try unfold oneC)
        go_wp2_with (go_at_call 31; go_loud ((with_reducible refine (NI.out _).mono ?_); rintro e v2 ⟨q, rfl, hi, hb⟩; have B2 : Below w.heap.size w v2 := grow_trans B1 hb; have S := hb; have I1 := Lib.hid hi; have BN := Lib.hid hb; clear hi hb))
        clear S
        first
          | refine ⟨B2, ?_⟩
          | skip
        refine ⟨?_, ?_⟩
        · (try unfold oneC)
          have IX := Lib.hid (IA.out.below BN.out)
          go_wp2_with (go_at_call 29; go_loud ((with_reducible refine (MU.out _ _ _ IA.out BN.out I1.out).mono ?_); rintro e v3 ⟨rfl, hi, hb, hkp⟩; have B3 : Below w.heap.size w v3 := Below.trans B2 hb; have IM := Lib.hid hi; have KP := Lib.hid hkp; clear hi hb hkp))
          clear KP IA I1 BN IX
          first
            | refine ⟨B3, ?_⟩
            | skip
          (try unfold seqC)
          go_wp2
          have S : Below v3.heap.size v3 (v3.alloc (.cells #[.int .i64 k, .int .i64 aL, .int .i64 bL] 3)) := grow_alloc (grow_refl _) _
          have B4 : Below w.heap.size w (v3.alloc (.cells #[.int .i64 k, .int .i64 aL, .int .i64 bL] 3)) := grow_trans B3 S
          have O3 := Lib.hid (show (v3.alloc (.cells #[.int .i64 k, .int .i64 aL, .int .i64 bL] 3)).heap[v3.heap.size]? = some (.cells #[.int .i64 k, .int .i64 aL, .int .i64 bL] 3 (0, 0)) from heap_alloc_new _ _)
          replace IM := Lib.hid (IM.out.below S)
          first
            | refine ⟨B4, ?_⟩
            | skip
          clear S
          generalize v3.alloc (.cells #[.int .i64 k, .int .i64 aL, .int .i64 bL] 3) = v4 at *
          generalize v3.heap.size = g3 at *
          (try unfold seqC)
          go_wp2_with (go_at_call 28; go_loud ((with_reducible refine (P3.out _ _ (known_of O3.out)).mono ?_); rintro e v5 ⟨py, rfl, hi, hb⟩; have S := hb; have IQ := Lib.hid hi; have B5 : Below w.heap.size w v5 := grow_trans B4 hb; have NE := Lib.hid (show ¬ pd = py from fun e => by have := IM.out.lt; have := hi.1; omega); clear hi hb))
          clear O3
          replace IM := Lib.hid (IM.out.below S)
          clear S
          first
            | refine ⟨B5, ?_⟩
            | skip
          (try unfold seqC)
          go_wp2_with (go_at_call 32; go_loud ((with_reducible refine (CM.out _ _ _ IM.out IQ.out NE.out).mono ?_); rintro e v6 ⟨rfl, hb⟩; have B6 : Below w.heap.size w v6 := grow_trans B5 hb; clear hb))
          clear IM IQ NE
          first
            | refine ⟨B6, ?_⟩
            | skip
          (try unfold seqC)
          go_wp2
          first
            | refine ⟨B6, ?_⟩
            | skip
          (try unfold seqC)
          go_wp2
          first
            | refine ⟨B6, ?_⟩
            | skip
          (try unfold seqC)
          go_wp2
          go_ret
          exact ⟨rfl, B6⟩
        · (try unfold oneC)
          go_wp2
          have S : Below v2.heap.size v2 (v2.alloc (.cells #[.int .i64 k, .int .i64 aL, .int .i64 bL] 3)) := grow_alloc (grow_refl _) _
          have B9 : Below w.heap.size w (v2.alloc (.cells #[.int .i64 k, .int .i64 aL, .int .i64 bL] 3)) := grow_trans B2 S
          have O3 := Lib.hid (show (v2.alloc (.cells #[.int .i64 k, .int .i64 aL, .int .i64 bL] 3)).heap[v2.heap.size]? = some (.cells #[.int .i64 k, .int .i64 aL, .int .i64 bL] 3 (0, 0)) from heap_alloc_new _ _)
          replace I1 := Lib.hid (I1.out.below S)
          replace BN := Lib.hid (grow_trans BN.out S)
          first
            | refine ⟨B9, ?_⟩
            | skip
          clear S
          generalize v2.alloc (.cells #[.int .i64 k, .int .i64 aL, .int .i64 bL] 3) = v9 at *
          (try unfold seqC)
          have IX := Lib.hid (IA.out.below BN.out)
          go_wp2_with (go_at_call 29; go_loud ((with_reducible refine (MU.out _ _ _ IA.out BN.out I1.out).mono ?_); rintro e v10 ⟨rfl, hi, hb, hkp⟩; have B10 : Below w.heap.size w v10 := Below.trans B9 hb; have IM := Lib.hid hi; have KP := Lib.hid hkp; clear hi hb hkp))
          replace O3 := Lib.hid ((KP.out _ (Array.getElem?_eq_some_iff.1 O3.out).1 (row_apart O3.out IX.out).1 (row_apart O3.out IX.out).2).trans O3.out)
          clear KP IA I1 BN IX
          first
            | refine ⟨B10, ?_⟩
            | skip
          (try unfold seqC)
          go_wp2_with (go_at_call 28; go_loud ((with_reducible refine (P3.out _ _ (known_of O3.out)).mono ?_); rintro e v11 ⟨py, rfl, hi, hb⟩; have S := hb; have IQ := Lib.hid hi; have B11 : Below w.heap.size w v11 := grow_trans B10 hb; have NE := Lib.hid (show ¬ pd = py from fun e => by have := IM.out.lt; have := hi.1; omega); clear hi hb))
          clear O3
          replace IM := Lib.hid (IM.out.below S)
          clear S
          first
            | refine ⟨B11, ?_⟩
            | skip
          (try unfold seqC)
          go_wp2_with (go_at_call 32; go_loud ((with_reducible refine (CM.out _ _ _ IM.out IQ.out NE.out).mono ?_); rintro e v12 ⟨rfl, hb⟩; have B12 : Below w.heap.size w v12 := grow_trans B11 hb; clear hb))
          clear IM IQ NE
          first
            | refine ⟨B12, ?_⟩
            | skip
          (try unfold seqC)
          go_wp2
          first
            | refine ⟨B12, ?_⟩
            | skip
          (try unfold seqC)
          go_wp2
          first
            | refine ⟨B12, ?_⟩
            | skip
          (try unfold seqC)
          go_wp2
          go_ret
          exact ⟨rfl, B12⟩
      · (try unfold oneC)
        go_wp2
        have S : Below v1.heap.size v1 (v1.alloc (.cells #[.int .i64 k, .int .i64 aL, .int .i64 bL] 3)) := grow_alloc (grow_refl _) _
        have B15 : Below w.heap.size w (v1.alloc (.cells #[.int .i64 k, .int .i64 aL, .int .i64 bL] 3)) := grow_trans B1 S
        have O3 := Lib.hid (show (v1.alloc (.cells #[.int .i64 k, .int .i64 aL, .int .i64 bL] 3)).heap[v1.heap.size]? = some (.cells #[.int .i64 k, .int .i64 aL, .int .i64 bL] 3 (0, 0)) from heap_alloc_new _ _)
        replace IA := Lib.hid (IA.out.below S)
        first
          | refine ⟨B15, ?_⟩
          | skip
        clear S
        generalize v1.alloc (.cells #[.int .i64 k, .int .i64 aL, .int .i64 bL] 3) = v15 at *
        generalize v1.heap.size = g3 at *
        (try unfold seqC)
        go_wp2_with (go_at_call 31; go_loud ((with_reducible refine (NI.out _).mono ?_); rintro e v16 ⟨q, rfl, hi, hb⟩; have B16 : Below w.heap.size w v16 := grow_trans B15 hb; have S := hb; have I1 := Lib.hid hi; have BN := Lib.hid hb; clear hi hb))
        replace O3 := Lib.hid ((S.block _ (Array.getElem?_eq_some_iff.1 O3.out).1).trans O3.out)
        clear S
        first
          | refine ⟨B16, ?_⟩
          | skip
        (try unfold seqC)
        have IX := Lib.hid (IA.out.below BN.out)
        go_wp2_with (go_at_call 29; go_loud ((with_reducible refine (MU.out _ _ _ IA.out BN.out I1.out).mono ?_); rintro e v17 ⟨rfl, hi, hb, hkp⟩; have B17 : Below w.heap.size w v17 := Below.trans B16 hb; have IM := Lib.hid hi; have KP := Lib.hid hkp; clear hi hb hkp))
        replace O3 := Lib.hid ((KP.out _ (Array.getElem?_eq_some_iff.1 O3.out).1 (row_apart O3.out IX.out).1 (row_apart O3.out IX.out).2).trans O3.out)
        clear KP IA I1 BN IX
        first
          | refine ⟨B17, ?_⟩
          | skip
        (try unfold seqC)
        go_wp2_with (go_at_call 28; go_loud ((with_reducible refine (P3.out _ _ (known_of O3.out)).mono ?_); rintro e v18 ⟨py, rfl, hi, hb⟩; have S := hb; have IQ := Lib.hid hi; have B18 : Below w.heap.size w v18 := grow_trans B17 hb; have NE := Lib.hid (show ¬ pd = py from fun e => by have := IM.out.lt; have := hi.1; omega); clear hi hb))
        clear O3
        replace IM := Lib.hid (IM.out.below S)
        clear S
        first
          | refine ⟨B18, ?_⟩
          | skip
        (try unfold seqC)
        go_wp2_with (go_at_call 32; go_loud ((with_reducible refine (CM.out _ _ _ IM.out IQ.out NE.out).mono ?_); rintro e v19 ⟨rfl, hb⟩; have B19 : Below w.heap.size w v19 := grow_trans B18 hb; clear hb))
        clear IM IQ NE
        first
          | refine ⟨B19, ?_⟩
          | skip
        (try unfold seqC)
        go_wp2
        first
          | refine ⟨B19, ?_⟩
          | skip
        (try unfold seqC)
        go_wp2
        first
          | refine ⟨B19, ?_⟩
          | skip
        (try unfold seqC)
        go_wp2
        go_ret
        exact ⟨rfl, B19⟩
    · (try unfold oneC)
      go_wp2
      have S : Below x1.heap.size x1 (x1.alloc (.cells #[.int .i64 k, .int .i64 aL, .int .i64 bL] 3)) := grow_alloc (grow_refl _) _
      have B22 : Below w.heap.size w (x1.alloc (.cells #[.int .i64 k, .int .i64 aL, .int .i64 bL] 3)) := grow_trans BZ S
      have O3 := Lib.hid (show (x1.alloc (.cells #[.int .i64 k, .int .i64 aL, .int .i64 bL] 3)).heap[x1.heap.size]? = some (.cells #[.int .i64 k, .int .i64 aL, .int .i64 bL] 3 (0, 0)) from heap_alloc_new _ _)
      replace ID := Lib.hid (ID.out.below S)
      first
        | refine ⟨B22, ?_⟩
        | skip
      clear S
      generalize x1.alloc (.cells #[.int .i64 k, .int .i64 aL, .int .i64 bL] 3) = v22 at *
      generalize x1.heap.size = g3 at *
      (try unfold seqC)
      go_wp2_with (go_at_call 30; go_loud ((with_reducible refine (AB.out _ ID.out).mono ?_); rintro e v23 ⟨rfl, hi, hb, hkp⟩; have B23 : Below w.heap.size w v23 := Below.trans B22 hb; have IA := Lib.hid hi; have KP := Lib.hid hkp; clear hi hb hkp))
      replace O3 := Lib.hid ((KP.out _ (row_apart O3.out ID.out).1).trans O3.out)
      clear KP ID
      first
        | refine ⟨B23, ?_⟩
        | skip
      (try unfold seqC)
      go_wp2_with (go_at_call 31; go_loud ((with_reducible refine (NI.out _).mono ?_); rintro e v24 ⟨q, rfl, hi, hb⟩; have B24 : Below w.heap.size w v24 := grow_trans B23 hb; have S := hb; have I1 := Lib.hid hi; have BN := Lib.hid hb; clear hi hb))
      replace O3 := Lib.hid ((S.block _ (Array.getElem?_eq_some_iff.1 O3.out).1).trans O3.out)
      clear S
      first
        | refine ⟨B24, ?_⟩
        | skip
      (try unfold seqC)
      have IX := Lib.hid (IA.out.below BN.out)
      go_wp2_with (go_at_call 29; go_loud ((with_reducible refine (MU.out _ _ _ IA.out BN.out I1.out).mono ?_); rintro e v25 ⟨rfl, hi, hb, hkp⟩; have B25 : Below w.heap.size w v25 := Below.trans B24 hb; have IM := Lib.hid hi; have KP := Lib.hid hkp; clear hi hb hkp))
      replace O3 := Lib.hid ((KP.out _ (Array.getElem?_eq_some_iff.1 O3.out).1 (row_apart O3.out IX.out).1 (row_apart O3.out IX.out).2).trans O3.out)
      clear KP IA I1 BN IX
      first
        | refine ⟨B25, ?_⟩
        | skip
      (try unfold seqC)
      go_wp2_with (go_at_call 28; go_loud ((with_reducible refine (P3.out _ _ (known_of O3.out)).mono ?_); rintro e v26 ⟨py, rfl, hi, hb⟩; have S := hb; have IQ := Lib.hid hi; have B26 : Below w.heap.size w v26 := grow_trans B25 hb; have NE := Lib.hid (show ¬ pd = py from fun e => by have := IM.out.lt; have := hi.1; omega); clear hi hb))
      clear O3
      replace IM := Lib.hid (IM.out.below S)
      clear S
      first
        | refine ⟨B26, ?_⟩
        | skip
      (try unfold seqC)
      go_wp2_with (go_at_call 32; go_loud ((with_reducible refine (CM.out _ _ _ IM.out IQ.out NE.out).mono ?_); rintro e v27 ⟨rfl, hb⟩; have B27 : Below w.heap.size w v27 := grow_trans B26 hb; clear hb))
      clear IM IQ NE
      first
        | refine ⟨B27, ?_⟩
        | skip
      (try unfold seqC)
      go_wp2
      first
        | refine ⟨B27, ?_⟩
        | skip
      (try unfold seqC)
      go_wp2
      first
        | refine ⟨B27, ?_⟩
        | skip
      (try unfold seqC)
      go_wp2
      go_ret
      exact ⟨rfl, B27⟩
end Go.Proofs.YtlnbeildplafbaaGreatDoor
