/- Shapes of three points: Of; shaped; huge. -/
import Derived.Test.YtlnbeildplafbaaGreatDoorPs6
set_option linter.unusedSimpArgs false
set_option linter.unusedVariables false
namespace Go.Pl
open Go.Atl
/-- Have three points a shape? -/
def hasZ (a b c : Dr) : Bool := goodP a && goodP b && goodP c && !decide (arZ a b c = 0)
theorem hasZ_iff {a b c : Dr} : hasZ a b c = true ↔ goodP a = true ∧ goodP b = true ∧ goodP c = true ∧ arZ a b c ≠ 0 := by
  unfold hasZ
  simp [and_assoc]
end Go.Pl
namespace Go.Proofs.YtlnbeildplafbaaGreatDoor
open Go.RowKit Go.Grow Go.Wd Go.Atl Go.Pl

theorem res_c2 {P : Program} {fn : Func} {p t : Tmp} {ty : TypeId} (h : fn.results = #[.cell p ty, .tmp t]) (tmps : Array Value) (w : World) (g : Nat) (cs : List Value) (d : TypeDesc)
    (hp : tmps.getD p undef = .pointer (some ⟨g, 0, none⟩)) (hK : Known w g cs.toArray) (hu : P.underlying ty = some d) (hd : d.isRow = true) (hi : (P.info? ty).map (·.size) = some cs.length) :
    (results fn tmps).run P w = .ok (.tuple #[.agg cs.toArray, tmps.getD t undef]) w := by
  have hp' : tmps[p]?.getD undef = .pointer (some ⟨g, 0, none⟩) := by simpa using hp
  have hl := run_loadVar_mid (P := P) w g 0 ty cs d (fun j v hv => by rw [Nat.zero_add, hK.cell j]; simpa using hv) hu hd hi
  simp [results, h, hp', asAddr, hl]
theorem res_c1 {P : Program} {fn : Func} {p : Tmp} {ty : TypeId} (h : fn.results = #[.cell p ty]) (tmps : Array Value) (w : World) (g : Nat) (cs : List Value) (d : TypeDesc)
    (hp : tmps.getD p undef = .pointer (some ⟨g, 0, none⟩)) (hK : Known w g cs.toArray) (hu : P.underlying ty = some d) (hd : d.isRow = true) (hi : (P.info? ty).map (·.size) = some cs.length) :
    (results fn tmps).run P w = .ok (.agg cs.toArray) w := by
  have hp' : tmps[p]?.getD undef = .pointer (some ⟨g, 0, none⟩) := by simpa using hp
  have hl := run_loadVar_mid (P := P) w g 0 ty cs d (fun j v hv => by rw [Nat.zero_add, hK.cell j]; simpa using hv) hu hd hi
  simp [results, h, hp', asAddr, hl]
/-- corners, whatever the points. -/
theorem corners_no (a b c : Dr) (h : hasZ a b c = false) (w : World) : Calls Tryz.prog 21 #[arr9 a b c] w fun e w' => e = .returned (.tuple #[shV 0 0 0 0, i3V 0 0 0, .bool false]) ∧ Below w.heap.size w w' := by
  cases ha : goodP a
  · exact corners_bad1 a b c ha w
  · cases hb : goodP b
    · exact corners_bad2 a b c ha hb w
    · cases hc : goodP c
      · exact corners_bad3 a b c ha hb hc w
      · refine corners_bad4 a b c ha hb hc ?_ w
        unfold hasZ at h
        rw [ha, hb, hc] at h
        simpa using h
set_option maxRecDepth 100000 in
set_option maxHeartbeats 16000000 in
theorem of_good (a b c : Dr) (h : hasZ a b c = true) (w : World) :
    Calls Tryz.prog 7 #[drV a, drV b, drV c] w fun e w' => e = .returned (.tuple #[shV (longZ a b c) (midZ a b c) (shortZ a b c) (handZ a b c), .bool true]) ∧ Below w.heap.size w w' := by
  have CO := Lib.hid (fun X => corners_good a b c (hasZ_iff.1 h).1 (hasZ_iff.1 h).2.1 (hasZ_iff.1 h).2.2.1 (hasZ_iff.1 h).2.2.2 X)
  unfold arr9 cellsP shV i3V at CO
  have al1 := alloc_sh
  have al2 := alloc_i3
  unfold drV
  generalize hl : longZ a b c = lo at *
  generalize hm : midZ a b c = mi at *
  generalize hs : shortZ a b c = sh at *
  generalize hh : handZ a b c = hd at *
  generalize (ord3 (acr a b c)).1 = o1 at *
  generalize (ord3 (acr a b c)).2.1 = o2 at *
  generalize (ord3 (acr a b c)).2.2 = o3 at *
  have HL := Lib.hid hl
  have HM := Lib.hid hm
  have HS := Lib.hid hs
  have HH := Lib.hid hh
  clear hl hm hs hh
  go_enter Tryz.func7, Tryz.ntmps7
  go_upto_region 1 with (fail)
  refine seal_wp fun X hX => ?_
  have Z1 := Lib.hid (show Known X w.heap.size #[.int .i64 a.x, .int .i64 a.y, .int .i64 a.z] by rw [hX.out]; exact (((Known.new w _ _).alloc _).alloc _).alloc _)
  have Z2 := Lib.hid (show Known X (w.heap.size + 1) #[.int .i64 b.x, .int .i64 b.y, .int .i64 b.z] by rw [hX.out]; exact ((Known.new' (by simp)).alloc _).alloc _)
  have Z3 := Lib.hid (show Known X (w.heap.size + 1 + 1) #[.int .i64 c.x, .int .i64 c.y, .int .i64 c.z] by rw [hX.out]; exact (Known.new' (by simp)).alloc _)
  have Z4 := Lib.hid (show Known X (w.heap.size + 1 + 1 + 1) #[.int .i64 0, .int .i64 0, .int .i64 0, .int .i64 0] by rw [hX.out]; exact Known.new' (by simp))
  have BX := Lib.hid (show Below w.heap.size w X by rw [hX.out]; exact grow_alloc (grow_alloc (grow_alloc (grow_alloc (grow_refl w) _) _) _) _)
  clear hX
  generalize hbp : w.heap.size = bp at *
  have HBP := Lib.hid hbp
  clear hbp
  have a0 := Z1.out.cell 0
  have a1 := Z1.out.cell 1
  have a2 := Z1.out.cell 2
  have la := Z1.out.lt
  have b0 := Z2.out.cell 0
  have b1 := Z2.out.cell 1
  have b2 := Z2.out.cell 2
  have lb := Z2.out.lt
  have c0 := Z3.out.cell 0
  have c1 := Z3.out.cell 1
  have c2 := Z3.out.cell 2
  have lc := Z3.out.lt
  simp only [List.getElem?_toArray, List.getElem?_cons_zero, List.getElem?_cons_succ] at a0 a1 a2 b0 b1 b2 c0 c1 c2
  go_upto_region 2 with (go_at_call 21; go_loud ((with_reducible refine (CO.out _).mono ?_); rintro e X2 ⟨rfl, hb⟩; have B2 := Lib.hid hb; clear hb a0 a1 a2 la b0 b1 b2 lb c0 c1 c2 lc))
  refine seal_wp fun Y hY => ?_
  have KQ := Lib.hid (show Known Y X2.heap.size #[.int .i64 lo, .int .i64 mi, .int .i64 sh, .int .i64 hd] by rw [hY.out]; exact (Known.new _ _ _).alloc _)
  have BY := Lib.hid (show Below X.heap.size X Y by rw [hY.out]; exact grow_alloc (grow_alloc B2.out _) _)
  clear hY
  generalize X2.heap.size = q at *
  have Z5 := Lib.hid (Z4.out.below BY.out)
  have BW := Lib.hid (show Below w.heap.size w Y by rw [HBP.out]; exact BX.out.trans (BY.out.mono (Nat.le_of_lt (Nat.lt_trans (by omega : bp < bp + 1 + 1 + 1) Z4.out.lt))))
  have s0 := KQ.out.cell 0
  have s1 := KQ.out.cell 1
  have s2 := KQ.out.cell 2
  have s3 := KQ.out.cell 3
  have lq := KQ.out.lt
  have d0 := Z5.out.cell 0
  have d1 := Z5.out.cell 1
  have d2 := Z5.out.cell 2
  have d3 := Z5.out.cell 3
  have g0 := Z5.out.frozen 0
  have g1 := Z5.out.frozen 1
  have g2 := Z5.out.frozen 2
  have g3 := Z5.out.frozen 3
  have lz := Z5.out.lt
  simp only [List.getElem?_toArray, List.getElem?_cons_zero, List.getElem?_cons_succ] at s0 s1 s2 s3 d0 d1 d2 d3
  have KF := Lib.hid (known_four Z5.out (.int .i64 lo) (.int .i64 mi) (.int .i64 sh) (.int .i64 hd))
  go_wp2
  (try simp only [Exit.inBlock, Exit.then])
  refine bodyPost_ret (res_c2 rfl _ _ (bp + 1 + 1 + 1) [.int .i64 lo, .int .i64 mi, .int .i64 sh, .int .i64 hd] _ rfl KF.out Tryz.underlying29 rfl (by kernel_rfl)) rfl ?_
  have hbp : w.heap.size ≤ bp := Nat.le_of_eq HBP.out
  skip
  exact ⟨rfl, (by (repeat (with_reducible first | exact BW.out | refine Below.drew ?_ | refine Below.setCell ?_ ?_ _)) <;> (show w.heap.size ≤ _; dsimp only; omega))⟩
set_option maxRecDepth 100000 in
set_option maxHeartbeats 16000000 in
theorem of_no (a b c : Dr) (h : hasZ a b c = false) (w : World) :
    Calls Tryz.prog 7 #[drV a, drV b, drV c] w fun e w' => e = .returned (.tuple #[shV (0) (0) (0) (0), .bool false]) ∧ Below w.heap.size w w' := by
  have CO := Lib.hid (fun X => corners_no a b c h X)
  unfold arr9 cellsP shV i3V at CO
  have al1 := alloc_sh
  have al2 := alloc_i3
  unfold drV
  go_enter Tryz.func7, Tryz.ntmps7
  go_upto_region 1 with (fail)
  refine seal_wp fun X hX => ?_
  have Z1 := Lib.hid (show Known X w.heap.size #[.int .i64 a.x, .int .i64 a.y, .int .i64 a.z] by rw [hX.out]; exact (((Known.new w _ _).alloc _).alloc _).alloc _)
  have Z2 := Lib.hid (show Known X (w.heap.size + 1) #[.int .i64 b.x, .int .i64 b.y, .int .i64 b.z] by rw [hX.out]; exact ((Known.new' (by simp)).alloc _).alloc _)
  have Z3 := Lib.hid (show Known X (w.heap.size + 1 + 1) #[.int .i64 c.x, .int .i64 c.y, .int .i64 c.z] by rw [hX.out]; exact (Known.new' (by simp)).alloc _)
  have Z4 := Lib.hid (show Known X (w.heap.size + 1 + 1 + 1) #[.int .i64 0, .int .i64 0, .int .i64 0, .int .i64 0] by rw [hX.out]; exact Known.new' (by simp))
  have BX := Lib.hid (show Below w.heap.size w X by rw [hX.out]; exact grow_alloc (grow_alloc (grow_alloc (grow_alloc (grow_refl w) _) _) _) _)
  clear hX
  generalize hbp : w.heap.size = bp at *
  have HBP := Lib.hid hbp
  clear hbp
  have a0 := Z1.out.cell 0
  have a1 := Z1.out.cell 1
  have a2 := Z1.out.cell 2
  have la := Z1.out.lt
  have b0 := Z2.out.cell 0
  have b1 := Z2.out.cell 1
  have b2 := Z2.out.cell 2
  have lb := Z2.out.lt
  have c0 := Z3.out.cell 0
  have c1 := Z3.out.cell 1
  have c2 := Z3.out.cell 2
  have lc := Z3.out.lt
  simp only [List.getElem?_toArray, List.getElem?_cons_zero, List.getElem?_cons_succ] at a0 a1 a2 b0 b1 b2 c0 c1 c2
  go_upto_region 2 with (go_at_call 21; go_loud ((with_reducible refine (CO.out _).mono ?_); rintro e X2 ⟨rfl, hb⟩; have B2 := Lib.hid hb; clear hb a0 a1 a2 la b0 b1 b2 lb c0 c1 c2 lc))
  refine seal_wp fun Y hY => ?_
  have KQ := Lib.hid (show Known Y X2.heap.size #[.int .i64 0, .int .i64 0, .int .i64 0, .int .i64 0] by rw [hY.out]; exact (Known.new _ _ _).alloc _)
  have BY := Lib.hid (show Below X.heap.size X Y by rw [hY.out]; exact grow_alloc (grow_alloc B2.out _) _)
  clear hY
  generalize X2.heap.size = q at *
  have Z5 := Lib.hid (Z4.out.below BY.out)
  have BW := Lib.hid (show Below w.heap.size w Y by rw [HBP.out]; exact BX.out.trans (BY.out.mono (Nat.le_of_lt (Nat.lt_trans (by omega : bp < bp + 1 + 1 + 1) Z4.out.lt))))
  have s0 := KQ.out.cell 0
  have s1 := KQ.out.cell 1
  have s2 := KQ.out.cell 2
  have s3 := KQ.out.cell 3
  have lq := KQ.out.lt
  have d0 := Z5.out.cell 0
  have d1 := Z5.out.cell 1
  have d2 := Z5.out.cell 2
  have d3 := Z5.out.cell 3
  have g0 := Z5.out.frozen 0
  have g1 := Z5.out.frozen 1
  have g2 := Z5.out.frozen 2
  have g3 := Z5.out.frozen 3
  have lz := Z5.out.lt
  simp only [List.getElem?_toArray, List.getElem?_cons_zero, List.getElem?_cons_succ] at s0 s1 s2 s3 d0 d1 d2 d3
  have KF := Lib.hid (known_four Z5.out (.int .i64 0) (.int .i64 0) (.int .i64 0) (.int .i64 0))
  go_wp2
  (try simp only [Exit.inBlock, Exit.then])
  refine bodyPost_ret (res_c2 rfl _ _ (bp + 1 + 1 + 1) [.int .i64 0, .int .i64 0, .int .i64 0, .int .i64 0] _ rfl KF.out Tryz.underlying29 rfl (by kernel_rfl)) rfl ?_
  have hbp : w.heap.size ≤ bp := Nat.le_of_eq HBP.out
  skip
  exact ⟨rfl, (by (repeat (with_reducible first | exact BW.out | refine Below.drew ?_ | refine Below.setCell ?_ ?_ _)) <;> (show w.heap.size ≤ _; dsimp only; omega))⟩
end Go.Proofs.YtlnbeildplafbaaGreatDoor
/- Shapes of three points: shaped; shape; huge; which shapes are right. -/
set_option linter.unusedSimpArgs false
set_option linter.unusedVariables false
namespace Go.Pl
open Go.Atl
def validB (l m s h : Int) : Bool := decide (m ≤ l) && decide (s ≤ m) && decide (0 < s) && decide (l ≤ 274877906944) && decide (-1 ≤ h) && decide (h ≤ 1)
theorem validB_iff {l m s h : Int} : validB l m s h = true ↔ m ≤ l ∧ s ≤ m ∧ 0 < s ∧ l ≤ 274877906944 ∧ -1 ≤ h ∧ h ≤ 1 := by
  unfold validB
  simp only [Bool.and_eq_true, decide_eq_true_eq]
  constructor
  · rintro ⟨⟨⟨⟨⟨h1, h2⟩, h3⟩, h4⟩, h5⟩, h6⟩; exact ⟨h1, h2, h3, h4, h5, h6⟩
  · rintro ⟨h1, h2, h3, h4, h5, h6⟩; exact ⟨⟨⟨⟨⟨h1, h2⟩, h3⟩, h4⟩, h5⟩, h6⟩
def hugP (n : Int) : Bool := decide (1152921504606846976 < n) || decide (n < -1152921504606846976)
end Go.Pl
namespace Go.Proofs.YtlnbeildplafbaaGreatDoor
open Go.RowKit Go.Grow Go.Wd Go.Atl Go.Pl

set_option maxRecDepth 100000 in
set_option maxHeartbeats 16000000 in
theorem hug_walk (n : Int) (w : World) :
    Calls Tryz.prog 6 #[.int .i64 n] w fun e w' => e = .returned (.bool (hugP n)) ∧ Below w.heap.size w w' := by
  unfold hugP
  by_cases c0 : 1152921504606846976 < n
  · have u0 : decide (1152921504606846976 < n) = true := decide_eq_true c0
    go_enter Tryz.func6, Tryz.ntmps6
    go_wp2
    go_ret
    exact ⟨by first | rfl | (rw [u0]; rfl) | (simp [u0]), (by (repeat (with_reducible first | exact grow_refl _ | refine Grow.grow_drewN ?_ _ | refine Grow.grow_drew ?_ | refine Grow.grow_alloc ?_ _)))⟩
  · have u0 : decide (1152921504606846976 < n) = false := decide_eq_false c0
    go_enter Tryz.func6, Tryz.ntmps6
    go_wp2
    go_ret
    exact ⟨by first | rfl | (rw [u0]; rfl) | (simp [u0]), (by (repeat (with_reducible first | exact grow_refl _ | refine Grow.grow_drewN ?_ _ | refine Grow.grow_drew ?_ | refine Grow.grow_alloc ?_ _)))⟩
set_option maxRecDepth 100000 in
set_option maxHeartbeats 16000000 in
theorem shape_walk (l m s h : Int) (w : World) :
    Calls Tryz.prog 9 #[shV l m s h] w fun e w' => e = .returned (shV l m s h) ∧ Below w.heap.size w w' := by
  have al1 := alloc_sh
  unfold shV
  go_enter Tryz.func9, Tryz.ntmps9
  go_wp2
  (try simp only [Exit.inBlock, Exit.then])
  refine bodyPost_ret (res_c1 rfl _ _ (w.heap.size + 1) [.int .i64 l, .int .i64 m, .int .i64 s, .int .i64 h] _ rfl (Known.new' (by simp)) Tryz.underlying29 rfl (by kernel_rfl)) rfl ?_
  exact ⟨rfl, (by (repeat (with_reducible first | exact grow_refl _ | refine Grow.grow_drewN ?_ _ | refine Grow.grow_drew ?_ | refine Grow.grow_alloc ?_ _)))⟩
set_option maxRecDepth 100000 in
set_option maxHeartbeats 16000000 in
theorem valid_walk (l m s h : Int) (w : World) :
    Calls Tryz.prog 25 #[shV l m s h] w fun e w' => e = .returned (.bool (validB l m s h)) ∧ Below w.heap.size w w' := by
  unfold shV
  by_cases h1 : m ≤ l
  · by_cases h2 : s ≤ m
    · by_cases h3 : 0 < s
      · by_cases h4 : l ≤ 274877906944
        · by_cases h5 : -1 ≤ h
          · by_cases h6 : h ≤ 1
            · have HV : validB l m s h = true := by
                unfold validB
                simp [h1, h2, h3, h4, h5, h6]
              rw [HV]
              clear HV
              have dh1 : decide (m ≤ l) = true := decide_eq_true h1
              have dh2 : decide (s ≤ m) = true := decide_eq_true h2
              have dh3 : decide (0 < s) = true := decide_eq_true h3
              have dh4 : decide (l ≤ 274877906944) = true := decide_eq_true h4
              have dh5 : decide (-1 ≤ h) = true := decide_eq_true h5
              have dh6 : decide (h ≤ 1) = true := decide_eq_true h6
              go_enter Tryz.func25, Tryz.ntmps25
              go_wp2
              go_ret
              exact ⟨rfl, (by (repeat (with_reducible first | exact grow_refl _ | refine Grow.grow_drewN ?_ _ | refine Grow.grow_drew ?_ | refine Grow.grow_alloc ?_ _)))⟩
            · have HV : validB l m s h = false := by
                unfold validB
                simp [h1, h2, h3, h4, h5, h6]
              rw [HV]
              clear HV
              have dh1 : decide (m ≤ l) = true := decide_eq_true h1
              have dh2 : decide (s ≤ m) = true := decide_eq_true h2
              have dh3 : decide (0 < s) = true := decide_eq_true h3
              have dh4 : decide (l ≤ 274877906944) = true := decide_eq_true h4
              have dh5 : decide (-1 ≤ h) = true := decide_eq_true h5
              have dh6 : decide (h ≤ 1) = false := decide_eq_false h6
              go_enter Tryz.func25, Tryz.ntmps25
              go_wp2
              go_ret
              exact ⟨rfl, (by (repeat (with_reducible first | exact grow_refl _ | refine Grow.grow_drewN ?_ _ | refine Grow.grow_drew ?_ | refine Grow.grow_alloc ?_ _)))⟩
          · have HV : validB l m s h = false := by
              unfold validB
              simp [h1, h2, h3, h4, h5]
            rw [HV]
            clear HV
            have dh1 : decide (m ≤ l) = true := decide_eq_true h1
            have dh2 : decide (s ≤ m) = true := decide_eq_true h2
            have dh3 : decide (0 < s) = true := decide_eq_true h3
            have dh4 : decide (l ≤ 274877906944) = true := decide_eq_true h4
            have dh5 : decide (-1 ≤ h) = false := decide_eq_false h5
            go_enter Tryz.func25, Tryz.ntmps25
            go_wp2
            go_ret
            exact ⟨rfl, (by (repeat (with_reducible first | exact grow_refl _ | refine Grow.grow_drewN ?_ _ | refine Grow.grow_drew ?_ | refine Grow.grow_alloc ?_ _)))⟩
        · have HV : validB l m s h = false := by
            unfold validB
            simp [h1, h2, h3, h4]
          rw [HV]
          clear HV
          have dh1 : decide (m ≤ l) = true := decide_eq_true h1
          have dh2 : decide (s ≤ m) = true := decide_eq_true h2
          have dh3 : decide (0 < s) = true := decide_eq_true h3
          have dh4 : decide (l ≤ 274877906944) = false := decide_eq_false h4
          go_enter Tryz.func25, Tryz.ntmps25
          go_wp2
          go_ret
          exact ⟨rfl, (by (repeat (with_reducible first | exact grow_refl _ | refine Grow.grow_drewN ?_ _ | refine Grow.grow_drew ?_ | refine Grow.grow_alloc ?_ _)))⟩
      · have HV : validB l m s h = false := by
          unfold validB
          simp [h1, h2, h3]
        rw [HV]
        clear HV
        have dh1 : decide (m ≤ l) = true := decide_eq_true h1
        have dh2 : decide (s ≤ m) = true := decide_eq_true h2
        have dh3 : decide (0 < s) = false := decide_eq_false h3
        go_enter Tryz.func25, Tryz.ntmps25
        go_wp2
        go_ret
        exact ⟨rfl, (by (repeat (with_reducible first | exact grow_refl _ | refine Grow.grow_drewN ?_ _ | refine Grow.grow_drew ?_ | refine Grow.grow_alloc ?_ _)))⟩
    · have HV : validB l m s h = false := by
        unfold validB
        simp [h1, h2]
      rw [HV]
      clear HV
      have dh1 : decide (m ≤ l) = true := decide_eq_true h1
      have dh2 : decide (s ≤ m) = false := decide_eq_false h2
      go_enter Tryz.func25, Tryz.ntmps25
      go_wp2
      go_ret
      exact ⟨rfl, (by (repeat (with_reducible first | exact grow_refl _ | refine Grow.grow_drewN ?_ _ | refine Grow.grow_drew ?_ | refine Grow.grow_alloc ?_ _)))⟩
  · have HV : validB l m s h = false := by
      unfold validB
      simp [h1]
    rw [HV]
    clear HV
    have dh1 : decide (m ≤ l) = false := decide_eq_false h1
    go_enter Tryz.func25, Tryz.ntmps25
    go_wp2
    go_ret
    exact ⟨rfl, (by (repeat (with_reducible first | exact grow_refl _ | refine Grow.grow_drewN ?_ _ | refine Grow.grow_drew ?_ | refine Grow.grow_alloc ?_ _)))⟩
set_option maxRecDepth 100000 in
set_option maxHeartbeats 16000000 in
theorem shaped_walk (w : World) :
    Calls Tryz.prog 5 #[] w fun e w' => e = .returned (.bool true) ∧ Below w.heap.size w w' := by
  have OF := Lib.hid (fun X => show Calls Tryz.prog 7 #[.agg #[.int .i64 0, .int .i64 0, .int .i64 0], .agg #[.int .i64 3, .int .i64 0, .int .i64 0], .agg #[.int .i64 0, .int .i64 4, .int .i64 0]] X fun e w' => e = .returned (.tuple #[.agg #[.int .i64 25, .int .i64 16, .int .i64 9, .int .i64 1], .bool true]) ∧ Below X.heap.size X w' from by
    have h := of_good ⟨0, 0, 0⟩ ⟨3, 0, 0⟩ ⟨0, 4, 0⟩ (by decide) X
    rw [show longZ ⟨0, 0, 0⟩ ⟨3, 0, 0⟩ ⟨0, 4, 0⟩ = 25 by decide, show midZ ⟨0, 0, 0⟩ ⟨3, 0, 0⟩ ⟨0, 4, 0⟩ = 16 by decide, show shortZ ⟨0, 0, 0⟩ ⟨3, 0, 0⟩ ⟨0, 4, 0⟩ = 9 by decide, show handZ ⟨0, 0, 0⟩ ⟨3, 0, 0⟩ ⟨0, 4, 0⟩ = 1 by decide] at h
    exact h)
  have al1 := alloc_sh
  go_enter Tryz.func5, Tryz.ntmps5
  go_wp2_with (go_at_call 7; (with_reducible refine (OF.out _).mono ?_); rintro e w1 ⟨rfl, hb⟩; have B1 : Below w.heap.size w w1 := grow_trans (by (repeat (with_reducible first | exact grow_refl _ | refine Grow.grow_drewN ?_ _ | refine Grow.grow_drew ?_ | refine Grow.grow_alloc ?_ _))) hb; clear hb)
  go_ret
  exact ⟨rfl, (by (repeat (with_reducible first | exact B1 | refine Grow.grow_drewN ?_ _ | refine Grow.grow_drew ?_ | refine Grow.grow_alloc ?_ _)))⟩
end Go.Proofs.YtlnbeildplafbaaGreatDoor
/- Shapes of three points: the document's right shapes. -/
set_option linter.unusedSimpArgs false
set_option linter.unusedVariables false
namespace Go.Proofs.YtlnbeildplafbaaGreatDoor
open Go.RowKit Go.Grow Go.Wd Go.Atl Go.Pl

theorem shValid_no {l m s h : Int} (hn : ¬ (m ≤ l ∧ s ≤ m ∧ 0 < s ∧ l ≤ 274877906944 ∧ -1 ≤ h ∧ h ≤ 1)) : validB l m s h = false := by
  cases e : validB l m s h
  · rfl
  · exact (hn (validB_iff.1 e)).elim
set_option maxRecDepth 100000 in
set_option maxHeartbeats 16000000 in
theorem isShape_walk (l m s h : Int) (w : World) :
    Calls Tryz.prog 11 #[shV l m s h] w fun e w' => e = .returned (.bool (validB l m s h)) ∧ Below w.heap.size w w' := by
  unfold shV
  by_cases g1 : s < 1
  · have HV : validB l m s h = false := shValid_no (by omega)
    rw [HV]
    clear HV
    have dg1 : decide (s < 1) = true := decide_eq_true g1
    go_enter Tryz.func11, Tryz.ntmps11
    go_wp2
    go_ret
    exact ⟨rfl, (by (repeat (with_reducible first | exact grow_refl _ | refine Grow.grow_drewN ?_ _ | refine Grow.grow_drew ?_ | refine Grow.grow_alloc ?_ _)))⟩
  · by_cases g2 : m < s
    · have HV : validB l m s h = false := shValid_no (by omega)
      rw [HV]
      clear HV
      have dg1 : decide (s < 1) = false := decide_eq_false g1
      have dg2 : decide (m < s) = true := decide_eq_true g2
      go_enter Tryz.func11, Tryz.ntmps11
      go_wp2
      go_ret
      exact ⟨rfl, (by (repeat (with_reducible first | exact grow_refl _ | refine Grow.grow_drewN ?_ _ | refine Grow.grow_drew ?_ | refine Grow.grow_alloc ?_ _)))⟩
    · by_cases g3 : l < m
      · have HV : validB l m s h = false := shValid_no (by omega)
        rw [HV]
        clear HV
        have dg1 : decide (s < 1) = false := decide_eq_false g1
        have dg2 : decide (m < s) = false := decide_eq_false g2
        have dg3 : decide (l < m) = true := decide_eq_true g3
        go_enter Tryz.func11, Tryz.ntmps11
        go_wp2
        go_ret
        exact ⟨rfl, (by (repeat (with_reducible first | exact grow_refl _ | refine Grow.grow_drewN ?_ _ | refine Grow.grow_drew ?_ | refine Grow.grow_alloc ?_ _)))⟩
      · by_cases g4 : 274877906944 < l
        · have HV : validB l m s h = false := shValid_no (by omega)
          rw [HV]
          clear HV
          have dg1 : decide (s < 1) = false := decide_eq_false g1
          have dg2 : decide (m < s) = false := decide_eq_false g2
          have dg3 : decide (l < m) = false := decide_eq_false g3
          have dg4 : decide (274877906944 < l) = true := decide_eq_true g4
          go_enter Tryz.func11, Tryz.ntmps11
          go_wp2
          go_ret
          exact ⟨rfl, (by (repeat (with_reducible first | exact grow_refl _ | refine Grow.grow_drewN ?_ _ | refine Grow.grow_drew ?_ | refine Grow.grow_alloc ?_ _)))⟩
        · cases k0 : (h == 0)
          · cases k1 : (h == 1)
            · cases k2 : (h == -1)
              · have qk0 := beq_eq_false_iff_ne.1 k0
                have qk1 := beq_eq_false_iff_ne.1 k1
                have qk2 := beq_eq_false_iff_ne.1 k2
                have HV : validB l m s h = false := shValid_no (by omega)
                rw [HV]
                clear HV
                have dg1 : decide (s < 1) = false := decide_eq_false g1
                have dg2 : decide (m < s) = false := decide_eq_false g2
                have dg3 : decide (l < m) = false := decide_eq_false g3
                have dg4 : decide (274877906944 < l) = false := decide_eq_false g4
                go_enter Tryz.func11, Tryz.ntmps11
                go_wp2
                go_ret
                exact ⟨rfl, (by (repeat (with_reducible first | exact grow_refl _ | refine Grow.grow_drewN ?_ _ | refine Grow.grow_drew ?_ | refine Grow.grow_alloc ?_ _)))⟩
              · have qk0 := beq_eq_false_iff_ne.1 k0
                have qk1 := beq_eq_false_iff_ne.1 k1
                have qk2 := beq_iff_eq.1 k2
                have HV : validB l m s h = true := validB_iff.2 ⟨by omega, by omega, by omega, by omega, by omega, by omega⟩
                rw [HV]
                clear HV
                have dg1 : decide (s < 1) = false := decide_eq_false g1
                have dg2 : decide (m < s) = false := decide_eq_false g2
                have dg3 : decide (l < m) = false := decide_eq_false g3
                have dg4 : decide (274877906944 < l) = false := decide_eq_false g4
                go_enter Tryz.func11, Tryz.ntmps11
                go_wp2
                go_ret
                exact ⟨rfl, (by (repeat (with_reducible first | exact grow_refl _ | refine Grow.grow_drewN ?_ _ | refine Grow.grow_drew ?_ | refine Grow.grow_alloc ?_ _)))⟩
            · have qk0 := beq_eq_false_iff_ne.1 k0
              have qk1 := beq_iff_eq.1 k1
              have HV : validB l m s h = true := validB_iff.2 ⟨by omega, by omega, by omega, by omega, by omega, by omega⟩
              rw [HV]
              clear HV
              have dg1 : decide (s < 1) = false := decide_eq_false g1
              have dg2 : decide (m < s) = false := decide_eq_false g2
              have dg3 : decide (l < m) = false := decide_eq_false g3
              have dg4 : decide (274877906944 < l) = false := decide_eq_false g4
              go_enter Tryz.func11, Tryz.ntmps11
              go_wp2
              go_ret
              exact ⟨rfl, (by (repeat (with_reducible first | exact grow_refl _ | refine Grow.grow_drewN ?_ _ | refine Grow.grow_drew ?_ | refine Grow.grow_alloc ?_ _)))⟩
          · have qk0 := beq_iff_eq.1 k0
            have HV : validB l m s h = true := validB_iff.2 ⟨by omega, by omega, by omega, by omega, by omega, by omega⟩
            rw [HV]
            clear HV
            have dg1 : decide (s < 1) = false := decide_eq_false g1
            have dg2 : decide (m < s) = false := decide_eq_false g2
            have dg3 : decide (l < m) = false := decide_eq_false g3
            have dg4 : decide (274877906944 < l) = false := decide_eq_false g4
            go_enter Tryz.func11, Tryz.ntmps11
            go_wp2
            go_ret
            exact ⟨rfl, (by (repeat (with_reducible first | exact grow_refl _ | refine Grow.grow_drewN ?_ _ | refine Grow.grow_drew ?_ | refine Grow.grow_alloc ?_ _)))⟩
end Go.Proofs.YtlnbeildplafbaaGreatDoor
