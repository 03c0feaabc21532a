/- Pairs of stars: Cross without a cone; Cross with nothing. -/
import Derived.Test.YtlnbeildplafbaaGreatDoorAp8
import Derived.Test.YtlnbeildplafbaaGreatDoorAp6
import Derived.Test.YtlnbeildplafbaaGreatDoorAc21
set_option linter.unusedSimpArgs false
set_option linter.unusedVariables false
namespace Go.Proofs.YtlnbeildplafbaaGreatDoor
open Go.RowKit Go.Grow Go.Atl Go.Maps

set_option maxRecDepth 100000 in
set_option maxHeartbeats 16000000 in
theorem cross_bad (a : Nat → Addr) (w : World) (g1 g2 : Nat) (num den : Int) (hnum : I64 num) (hden : I64 den) (hc : badCone num den = true) (hs : Sen a [5] w) :
    Calls Tryz.prog 17 #[.pointer (some ⟨g1, 0, none⟩), .pointer (some ⟨g2, 0, none⟩), .int .i64 num, .int .i64 den] w fun e' w' => e' = .returned (.tuple #[.slice none 0 0, errV a 5]) ∧ Below w.heap.size w w' := by
  have CW := Lib.hid (cone_bad a ⟨1, 0, 0⟩ num den (by decide) hnum hden w hs hc)
  have HE := Lib.hid (errV_pos a (show 5 ≠ 0 by decide))
  rw [HE.out] at CW ⊢
  clear hs hc
  unfold drV at CW
  go_enter Tryz.func17, Tryz.ntmps17
  go_wp2_with (go_at_call 40; (with_reducible refine (CW.out).mono ?_); rintro e1 w1 ⟨rfl, hb⟩; have B1 := Lib.hid hb; clear hb)
  go_ret2
  exact ⟨rfl, B1.out⟩
set_option maxRecDepth 100000 in
set_option maxHeartbeats 32000000 in
theorem cross_none (w : World) (g1 g2 : Nat) (lev1 lev2 : Int) (m1 n1 mb n2 : Nat) (r1 r2 : Option Addr) (cap1 cap2 : Nat) (es1 es2 : List En) (lk1 lk2 num den : Int)
    (hc : badCone num den = false) (hl1 : es1.length ≤ 200) (hp2 : es2.length = 0)
    (hd1 : ∀ k, k < es1.length → isDir (en es1 k).at' = true) (hlk2 : 0 ≤ lk2 ∧ lk2 ≤ 100000)
    (hq1 : QAt w g1 lev1 m1 n1 r1 cap1 es1 lk1) (hq2 : QAt w g2 lev2 mb n2 r2 cap2 es2 lk2) :
    Calls Tryz.prog 17 #[.pointer (some ⟨g1, 0, none⟩), .pointer (some ⟨g2, 0, none⟩), .int .i64 num, .int .i64 den] w fun e' w' => e' = .returned (.tuple #[.slice none 0 0, .nilIface]) ∧ Off (fun k => k = g1 ∨ k = g2) w w' := by
  have CW := Lib.hid (fun X => cone_good ⟨1, 0, 0⟩ num den (by decide) X hc)
  have H1 := Lib.hid hq1
  have H2 := Lib.hid hq2
  have HD1 := Lib.hid hd1
  have SP := Lib.hid (fun X => sort0_walk (.func (.func 44) #[] #[]) X)
  obtain ⟨k2a, k2b⟩ := hlk2
  have hdz : decide (0 < es2.length) = false := decide_eq_false (by omega)
  clear hq1 hq2 hd1 hc
  unfold drV at CW
  by_cases hz : es1.length = 0
  · go_enter Tryz.func17, Tryz.ntmps17
    go_upto_region 7 with (go_at_call 40; (with_reducible refine (CW.out _).mono ?_); rintro e1 w1 ⟨rfl, hb⟩; have B1 := Lib.hid hb; clear hb)
    have Q1 := Lib.hid (H1.out.below B1.out)
    have g1c := Q1.out.box.cell 2
    have g1l := Q1.out.box.lt
    rw [hz] at g1c
    simp only [List.getElem?_toArray, List.getElem?_cons_zero, List.getElem?_cons_succ] at g1c
    go_wp2
    refine wp_loop_rounds 1 ?_
    rw [rounds_succ]
    go_wp2_with (go_at_call 43; (with_reducible refine (SP.out _).mono ?_); rintro e7 w7 ⟨rfl, rfl⟩)
    go_ret2
    exact ⟨rfl, Off.of_below B1.out⟩
  · have hp1 : 0 < es1.length := by omega
    obtain ⟨b1, o1, rfl, hc1⟩ := H1.out.row.resolve_left (by intro h; rw [h] at hp1; exact absurd hp1 (by simp))
    have EK := Lib.hid (hc1 0 hp1)
    have NB := Lib.hid (fun X (h : QAt X g2 lev2 mb n2 r2 cap2 es2 lk2) => nearest_walk X g2 lev2 mb n2 r2 cap2 es2 lk2 (en es1 0).at' (HD1.out 0 hp1) (by omega) (fun k hk => absurd hk (by omega)) k2a (by omega) h)
    unfold NearPost at NB
    rw [hdz] at NB
    have d1 : (0 : Int) < (es1.length : Int) := by omega
    clear hc1
    generalize en es1 0 = ee at *
    obtain ⟨nm, ⟨x, y, z⟩, lt⟩ := ee
    unfold drV at NB
    simp only at NB
    go_enter Tryz.func17, Tryz.ntmps17
    go_upto_region 7 with (go_at_call 40; (with_reducible refine (CW.out _).mono ?_); rintro e1 w1 ⟨rfl, hb⟩; have B1 := Lib.hid hb; clear hb)
    have Q1 := Lib.hid (H1.out.below B1.out)
    have Q2 := Lib.hid (H2.out.below B1.out)
    have g1c := Q1.out.box.cell 2
    have g1l := Q1.out.box.lt
    simp only [List.getElem?_toArray, List.getElem?_cons_zero, List.getElem?_cons_succ] at g1c
    obtain ⟨e0, e1, e2, e3, e4⟩ := EK.out.below B1.out
    rw [show o1 + 0 * 5 = o1 by omega] at e0 e1 e2 e3 e4
    have l1 : b1 < w1.heap.size := lt_of_cellE e0
    have QBX := Lib.hid (Q2.out.below (grow_alloc (grow_refl w1) (.cells #[.string nm, .int .i64 x, .int .i64 y, .int .i64 z, .int .i64 lt] 93)))
    go_wp2
    refine wp_loop_rounds 1 ?_
    rw [rounds_succ]
    go_wp2_with (first
      | (go_at_call 41; (with_reducible refine ((NB.out _ QBX.out).mono ?_)); rintro e2 w2 ⟨⟨nm2, rfl, hnm2⟩, hqb, hof⟩; have O2 := Lib.hid ((Off.of_below (grow_trans B1.out (grow_alloc (grow_refl w1) _)) : Off (fun k => k = g1 ∨ k = g2) w _).trans (hof.mono (fun _ h => .inr h))); clear hqb hof hnm2)
      | (go_at_call 43; (with_reducible refine (SP.out _).mono ?_); rintro e7 w7 ⟨rfl, rfl⟩))
    go_ret2
    exact ⟨rfl, O2.out⟩
end Go.Proofs.YtlnbeildplafbaaGreatDoor
/- Pairs of stars, plain: the program's pairs are the document's. -/
set_option linter.unusedSimpArgs false
set_option linter.unusedVariables false
namespace Go.Proofs.YtlnbeildplafbaaGreatDoor
open Go.RowKit Go.Grow Go.Atl Go.Maps

theorem cmpI_cast (u v : Nat) : cmpI (u : Int) (v : Int) = Go.Bg.cmpN u v := by
  unfold cmpI Go.Bg.cmpN
  have h1 : ((u : Int) < (v : Int)) ↔ u < v := by omega
  have h2 : ((v : Int) < (u : Int)) ↔ v < u := by omega
  simp only [h1, h2]
theorem cmpI_negs (u v : Int) : cmpI (-u) (-v) = -(cmpI u v) := by
  unfold cmpI
  split <;> split <;> (try split) <;> (try split) <;> omega
theorem cmpI_above {u v : Int} (h : v < u) : cmpI u v = 1 := by unfold cmpI; rw [if_neg (by omega), if_pos h]
theorem cmpI_under {u v : Int} (h : u < v) : cmpI u v = -1 := by unfold cmpI; rw [if_pos h]
theorem dot_pos {d : Dr} (h : isDir d = true) : 0 < dotZ d d := by
  obtain ⟨_, _, _, h4⟩ := isDir_spec h
  have h1 : 0 ≤ d.x * d.x := by rw [← Int.natAbs_mul_self' d.x]; exact Int.mul_nonneg (by omega) (by omega)
  have h2 : 0 ≤ d.y * d.y := by rw [← Int.natAbs_mul_self' d.y]; exact Int.mul_nonneg (by omega) (by omega)
  have h3 : 0 ≤ d.z * d.z := by rw [← Int.natAbs_mul_self' d.z]; exact Int.mul_nonneg (by omega) (by omega)
  unfold dotZ
  by_cases hx : d.x = 0
  · by_cases hy : d.y = 0
    · have hz : d.z ≠ 0 := fun e => h4 ⟨hx, hy, e⟩
      have : d.z * d.z ≠ 0 := Int.mul_ne_zero hz hz
      omega
    · have : d.y * d.y ≠ 0 := Int.mul_ne_zero hy hy
      omega
  · have : d.x * d.x ≠ 0 := Int.mul_ne_zero hx hx
    omega
theorem near_same (p q : Int) (A B : Nat) (hA : 0 < A) (hB : 0 < B) :
    cmpI (p * p.natAbs * (B : Nat)) (q * q.natAbs * (A : Nat)) = if 0 ≤ p ∧ q < 0 then 1 else if p < 0 ∧ 0 ≤ q then -1 else if p < 0 then -(Go.Bg.cmpN (p.natAbs * p.natAbs * B) (q.natAbs * q.natAbs * A)) else Go.Bg.cmpN (p.natAbs * p.natAbs * B) (q.natAbs * q.natAbs * A) := by
  have key : ∀ (s : Int) (X : Nat), 0 ≤ s → s * s.natAbs * (X : Nat) = ((s.natAbs * s.natAbs * X : Nat) : Int) := fun s X h => by
    rw [Int.natCast_mul, Int.natCast_mul, show ((s.natAbs : Nat) : Int) = s by omega]
  have keyN : ∀ (s : Int) (X : Nat), s < 0 → s * s.natAbs * (X : Nat) = -((s.natAbs * s.natAbs * X : Nat) : Int) := fun s X h => by
    have e : s = -((s.natAbs : Nat) : Int) := by omega
    rw [Int.natCast_mul, Int.natCast_mul]
    generalize s.natAbs = m at *
    subst e
    rw [Int.neg_mul, Int.neg_mul]
  have pos : ∀ (s : Int) (X : Nat), s < 0 → 0 < X → 0 < s.natAbs * s.natAbs * X := fun s X h hX => Nat.mul_pos (Nat.mul_pos (by omega) (by omega)) hX
  by_cases hp : 0 ≤ p <;> by_cases hq : 0 ≤ q
  · rw [if_neg (by omega), if_neg (by omega), if_neg (by omega), key p B hp, key q A hq, cmpI_cast]
  · rw [if_pos ⟨hp, by omega⟩, key p B hp, keyN q A (by omega)]
    have := pos q A (by omega) hA
    exact cmpI_above (by omega)
  · rw [if_neg (by omega), if_pos ⟨by omega, hq⟩, keyN p B (by omega), key q A hq]
    have := pos p B (by omega) hB
    exact cmpI_under (by omega)
  · rw [if_neg (by omega), if_neg (by omega), if_pos (by omega), keyN p B (by omega), keyN q A (by omega), cmpI_negs, cmpI_cast]
theorem nearZ_eq {d a b : Dr} (ha : isDir a = true) (hb : isDir b = true) : nearZ d a b = nearR d a b := by
  have h1 := dot_pos ha
  have h2 := dot_pos hb
  unfold nearZ nearR
  have h := near_same (dotZ d a) (dotZ d b) (dotZ a a).natAbs (dotZ b b).natAbs (by omega) (by omega)
  rw [show (((dotZ a a).natAbs : Nat) : Int) = dotZ a a by omega, show (((dotZ b b).natAbs : Nat) : Int) = dotZ b b by omega] at h
  exact h
theorem with_eq {d e : Dr} (num den : Int) : withZ d e num den = cosR d e num den := by
  have h1 := dotZ_self d
  have h2 := dotZ_self e
  have key : cmpI (dotZ d e * dotZ d e * den * den) (num * num * dotZ d d * dotZ e e) = cosC d e num den := by
    unfold cosC
    rw [← cmpI_cast]
    have e1 : dotZ d e * dotZ d e * den * den = (((dotZ d e).natAbs * (dotZ d e).natAbs * (den.natAbs * den.natAbs) : Nat) : Int) := by
      rw [Int.natCast_mul, Int.natAbs_mul_self, Int.natAbs_mul_self, Int.mul_assoc]
    have e2 : num * num * dotZ d d * dotZ e e = ((num.natAbs * num.natAbs * ((dotZ d d).natAbs * (dotZ e e).natAbs) : Nat) : Int) := by
      rw [Int.natCast_mul, Int.natAbs_mul_self, Int.natCast_mul, show (((dotZ d d).natAbs : Nat) : Int) = dotZ d d by omega, show (((dotZ e e).natAbs : Nat) : Int) = dotZ e e by omega, Int.mul_assoc]
    rw [e1, e2]
  unfold withZ cosR
  rw [key]
  by_cases hn : 0 ≤ num <;> by_cases hp : 0 ≤ dotZ d e
  · rw [if_pos hn, if_pos ⟨hp, hn⟩, decide_eq_true hp, Bool.true_and]
  · rw [if_pos hn, if_neg (by omega), if_neg (by omega), decide_eq_false hp, Bool.false_and]
  · rw [if_neg hn, if_pos hp, if_neg (by omega), if_neg (by omega), decide_eq_true hp]
  · rw [if_neg hn, if_neg hp, if_neg (by omega), if_pos ⟨by omega, by omega⟩]
theorem less_cmp (a b : ByteArray) : decide (cmpS a b < 0) = lessB a b := by
  rw [lessB_eq]
  unfold cmpS
  refine decide_eq_decide.2 ?_
  rw [ByteArray.toList_eq, ByteArray.toList_eq]
  exact cmp_lt _ _
theorem take_eq {d : Dr} {es : List En} {k b : Nat} (hk : isDir (en es k).at' = true) (hb : isDir (en es b).at' = true) : takeB d es k b = takeR d es k b := by
  unfold takeB takeR
  rw [nearZ_eq hk hb, less_cmp]
theorem near_eq {d : Dr} {es : List En} (hd : ∀ k, k < es.length → isDir (en es k).at' = true) : ∀ k, k ≤ es.length → nearUp d es k = nearRUp d es k
  | 0, _ => rfl
  | k + 1, h => by
    unfold nearUp nearRUp
    rw [near_eq hd k (by omega)]
    by_cases hk : k = 0
    · rw [if_pos hk, if_pos hk]
    · rw [if_neg hk, if_neg hk, take_eq (hd k (by omega)) (hd _ (by have := nearRUp_lt d es k (by omega); omega))]
/-- The document's pair of entry k, if there is one. -/
def wantOne (es1 es2 : List En) (num den : Int) (k : Nat) : Option Pr :=
  if nearRV (en es1 k).at' es2 es2.length < 0 then none
  else if nearRV (en es2 (nearRUp (en es1 k).at' es2 es2.length)).at' es1 es1.length ≠ (k : Int) then none
  else if cosR (en es1 k).at' (en es2 (nearRUp (en es1 k).at' es2 es2.length)).at' num den = true then some ((en es1 k).name, (en es2 (nearRUp (en es1 k).at' es2 es2.length)).name) else none
def wantUp (es1 es2 : List En) (num den : Int) : Nat → List Pr
  | 0 => []
  | k + 1 => wantUp es1 es2 num den k ++ (wantOne es1 es2 num den k).toList
theorem one_eq {es1 es2 : List En} {num den : Int} {k : Nat} (hk : k < es1.length) (hp : 0 < es2.length) (hd1 : ∀ k, k < es1.length → isDir (en es1 k).at' = true) (hd2 : ∀ k, k < es2.length → isDir (en es2 k).at' = true)
    (hu : ∀ i j, i < es1.length → j < es1.length → (en es1 i).name = (en es1 j).name → i = j) : crossOne es1 es2 num den k = wantOne es1 es2 num den k := by
  have hb := nearRUp_lt (en es2 (nearRUp (en es1 k).at' es2 es2.length)).at' es1 es1.length (by omega)
  unfold crossOne wantOne
  simp only
  rw [near_eq hd2 _ (Nat.le_refl _), near_eq hd1 _ (Nat.le_refl _), with_eq]
  rw [if_neg (show ¬ nearRV (en es1 k).at' es2 es2.length < 0 by unfold nearRV; rw [if_neg (by omega)]; omega)]
  unfold nearRV
  rw [if_neg (show ¬ es1.length = 0 by omega)]
  by_cases h : nearRUp (en es2 (nearRUp (en es1 k).at' es2 es2.length)).at' es1 es1.length = k
  · rw [h, if_neg (show ¬ ((k : Nat) : Int) ≠ (k : Int) by omega)]
    by_cases hc : cosR (en es1 k).at' (en es2 (nearRUp (en es1 k).at' es2 es2.length)).at' num den = true
    · rw [if_pos hc, if_pos ⟨rfl, hc⟩]
    · rw [if_neg hc, if_neg (fun x => hc x.2)]
  · rw [if_pos (show ((nearRUp (en es2 (nearRUp (en es1 k).at' es2 es2.length)).at' es1 es1.length : Nat) : Int) ≠ (k : Int) by omega), if_neg (fun x => h (hu _ _ hb hk x.1))]
theorem up_eq {es1 es2 : List En} {num den : Int} (hp : 0 < es2.length) (hd1 : ∀ k, k < es1.length → isDir (en es1 k).at' = true) (hd2 : ∀ k, k < es2.length → isDir (en es2 k).at' = true)
    (hu : ∀ i j, i < es1.length → j < es1.length → (en es1 i).name = (en es1 j).name → i = j) : ∀ k, k ≤ es1.length → crossUp es1 es2 num den k = wantUp es1 es2 num den k
  | 0, _ => rfl
  | k + 1, h => by rw [crossUp, wantUp, up_eq hp hd1 hd2 hu k (by omega), one_eq (by omega) hp hd1 hd2 hu]
theorem want_none {es1 es2 : List En} {num den : Int} (hp : es2.length = 0) : ∀ k, wantUp es1 es2 num den k = []
  | 0 => rfl
  | k + 1 => by
    rw [wantUp, want_none hp k]
    unfold wantOne
    rw [if_pos (show nearRV (en es1 k).at' es2 es2.length < 0 by unfold nearRV; rw [if_pos hp]; omega)]
    rfl
end Go.Proofs.YtlnbeildplafbaaGreatDoor
