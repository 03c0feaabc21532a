/- The walks of chains of rotations. -/
import Derived.Test.YtdnclgpjcgamgaaS4
import Derived.Test.YtdnclgpjcgamgaaS10
import Derived.Test.YtdnclgpjcgamgaaKn
import Derived.Test.YtdnclgpjcgamgaaLate
import Derived.Laws.AppendOwn
import Derived.LoopTactic
import Derived.Deep.LoopGhost
import Derived.Outline
import Derived.Deep.RegionWith
set_option linter.unusedSimpArgs false
set_option linter.unusedVariables false
namespace Go.Proofs.Ytdnclgpjcgamgaa
open Go.RowKit Go.Fl Go.Grow

/-- Quaternion number k of a row of numbers. -/
def qAt (bb : Nat → Nat) (k : Nat) : Q4 := ⟨fl (bb (k * 4)), fl (bb (k * 4 + 1)), fl (bb (k * 4 + 2)), fl (bb (k * 4 + 3))⟩
/-- After the first k; none: one had no unit. -/
def chn (f : Nat → Q4) : Nat → Option Q4
  | 0 => some qone
  | k + 1 => (chn f k).bind fun q => if (qunit (qtimes (f k) q)).2 then some (qunit (qtimes (f k) q)).1 else none
def chq (f : Nat → Q4) (n : Nat) : Q4 × Bool := match chn f n with
  | some q => (q, true)
  | none => (qone, false)
theorem chn_none {f : Nat → Q4} {k : Nat} (h : chn f k = none) : ∀ j, chn f (k + j) = none
  | 0 => h
  | j + 1 => by rw [← Nat.add_assoc]; unfold chn; rw [chn_none h j]; rfl
theorem chq_stop {f : Nat → Q4} {k n : Nat} {q : Q4} (h : chn f k = some q) (hk : k < n) (hx : (qunit (qtimes (f k) q)).2 = false) : chq f n = (qone, false) := by
  have h1 : chn f (k + 1) = none := by unfold chn; rw [h]; simp [hx]
  have h2 := chn_none h1 (n - (k + 1))
  rw [show k + 1 + (n - (k + 1)) = n by omega] at h2
  unfold chq; rw [h2]
theorem chn_go {f : Nat → Q4} {k : Nat} {q : Q4} (h : chn f k = some q) (hx : (qunit (qtimes (f k) q)).2 = true) : chn f (k + 1) = some (qunit (qtimes (f k) q)).1 := by
  unfold chn; rw [h]; simp [hx]
theorem chq_end {f : Nat → Q4} {n : Nat} {q : Q4} (h : chn f n = some q) : chq f n = (q, true) := by unfold chq; rw [h]
theorem q4_eq {a b c d : Nat} {X : Q4} (h1 : fl a = X.w) (h2 : fl b = X.x) (h3 : fl c = X.y) (h4 : fl d = X.z) : Q4.mk (fl a) (fl b) (fl c) (fl d) = X := by rw [h1, h2, h3, h4]
/-- The numbers lie in w, from r on. -/
def NumsIn (w : World) (r : Option Addr) (m : Nat) (bb : Nat → Nat) : Prop := 0 < m → ∃ b o, r = some ⟨b, o, none⟩ ∧ ∀ i, i < m → w.cell? ⟨b, o + i, none⟩ = some (.float .f64 (bb i))
theorem NumsIn.below {w w' : World} {r : Option Addr} {m : Nat} {bb : Nat → Nat} (h : NumsIn w r m bb) (hb : Below w.heap.size w w') : NumsIn w' r m bb := fun hm => by
  obtain ⟨b, o, hr, hc⟩ := h hm
  exact ⟨b, o, hr, fun i hi => by rw [hb.cell (p := ⟨b, o + i, none⟩) (lt_of_cell (hc i hi))]; exact hc i hi⟩
/-- At a loop's head. -/
def ChRel (f : Nat → Q4) (n : Nat) (w : World) (v : Value) (wr : World) : Prop :=
  ∃ (k : Nat) (q : Q4) (b1 b2 b3 b4 : Nat), k ≤ n ∧ v = .int .i64 k ∧ chn f k = some q ∧ Q4.mk (fl b1) (fl b2) (fl b3) (fl b4) = q ∧
    Known wr w.heap.size #[.float .f64 0, .float .f64 0, .float .f64 0, .float .f64 0] ∧ Known wr (w.heap.size + 1) #[.float .f64 b1, .float .f64 b2, .float .f64 b3, .float .f64 b4] ∧ Below w.heap.size w wr
theorem Known.eq {w : World} {b : Nat} {c c' : Array Value} (h : Known w b c) (e : c = c') : Known w b c' := e ▸ h
theorem known_new {w : World} {c : Array Value} {t : TypeId} {b : Nat} (h : b = w.heap.size) : Known (w.alloc (.cells c t)) b c := h ▸ Known.new w c t
theorem Known.via {w w' : World} {b : Nat} {c : Array Value} (hb : Hid (Below w.heap.size w w')) (h : Known w b c) : Known w' b c := h.below hb.out
theorem Known.drew {w : World} {b : Nat} {c : Array Value} (h : Known w b c) : Known w.drew b c := h.below (grow_drew (grow_refl w))
theorem alloc24 (w : World) : (Instr.alloc 24 true (.tuple #[])).run Try.prog w = .ok (.pointer (some ⟨w.heap.size, 0, none⟩)) (w.alloc (.cells #[.float .f64 0, .float .f64 0, .float .f64 0, .float .f64 0] 24)) := by
  simp [go_sem]
def SpecChain : FuncId → Array Value → Value → Prop
  | 14, ⟨[q]⟩, v => v = q
  | 13, _, v => v = .bool true
  | 16, ⟨[.agg ⟨[.float .f64 a, .float .f64 b, .float .f64 c, .float .f64 d]⟩, .agg ⟨[.float .f64 e, .float .f64 f, .float .f64 g, .float .f64 h]⟩]⟩, v => IsQ (qtimes ⟨fl a, fl b, fl c, fl d⟩ ⟨fl e, fl f, fl g, fl h⟩) v
  | 22, ⟨[.agg ⟨[.float .f64 a, .float .f64 b, .float .f64 c, .float .f64 d]⟩]⟩, v => IsU (qunit ⟨fl a, fl b, fl c, fl d⟩) v
  | _, _, _ => False

set_option maxRecDepth 100000 in
set_option maxHeartbeats 4000000 in
theorem chain_walk (r : Option Addr) (n cap : Nat) (bb : Nat → Nat) (w : World) (hs : NumsIn w r (n * 4) bb) (hn : n ≤ 200) : Calls Try.prog 26 #[.slice r n cap] w (Post (IsU (chq (qAt bb) n)) w) := by
  have HS := Lib.hid hs
  clear hs
  go_enter Try.func26, Try.ntmps26
  go_wp2
  go_loopw [16] (fun v wr => ChRel (qAt bb) n w v wr) (fun i _ => n - (intOf i).toNat)
  case atStart => exact ⟨0, qone, _, _, _, _, Nat.zero_le _, rfl, rfl, q4_eq (X := qone) fl_one fl_zero fl_zero fl_zero, (Known.new _ _ _).alloc _, known_new (by simp), Grow.grow_alloc (Grow.grow_alloc (Grow.grow_refl _) _) _⟩
  case round =>
    obtain ⟨ct, q, b1, b2, b3, b4, hk, rfl, hc, hq, q2, q4, hb⟩ := hrel
    have HG : Hid (Below w.heap.size w wr) := Lib.hid hb
    have HZ : w.heap.size ≤ wr.heap.size := Below.size hb
    have HC := Lib.hid hc
    have HQ0 := Lib.hid hq
    clear hb hc hq
    have c2 := q2.cell
    have f2 := q2.frozen
    have l2 := q2.lt
    have c4 := q4.cell
    have f4 := q4.frozen
    have l4 := q4.lt
    by_cases hlt : ct < n
    · obtain ⟨b, o, hr, hcell⟩ := (HS.out.below HG.out) (by omega)
      subst hr
      have e0 := hcell (ct * 4) (by omega)
      have e1 := hcell (ct * 4 + 1) (by omega)
      have e2 := hcell (ct * 4 + 2) (by omega)
      have e3 := hcell (ct * 4 + 3) (by omega)
      simp only [← Nat.add_assoc] at e1 e2 e3
      have hlb := lt_of_cell e0
      simp only at hlb
      have hlt' : (ct : Int) < n := by omega
      have hk0 : (0 : Int) ≤ ct := by omega
      clear hcell
      have s0 := trivial
      cases hX : (qunit (qtimes (qAt bb ct) q)).2
      · have HX := Lib.hid hX
        clear hX
        go_wp2_with (first
            | (clear s0
               go_at_call 15
               refine Grow.seal_calls ?_
               intro W hW
               have HG2 : Hid (Below w.heap.size w W) := Lib.hid (by rw [hW.out]; (repeat (with_reducible first | exact Grow.grow_refl _ | refine Grow.grow_setCell ?_ ?_ _ | refine Grow.grow_alloc ?_ _ | refine Grow.grow_drewN ?_ _ | refine Grow.grow_over ?_ _ | refine Grow.grow_via (by assumption) ?_)) <;> omega)
               clear HG
               have HG := HG2
               clear HG2
               clear c2 f2 c4 f4
               apply Grow.have_known (W := W)
               · rw [hW.out]; apply Known.at q2; (repeat (with_reducible first | exact q2 | apply Known.same | apply Known.other | apply Known.alloc | apply Known.drewN)) <;> omega
               clear q2
               intro q2
               (try simp only [List.setIfInBounds_toArray, List.set_cons_zero, List.set_cons_succ] at q2)
               apply Grow.have_known (W := W)
               · rw [hW.out]; apply Known.at q4; (repeat (with_reducible first | exact q4 | apply Known.same | apply Known.other | apply Known.alloc | apply Known.drewN)) <;> omega
               clear q4
               intro q4
               (try simp only [List.setIfInBounds_toArray, List.set_cons_zero, List.set_cons_succ] at q4)
               apply Grow.have_known (W := W) (b := wr.heap.size)
               · rw [hW.out]; (repeat (with_reducible first | exact Known.new _ _ _ | apply Known.same | apply Known.other | apply Known.alloc | apply Known.drewN)) <;> omega
               intro q6
               (try simp only [World.size_alloc, World.size_setCell, World.heap_drewN] at q6)
               (try simp only [List.setIfInBounds_toArray, List.set_cons_zero, List.set_cons_succ] at q6)
               have m6 := q6.ge (n := w.heap.size) (by omega)
               replace HZ : w.heap.size ≤ W.heap.size := Below.size HG.out
               clear hW
               refine (times_walk _ _ _ _ _ _ _ _ _).mono ?_
               rintro e w1 hp
               obtain ⟨v, rfl, hp, hB⟩ := hp
               obtain ⟨d1, d2, d3, d4, rfl, g1, g2, g3, g4⟩ := hp
               have GQ := Lib.hid ((q4_eq g1 g2 g3 g4).trans (congrArg (qtimes _) HQ0.out)); clear g1 g2 g3 g4
               replace q2 := q2.below hB
               replace q4 := q4.below hB
               replace q6 := q6.below hB
               replace HG : Hid (Below w.heap.size w w1) := Lib.hid (Grow.grow_trans HG.out hB)
               replace HZ : w.heap.size ≤ w1.heap.size := Below.size HG.out
               clear hB
               have c2 := q2.cell; have f2 := q2.frozen; have l2 := q2.lt
               have c4 := q4.cell; have f4 := q4.frozen; have l4 := q4.lt
               have c6 := q6.cell; have f6 := q6.frozen; have l6 := q6.lt
               have s1 := trivial)
            | (clear s1
               go_at_call 21
               refine Grow.seal_calls ?_
               intro W hW
               have HG2 : Hid (Below w.heap.size w W) := Lib.hid (by rw [hW.out]; (repeat (with_reducible first | exact Grow.grow_refl _ | refine Grow.grow_setCell ?_ ?_ _ | refine Grow.grow_alloc ?_ _ | refine Grow.grow_drewN ?_ _ | refine Grow.grow_over ?_ _ | refine Grow.grow_via (by assumption) ?_)) <;> omega)
               clear HG
               have HG := HG2
               clear HG2
               clear c2 f2 c4 f4 c6 f6
               apply Grow.have_known (W := W)
               · rw [hW.out]; apply Known.at q2; (repeat (with_reducible first | exact q2 | apply Known.same | apply Known.other | apply Known.alloc | apply Known.drewN)) <;> omega
               clear q2
               intro q2
               (try simp only [List.setIfInBounds_toArray, List.set_cons_zero, List.set_cons_succ] at q2)
               apply Grow.have_known (W := W)
               · rw [hW.out]; apply Known.at q4; (repeat (with_reducible first | exact q4 | apply Known.same | apply Known.other | apply Known.alloc | apply Known.drewN)) <;> omega
               clear q4
               intro q4
               (try simp only [List.setIfInBounds_toArray, List.set_cons_zero, List.set_cons_succ] at q4)
               apply Grow.have_known (W := W)
               · rw [hW.out]; apply Known.at q6; (repeat (with_reducible first | exact q6 | apply Known.same | apply Known.other | apply Known.alloc | apply Known.drewN)) <;> omega
               clear q6
               intro q6
               (try simp only [List.setIfInBounds_toArray, List.set_cons_zero, List.set_cons_succ] at q6)
               replace HZ : w.heap.size ≤ W.heap.size := Below.size HG.out
               clear hW
               refine (unit_walk _ _ _ _ _).mono ?_
               rintro e w1 hp
               obtain ⟨v, rfl, hp, hB⟩ := hp
               obtain ⟨q', ⟨u1, u2, u3, u4, rfl, g1, g2, g3, g4⟩, hv⟩ := hp
               rw [(congrArg (fun Y => (qunit Y).2) GQ.out).trans HX.out] at hv; subst hv; have GU := Lib.hid ((q4_eq g1 g2 g3 g4).trans (congrArg (fun Y => (qunit Y).1) GQ.out)); clear g1 g2 g3 g4
               replace q2 := q2.below hB
               replace q4 := q4.below hB
               replace q6 := q6.below hB
               replace HG : Hid (Below w.heap.size w w1) := Lib.hid (Grow.grow_trans HG.out hB)
               replace HZ : w.heap.size ≤ w1.heap.size := Below.size HG.out
               clear hB
               have c2 := q2.cell; have f2 := q2.frozen; have l2 := q2.lt
               have c4 := q4.cell; have f4 := q4.frozen; have l4 := q4.lt
               have c6 := q6.cell; have f6 := q6.frozen; have l6 := q6.lt
               have s2 := trivial))
        apply bodyPost_ret
        · simp [results, Try.results26, go_sem, *]; rfl
        · rfl
        · refine Post.mk (T := IsU _) ?_ ?_
          · rw [chq_stop HC.out hlt HX.out]
            exact ⟨_, ⟨_, _, _, _, rfl, fl_one, fl_zero, fl_zero, fl_zero⟩, rfl⟩
          · (repeat (with_reducible first | exact Grow.grow_refl _ | refine Grow.grow_setCell ?_ ?_ _ | refine Grow.grow_alloc ?_ _ | refine Grow.grow_drewN ?_ _ | refine Grow.grow_over ?_ _ | refine Grow.grow_via (by assumption) ?_)) <;> omega
      · have HX := Lib.hid hX
        clear hX
        go_wp2_with (first
            | (clear s0
               go_at_call 15
               refine Grow.seal_calls ?_
               intro W hW
               have HG2 : Hid (Below w.heap.size w W) := Lib.hid (by rw [hW.out]; (repeat (with_reducible first | exact Grow.grow_refl _ | refine Grow.grow_setCell ?_ ?_ _ | refine Grow.grow_alloc ?_ _ | refine Grow.grow_drewN ?_ _ | refine Grow.grow_over ?_ _ | refine Grow.grow_via (by assumption) ?_)) <;> omega)
               clear HG
               have HG := HG2
               clear HG2
               clear c2 f2 c4 f4
               apply Grow.have_known (W := W)
               · rw [hW.out]; apply Known.at q2; (repeat (with_reducible first | exact q2 | apply Known.same | apply Known.other | apply Known.alloc | apply Known.drewN)) <;> omega
               clear q2
               intro q2
               (try simp only [List.setIfInBounds_toArray, List.set_cons_zero, List.set_cons_succ] at q2)
               apply Grow.have_known (W := W)
               · rw [hW.out]; apply Known.at q4; (repeat (with_reducible first | exact q4 | apply Known.same | apply Known.other | apply Known.alloc | apply Known.drewN)) <;> omega
               clear q4
               intro q4
               (try simp only [List.setIfInBounds_toArray, List.set_cons_zero, List.set_cons_succ] at q4)
               apply Grow.have_known (W := W) (b := wr.heap.size)
               · rw [hW.out]; (repeat (with_reducible first | exact Known.new _ _ _ | apply Known.same | apply Known.other | apply Known.alloc | apply Known.drewN)) <;> omega
               intro q6
               (try simp only [World.size_alloc, World.size_setCell, World.heap_drewN] at q6)
               (try simp only [List.setIfInBounds_toArray, List.set_cons_zero, List.set_cons_succ] at q6)
               have m6 := q6.ge (n := w.heap.size) (by omega)
               replace HZ : w.heap.size ≤ W.heap.size := Below.size HG.out
               clear hW
               refine (times_walk _ _ _ _ _ _ _ _ _).mono ?_
               rintro e w1 hp
               obtain ⟨v, rfl, hp, hB⟩ := hp
               obtain ⟨d1, d2, d3, d4, rfl, g1, g2, g3, g4⟩ := hp
               have GQ := Lib.hid ((q4_eq g1 g2 g3 g4).trans (congrArg (qtimes _) HQ0.out)); clear g1 g2 g3 g4
               replace q2 := q2.below hB
               replace q4 := q4.below hB
               replace q6 := q6.below hB
               replace HG : Hid (Below w.heap.size w w1) := Lib.hid (Grow.grow_trans HG.out hB)
               replace HZ : w.heap.size ≤ w1.heap.size := Below.size HG.out
               clear hB
               have c2 := q2.cell; have f2 := q2.frozen; have l2 := q2.lt
               have c4 := q4.cell; have f4 := q4.frozen; have l4 := q4.lt
               have c6 := q6.cell; have f6 := q6.frozen; have l6 := q6.lt
               have s1 := trivial)
            | (clear s1
               go_at_call 21
               refine Grow.seal_calls ?_
               intro W hW
               have HG2 : Hid (Below w.heap.size w W) := Lib.hid (by rw [hW.out]; (repeat (with_reducible first | exact Grow.grow_refl _ | refine Grow.grow_setCell ?_ ?_ _ | refine Grow.grow_alloc ?_ _ | refine Grow.grow_drewN ?_ _ | refine Grow.grow_over ?_ _ | refine Grow.grow_via (by assumption) ?_)) <;> omega)
               clear HG
               have HG := HG2
               clear HG2
               clear c2 f2 c4 f4 c6 f6
               apply Grow.have_known (W := W)
               · rw [hW.out]; apply Known.at q2; (repeat (with_reducible first | exact q2 | apply Known.same | apply Known.other | apply Known.alloc | apply Known.drewN)) <;> omega
               clear q2
               intro q2
               (try simp only [List.setIfInBounds_toArray, List.set_cons_zero, List.set_cons_succ] at q2)
               apply Grow.have_known (W := W)
               · rw [hW.out]; apply Known.at q4; (repeat (with_reducible first | exact q4 | apply Known.same | apply Known.other | apply Known.alloc | apply Known.drewN)) <;> omega
               clear q4
               intro q4
               (try simp only [List.setIfInBounds_toArray, List.set_cons_zero, List.set_cons_succ] at q4)
               apply Grow.have_known (W := W)
               · rw [hW.out]; apply Known.at q6; (repeat (with_reducible first | exact q6 | apply Known.same | apply Known.other | apply Known.alloc | apply Known.drewN)) <;> omega
               clear q6
               intro q6
               (try simp only [List.setIfInBounds_toArray, List.set_cons_zero, List.set_cons_succ] at q6)
               replace HZ : w.heap.size ≤ W.heap.size := Below.size HG.out
               clear hW
               refine (unit_walk _ _ _ _ _).mono ?_
               rintro e w1 hp
               obtain ⟨v, rfl, hp, hB⟩ := hp
               obtain ⟨q', ⟨u1, u2, u3, u4, rfl, g1, g2, g3, g4⟩, hv⟩ := hp
               rw [(congrArg (fun Y => (qunit Y).2) GQ.out).trans HX.out] at hv; subst hv; have GU := Lib.hid ((q4_eq g1 g2 g3 g4).trans (congrArg (fun Y => (qunit Y).1) GQ.out)); clear g1 g2 g3 g4
               replace q2 := q2.below hB
               replace q4 := q4.below hB
               replace q6 := q6.below hB
               replace HG : Hid (Below w.heap.size w w1) := Lib.hid (Grow.grow_trans HG.out hB)
               replace HZ : w.heap.size ≤ w1.heap.size := Below.size HG.out
               clear hB
               have c2 := q2.cell; have f2 := q2.frozen; have l2 := q2.lt
               have c4 := q4.cell; have f4 := q4.frozen; have l4 := q4.lt
               have c6 := q6.cell; have f6 := q6.frozen; have l6 := q6.lt
               have s2 := trivial))
        go_roundw
        case rel =>
          refine ⟨ct + 1, _, _, _, _, _, by omega, by go_num, chn_go HC.out HX.out, GU.out, ?_, ?_, ?_⟩
          · exact Known.eq (Known.at q2 (by (repeat (with_reducible first | exact q2 | apply Known.same | apply Known.other | apply Known.alloc | apply Known.drewN)) <;> omega)) (by simp only [List.setIfInBounds_toArray, List.set_cons_zero, List.set_cons_succ])
          · exact Known.eq (Known.at q4 (by (repeat (with_reducible first | exact q4 | apply Known.same | apply Known.other | apply Known.alloc | apply Known.drewN)) <;> omega)) (by simp only [List.setIfInBounds_toArray, List.set_cons_zero, List.set_cons_succ])
          · (repeat (with_reducible first | exact Grow.grow_refl _ | refine Grow.grow_setCell ?_ ?_ _ | refine Grow.grow_alloc ?_ _ | refine Grow.grow_drewN ?_ _ | refine Grow.grow_over ?_ _ | refine Grow.grow_via (by assumption) ?_)) <;> omega
        case measure => simp [intOf]; omega
    · obtain rfl : ct = n := by omega
      go_wp2
      apply bodyPost_ret
      · simp [results, Try.results26, go_sem, *]; rfl
      · rfl
      · refine Post.mk (T := IsU _) ?_ ?_
        · rw [chq_end HC.out]
          exact ⟨_, ⟨_, _, _, _, rfl, congrArg Q4.w HQ0.out, congrArg Q4.x HQ0.out, congrArg Q4.y HQ0.out, congrArg Q4.z HQ0.out⟩, rfl⟩
        · (repeat (with_reducible first | exact Grow.grow_refl _ | refine Grow.grow_setCell ?_ ?_ _ | refine Grow.grow_alloc ?_ _ | refine Grow.grow_drewN ?_ _ | refine Grow.grow_over ?_ _ | refine Grow.grow_via (by assumption) ?_)) <;> omega

set_option maxRecDepth 100000 in
set_option maxHeartbeats 4000000 in
theorem chainOf_walk (r : Option Addr) (n cap : Nat) (bb : Nat → Nat) (w : World) (hs : NumsIn w r (n * 4) bb) (hn : n ≤ 200) : Calls Try.prog 27 #[.slice r n cap] w (Post (IsU (chq (qAt bb) n)) w) := by
  have HS := Lib.hid hs
  clear hs
  go_enter Try.func27, Try.ntmps27
  go_wp2
  go_loopw [5] (fun v wr => ChRel (qAt bb) n w v wr) (fun i _ => n - (intOf i).toNat)
  case atStart => exact ⟨0, qone, _, _, _, _, Nat.zero_le _, rfl, rfl, q4_eq (X := qone) fl_one fl_zero fl_zero fl_zero, (Known.new _ _ _).alloc _, known_new (by simp), Grow.grow_alloc (Grow.grow_alloc (Grow.grow_refl _) _) _⟩
  case round =>
    obtain ⟨ct, q, b1, b2, b3, b4, hk, rfl, hc, hq, q2, q4, hb⟩ := hrel
    have HG : Hid (Below w.heap.size w wr) := Lib.hid hb
    have HZ : w.heap.size ≤ wr.heap.size := Below.size hb
    have HC := Lib.hid hc
    have HQ0 := Lib.hid hq
    clear hb hc hq
    have c2 := q2.cell
    have f2 := q2.frozen
    have l2 := q2.lt
    have c4 := q4.cell
    have f4 := q4.frozen
    have l4 := q4.lt
    by_cases hlt : ct < n
    · obtain ⟨b, o, hr, hcell⟩ := (HS.out.below HG.out) (by omega)
      subst hr
      have e0 := hcell (ct * 4) (by omega)
      have e1 := hcell (ct * 4 + 1) (by omega)
      have e2 := hcell (ct * 4 + 2) (by omega)
      have e3 := hcell (ct * 4 + 3) (by omega)
      simp only [← Nat.add_assoc] at e1 e2 e3
      have hlb := lt_of_cell e0
      simp only at hlb
      have hlt' : (ct : Int) < n := by omega
      have hk0 : (0 : Int) ≤ ct := by omega
      clear hcell
      have s0 := trivial
      cases hX : (qunit (qtimes (qAt bb ct) q)).2
      · have HX := Lib.hid hX
        clear hX
        go_wp2
        refine Rel.wp_region_rel_late SpecChain 11 9 11 (by kernel_rfl) (by kernel_rfl) (lexTailB_of_fast (by kernel_rfl) (by kernel_rfl) (by kernel_rfl)) (by decide) (fun _ _ _ _ _ h => h) ?_
        simp only [List.append_eq, List.cons_append, List.nil_append, List.take_succ_cons, List.take_zero, List.drop_succ_cons, List.drop_zero]
        repeat (first
          | (refine rel_arith (by rfl) rfl (by rfl) rfl rfl ?_; intro b1 H1; simp only [Act.put, List.setIfInBounds_toArray, List.set_cons_zero, List.set_cons_succ])
          | (refine rel_call (f := 16) (args := #[.agg #[.float .f64 _, .float .f64 _, .float .f64 _, .float .f64 _], .agg #[.float .f64 _, .float .f64 _, .float .f64 _, .float .f64 _]]) (by rfl) rfl (callAt_func rfl Try.func16 (by kernel_rfl) (by kernel_rfl) rfl) (keeps_over (fun v h => h) fun x => timesOf_walk _ _ _ _ _ _ _ _ _) ?_; rintro _ ⟨d1, d2, d3, d4, rfl, g1, g2, g3, g4⟩; have GQ := Lib.hid ((q4_eq g1 g2 g3 g4).trans (congrArg (qtimes _) HQ0.out)); clear g1 g2 g3 g4; simp only [Act.put, List.setIfInBounds_toArray, List.set_cons_zero, List.set_cons_succ])
          | (refine rel_call (f := 22) (args := #[.agg #[.float .f64 _, .float .f64 _, .float .f64 _, .float .f64 _]]) (by rfl) rfl (callAt_func rfl Try.func22 (by kernel_rfl) (by kernel_rfl) rfl) (keeps_over (fun v h => h) fun x => unitOf_walk _ _ _ _ _) ?_; rintro _ ⟨q', ⟨u1, u2, u3, u4, rfl, g1, g2, g3, g4⟩, hv⟩; rw [(congrArg (fun Y => (qunit Y).2) GQ.out).trans HX.out] at hv; subst hv; have GU := Lib.hid ((q4_eq g1 g2 g3 g4).trans (congrArg (fun Y => (qunit Y).1) GQ.out)); clear g1 g2 g3 g4; simp only [Act.put, List.setIfInBounds_toArray, List.set_cons_zero, List.set_cons_succ])
          | (refine rel_alloc (by rfl) rfl alloc24 ?_; intro k hk; have hk1 := hk.1; have hk2 := hk.2; clear hk; (try simp only [World.size_alloc, World.size_setCell, World.heap_drewN] at hk1); (try simp only [List.forall_mem_cons] at hk2); (try obtain ⟨hk2, hk3⟩ := hk2); (try obtain ⟨hk3, hk4⟩ := hk3); (try obtain ⟨hk4, hk5⟩ := hk4); simp only [Act.put, List.setIfInBounds_toArray, List.set_cons_zero, List.set_cons_succ])
          | (refine rel_plain (by rfl) rfl ?_; intro K hK; go_big_quiet_op; go_big_quiet_on)
          | (refine rel_skip (by rfl) ?_; simp only [Act.put, List.setIfInBounds_toArray, List.set_cons_zero, List.set_cons_succ]))
        refine Rel.wpRel_nil ?_
        intro w9 hB9 hG9
        clear c2 f2 c4 f4
        replace q2 := q2.below hB9
        replace q4 := q4.below hB9
        simp only [Rel.holds, List.forall_mem_cons] at hG9
        obtain ⟨hx0, -⟩ := hG9
        have q6 := Known.held hx0
        clear hx0
        have m6 := q6.ge (n := w.heap.size) (by omega)
        replace HG : Hid (Below w.heap.size w w9) := Lib.hid (Grow.grow_trans HG.out hB9)
        replace HZ : w.heap.size ≤ w9.heap.size := Below.size HG.out
        clear hB9
        have c2 := q2.cell
        have f2 := q2.frozen
        have l2 := q2.lt
        have c4 := q4.cell
        have f4 := q4.frozen
        have l4 := q4.lt
        have c6 := q6.cell
        have f6 := q6.frozen
        have l6 := q6.lt
        go_wp2
        apply bodyPost_ret
        · simp [results, Try.results27, go_sem, *]; rfl
        · rfl
        · refine Post.mk (T := IsU _) ?_ ?_
          · rw [chq_stop HC.out hlt HX.out]
            exact ⟨_, ⟨_, _, _, _, rfl, fl_one, fl_zero, fl_zero, fl_zero⟩, rfl⟩
          · (repeat (with_reducible first | exact Grow.grow_refl _ | refine Grow.grow_setCell ?_ ?_ _ | refine Grow.grow_alloc ?_ _ | refine Grow.grow_drewN ?_ _ | refine Grow.grow_over ?_ _ | refine Grow.grow_via (by assumption) ?_)) <;> omega
      · have HX := Lib.hid hX
        clear hX
        go_wp2
        refine Rel.wp_region_rel_late SpecChain 11 9 11 (by kernel_rfl) (by kernel_rfl) (lexTailB_of_fast (by kernel_rfl) (by kernel_rfl) (by kernel_rfl)) (by decide) (fun _ _ _ _ _ h => h) ?_
        simp only [List.append_eq, List.cons_append, List.nil_append, List.take_succ_cons, List.take_zero, List.drop_succ_cons, List.drop_zero]
        repeat (first
          | (refine rel_arith (by rfl) rfl (by rfl) rfl rfl ?_; intro b1 H1; simp only [Act.put, List.setIfInBounds_toArray, List.set_cons_zero, List.set_cons_succ])
          | (refine rel_call (f := 16) (args := #[.agg #[.float .f64 _, .float .f64 _, .float .f64 _, .float .f64 _], .agg #[.float .f64 _, .float .f64 _, .float .f64 _, .float .f64 _]]) (by rfl) rfl (callAt_func rfl Try.func16 (by kernel_rfl) (by kernel_rfl) rfl) (keeps_over (fun v h => h) fun x => timesOf_walk _ _ _ _ _ _ _ _ _) ?_; rintro _ ⟨d1, d2, d3, d4, rfl, g1, g2, g3, g4⟩; have GQ := Lib.hid ((q4_eq g1 g2 g3 g4).trans (congrArg (qtimes _) HQ0.out)); clear g1 g2 g3 g4; simp only [Act.put, List.setIfInBounds_toArray, List.set_cons_zero, List.set_cons_succ])
          | (refine rel_call (f := 22) (args := #[.agg #[.float .f64 _, .float .f64 _, .float .f64 _, .float .f64 _]]) (by rfl) rfl (callAt_func rfl Try.func22 (by kernel_rfl) (by kernel_rfl) rfl) (keeps_over (fun v h => h) fun x => unitOf_walk _ _ _ _ _) ?_; rintro _ ⟨q', ⟨u1, u2, u3, u4, rfl, g1, g2, g3, g4⟩, hv⟩; rw [(congrArg (fun Y => (qunit Y).2) GQ.out).trans HX.out] at hv; subst hv; have GU := Lib.hid ((q4_eq g1 g2 g3 g4).trans (congrArg (fun Y => (qunit Y).1) GQ.out)); clear g1 g2 g3 g4; simp only [Act.put, List.setIfInBounds_toArray, List.set_cons_zero, List.set_cons_succ])
          | (refine rel_alloc (by rfl) rfl alloc24 ?_; intro k hk; have hk1 := hk.1; have hk2 := hk.2; clear hk; (try simp only [World.size_alloc, World.size_setCell, World.heap_drewN] at hk1); (try simp only [List.forall_mem_cons] at hk2); (try obtain ⟨hk2, hk3⟩ := hk2); (try obtain ⟨hk3, hk4⟩ := hk3); (try obtain ⟨hk4, hk5⟩ := hk4); simp only [Act.put, List.setIfInBounds_toArray, List.set_cons_zero, List.set_cons_succ])
          | (refine rel_plain (by rfl) rfl ?_; intro K hK; go_big_quiet_op; go_big_quiet_on)
          | (refine rel_skip (by rfl) ?_; simp only [Act.put, List.setIfInBounds_toArray, List.set_cons_zero, List.set_cons_succ]))
        refine Rel.wpRel_nil ?_
        intro w9 hB9 hG9
        clear c2 f2 c4 f4
        replace q2 := q2.below hB9
        replace q4 := q4.below hB9
        simp only [Rel.holds, List.forall_mem_cons] at hG9
        obtain ⟨hx0, -⟩ := hG9
        have q6 := Known.held hx0
        clear hx0
        have m6 := q6.ge (n := w.heap.size) (by omega)
        replace HG : Hid (Below w.heap.size w w9) := Lib.hid (Grow.grow_trans HG.out hB9)
        replace HZ : w.heap.size ≤ w9.heap.size := Below.size HG.out
        clear hB9
        have c2 := q2.cell
        have f2 := q2.frozen
        have l2 := q2.lt
        have c4 := q4.cell
        have f4 := q4.frozen
        have l4 := q4.lt
        have c6 := q6.cell
        have f6 := q6.frozen
        have l6 := q6.lt
        go_wp2
        go_roundw
        case rel =>
          refine ⟨ct + 1, _, _, _, _, _, by omega, by go_num, chn_go HC.out HX.out, GU.out, ?_, ?_, ?_⟩
          · exact Known.eq (Known.at q2 (by (repeat (with_reducible first | exact q2 | apply Known.same | apply Known.other | apply Known.alloc | apply Known.drewN)) <;> omega)) (by simp only [List.setIfInBounds_toArray, List.set_cons_zero, List.set_cons_succ])
          · exact Known.eq (Known.at q4 (by (repeat (with_reducible first | exact q4 | apply Known.same | apply Known.other | apply Known.alloc | apply Known.drewN)) <;> omega)) (by simp only [List.setIfInBounds_toArray, List.set_cons_zero, List.set_cons_succ])
          · (repeat (with_reducible first | exact Grow.grow_refl _ | refine Grow.grow_setCell ?_ ?_ _ | refine Grow.grow_alloc ?_ _ | refine Grow.grow_drewN ?_ _ | refine Grow.grow_over ?_ _ | refine Grow.grow_via (by assumption) ?_)) <;> omega
        case measure => simp [intOf]; omega
    · obtain rfl : ct = n := by omega
      go_wp2
      apply bodyPost_ret
      · simp [results, Try.results27, go_sem, *]; rfl
      · rfl
      · refine Post.mk (T := IsU _) ?_ ?_
        · rw [chq_end HC.out]
          exact ⟨_, ⟨_, _, _, _, rfl, congrArg Q4.w HQ0.out, congrArg Q4.x HQ0.out, congrArg Q4.y HQ0.out, congrArg Q4.z HQ0.out⟩, rfl⟩
        · (repeat (with_reducible first | exact Grow.grow_refl _ | refine Grow.grow_setCell ?_ ?_ _ | refine Grow.grow_alloc ?_ _ | refine Grow.grow_drewN ?_ _ | refine Grow.grow_over ?_ _ | refine Grow.grow_via (by assumption) ?_)) <;> omega

end Go.Proofs.Ytdnclgpjcgamgaa
