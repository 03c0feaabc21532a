/- The night's house: what an instrument does at an instant. -/
import Derived.Test.YtjjjbkehmnfgbaaDoorNh5
import Derived.Deep.MidRow
set_option linter.unusedSimpArgs false
set_option linter.unusedVariables false
namespace Go.Proofs.YtjjjbkehmnfgbaaDoor
open Go.RowKit Go.Grow Go.Hs

def inB1 (x : Int) (s : Int × Int) : Bool := decide (s.1 ≤ x) && decide (x < s.2)
set_option maxRecDepth 100000 in
set_option maxHeartbeats 8000000 in
theorem open1_walk (s : Int × Int) (x : Int) (b : Nat) (w : World) (c1 : w.cell? ⟨b, 0, none⟩ = some (.int .i64 x)) :
    Calls Tryd.prog 149 #[.agg #[.int .i64 s.1, .int .i64 s.2], .pointer (some ⟨b, 0, none⟩)] w fun e w' => e = .returned (.bool (inB1 x s)) ∧ Below w.heap.size w w' := by
  obtain ⟨x1, x2⟩ := s
  unfold inB1
  simp only
  have hb1 : b < w.heap.size := lt_of_cellS c1
  by_cases t1 : x1 ≤ x
  · have u1 : decide (x1 ≤ x) = true := decide_eq_true t1
    go_enter Tryd.func149, Tryd.ntmps149
    go_wp2
    go_ret
    exact ⟨by first | rfl | (rw [u1]; rfl) | (rw [u1]; simp), by (repeat (with_reducible first | exact grow_refl _ | refine Grow.grow_drewN ?_ _ | refine Grow.grow_drew ?_ | refine Grow.grow_alloc ?_ _))⟩
  · have u1 : decide (x1 ≤ x) = false := decide_eq_false t1
    go_enter Tryd.func149, Tryd.ntmps149
    go_wp2
    go_ret
    exact ⟨by first | rfl | (rw [u1]; rfl) | (rw [u1]; simp), by (repeat (with_reducible first | exact grow_refl _ | refine Grow.grow_drewN ?_ _ | refine Grow.grow_drew ?_ | refine Grow.grow_alloc ?_ _))⟩
set_option maxRecDepth 100000 in
set_option maxHeartbeats 4000000 in
theorem idx_open (r : Option Addr) (l : List (Int × Int)) (cap b : Nat) (x : Int) (w : World) (hl : l.length ≤ 1000000) (hr : SpAt w r l) (c1 : w.cell? ⟨b, 0, none⟩ = some (.int .i64 x)) :
    Calls Tryd.prog 75 #[.slice r l.length cap, .func (.func 149) #[] #[.pointer (some ⟨b, 0, none⟩)]] w fun e w' => (∃ i : Int, e = .returned (.int .i64 i) ∧ (decide (0 ≤ i) = l.any (inB1 x))) ∧ Below w.heap.size w w' := by
  have HR := Lib.hid hr
  have HC1 := Lib.hid c1
  clear hr c1
  go_enter Tryd.func75, Tryd.ntmps75
  go_wp2
  go_loopw [8] (fun v8 wr => ∃ k : Nat, k ≤ l.length ∧ v8 = .int .i64 k ∧ Hid ((l.take k).any (inB1 x) = false) ∧ Below w.heap.size w wr) (fun i _ => l.length - (intOf i).toNat)
  case atStart => exact ⟨0, Nat.zero_le _, rfl, Lib.hid rfl, Below.refl _ _⟩
  case round =>
    obtain ⟨k, hk, rfl, HNO, hb⟩ := hrel
    have HB := Lib.hid hb
    clear hb
    by_cases hlt : k < l.length
    · obtain ⟨b1, o1, rfl, hcc⟩ := HR.out.resolve_left (by intro h; rw [h] at hlt; exact absurd hlt (by simp))
      obtain ⟨e0, e1⟩ := hcc k hlt
      have hb1 : b1 < w.heap.size := lt_of_cellS e0
      rw [← HB.out.cell (p := ⟨b1, _, none⟩) hb1] at e0 e1
      have hi0 : (0 : Int) ≤ (k : Int) := by omega
      have hi1 : (k : Int) < (l.length : Int) := by omega
      have HP := Lib.hid (fun X (hX : Below w.heap.size w X) => open1_walk l[k] x b X ((hX.cell (p := ⟨b, 0, none⟩) (lt_of_cellS HC1.out)).trans HC1.out))
      have HST := Lib.hid (fun (h : inB1 x l[k] = false) => show (l.take (k + 1)).any (inB1 x) = false by
        rw [take_snocS l k hlt, List.any_append, HNO.out]; simp [h])
      have HYE := Lib.hid (fun (h : inB1 x l[k] = true) => show l.any (inB1 x) = true by
        rw [List.any_eq_true]; exact ⟨l[k], List.getElem_mem hlt, h⟩)
      clear hcc HNO
      generalize l[k] = xx at e0 e1 HP HST HYE
      cases ce : inB1 x xx with
      | true =>
        have HZ := Lib.hid (HYE.out ce)
        rw [ce] at HP
        clear HST HYE ce
        go_wp2_with (go_at_call 149; (with_reducible refine (HP.out _ HB.out).mono ?_); rintro e w1 ⟨rfl, hb1⟩; have HB1 := Lib.hid (HB.out.trans (hb1.mono HB.out.size)); clear hb1)
        go_ret
        exact ⟨⟨_, rfl, by rw [HZ.out]; exact decide_eq_true (by omega)⟩, HB1.out⟩
      | false =>
        have HZ := Lib.hid (HST.out ce)
        rw [ce] at HP
        clear HST HYE ce
        go_wp2_with (go_at_call 149; (with_reducible refine (HP.out _ HB.out).mono ?_); rintro e w1 ⟨rfl, hb1⟩; have HB1 := Lib.hid (HB.out.trans (hb1.mono HB.out.size)); clear hb1)
        go_roundw
        case rel => exact ⟨k + 1, by omega, by go_num, HZ, HB1.out⟩
        case measure => simp [intOf]; omega
    · obtain rfl : k = l.length := by omega
      rw [List.take_length] at HNO
      go_wp2
      go_ret
      exact ⟨⟨-1, rfl, by rw [HNO.out]; rfl⟩, HB.out⟩
set_option maxRecDepth 100000 in
set_option maxHeartbeats 4000000 in
theorem has_open (r : Option Addr) (l : List (Int × Int)) (cap b : Nat) (x : Int) (w : World) (hl : l.length ≤ 1000000) (hr : SpAt w r l) (c1 : w.cell? ⟨b, 0, none⟩ = some (.int .i64 x)) :
    Calls Tryd.prog 50 #[.slice r l.length cap, .func (.func 149) #[] #[.pointer (some ⟨b, 0, none⟩)]] w fun e w' => e = .returned (.bool (l.any (inB1 x))) ∧ Below w.heap.size w w' := by
  have HI := Lib.hid (idx_open r l cap b x w hl hr c1)
  clear hr c1
  go_enter Tryd.func50, Tryd.ntmps50
  go_wp2_with (go_at_call 75; (with_reducible refine HI.out.mono ?_); rintro e w1 ⟨⟨i, rfl, hi⟩, hb1⟩; have HB1 := Lib.hid hb1; have HII := Lib.hid hi; clear hb1 hi)
  go_ret
  exact ⟨by rw [← HII.out]; rfl, HB1.out⟩
set_option maxRecDepth 100000 in
set_option maxHeartbeats 8000000 in
theorem open_walk (r : Option Addr) (l : List (Int × Int)) (cap : Nat) (x : Int) (w : World) (hl : l.length ≤ 1000000) (hr : SpAt w r l) :
    Calls Tryd.prog 148 #[.agg #[.slice r l.length cap], .int .i64 x] w fun e w' => e = .returned (.bool (l.any (inB1 x))) ∧ Below w.heap.size w w' := by
  have HC := Lib.hid (fun X (hX : Below w.heap.size w X) b (c1 : X.cell? ⟨b, 0, none⟩ = some (.int .i64 x)) => has_open r l cap b x X hl (hr.below hX) c1)
  clear hr
  go_enter Tryd.func148, Tryd.ntmps148
  go_wp2_with (go_at_call 50; (with_reducible refine (HC.out _ (grow_alloc (grow_alloc (grow_refl w) _) _) _ (by have := (Known.new (w.alloc (.cells #[.slice r l.length cap] 183)) #[.int .i64 x] 3).cell 0; simp)).mono ?_); rintro e w1 ⟨rfl, hb1⟩; have HB1 := Lib.hid (grow_trans (grow_alloc (grow_alloc (grow_refl w) _) _) hb1); clear hb1)
  go_ret
  exact ⟨rfl, HB1.out⟩
set_option maxRecDepth 100000 in
set_option maxHeartbeats 8000000 in
theorem point_walk (p q x : Int) (w : World) :
    Calls Tryd.prog 142 #[.agg #[.int .i64 p, .int .i64 q], .int .i64 x] w fun e w' => e = .returned (.tuple #[.int .i64 p, .int .i64 q]) ∧ Below w.heap.size w w' := by
  have KB := Lib.hid ((Known.new w #[.int .i64 p, .int .i64 q] 142).drew)
  have k0 := KB.out.cell 0
  have k1 := KB.out.cell 1
  have lk := KB.out.lt
  simp only [List.getElem?_toArray, List.getElem?_cons_zero, List.getElem?_cons_succ] at k0 k1
  go_enter Tryd.func142, Tryd.ntmps142
  go_wp2
  go_quiet (fail)
  go_wp2
  go_ret2
  exact ⟨rfl, by (repeat (with_reducible first | exact grow_refl _ | refine Grow.grow_drewN ?_ _ | refine Grow.grow_drew ?_ | refine Grow.grow_alloc ?_ _))⟩
theorem alloc_pic (w : World) : (Instr.alloc 77 true (.tuple #[])).run Tryd.prog w = .ok (.pointer (some ⟨w.heap.size, 0, none⟩)) (w.alloc (.cells #[.int .i64 0, .int .i64 0, .slice none 0 0] 77)) := by kernel_rfl
theorem results_cellH {P : Program} {fn : Func} {p : Tmp} {ty : TypeId} (h : fn.results = #[.cell p ty]) (tmps : Array Value) (w : World) (g : Nat) (cs : List Value) (d : TypeDesc)
    (hp : tmps.getD p undef = .pointer (some ⟨g, 0, none⟩)) (hK : Known w g cs.toArray) (hu : P.underlying ty = some d) (hd : d.isRow = true) (hi : (P.info? ty).map (·.size) = some cs.length) :
    (results fn tmps).run P w = .ok (.agg cs.toArray) w := by
  have hp' : tmps[p]?.getD undef = .pointer (some ⟨g, 0, none⟩) := by simpa using hp
  have hl := run_loadVar_mid (P := P) w g 0 ty cs d (fun j v hv => by rw [Nat.zero_add, hK.cell j]; simpa using hv) hu hd hi
  simp [results, h, hp', asAddr, hl]
theorem known_eqH {w : World} {b : Nat} {c c' : Array Value} (h : Known w b c) (e : c = c') : Known w b c' := e ▸ h
set_option maxRecDepth 100000 in
set_option maxHeartbeats 8000000 in
theorem shoot_walk (p q x : Int) (r : Option Addr) (l : List Int) (cap : Nat) (w : World) (hl : l.length ≤ 1000000) (hr : NrAt w r l) :
    Calls Tryd.prog 146 #[.agg #[.int .i64 p, .int .i64 q, .slice r l.length cap], .int .i64 x] w fun e w' => ∃ r' c', e = .returned (.agg #[.int .i64 p, .int .i64 q, .slice r' l.length c']) ∧ w'.ownsRow w.heap.size 3 1 (.slice r' l.length c') l.length (nrL l) ∧ Below w.heap.size w w' := by
  have CL := Lib.hid (fun X (hX : Below w.heap.size w X) => clone_nr r l cap X hl (hr.below hX))
  have hal := alloc_pic
  have KR := Lib.hid (Known.new' (w := w.alloc (.cells #[.int .i64 p, .int .i64 q, .slice r l.length cap] 180)) (c := #[.int .i64 0, .int .i64 0, .slice none 0 0]) (t := 77) (b := w.heap.size + 1) (by simp))
  have KP := Lib.hid (Known.new' (w := (w.alloc (.cells #[.int .i64 p, .int .i64 q, .slice r l.length cap] 180)).alloc (.cells #[.int .i64 0, .int .i64 0, .slice none 0 0] 77)) (c := #[.int .i64 p, .int .i64 q, .slice r l.length cap]) (t := 77) (b := w.heap.size + 2) (by simp))
  have KR2 := Lib.hid (KR.out.alloc (.cells #[.int .i64 p, .int .i64 q, .slice r l.length cap] 77))
  clear hr
  go_enter Tryd.func146, Tryd.ntmps146
  go_wp2_with (go_at_call 80; (with_reducible refine (CL.out _ (grow_alloc (grow_alloc (grow_alloc (grow_refl w) _) _) _)).mono ?_); rintro e w1 ⟨v1, rfl, ho, hb⟩; obtain ⟨r1, c1, rfl, _⟩ := nr_of_owns ho; have HO := Lib.hid ho; have B1 := Lib.hid (grow_trans (grow_alloc (grow_alloc (grow_alloc (grow_refl w) _) _) _) hb); have K1 := Lib.hid (KP.out.below hb); have K2 := Lib.hid (KR2.out.below hb); clear ho hb; have k0 := K1.out.cell 0; have k1 := K1.out.cell 1; have k2 := K1.out.cell 2; have f2 := K1.out.frozen 2; have kl := K1.out.lt; have j0 := K2.out.cell 0; have j1 := K2.out.cell 1; have j2 := K2.out.cell 2; have q0 := K2.out.frozen 0; have q1 := K2.out.frozen 1; have q2 := K2.out.frozen 2; have jl := K2.out.lt; simp only [List.getElem?_toArray, List.getElem?_cons_zero, List.getElem?_cons_succ] at k0 k1 k2 j0 j1 j2)
  (try simp only [Exit.inBlock, Exit.then])
  refine bodyPost_ret (results_cellH rfl _ _ (w.heap.size + 1) [.int .i64 p, .int .i64 q, .slice r1 l.length c1] _ rfl (known_eqH (((((K2.out.other (b' := w.heap.size + 2) (by omega) 2 _).same 0 _).same 1 _).same 2 _)) (by simp)) Tryd.underlying77 rfl (by kernel_rfl)) rfl ?_
  refine ⟨r1, c1, rfl, ?_, ?_⟩
  · have h5 := owns_setH (b := w.heap.size + 1) (owns_setH (b := w.heap.size + 1) (owns_setH (b := w.heap.size + 1) (owns_setH (b := w.heap.size + 2) HO.out (by simp) 2 (.slice r1 l.length c1)) (by simp) 0 (.int .i64 p)) (by simp) 1 (.int .i64 q)) (by simp) 2 (.slice r1 l.length c1)
    exact ownsRow_base h5 (by simp; omega)
  · (repeat (with_reducible first | exact B1.out | refine Grow.grow_setCell ?_ ?_ _)) <;> omega
end Go.Proofs.YtjjjbkehmnfgbaaDoor
