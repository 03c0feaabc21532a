/- The night's best plan: the program's. -/
import Derived.Test.YtjjjbkehmnfgbaaDoorNj11
import Derived.Test.YtjjjbkehmnfgbaaDoorRd3
import Derived.Deep.DeepCutAuto
import Derived.Deep.CutBlock
set_option linter.unusedSimpArgs false
set_option linter.unusedVariables false
namespace Go.Proofs.YtjjjbkehmnfgbaaDoor
open Go.RowKit Go.Grow Go.Night

set_option maxRecDepth 100000 in
set_option maxHeartbeats 8000000 in
theorem best_bad (a : Nat → Addr) (r : Option Addr) (l : List Jb) (cap : Nat) (w : World) (hs : Sen a [2, 5, 10] w) (hl : l.length ≤ 1000000) (hcap : l.length ≤ cap) (hw : ∀ j ∈ l, j.win.length ≤ 4000) (hr : JobsAt w r l) (hE : jobsE l ≠ 0) :
    Calls Tryd.prog 9 #[.slice r l.length cap] w fun e w' => e = .returned (.tuple #[.slice none 0 0, .int .i64 0, errV a (jobsE l)]) ∧ Below w.heap.size w w' := by
  have HV := Lib.hid (valid_walk a r l cap w hs hl hcap hw hr)
  have hu := errV_pos a hE
  rw [hu] at HV ⊢
  clear hs hr hE hu hw
  go_enter Tryd.func9, Tryd.ntmps9
  go_wp2_with (go_at_call 13; (with_reducible refine HV.out.mono ?_); rintro e w1 ⟨rfl, hb⟩; have HB := Lib.hid hb; clear hb)
  go_ret3
  exact ⟨rfl, HB.out⟩
set_option maxRecDepth 100000 in
set_option maxHeartbeats 8000000 in
theorem reverse_nil (w : World) :
    Calls Tryd.prog 40 #[.slice none 0 0] w fun e w' => e = .returned (.tuple #[]) ∧ Below w.heap.size w w' := by
  go_enter Tryd.func40, Tryd.ntmps40
  go_wp2
  refine wp_loop_rounds 1 ?_
  rw [rounds_succ]
  go_wp2
  go_end0
  exact ⟨rfl, grow_refl _⟩
def slL (l : List Jb) (q : List (Nat × Int)) : List Value := q.flatMap fun x => [.string (at_ l x.1).name, .int .i64 x.2]
theorem slL_append (l : List Jb) (a b : List (Nat × Int)) : slL l (a ++ b) = slL l a ++ slL l b := by simp [slL]
theorem slL_length (l : List Jb) (q : List (Nat × Int)) : (slL l q).length = q.length * 2 := by
  induction q with
  | nil => rfl
  | cons x q ih =>
    rw [show slL l (x :: q) = .string (at_ l x.1).name :: .int .i64 x.2 :: slL l q from rfl]
    simp only [List.length_cons, ih]; omega
def slF (l : List Jb) (q : List (Nat × Int)) (k : Nat) : Sl := sl (q.map fun x => ⟨(at_ l x.1).name, x.2⟩) k
theorem slF_at (l : List Jb) (q : List (Nat × Int)) (k : Nat) (h : k < q.length) : slF l q k = ⟨(at_ l q[k].1).name, q[k].2⟩ := by unfold slF sl; simp [h]
theorem slL_get (l : List Jb) : ∀ (q : List (Nat × Int)) (k : Nat) (h : k < q.length), (slL l q)[k * 2]? = some (.string (slF l q k).name) ∧ (slL l q)[k * 2 + 1]? = some (.int .i64 (slF l q k).frm)
  | [], k, h => absurd h (by simp)
  | x :: q, 0, h => ⟨rfl, rfl⟩
  | x :: q, k + 1, h => by
    have := slL_get l q k (by simpa using h)
    rw [show slL l (x :: q) = .string (at_ l x.1).name :: .int .i64 x.2 :: slL l q from rfl, show (k + 1) * 2 = k * 2 + 1 + 1 by omega, show slF l (x :: q) (k + 1) = slF l q k by unfold slF sl; simp]
    simpa using this
theorem row_of_owns {w : World} {base : Nat} {e : TypeId} {v : Value} {l : List Jb} {q : List (Nat × Int)} (h : w.ownsRow base e 2 v q.length (slL l q)) : (v = .slice none 0 0 ∧ q = []) ∨ ∃ g cap, v = .slice (some ⟨g, 0, none⟩) q.length cap ∧ base ≤ g ∧ SlRow w g q.length (slF l q) := by
  obtain ⟨hl, ⟨hv, hn⟩ | ⟨g, cap, cur, hv, hb, hh, hr⟩⟩ := h
  · exact .inl ⟨hv, List.length_eq_zero_iff.1 hn⟩
  · subst hv
    have hc := owns_cellsS (w := w) (base := base) (e := e) (size := 2) (g := g) (n := q.length) (cap := cap) (xs := slL l q) ⟨hl, .inr ⟨g, cap, cur, rfl, hb, hh, hr⟩⟩
    refine .inr ⟨g, cap, rfl, hb, (Array.getElem?_eq_some_iff.1 hh).1, fun i => ?_, fun k hk => ?_⟩
    · unfold World.frozen?
      simp only [hh]
      simp
    · obtain ⟨h0, h1⟩ := slL_get l q k hk
      exact ⟨hc _ _ h0, hc _ _ h1⟩
theorem slF_rev (l : List Jb) (q : List (Nat × Int)) (k : Nat) (h : k < q.length) : slF l q (q.length - 1 - k) = sl (q.reverse.map fun x => ⟨(at_ l x.1).name, x.2⟩) k := by
  rw [slF_at l q _ (by omega), show sl (q.reverse.map fun x => (⟨(at_ l x.1).name, x.2⟩ : Sl)) k = slF l q.reverse k from rfl, slF_at l q.reverse k (by simpa using h)]
  simp [List.getElem_reverse]
theorem plan_len {l : List Jb} {X : Nat} {e : Int} {p : List (Nat × Int)} (h : IsPlan l X e p) : p.length ≤ l.length := by
  have h1 : (p.map fun x => x.1).Nodup := by
    unfold List.Nodup
    rw [List.pairwise_map]
    exact h.order.imp fun h => h.1
  have h2 : (p.map fun x => x.1) ⊆ List.range l.length := fun x hx => by
    obtain ⟨y, hy, rfl⟩ := List.mem_map.1 hx
    exact List.mem_range.2 (h.each y hy).1
  have := List.Nodup.length_le_of_subset h1 h2
  simpa using this
theorem info_slot : (Tryd.prog.info? 37).map (fun i => (i.zero, i.size, i.bytes)) = some (some (.agg #[.string .empty, .int .i64 0]), 2, 24) := by kernel_rfl
theorem del_lt : ∀ X : Nat, X < 64 → ∀ k : Nat, k < 6 → X.testBit k = true → del X k < X := by decide +kernel
theorem sl_cell (a : ByteArray) (b : Int) : ∀ u ∈ [Value.string a, Value.int .i64 b], u.oneCell' = true := fun u h => by simp at h; rcases h with rfl | rfl <;> rfl
def BestPost (w : World) (l : List Jb) (e : Ending) (w' : World) : Prop :=
  ∃ (r : Option Addr) (c X : Nat) (en : Int) (q : List (Nat × Int)), e = .returned (.tuple #[.slice r q.length c, .int .i64 (worthOf l X), .nilIface]) ∧ SlotsAt w' r (q.map fun x => ⟨(at_ l x.1).name, x.2⟩) ∧ IsPlan l X en q ∧ worthOf l X = mostF l (l.length + 1) 0 t0 ∧ Below w.heap.size w w'
theorem best_in {l : List Jb} (hF : Fine l) (s : Nat) : 0 ≤ (best l s).2 ∧ (best l s).2 ≤ l.length * 1099511627776 := by
  obtain ⟨_, h2, _⟩ := best_spec l s
  rw [h2]
  exact worthOf_in hF _ _ (Nat.le_refl _)
theorem best_no {l : List Jb} {s : Nat} (h : ¬ ((way l s).ok = true ∧ (best l s).2 < worthOf l s)) : best l (s + 1) = best l s := by rw [best, if_neg h]
theorem best_yes {l : List Jb} {s : Nat} (h : (way l s).ok = true ∧ (best l s).2 < worthOf l s) : best l (s + 1) = (s, worthOf l s) := by rw [best, if_pos h]
theorem step_no {l : List Jb} {s : Nat} (h : (Night.ways l s s).ok = false) : Night.ways l (s + 1) = Night.ways l s := by
  show stepW l (Night.ways l s) s = _
  unfold stepW; rw [h]; rfl
theorem step_yes {l : List Jb} {s : Nat} (h : (Night.ways l s s).ok = true) : Night.ways l (s + 1) = inner l (Night.ways l s s).fin s (Night.ways l s) l.length := by
  show stepW l (Night.ways l s) s = _
  unfold stepW; rw [h]; rfl
set_option maxRecDepth 100000 in
set_option maxHeartbeats 16000000 in
theorem best_good (a : Nat → Addr) (r : Option Addr) (l : List Jb) (cap : Nat) (w : World) (hs : Sen a [2, 5, 10] w) (hl : l.length ≤ 6) (hcap : l.length ≤ cap) (hw : ∀ j ∈ l, j.win.length ≤ 4000) (hr : JobsAt w r l) (hE : jobsE l = 0) :
    Calls Tryd.prog 9 #[.slice r l.length cap] w (BestPost w l) := by
  have HV := Lib.hid (valid_walk a r l cap w hs (by omega) hcap hw hr)
  rw [hE, errV_zero] at HV
  obtain ⟨hF, _⟩ := fine_of_jobs hE
  have HF := Lib.hid hF
  have HR := Lib.hid hr
  have HW := Lib.hid hw
  have hsh := shl_n l.length (by omega)
  obtain ⟨N, hN⟩ : ∃ N, 2 ^ l.length = N := ⟨_, rfl⟩
  rw [hN] at hsh
  have hN64 : N ≤ 64 := by
    rw [← hN]; exact Nat.pow_le_pow_right (n := 2) (by omega) hl
  have hN1 : 1 ≤ N := by rw [← hN]; exact Nat.one_le_two_pow
  have hmk := mk_ways N (by omega)
  have HNN := Lib.hid hN
  clear hs hr hE hw hF hN
  go_enter Tryd.func9, Tryd.ntmps9
  have hN0 : (0 : Int) < (N : Int) := by omega
  go_upto_region 5 with (go_at_call 13; (with_reducible refine HV.out.mono ?_); rintro e w1 ⟨rfl, hb⟩; have HB := Lib.hid hb; clear hb HV)
  refine Grow.seal_wp ?_
  intro W hW
  have WR := Lib.hid (show WayRow W w1.heap.size N (fun _ => ⟨false, 0, 0, 0⟩) from hW.out ▸ WayRow.made w1 N 100)
  have GW := Lib.hid (show Below w.heap.size w W from hW.out ▸ grow_alloc HB.out _)
  clear hW hmk hsh
  obtain ⟨c0, c1, c2, c3⟩ := WR.out.cell 0 hN1
  have f0 := WR.out.frozen 0
  have f1 := WR.out.frozen 1
  have f2 := WR.out.frozen 2
  have f3 := WR.out.frozen 3
  simp only [Nat.zero_mul, Nat.zero_add] at c0 c1 c2 c3
  have hg := WR.out.lt
  have hz1 := HB.out.size
  have W1 := Lib.hid (show WayRow ((((W.setCell ⟨w1.heap.size, 0, none⟩ (.bool true)).setCell ⟨w1.heap.size, 1, none⟩ (.int .i64 (-4611686018427387904))).setCell ⟨w1.heap.size, 2, none⟩ (.int .i64 0)).setCell ⟨w1.heap.size, 3, none⟩ (.int .i64 0)) w1.heap.size N (Night.ways l 0) from
    (WR.out.set hN1 ⟨true, t0, 0, 0⟩).at (fun k hk => by unfold updW; by_cases e : k = 0 <;> simp [e, Night.ways, W0]))
  go_wp2
  go_loopw [7, 8, 33] (fun v7 v8 v33 wr => ∃ s : Nat, s ≤ N ∧ v7 = .int .i64 ((best l s).1 : Nat) ∧ v8 = .int .i64 (best l s).2 ∧ v33 = .int .i64 s ∧ WayRow wr w1.heap.size N (Night.ways l s) ∧ Below w.heap.size w wr) (fun _ _ i _ => N - (intOf i).toNat)
  case atStart => exact ⟨0, Nat.zero_le _, rfl, rfl, rfl, W1.out, by (repeat (with_reducible first | exact GW.out | refine Grow.grow_setCell ?_ ?_ _)) <;> omega⟩
  case round =>
    clear WR GW W1 c0 c1 c2 c3 f0 f1 f2 f3
    obtain ⟨s, hs, rfl, rfl, rfl, hrow, hb⟩ := hrel
    have R := Lib.hid hrow
    have G := Lib.hid hb
    clear hrow hb
    have hz := G.out.size
    have hgl := R.out.lt
    by_cases hlt : s < N
    · obtain ⟨c0, c1, c2, c3⟩ := R.out.cell s hlt
      have hs0 : (0 : Int) ≤ (s : Int) := by omega
      have hs1 : (s : Int) < (N : Int) := by omega
      cases hok : (Night.ways l s s).ok with
      | false =>
        have XB := Lib.hid (best_no (l := l) (s := s) (fun h => by have := h.1; rw [show way l s = Night.ways l s s from rfl, hok] at this; cases this))
        have XW := Lib.hid (step_no hok)
        rw [hok] at c0
        clear hok
        generalize (Night.ways l s s).fin = e1 at c1
        generalize ((Night.ways l s s).last : Int) = e2 at c2
        generalize (Night.ways l s s).frm = e3 at c3
        go_wp2
        go_roundw
        case rel => exact ⟨s + 1, by omega, by rw [XB.out], by rw [XB.out], by go_num, by rw [XW.out]; exact R.out.below (grow_alloc (grow_refl _) _), grow_alloc G.out _⟩
        case measure => simp [intOf]; omega
      | true =>
        have XS := Lib.hid (step_yes hok)
        have HIN := Lib.hid (fun X k hk h => inner_in HF.out s X hok k hk h)
        have HE := way_in HF.out s s hok
        have hwo := worthOf_in HF.out s l.length (Nat.le_refl _)
        rw [show wUp l s l.length = worthOf l s from rfl] at hwo
        have hbi := best_in HF.out s
        have HWO := Lib.hid (fun X (hX : Below w.heap.size w X) => worth_walk r l cap s X hl (by omega) (HR.out.below hX) HF.out.worth)
        have hway : (way l s).ok = true := hok
        rw [hok] at c0
        generalize he : (Night.ways l s s).fin = e at c1 XS HIN HE
        generalize ((Night.ways l s s).last : Int) = e2 at c2
        generalize (Night.ways l s s).frm = e3 at c3
        have XB : Hid (best l (s + 1) = (s, worthOf l s) ∧ (best l s).2 < worthOf l s) ∨ Hid (best l (s + 1) = best l s ∧ ¬ (best l s).2 < worthOf l s) := by
          by_cases tb : (best l s).2 < worthOf l s
          · exact .inl (Lib.hid ⟨best_yes ⟨hway, tb⟩, tb⟩)
          · exact .inr (Lib.hid ⟨best_no (fun h => tb h.2), tb⟩)
        clear hok hway he
        generalize worthOf l s = wo at hwo HWO XB
        rcases XB with XB | XB
        all_goals
          have XB1 := Lib.hid XB.out.1
          have tb := XB.out.2
          first
            | (have tbu : decide ((best l s).2 < wo) = true := decide_eq_true tb)
            | (have tbu : decide ((best l s).2 < wo) = false := decide_eq_false tb)
          clear XB tb
          go_wp2_with (go_at_call 38; (with_reducible refine (HWO.out _ (grow_alloc G.out _)).mono ?_); rintro e w2 ⟨rfl, hb⟩; have HB2 := Lib.hid hb; clear hb)
          have K2 := (Known.new wr #[Value.bool true, .int .i64 e, .int .i64 e2, .int .i64 e3] 100).below HB2.out
          have R2 := Lib.hid ((R.out.below (grow_alloc (grow_refl _) _)).below HB2.out)
          have G2 := Lib.hid (grow_trans (grow_alloc G.out _) HB2.out)
          have t1 := K2.cell 1
          have t2 := K2.lt
          simp only [List.getElem?_toArray, List.getElem?_cons_zero, List.getElem?_cons_succ] at t1
          clear R G K2 HB2 HWO c0 c1 c2 c3 hz
          go_loopw [51] (fun v51 wr' => ∃ k : Nat, k ≤ l.length ∧ v51 = .int .i64 k ∧ WayRow wr' w1.heap.size N (inner l e s (Night.ways l s) k) ∧ wr'.cell? ⟨wr.heap.size, 1, none⟩ = some (.int .i64 e) ∧ Below w.heap.size w wr') (fun i _ => l.length - (intOf i).toNat)
          case atStart => exact ⟨0, Nat.zero_le _, rfl, R2.out, t1, G2.out⟩
          case round =>
            clear R2 G2 t1 t2
            obtain ⟨k, hk, rfl, hrow, ht1, hb⟩ := hrel
            have R := Lib.hid hrow
            have G := Lib.hid hb
            clear hrow hb
            have hz := G.out.size
            have hgl2 := R.out.lt
            have hTl := lt_of_cellS ht1
            simp only at hTl
            by_cases hkl : k < l.length
            · obtain ⟨b1, o1, rfl, hc⟩ := HR.out.resolve_left (by intro h; rw [h] at hkl; exact absurd hkl (by simp))
              obtain ⟨rs, cs, d0, d1, d2, d3, hsp⟩ := hc k hkl
              have hb1 : b1 < w.heap.size := lt_of_cellS d0
              rw [← G.out.cell (p := ⟨b1, _, none⟩) hb1] at d0 d1 d2 d3
              have hb1' : b1 < wr.heap.size := Nat.lt_of_lt_of_le hb1 hz
              have hk0 : (0 : Int) ≤ (k : Int) := by omega
              have hk1 : (k : Int) < (l.length : Int) := by omega
              have HA := and_bit s (by omega) k (by omega)
              have HO := or_bit s (by omega) k (by omega)
              have HXN : add s k < N := by rw [← HNN.out]; exact add_lt (by rw [HNN.out]; exact hlt) hkl
              have HINx := Lib.hid (HIN.out (add s k) k hk)
              have HSB := Lib.hid (fun a => soon_bound HF.out hkl (t := e) (a := a))
              have hlong := HF.out.long _ (at_mem hkl)
              have HRX := Lib.hid (show inner l e s (Night.ways l s) (k + 1) = relax l e (inner l e s (Night.ways l s) k) s k from rfl)
              have HRL : Hid (∀ W : Nat → Wy, relax l e W s k = if s.testBit k then W else match soon (at_ l k) e with
                  | none => W
                  | some a => if (!(W (add s k)).ok || decide (a + (at_ l k).long < (W (add s k)).fin)) = true then updW W (add s k) ⟨true, a + (at_ l k).long, k, a⟩ else W) := Lib.hid fun _ => rfl
              have HFI := Lib.hid (fun X (hX : Below w.heap.size w X) => first_walk (at_ l k).name rs (at_ l k).win cs (at_ l k).long (at_ l k).worth e X (by have := HW.out _ (at_mem hkl); omega) (hsp.below hX) (HF.out.long _ (at_mem hkl)) (HF.out.win _ (at_mem hkl)))
              rw [show (at_ l k).win.findSome? (hit (at_ l k).long e) = soon (at_ l k) e from rfl] at HFI
              clear hc hsp
              generalize soon (at_ l k) e = so at HSB HRL HFI
              generalize inner l e s (Night.ways l s) k = Wk at R HINx HRX
              obtain ⟨Wn, hWn⟩ : ∃ Wn, inner l e s (Night.ways l s) (k + 1) = Wn := ⟨_, rfl⟩
              rw [hWn] at HRX
              have HWn := Lib.hid hWn
              clear hWn
              generalize at_ l k = x at d0 d1 d2 d3 hlong HSB HRL HFI
              obtain ⟨jn, wn, lg, wt⟩ := x
              simp only at d0 d1 d2 d3 hlong HSB HRL HFI
              cases htb : s.testBit k with
              | true =>
                rw [htb] at HA
                have XE := Lib.hid (show Wn = Wk by rw [HRX.out, HRL.out, htb]; rfl)
                clear HO HFI HSB HRL htb HRX HINx
                go_wp2
                go_roundw
                case rel => exact ⟨k + 1, by omega, by go_num, by rw [HWn.out, XE.out]; exact R.out.below (grow_alloc (grow_refl _) _), by rw [World.cell?_alloc_old _ _ _ (by simp; omega)]; exact ht1, grow_alloc G.out _⟩
                case measure => simp [intOf]; omega
              | false =>
                rw [htb] at HA
                obtain ⟨y, hy⟩ : ∃ y, add s k = y := ⟨_, rfl⟩
                rw [hy] at HO HXN HINx HRL
                cases so with
                | none =>
                  have XE := Lib.hid (show Wn = Wk by rw [HRX.out, HRL.out, htb]; rfl)
                  clear HSB HRL htb HRX HINx HO hy
                  unfold soonV at HFI
                  simp only at HFI
                  go_wp2_with (go_at_call 39; (with_reducible refine (HFI.out _ (grow_alloc G.out _)).mono ?_); rintro e w3 ⟨rfl, hb⟩; have HB3 := Lib.hid (grow_trans (grow_alloc (grow_refl wr) _) hb); clear hb)
                  go_roundw
                  case rel => exact ⟨k + 1, by omega, by go_num, by rw [HWn.out, XE.out]; exact R.out.below HB3.out, (HB3.out.cell (p := ⟨_, 1, none⟩) hTl).trans ht1, grow_trans G.out HB3.out⟩
                  case measure => simp [intOf]; omega
                | some a =>
                  have hsb := HSB.out a rfl
                  have HRY : Hid (Wn = if (!(Wk y).ok || decide (a + lg < (Wk y).fin)) = true then updW Wk y ⟨true, a + lg, k, a⟩ else Wk) := Lib.hid (by rw [HRX.out, HRL.out, htb]; rfl)
                  unfold soonV at HFI
                  simp only at HFI
                  have hy0 : (0 : Int) ≤ (y : Int) := by omega
                  have hy1 : (y : Int) < (N : Int) := by omega
                  clear HSB HRL htb HRX hy
                  cases hok : (Wk y).ok with
                  | false =>
                    have XE := Lib.hid (show Wn = updW Wk y ⟨true, a + lg, k, a⟩ by rw [HRY.out, hok]; rfl)
                    have HOK := Lib.hid hok
                    clear hok HRY HINx
                    go_wp2_with (go_at_call 39; (with_reducible refine (HFI.out _ (grow_alloc G.out _)).mono ?_); rintro e' w3 ⟨rfl, hb⟩; have HB3 := Lib.hid (grow_trans (grow_alloc (grow_refl wr) _) hb); have KJ := (Known.new wr #[Value.string jn, .slice rs wn.length cs, .int .i64 lg, .int .i64 wt] 95).below hb; have j2 := KJ.cell 2; have jl := KJ.lt; simp only [List.getElem?_toArray, List.getElem?_cons_zero, List.getElem?_cons_succ] at j2; have R3 := Lib.hid (R.out.below HB3.out); obtain ⟨c0, c1, c2, c3⟩ := R3.out.cell y HXN; have f0 := R3.out.frozen (y * 4); have f1 := R3.out.frozen (y * 4 + 1); have f2 := R3.out.frozen (y * 4 + 2); have f3 := R3.out.frozen (y * 4 + 3); have hl3 := R3.out.lt; rw [HOK.out] at c0; clear hb KJ)
                    go_quiet (fail)
                    go_wp2
                    go_roundw
                    case rel =>
                      refine ⟨k + 1, by omega, by go_num, ?_, ?_, ?_⟩
                      · rw [HWn.out, XE.out]
                        exact (R3.out.below (grow_drewN (grow_refl _) _)).set HXN ⟨true, a + lg, k, a⟩
                      · simp only [cell?_put]
                        rw [if_neg (fun h => absurd h.1 (by omega)), if_neg (fun h => absurd h.1 (by omega)), if_neg (fun h => absurd h.1 (by omega)), if_neg (fun h => absurd h.1 (by omega))]
                        exact (HB3.out.cell (p := ⟨_, 1, none⟩) hTl).trans ht1
                      · (repeat (with_reducible first | exact grow_trans G.out HB3.out | refine Grow.grow_setCell ?_ ?_ _ | refine Grow.grow_drewN ?_ _)) <;> omega
                    case measure => simp [intOf]; omega
                  | true =>
                    have hfin := HINx.out hok
                    by_cases tf : a + lg < (Wk y).fin
                    · have tfu : decide (a + lg < (Wk y).fin) = true := decide_eq_true tf
                      have XE := Lib.hid (show Wn = updW Wk y ⟨true, a + lg, k, a⟩ by rw [HRY.out, hok, tfu]; rfl)
                      have HOK := Lib.hid hok
                      clear hok HRY HINx
                      go_wp2_with (go_at_call 39; (with_reducible refine (HFI.out _ (grow_alloc G.out _)).mono ?_); rintro e' w3 ⟨rfl, hb⟩; have HB3 := Lib.hid (grow_trans (grow_alloc (grow_refl wr) _) hb); have KJ := (Known.new wr #[Value.string jn, .slice rs wn.length cs, .int .i64 lg, .int .i64 wt] 95).below hb; have j2 := KJ.cell 2; have jl := KJ.lt; simp only [List.getElem?_toArray, List.getElem?_cons_zero, List.getElem?_cons_succ] at j2; have R3 := Lib.hid (R.out.below HB3.out); obtain ⟨c0, c1, c2, c3⟩ := R3.out.cell y HXN; have f0 := R3.out.frozen (y * 4); have f1 := R3.out.frozen (y * 4 + 1); have f2 := R3.out.frozen (y * 4 + 2); have f3 := R3.out.frozen (y * 4 + 3); have hl3 := R3.out.lt; rw [HOK.out] at c0; clear hb KJ)
                      go_quiet (fail)
                      go_wp2
                      go_roundw
                      case rel =>
                        refine ⟨k + 1, by omega, by go_num, ?_, ?_, ?_⟩
                        · rw [HWn.out, XE.out]
                          exact (R3.out.below (grow_drewN (grow_refl _) _)).set HXN ⟨true, a + lg, k, a⟩
                        · simp only [cell?_put]
                          rw [if_neg (fun h => absurd h.1 (by omega)), if_neg (fun h => absurd h.1 (by omega)), if_neg (fun h => absurd h.1 (by omega)), if_neg (fun h => absurd h.1 (by omega))]
                          exact (HB3.out.cell (p := ⟨_, 1, none⟩) hTl).trans ht1
                        · (repeat (with_reducible first | exact grow_trans G.out HB3.out | refine Grow.grow_setCell ?_ ?_ _ | refine Grow.grow_drewN ?_ _)) <;> omega
                      case measure => simp [intOf]; omega
                    · have tfu : decide (a + lg < (Wk y).fin) = false := decide_eq_false tf
                      have XE := Lib.hid (show Wn = Wk by rw [HRY.out, hok, tfu]; rfl)
                      have HOK := Lib.hid hok
                      clear hok HRY HINx
                      go_wp2_with (go_at_call 39; (with_reducible refine (HFI.out _ (grow_alloc G.out _)).mono ?_); rintro e' w3 ⟨rfl, hb⟩; have HB3 := Lib.hid (grow_trans (grow_alloc (grow_refl wr) _) hb); have KJ := (Known.new wr #[Value.string jn, .slice rs wn.length cs, .int .i64 lg, .int .i64 wt] 95).below hb; have j2 := KJ.cell 2; have jl := KJ.lt; simp only [List.getElem?_toArray, List.getElem?_cons_zero, List.getElem?_cons_succ] at j2; have R3 := Lib.hid (R.out.below HB3.out); obtain ⟨c0, c1, c2, c3⟩ := R3.out.cell y HXN; have f0 := R3.out.frozen (y * 4); have f1 := R3.out.frozen (y * 4 + 1); have f2 := R3.out.frozen (y * 4 + 2); have f3 := R3.out.frozen (y * 4 + 3); have hl3 := R3.out.lt; rw [HOK.out] at c0; clear hb KJ)
                      go_quiet (fail)
                      go_wp2
                      go_roundw
                      case rel => exact ⟨k + 1, by omega, by go_num, by rw [HWn.out, XE.out]; exact R3.out.below (grow_drewN (grow_refl _) _), (HB3.out.cell (p := ⟨_, 1, none⟩) hTl).trans ht1, grow_drewN (grow_trans G.out HB3.out) _⟩
                      case measure => simp [intOf]; omega
            · obtain rfl : k = l.length := by omega
              have XE := Lib.hid (show Night.ways l (s + 1) = inner l e s (Night.ways l s) l.length from XS.out)
              go_wp2
              go_roundw
              case rel => exact ⟨s + 1, by omega, by rw [XB1.out], by rw [XB1.out], by go_num, by rw [XE.out]; exact R.out, G.out⟩
              case measure => simp [intOf]; omega
    · obtain rfl : s = N := by omega
      go_wp2
      obtain ⟨hb1, hb2, hb3, hb4⟩ := best_spec l s
      have hX64 : (best l s).1 < 64 := by omega
      have hbm : (best l s).2 = mostF l (l.length + 1) 0 t0 := by
        have := best_most HF.out.good (m := l.length + 1) (by omega)
        rw [HNN.out] at this
        exact this
      obtain ⟨full, hch, hpl⟩ := plan_of_way HF.out.good ((best l s).1 + 1) (best l s).1 (Nat.lt_succ_self _) hb1
      have HPOST := Lib.hid (show IsPlan l (best l s).1 (way l (best l s).1).fin full.reverse ∧ (best l s).2 = worthOf l (best l s).1 ∧ worthOf l (best l s).1 = mostF l (l.length + 1) 0 t0 from ⟨hpl, hb2, by rw [← hb2]; exact hbm⟩)
      have hlen : full.length ≤ 6 := by have := plan_len hpl; rw [List.length_reverse] at this; omega
      have hlast : ∀ X, X ≤ s → Night.ways l s X = way l X := fun X hX => ways_le l X s hX
      have HLA := Lib.hid hlast
      have HCH := Lib.hid hch
      have hXs : (best l s).1 < s := by omega
      clear hb1 hb2 hb3 hb4 hbm hpl hch hlast
      obtain ⟨i0, hi, hz0, hz1', hz2⟩ := info_parts info_slot
      have HI := Lib.hid hi
      have HZ0 := Lib.hid hz0
      have HZ1 := Lib.hid hz1'
      have HZ2 := Lib.hid hz2
      clear hi hz0 hz1' hz2
      go_loopw [17, 18] (fun v17 v18 wr' => ∃ (X : Nat) (done rest : List (Nat × Int)), v18 = .int .i64 X ∧ X < 64 ∧ X < s ∧ Hid (Chain l X rest) ∧ done ++ rest = full ∧ wr'.ownsRow wr.heap.size 37 2 v17 done.length (slL l done) ∧ Below wr.heap.size wr wr') (fun _ i _ => (intOf i).toNat)
      case atStart => exact ⟨_, [], full, rfl, hX64, hXs, HCH, rfl, World.ownsRow_nil _ _ _ _, Below.refl _ _⟩
      case round =>
        obtain ⟨X, done, rest, rfl, hX, hXs', HC, hdone, hown, hb⟩ := hrel
        have O := Lib.hid hown
        have B3 := Lib.hid hb
        clear hown hb
        by_cases h0 : X = 0
        · subst h0
          obtain rfl := chain_zero HC.out
          rw [List.append_nil] at hdone
          subst hdone
          rcases row_of_owns O.out with ⟨hv, hd⟩ | ⟨g, c, hv, hbg, hrow⟩
          · subst hv
            subst hd
            go_wp2_with (go_at_call 40; (with_reducible refine (reverse_nil _).mono ?_); rintro e w5 ⟨rfl, hb⟩; have HB5 := Lib.hid hb; clear hb)
            go_ret3
            exact ⟨none, 0, (best l s).1, _, [], by rw [← HPOST.out.2.1]; rfl, .inl rfl, HPOST.out.1, HPOST.out.2.2, grow_trans (grow_trans G.out B3.out) HB5.out⟩
          · subst hv
            have HRV := Lib.hid (reverse_walk g done.length c (slF l done) wr (by omega) hrow)
            clear hrow
            go_wp2_with (go_at_call 40; (with_reducible refine HRV.out.mono ?_); rintro e w5 ⟨rfl, hr5, hb5⟩; have HR5 := Lib.hid hr5; have HB5 := Lib.hid hb5; clear hr5 hb5)
            go_ret3
            refine ⟨some ⟨g, 0, none⟩, c, (best l s).1, _, done.reverse, by rw [← HPOST.out.2.1, List.length_reverse]; rfl, .inr ⟨g, 0, rfl, fun k hk => ?_⟩, HPOST.out.1, HPOST.out.2.2, HB5.out.below (grow_trans G.out B3.out) (Nat.le_trans G.out.size hbg)⟩
            have hk2 : k < done.length := by simpa using hk
            obtain ⟨q0, q1⟩ := HR5.out.cell k hk2
            rw [slF_rev l done k hk2] at q0 q1
            rw [Nat.zero_add]
            exact ⟨q0, q1⟩
        · obtain ⟨rest', rfl, HC2, hwok⟩ := chain_pos HC.out h0
          obtain ⟨hkl, htb⟩ := way_last hwok h0
          have H2 := Lib.hid HC2
          have hdl : done.length + 1 ≤ 6 := by have := congrArg List.length hdone; simp at this; omega
          have HDL := Lib.hid (del_lt X hX _ (by omega) htb)
          have HAN := andNot_bit X hX _ (by omega) htb
          obtain ⟨_, _, c2, c3⟩ := R.out.cell X hXs'
          rw [HLA.out X (by omega)] at c2 c3
          clear HC2 hwok HC
          obtain ⟨b1, o1, rfl, hc⟩ := HR.out.resolve_left (by intro h; rw [h] at hkl; exact absurd hkl (by simp))
          obtain ⟨rs, cs, d0, _⟩ := hc _ hkl
          have hb1 : b1 < w.heap.size := lt_of_cellS d0
          have C2 := Lib.hid c2
          have hgw := R.out.lt
          replace d0 := ((grow_trans G.out B3.out).cell (p := ⟨b1, _, none⟩) hb1).trans d0
          have hgw2 : w1.heap.size < wr.heap.size := Nat.lt_of_lt_of_le hgw B3.out.size
          have hbw2 : b1 < wr.heap.size := Nat.lt_of_lt_of_le hb1 (Nat.le_trans G.out.size B3.out.size)
          have hX0 : ¬ ((X : Int) = 0) := by omega
          have hXi : (0 : Int) ≤ (X : Int) := by omega
          have hXj : (X : Int) < (s : Int) := by omega
          have SL := Lib.hid (show slL l (done ++ [((way l X).last, (way l X).frm)]) = slL l done ++ [.string (at_ l (way l X).last).name, .int .i64 (way l X).frm] by rw [slL_append]; rfl)
          generalize (way l X).last = k at *
          generalize (way l X).frm = f at *
          have HK := Lib.hid hkl
          generalize hnm : (at_ l k).name = nm at d0 SL
          have hk0 : (0 : Int) ≤ (k : Int) := by omega
          have hk1 : (k : Int) < (l.length : Int) := by omega
          clear hnm htb
          go_wp2
          refine Grow.wp_region_calls B3.out [0, 1, 2, 3, 4, 5, 10, 11, 12, 13] [6, 14] [7, 8, 9, 15, 16, 17, 18] (by kernel_rfl) (by kernel_rfl) (by kernel_rfl) (by kernel_rfl) (by kernel_rfl) (by kernel_rfl) ?_ ?_
          · intro c aa d v ww h
            simp (config := {zetaDelta := true}) only [Exit.then, Exit.inBlock] at h ⊢
            exact Grow.bodyPost_blind h
          simp only [Grow.pick, List.getElem?_cons_zero, List.getElem?_cons_succ, List.cons_append, List.nil_append]
          repeat (go_big_quiet_step (fail))
          refine wpQuiet_nil ?_
          repeat (go_big_quiet_step (fail))
          refine wpQuiet_nil ?_
          have OX := Lib.hid (ownsRow_belowS O.out (grow_drew (grow_refl wr)))
          have BX := Lib.hid (Below.drew B3.out)
          have d0' : wr.drew.cell? ⟨b1, o1 + k * 4, none⟩ = some (.string nm) := d0
          clear O B3 c2 c3 d0
          have hzz := BX.out.size
          generalize wr.drew = w4 at OX BX d0' hzz ⊢
          unfold seqC
          go_wp2
          refine ⟨BX.out, ?_⟩
          unfold seqC
          go_wp2
          refine ⟨BX.out, ?_⟩
          unfold seqC
          go_wp2
          refine ⟨BX.out, ?_⟩
          unfold seqC
          go_wp2
          refine ⟨BX.out, ?_⟩
          unfold seqC
          go_wp2
          refine ⟨BX.out.alloc hzz _, ?_⟩
          unfold seqC
          have CC3 := Lib.hid (show done.length + 1 ≤ maxLen by unfold maxLen; omega)
          have CC4 := Lib.hid (show (done.length + 1) * 24 ≤ 140737488355328 by omega)
          go_wp2_with (at_builtin; refine wpList_append_own _ rfl _ _ 25 rfl _ 37 i0 (.agg #[.string .empty, .int .i64 0]) 2 24 Tryd.underlying25 HI.out HZ0.out HZ1.out HZ2.out rfl (by decide) _ _ _ rfl (OX.out.alloc _) ⟨w4.heap.size, 0, none⟩ 1 1 [.string nm, .int .i64 f] rfl rfl (news_sp _ _ _) (sl_cell nm f) CC3.out CC4.out (by simp; omega) ?_)
          intro v' w6 hown' hg' _
          have HO2 := Lib.hid hown'
          have HG2 := Lib.hid hg'
          have G6 := Lib.hid (below_grownS (BX.out.alloc hzz _) (by simp; omega) HG2.out (fun k hk => (OX.out.lt k hk).1))
          have c2' := (G6.out.cell (p := ⟨w1.heap.size, _, none⟩) hgw).trans C2.out
          have hgw6 := Nat.lt_of_lt_of_le hgw G6.out.size
          clear hown' hg'
          go_wp2
          refine ⟨G6.out, ?_⟩
          unfold seqC
          go_wp2
          refine ⟨G6.out, ?_⟩
          unfold seqC
          go_wp2
          go_roundw
          case rel =>
            refine ⟨del X k, done ++ [(k, f)], rest', rfl, Nat.lt_trans HDL.out hX, Nat.lt_trans HDL.out hXs', H2, by rw [List.append_assoc]; exact hdone, ?_, G6.out⟩
            rw [List.length_append, SL.out]
            exact HO2.out
          case measure => simp [intOf]; exact HDL.out
end Go.Proofs.YtjjjbkehmnfgbaaDoor
