/- The program's tracks: the height at an instant. -/
import Derived.Test.YtlfpfeidaohjmaaDoorEb9
set_option linter.unusedSimpArgs false
set_option linter.unusedVariables false
namespace Go.Proofs.YtlfpfeidaohjmaaDoor
open Go.RowKit Go.Grow Go.Fl Go.Bg

def APost (a : Nat → Addr) (A : Int × Nat) (w : World) (e : Ending) (w' : World) : Prop := e = .returned (.tuple #[.int .i64 A.1, errV a A.2]) ∧ Below w.heap.size w w'
set_option maxRecDepth 100000 in
set_option maxHeartbeats 8000000 in
theorem at_bad (a : Nat → Addr) (F S : Int) (r : Option Addr) (L : List Int) (c : Nat) (x : Int) (w : World) (hs : Sen a [2, 3, 5] w) (hl : L.length ≤ 9223372036854775807) (hr : InAt w r L) (k : Nat) (hk : trE F S L = k) (h0 : k ≠ 0) :
    Calls Tryd.prog 63 #[trk F S r L.length c, .int .i64 x] w (APost a (0, k) w) := by
  have VW := Lib.hid (fun X (hX : Below w.heap.size w X) => valid_walk a F S r L c X (hs.below hX) hl (hr.below hX))
  rw [hk] at VW
  have hu := errV_pos a h0
  unfold VPost at VW
  unfold APost
  simp only
  rw [hu] at VW ⊢
  unfold trk at VW ⊢
  have g : Hid (Below w.heap.size w w) := Lib.hid (grow_refl w)
  clear hs hr hu h0 hk
  go_enter Tryd.func63, Tryd.ntmps63
  go_wp2_with (go_at_call 65; (with_reducible refine (VW.out _ (grow_alloc g.out _)).mono ?_); rintro e w1 ⟨rfl, hb⟩; have G := Lib.hid (grow_trans (grow_alloc g.out _) hb); clear hb)
  go_ret2
  exact ⟨rfl, G.out⟩
/-- A right track's Valid, and its last instant. -/
theorem valid_ok (a : Nat → Addr) (F S : Int) (r : Option Addr) (L : List Int) (c : Nat) (w : World) (hs : Sen a [2, 3, 5] w) (hl : L.length ≤ 9223372036854775807) (hr : InAt w r L) (h0 : trE F S L = 0) :
    Calls Tryd.prog 65 #[.agg #[.int .i64 F, .int .i64 S, .slice r L.length c]] w fun e w' => e = .returned .nilIface ∧ Below w.heap.size w w' := by
  have h := valid_walk a F S r L c w hs hl hr
  rw [h0] at h
  exact h
theorem fit_prod {F S : Int} {L : List Int} (h : Fit F S L) : 0 ≤ ((L.length : Int) - 1) * S ∧ ((L.length : Int) - 1) * S ≤ 600000000000000000 ∧ S ≤ 600000000000000000 := by
  obtain ⟨two, most, f1, f2, s1, l1, _⟩ := h
  unfold lastT at l1
  have p0 : 0 ≤ ((L.length : Int) - 1) * S := Int.mul_nonneg (by omega) (by omega)
  have h := (step_le s1 (show 1 ≤ L.length - 1 by omega)).1
  rw [show (((L.length - 1 : Nat)) : Int) = (L.length : Int) - 1 by omega] at h
  have e : ((1 : Nat) : Int) * S = S := by simp
  rw [e] at h
  exact ⟨p0, by omega, by omega⟩
set_option maxRecDepth 100000 in
set_option maxHeartbeats 8000000 in
theorem at_out (a : Nat → Addr) (F S : Int) (r : Option Addr) (L : List Int) (c : Nat) (x : Int) (w : World) (hs : Sen a [2, 3, 5] w) (hl : L.length ≤ 9223372036854775807) (hr : InAt w r L) (h0 : trE F S L = 0) (hx : x < F ∨ lastT F S L.length < x) :
    Calls Tryd.prog 63 #[trk F S r L.length c, .int .i64 x] w (APost a (0, 3) w) := by
  have FT := fit_of h0
  obtain ⟨p0, p1, p2⟩ := fit_prod FT
  obtain ⟨two, most, f1, f2, s1, l1, hh⟩ := FT
  have VW := Lib.hid (fun X (hX : Below w.heap.size w X) => valid_ok a F S r L c X (hs.below hX) hl (hr.below hX) h0)
  have LW := Lib.hid (fun w1 => last_walk F S r L.length c w1 (by omega) (by omega) f1 f2 p0 p1)
  generalize lastT F S L.length = l at LW hx l1
  unfold trk at LW
  have c3 := (hs 3 (by decide)).1
  simp only [gOf] at c3
  have hlt3 := lt_of_cellS c3
  have hne3 : ¬ (w.heap.size = 5) := by simp only at hlt3; omega
  have hu := errV_pos a (show 3 ≠ 0 by decide)
  unfold APost trk
  simp only
  rw [hu]
  have C3 := Lib.hid c3
  have g : Hid (Below w.heap.size w w) := Lib.hid (grow_refl w)
  clear hs hr hu h0 c3 hh
  by_cases hx1 : x < F
  · have d1 : decide (x < F) = true := decide_eq_true hx1
    go_enter Tryd.func63, Tryd.ntmps63
    go_wp2_with (go_at_call 65; (with_reducible refine (VW.out _ (grow_alloc g.out _)).mono ?_); rintro e w1 ⟨rfl, hb⟩; have G := Lib.hid (grow_trans (grow_alloc g.out _) hb); have K9 := Lib.hid ((Known.new w #[.int .i64 F, .int .i64 S, .slice r L.length c] 111).below hb); have k0 := K9.out.cell 0; have d3 := (G.out.cell (p := ⟨5, 0, none⟩) hlt3).trans C3.out; have dl3 := lt_of_cellS d3; clear hb)
    go_quiet (fail)
    go_wp2
    go_ret2
    exact ⟨rfl, grow_drewN G.out _⟩
  · have hx2 : l < x := hx.resolve_left hx1
    have d1 : decide (x < F) = false := decide_eq_false hx1
    have d2 : decide (l < x) = true := decide_eq_true hx2
    go_enter Tryd.func63, Tryd.ntmps63
    go_wp2_with (first
      | (go_at_call 65; (with_reducible refine (VW.out _ (grow_alloc g.out _)).mono ?_); rintro e w1 ⟨rfl, hb⟩; have G := Lib.hid (grow_trans (grow_alloc g.out _) hb); have K9 := Lib.hid ((Known.new w #[.int .i64 F, .int .i64 S, .slice r L.length c] 111).below hb); have k0 := K9.out.cell 0; have k1 := K9.out.cell 1; have k2 := K9.out.cell 2; clear hb)
      | (go_at_call 107; (with_reducible refine (LW.out _).mono ?_); rintro e w2 ⟨rfl, hb⟩; replace G := Lib.hid (grow_trans G.out hb); have d3 := (G.out.cell (p := ⟨5, 0, none⟩) hlt3).trans C3.out; have dl3 := lt_of_cellS d3; clear hb))
    go_quiet (fail)
    go_wp2
    go_ret2
    exact ⟨rfl, grow_drewN G.out _⟩
end Go.Proofs.YtlfpfeidaohjmaaDoor
/- The program's tracks: the height at an instant that is its own. -/
set_option linter.unusedSimpArgs false
set_option linter.unusedVariables false
namespace Go.Proofs.YtlfpfeidaohjmaaDoor
open Go.RowKit Go.Grow Go.Fl Go.Bg Go.Rel

theorem rel_max {P : Program} {ops : Array Oper} {R : FuncId → Array Value → Value → Prop} {Q : Act → List (Nat × Obj) → Prop} {rest : List Oper} {o : Oper} {a : Act} {G : List (Nat × Obj)} {w : World}
    {x y : Operand} {t u : TypeId} {m n : Int} (hw : Region.wanted o (yielded ops a.tmps) = true) (hop : o.op = .call { callee := .builtin .max, args := #[x, y], argTypes := #[t, u] }) (hx : a.eval x = .int .i64 m) (hy : a.eval y = .int .i64 n)
    (h : wpRel P ops w R Q rest (a.put o.dst (.int .i64 (max m n))) G) : wpRel P ops w R Q (o :: rest) a G :=
  rel_value hw (by rw [hop]; rfl) (fun w1 => by
    unfold execOp
    rw [hop]
    simp [resolve, invoke, builtin, Builtin.max_, Builtin.max2, hx, hy]
    split <;> omega) h
def SpecA (t : Int) (q : Int) (b : Bool) : FuncId → Array Value → Value → Prop
  | 109, _, v => v = .int .i64 t
  | 108, _, v => v = .tuple #[.int .i64 q, .bool b]
  | _, _, _ => False
set_option maxRecDepth 100000 in
set_option maxHeartbeats 16000000 in
theorem at_last (a : Nat → Addr) (F S : Int) (r : Option Addr) (L : List Int) (c : Nat) (x : Int) (w : World) (hs : Sen a [2, 3, 5] w) (hl : L.length ≤ 9223372036854775807) (hr : InAt w r L) (h0 : trE F S L = 0) (hx1 : F ≤ x) (hx2 : x ≤ lastT F S L.length) (he : ((x - F) / S).toNat + 1 = L.length) :
    Calls Tryd.prog 63 #[trk F S r L.length c, .int .i64 x] w (APost a (hgt F S L x, 0) w) := by
  have FT := fit_of h0
  obtain ⟨p0, p1, p2⟩ := fit_prod FT
  obtain ⟨two, most, f1, f2, s1, l1, hh⟩ := FT
  obtain ⟨i, hi, hin, hd0, hd1, hd2⟩ := seg (n := L.length) s1 hx1 hx2 (by omega)
  have VW := Lib.hid (fun X (hX : Below w.heap.size w X) => valid_ok a F S r L c X (hs.below hX) hl (hr.below hX) h0)
  have LW := Lib.hid (fun w1 => last_walk F S r L.length c w1 (by omega) (by omega) f1 f2 p0 p1)
  obtain ⟨A, hA⟩ : ∃ A, hgt F S L x = A := ⟨_, rfl⟩
  rw [hA]
  unfold hgt at hA
  rw [hi, Int.toNat_natCast] at hA
  generalize lastT F S L.length = l at LW hx2 l1
  unfold trk at LW
  unfold APost trk
  simp only
  rw [errV_zero]
  have hq : (x - F).tdiv S = (i : Int) := by rw [Int.tdiv_eq_ediv_of_nonneg (by omega), hi]
  have hs0 : ¬ (S = 0) := by omega
  obtain ⟨b1, o1, rfl, hc⟩ := hr.resolve_left (by intro h; rw [h] at two; exact absurd two (by simp))
  have c0 := hc i hin
  have hb1 : b1 < w.heap.size := lt_of_cellS c0
  have hi0 : (0 : Int) ≤ (i : Int) := by omega
  have hi1 : (i : Int) < (L.length : Int) := by omega
  have m0 := hh _ (List.getElem_mem hin)
  have d1 : decide (x < F) = false := decide_eq_false (by omega)
  have d2 : decide (l < x) = false := decide_eq_false (by omega)
  have g : Hid (Below w.heap.size w w) := Lib.hid (grow_refl w)
  rw [hi, Int.toNat_natCast] at he
  rw [if_pos he, show L.getD i 0 = L[i] by simp [hin]] at hA
  have hn1 : ((i : Int) == (L.length : Int) - 1) = true := by simp; omega
  clear hc hh
  generalize L[i] = u at c0 m0 hA
  subst hA
  have E0 := Lib.hid c0
  clear c0 hi hs hr h0 he hd0 hd1 hd2
  go_enter Tryd.func63, Tryd.ntmps63
  go_wp2_with (first
    | (go_at_call 65; (with_reducible refine (VW.out _ (grow_alloc g.out _)).mono ?_); rintro e w1 ⟨rfl, hb⟩; have G := Lib.hid (grow_trans (grow_alloc g.out _) hb); have K9 := Lib.hid ((Known.new w #[.int .i64 F, .int .i64 S, .slice (some ⟨b1, o1, none⟩) L.length c] 111).below hb); have k0 := K9.out.cell 0; have k1 := K9.out.cell 1; have k2 := K9.out.cell 2; clear hb)
    | (go_at_call 107; (with_reducible refine (LW.out _).mono ?_); rintro e w2 ⟨rfl, hb⟩; replace G := Lib.hid (grow_trans G.out hb); replace K9 := Lib.hid (K9.out.below hb); clear k0 k1 k2; have k0 := K9.out.cell 0; have k1 := K9.out.cell 1; have k2 := K9.out.cell 2; have kl := K9.out.lt; have hb1w := Nat.lt_of_lt_of_le hb1 G.out.size; have g0 := (G.out.cell (p := ⟨b1, _, none⟩) hb1).trans E0.out; clear hb))
  go_ret2
  exact ⟨rfl, G.out⟩
set_option maxRecDepth 100000 in
set_option maxHeartbeats 16000000 in
theorem at_up (a : Nat → Addr) (F S : Int) (r : Option Addr) (L : List Int) (c : Nat) (x : Int) (w : World) (hs : Sen a [2, 3, 5] w) (hl : L.length ≤ 9223372036854775807) (hr : InAt w r L) (h0 : trE F S L = 0) (hx1 : F ≤ x) (hx2 : x ≤ lastT F S L.length) (he : ((x - F) / S).toNat + 1 ≠ L.length) :
    Calls Tryd.prog 63 #[trk F S r L.length c, .int .i64 x] w (APost a (hgt F S L x, 0) w) := by
  have FT := fit_of h0
  obtain ⟨p0, p1, p2⟩ := fit_prod FT
  obtain ⟨two, most, f1, f2, s1, l1, hh⟩ := FT
  obtain ⟨i, hi, hin, hd0, hd1, hd2⟩ := seg (n := L.length) s1 hx1 hx2 (by omega)
  have VW := Lib.hid (fun X (hX : Below w.heap.size w X) => valid_ok a F S r L c X (hs.below hX) hl (hr.below hX) h0)
  have LW := Lib.hid (fun w1 => last_walk F S r L.length c w1 (by omega) (by omega) f1 f2 p0 p1)
  obtain ⟨A, hA⟩ : ∃ A, hgt F S L x = A := ⟨_, rfl⟩
  rw [hA]
  unfold hgt at hA
  rw [hi, Int.toNat_natCast] at hA
  generalize lastT F S L.length = l at LW hx2 l1
  unfold trk at LW
  unfold APost trk
  simp only
  rw [errV_zero]
  have hq : (x - F).tdiv S = (i : Int) := by rw [Int.tdiv_eq_ediv_of_nonneg (by omega), hi]
  have hs0 : ¬ (S = 0) := by omega
  obtain ⟨b1, o1, rfl, hc⟩ := hr.resolve_left (by intro h; rw [h] at two; exact absurd two (by simp))
  have c0 := hc i hin
  have hb1 : b1 < w.heap.size := lt_of_cellS c0
  have hi0 : (0 : Int) ≤ (i : Int) := by omega
  have hi1 : (i : Int) < (L.length : Int) := by omega
  have m0 := hh _ (List.getElem_mem hin)
  have d1 : decide (x < F) = false := decide_eq_false (by omega)
  have d2 : decide (l < x) = false := decide_eq_false (by omega)
  have g : Hid (Below w.heap.size w w) := Lib.hid (grow_refl w)
  rw [hi, Int.toNat_natCast] at he
  have hin2 : i + 1 < L.length := by omega
  rw [if_neg he, show L.getD i 0 = L[i] by simp [hin], show L.getD (i + 1) 0 = L[i + 1] by simp [hin2]] at hA
  have hn1 : ((i : Int) == (L.length : Int) - 1) = false := by simp; omega
  have hin3 : (i : Int) + 1 < (L.length : Int) := by omega
  have c1 := hc (i + 1) hin2
  have m1 := hh _ (List.getElem_mem hin2)
  clear hc hh
  generalize L[i] = u at c0 m0 hA
  generalize L[i + 1] = v at c1 m1 hA
  have E0 := Lib.hid c0
  have E1 := Lib.hid c1
  obtain ⟨d, hd⟩ : ∃ d, v - u = d := ⟨_, rfl⟩
  obtain ⟨p, hp⟩ : ∃ p, (i : Int) * S = p := ⟨_, rfl⟩
  have hp0 : 0 ≤ p := by rw [← hp]; exact Int.mul_nonneg hi0 (by omega)
  have hp1 : p ≤ 600000000000000000 := by rw [hp] at hd0; omega
  have WW := Lib.hid (fun w1 => when_walk F S (some ⟨b1, o1, none⟩) L.length c i w1 f1 f2 (by rw [hp]; exact hp0) (by rw [hp]; exact hp1))
  unfold trk at WW
  rw [hp] at WW hd0 hd1 hA
  rw [hd] at hA
  obtain ⟨dx, hdx⟩ : ∃ dx : Nat, x - F - p = (dx : Int) := ⟨(x - F - p).toNat, by omega⟩
  obtain ⟨sn, rfl⟩ : ∃ sn : Nat, S = (sn : Int) := ⟨S.toNat, by omega⟩
  rw [hdx] at hA hd0 hd1
  have hxa : x - (F + p) = (dx : Int) := by omega
  obtain ⟨dn, hdn⟩ : ∃ dn, d.natAbs = dn := ⟨_, rfl⟩
  have hdm : max d (-d) = (dn : Int) := by omega
  have hdb : dn ≤ 2199023255552 := by omega
  have hQb : dn * dx / sn ≤ 2199023255552 := by
    refine Nat.div_le_of_le_mul ?_
    rw [Nat.mul_comm sn]
    exact Nat.mul_le_mul hdb (by omega)
  have OV := Lib.hid (fun w1 => over_walk dn dx sn w1 (by omega) (by omega) (by omega) (by omega) (by omega))
  have FS := Lib.hid (show d * (dx : Int) / (sn : Int) = if d < 0 then (if dn * dx % sn = 0 then -((dn * dx / sn : Nat) : Int) else -((dn * dx / sn : Nat) : Int) - 1) else ((dn * dx / sn : Nat) : Int) by
    split
    · rw [show d = -(dn : Int) by omega, Int.neg_mul, ← Int.natCast_mul]
      exact floor_neg (by omega)
    · rw [show d = (dn : Int) by omega, ← Int.natCast_mul]
      exact floor_pos _ _)
  generalize d * (dx : Int) / (sn : Int) = f at FS hA
  generalize hqn : dn * dx / sn = qn at OV FS hQb
  generalize hmn : dn * dx % sn = mn at OV FS
  subst hA
  have hdu : v - u = d := hd
  clear hqn hmn c0 c1 hi hs hr h0 he hd0 hd2
  by_cases hd9 : 0 ≤ d
  · have e1 : u + f = u + (qn : Int) := by rw [FS.out, if_neg (by omega)]
    rw [e1]
    clear e1
    have d3 : decide (0 ≤ d) = true := decide_eq_true hd9
    go_enter Tryd.func63, Tryd.ntmps63
    go_wp2_with (first
      | (go_at_call 65; (with_reducible refine (VW.out _ (grow_alloc g.out _)).mono ?_); rintro e w1 ⟨rfl, hb⟩; have G := Lib.hid (grow_trans (grow_alloc g.out _) hb); have K9 := Lib.hid ((Known.new w #[.int .i64 F, .int .i64 sn, .slice (some ⟨b1, o1, none⟩) L.length c] 111).below hb); have k0 := K9.out.cell 0; have k1 := K9.out.cell 1; have k2 := K9.out.cell 2; clear hb)
      | (go_at_call 107; (with_reducible refine (LW.out _).mono ?_); rintro e w2 ⟨rfl, hb⟩; replace G := Lib.hid (grow_trans G.out hb); replace K9 := Lib.hid (K9.out.below hb); clear k0 k1 k2; have k0 := K9.out.cell 0; have k1 := K9.out.cell 1; have k2 := K9.out.cell 2; have kl := K9.out.lt; have hb1w := Nat.lt_of_lt_of_le hb1 G.out.size; have g0 := (G.out.cell (p := ⟨b1, _, none⟩) hb1).trans E0.out; have g1 := (G.out.cell (p := ⟨b1, _, none⟩) hb1).trans E1.out; clear hb))
    go_quiet (fail)
    go_wp2
    generalize hwx : w2.drewN _ = wx
    have G9 := Lib.hid (show Below w.heap.size w wx by rw [← hwx]; exact grow_drewN G.out _)
    have K8 := Lib.hid (show Known wx w.heap.size #[.int .i64 F, .int .i64 sn, .slice (some ⟨b1, o1, none⟩) L.length c] by rw [← hwx]; exact K9.out.below (grow_drewN (grow_refl _) _))
    clear hwx G K9 k0 k1 k2 g0 g1 kl hb1w
    have k0 := K8.out.cell 0
    have k1 := K8.out.cell 1
    have k2 := K8.out.cell 2
    have kl := K8.out.lt
    have hb1w := Nat.lt_of_lt_of_le hb1 G9.out.size
    refine Rel.wp_region_rel (SpecA (F + p) qn (decide (0 < mn))) (by rfl) (Grow.lexB_of_fast (by kernel_rfl) (by kernel_rfl)) ?_
    repeat (first
      | (refine rel_call (f := 109) (args := #[.agg #[.int .i64 _, .int .i64 _, .slice _ _ _], .int .i64 _]) (by rfl) rfl (callAt_func rfl Tryd.func109 (by kernel_rfl) (by kernel_rfl) rfl) (fun w1 _ => (WW.out w1).mono fun e w' ⟨he, hb⟩ => ⟨_, he, rfl, hb⟩) ?_; rintro _ rfl; simp only [Act.put, List.setIfInBounds_toArray, List.set_cons_zero, List.set_cons_succ])
      | (refine rel_call (f := 108) (args := #[.int .i64 _, .int .i64 _, .int .i64 _]) (by rfl) rfl (callAt_func rfl Tryd.func108 (by kernel_rfl) (by kernel_rfl) rfl) (fun w1 _ => (OV.out w1).mono fun e w' ⟨he, hb⟩ => ⟨_, he, rfl, hb⟩) ?_; rintro _ rfl; simp only [Act.put, List.setIfInBounds_toArray, List.set_cons_zero, List.set_cons_succ])
      | (refine rel_max (by rfl) rfl rfl rfl ?_; simp only [hdm, Act.put, List.setIfInBounds_toArray, List.set_cons_zero, List.set_cons_succ])
      | (refine rel_plain (by rfl) rfl ?_; intro K hK; go_big_quiet_op; go_big_quiet_on)
      | (refine rel_skip (by rfl) ?_; simp only [Act.put, List.setIfInBounds_toArray, List.set_cons_zero, List.set_cons_succ]))
    refine Rel.wpRel_nil ?_
    intro w9 hB9 hG9
    clear hG9
    have GF := Lib.hid (grow_trans G9.out hB9)
    have K7 := Lib.hid (K8.out.below hB9)
    clear k0 k1 k2
    have k0 := K7.out.cell 0
    have k1 := K7.out.cell 1
    have k2 := K7.out.cell 2
    have h0 := (GF.out.cell (p := ⟨b1, _, none⟩) hb1).trans E0.out
    go_wp2
    go_ret2
    exact ⟨rfl, GF.out⟩
  · by_cases hm9 : mn = 0
    · have e1 : u + f = u - (qn : Int) := by rw [FS.out, if_pos (by omega), if_pos hm9]; omega
      rw [e1]
      clear e1
      have d3 : decide (0 ≤ d) = false := decide_eq_false hd9
      rw [show decide (0 < mn) = false by simp; omega] at OV
      go_enter Tryd.func63, Tryd.ntmps63
      go_wp2_with (first
        | (go_at_call 65; (with_reducible refine (VW.out _ (grow_alloc g.out _)).mono ?_); rintro e w1 ⟨rfl, hb⟩; have G := Lib.hid (grow_trans (grow_alloc g.out _) hb); have K9 := Lib.hid ((Known.new w #[.int .i64 F, .int .i64 sn, .slice (some ⟨b1, o1, none⟩) L.length c] 111).below hb); have k0 := K9.out.cell 0; have k1 := K9.out.cell 1; have k2 := K9.out.cell 2; clear hb)
        | (go_at_call 107; (with_reducible refine (LW.out _).mono ?_); rintro e w2 ⟨rfl, hb⟩; replace G := Lib.hid (grow_trans G.out hb); replace K9 := Lib.hid (K9.out.below hb); clear k0 k1 k2; have k0 := K9.out.cell 0; have k1 := K9.out.cell 1; have k2 := K9.out.cell 2; have kl := K9.out.lt; have hb1w := Nat.lt_of_lt_of_le hb1 G.out.size; have g0 := (G.out.cell (p := ⟨b1, _, none⟩) hb1).trans E0.out; have g1 := (G.out.cell (p := ⟨b1, _, none⟩) hb1).trans E1.out; clear hb))
      go_quiet (fail)
      go_wp2
      generalize hwx : w2.drewN _ = wx
      have G9 := Lib.hid (show Below w.heap.size w wx by rw [← hwx]; exact grow_drewN G.out _)
      have K8 := Lib.hid (show Known wx w.heap.size #[.int .i64 F, .int .i64 sn, .slice (some ⟨b1, o1, none⟩) L.length c] by rw [← hwx]; exact K9.out.below (grow_drewN (grow_refl _) _))
      clear hwx G K9 k0 k1 k2 g0 g1 kl hb1w
      have k0 := K8.out.cell 0
      have k1 := K8.out.cell 1
      have k2 := K8.out.cell 2
      have kl := K8.out.lt
      have hb1w := Nat.lt_of_lt_of_le hb1 G9.out.size
      refine Rel.wp_region_rel (SpecA (F + p) qn false) (by rfl) (Grow.lexB_of_fast (by kernel_rfl) (by kernel_rfl)) ?_
      repeat (first
        | (refine rel_call (f := 109) (args := #[.agg #[.int .i64 _, .int .i64 _, .slice _ _ _], .int .i64 _]) (by rfl) rfl (callAt_func rfl Tryd.func109 (by kernel_rfl) (by kernel_rfl) rfl) (fun w1 _ => (WW.out w1).mono fun e w' ⟨he, hb⟩ => ⟨_, he, rfl, hb⟩) ?_; rintro _ rfl; simp only [Act.put, List.setIfInBounds_toArray, List.set_cons_zero, List.set_cons_succ])
        | (refine rel_call (f := 108) (args := #[.int .i64 _, .int .i64 _, .int .i64 _]) (by rfl) rfl (callAt_func rfl Tryd.func108 (by kernel_rfl) (by kernel_rfl) rfl) (fun w1 _ => (OV.out w1).mono fun e w' ⟨he, hb⟩ => ⟨_, he, rfl, hb⟩) ?_; rintro _ rfl; simp only [Act.put, List.setIfInBounds_toArray, List.set_cons_zero, List.set_cons_succ])
        | (refine rel_max (by rfl) rfl rfl rfl ?_; simp only [hdm, Act.put, List.setIfInBounds_toArray, List.set_cons_zero, List.set_cons_succ])
        | (refine rel_plain (by rfl) rfl ?_; intro K hK; go_big_quiet_op; go_big_quiet_on)
        | (refine rel_skip (by rfl) ?_; simp only [Act.put, List.setIfInBounds_toArray, List.set_cons_zero, List.set_cons_succ]))
      refine Rel.wpRel_nil ?_
      intro w9 hB9 hG9
      clear hG9
      have GF := Lib.hid (grow_trans G9.out hB9)
      have K7 := Lib.hid (K8.out.below hB9)
      clear k0 k1 k2
      have k0 := K7.out.cell 0
      have k1 := K7.out.cell 1
      have k2 := K7.out.cell 2
      have h0 := (GF.out.cell (p := ⟨b1, _, none⟩) hb1).trans E0.out
      go_wp2
      go_ret2
      exact ⟨rfl, GF.out⟩
    · have e1 : u + f = u - ((qn : Int) + 1) := by rw [FS.out, if_pos (by omega), if_neg hm9]; omega
      rw [e1]
      clear e1
      have d3 : decide (0 ≤ d) = false := decide_eq_false hd9
      rw [show decide (0 < mn) = true by simp; omega] at OV
      go_enter Tryd.func63, Tryd.ntmps63
      go_wp2_with (first
        | (go_at_call 65; (with_reducible refine (VW.out _ (grow_alloc g.out _)).mono ?_); rintro e w1 ⟨rfl, hb⟩; have G := Lib.hid (grow_trans (grow_alloc g.out _) hb); have K9 := Lib.hid ((Known.new w #[.int .i64 F, .int .i64 sn, .slice (some ⟨b1, o1, none⟩) L.length c] 111).below hb); have k0 := K9.out.cell 0; have k1 := K9.out.cell 1; have k2 := K9.out.cell 2; clear hb)
        | (go_at_call 107; (with_reducible refine (LW.out _).mono ?_); rintro e w2 ⟨rfl, hb⟩; replace G := Lib.hid (grow_trans G.out hb); replace K9 := Lib.hid (K9.out.below hb); clear k0 k1 k2; have k0 := K9.out.cell 0; have k1 := K9.out.cell 1; have k2 := K9.out.cell 2; have kl := K9.out.lt; have hb1w := Nat.lt_of_lt_of_le hb1 G.out.size; have g0 := (G.out.cell (p := ⟨b1, _, none⟩) hb1).trans E0.out; have g1 := (G.out.cell (p := ⟨b1, _, none⟩) hb1).trans E1.out; clear hb))
      go_quiet (fail)
      go_wp2
      generalize hwx : w2.drewN _ = wx
      have G9 := Lib.hid (show Below w.heap.size w wx by rw [← hwx]; exact grow_drewN G.out _)
      have K8 := Lib.hid (show Known wx w.heap.size #[.int .i64 F, .int .i64 sn, .slice (some ⟨b1, o1, none⟩) L.length c] by rw [← hwx]; exact K9.out.below (grow_drewN (grow_refl _) _))
      clear hwx G K9 k0 k1 k2 g0 g1 kl hb1w
      have k0 := K8.out.cell 0
      have k1 := K8.out.cell 1
      have k2 := K8.out.cell 2
      have kl := K8.out.lt
      have hb1w := Nat.lt_of_lt_of_le hb1 G9.out.size
      refine Rel.wp_region_rel (SpecA (F + p) qn true) (by rfl) (Grow.lexB_of_fast (by kernel_rfl) (by kernel_rfl)) ?_
      repeat (first
        | (refine rel_call (f := 109) (args := #[.agg #[.int .i64 _, .int .i64 _, .slice _ _ _], .int .i64 _]) (by rfl) rfl (callAt_func rfl Tryd.func109 (by kernel_rfl) (by kernel_rfl) rfl) (fun w1 _ => (WW.out w1).mono fun e w' ⟨he, hb⟩ => ⟨_, he, rfl, hb⟩) ?_; rintro _ rfl; simp only [Act.put, List.setIfInBounds_toArray, List.set_cons_zero, List.set_cons_succ])
        | (refine rel_call (f := 108) (args := #[.int .i64 _, .int .i64 _, .int .i64 _]) (by rfl) rfl (callAt_func rfl Tryd.func108 (by kernel_rfl) (by kernel_rfl) rfl) (fun w1 _ => (OV.out w1).mono fun e w' ⟨he, hb⟩ => ⟨_, he, rfl, hb⟩) ?_; rintro _ rfl; simp only [Act.put, List.setIfInBounds_toArray, List.set_cons_zero, List.set_cons_succ])
        | (refine rel_max (by rfl) rfl rfl rfl ?_; simp only [hdm, Act.put, List.setIfInBounds_toArray, List.set_cons_zero, List.set_cons_succ])
        | (refine rel_plain (by rfl) rfl ?_; intro K hK; go_big_quiet_op; go_big_quiet_on)
        | (refine rel_skip (by rfl) ?_; simp only [Act.put, List.setIfInBounds_toArray, List.set_cons_zero, List.set_cons_succ]))
      refine Rel.wpRel_nil ?_
      intro w9 hB9 hG9
      clear hG9
      have GF := Lib.hid (grow_trans G9.out hB9)
      have K7 := Lib.hid (K8.out.below hB9)
      clear k0 k1 k2
      have k0 := K7.out.cell 0
      have k1 := K7.out.cell 1
      have k2 := K7.out.cell 2
      have h0 := (GF.out.cell (p := ⟨b1, _, none⟩) hb1).trans E0.out
      go_wp2
      go_ret2
      exact ⟨rfl, GF.out⟩

/-- The height at any instant. -/
theorem at_walk (a : Nat → Addr) (F S : Int) (r : Option Addr) (L : List Int) (c : Nat) (x : Int) (w : World) (hs : Sen a [2, 3, 5] w) (hl : L.length ≤ 9223372036854775807) (hr : InAt w r L) :
    Calls Tryd.prog 63 #[trk F S r L.length c, .int .i64 x] w (APost a (hAt F S L x) w) := by
  unfold hAt
  by_cases h0 : trE F S L = 0
  · rw [if_neg (by simpa using h0)]
    by_cases hx : x < F ∨ lastT F S L.length < x
    · rw [if_pos hx]
      exact at_out a F S r L c x w hs hl hr h0 hx
    · rw [if_neg hx]
      by_cases he : ((x - F) / S).toNat + 1 = L.length
      · exact at_last a F S r L c x w hs hl hr h0 (by omega) (by omega) he
      · exact at_up a F S r L c x w hs hl hr h0 (by omega) (by omega) he
  · rw [if_pos h0]
    exact at_bad a F S r L c x w hs hl hr _ rfl h0
end Go.Proofs.YtlfpfeidaohjmaaDoor
/- A row of one event, sorted. -/
set_option linter.unusedSimpArgs false
set_option linter.unusedVariables false
namespace Go.Proofs.YtlfpfeidaohjmaaDoor
open Go.RowKit Go.Grow Go.Fl

theorem len_walk (x : Int) (h0 : 0 ≤ x) (h1 : x ≤ 18446744073709551615) (w : World) :
    Calls Tryd.prog 132 #[.int .u64 x] w fun e w' => e = .returned (.int .i64 (Lib.bitLen x.toNat)) ∧ w' = w :=
  Any.bits_Len YtlfpfeidaohjmaaDoor.laysLen x w h0 h1
set_option maxRecDepth 100000 in
set_option maxHeartbeats 8000000 in
theorem ins1_walk (r : Option Addr) (c : Nat) (fv : Value) (w : World) :
    Calls Tryd.prog 151 #[.slice r 1 c, .int .i64 0, .int .i64 1, fv] w fun e w' => e = .returned (.tuple #[]) ∧ w' = w := by
  go_enter Tryd.func151, Tryd.ntmps151
  go_wp2
  refine wp_loop_rounds 1 ?_
  rw [rounds_succ]
  go_wp2
  go_end0
  exact ⟨rfl, rfl⟩
set_option maxRecDepth 100000 in
set_option maxHeartbeats 8000000 in
theorem pdq1_walk (r : Option Addr) (c : Nat) (lim : Int) (fv : Value) (w : World) :
    Calls Tryd.prog 131 #[.slice r 1 c, .int .i64 0, .int .i64 1, .int .i64 lim, fv] w fun e w' => e = .returned (.tuple #[]) ∧ w' = w := by
  have I1 := Lib.hid (fun X => ins1_walk r c fv X)
  go_enter Tryd.func131, Tryd.ntmps131
  go_wp2
  refine wp_loop_rounds 1 ?_
  rw [rounds_succ]
  go_wp2_with (go_at_call 151; (with_reducible refine (I1.out _).mono ?_); rintro e w1 ⟨rfl, rfl⟩)
  (try simp only [Exit.inBlock, Exit.then]); refine bodyPost_ret (results_none rfl _ _ _) rfl ?_
  exact ⟨rfl, rfl⟩
set_option maxRecDepth 100000 in
set_option maxHeartbeats 8000000 in
theorem sort1_walk (r : Option Addr) (c : Nat) (fv : Value) (w : World) :
    Calls Tryd.prog 98 #[.slice r 1 c, fv] w fun e w' => e = .returned (.tuple #[]) ∧ w' = w := by
  have P1 := Lib.hid (fun l X => pdq1_walk r c l fv X)
  have LN := Lib.hid (fun X => len_walk 1 (by omega) (by omega) X)
  go_enter Tryd.func98, Tryd.ntmps98
  go_wp2_with (first
    | (go_at_call 132; (with_reducible refine (LN.out _).mono ?_); rintro e w1 ⟨rfl, rfl⟩)
    | (go_at_call 131; (with_reducible refine (P1.out _ _).mono ?_); rintro e w1 ⟨rfl, rfl⟩))
  go_end0
  exact ⟨rfl, rfl⟩
end Go.Proofs.YtlfpfeidaohjmaaDoor
