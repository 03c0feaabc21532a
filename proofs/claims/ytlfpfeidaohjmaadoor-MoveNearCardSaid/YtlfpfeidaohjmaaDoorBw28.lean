/- Near: when two bodies are nearest, walked. -/
import Derived.Test.YtlfpfeidaohjmaaDoorBw16
import Derived.Test.YtlfpfeidaohjmaaDoorNr
set_option linter.unusedSimpArgs false
set_option linter.unusedVariables false
namespace Go.Proofs.YtlfpfeidaohjmaaDoor
open Go.RowKit Go.Grow Go.Bo

theorem nrK_next (B : Nat → Bd) (t : Nat) {i k : Nat} (h : i < k) (z : Nr) : nrK B t i (k + 1 - (i + 1)) z = nrUp t i k (nrP B i k) (nrK B t i (k - (i + 1)) z) := by
  obtain ⟨j, rfl⟩ : ∃ j, k = i + 1 + j := ⟨k - (i + 1), by omega⟩
  rw [show i + 1 + j + 1 - (i + 1) = j + 1 by omega, show i + 1 + j - (i + 1) = j by omega]
  rfl
theorem sqw {d : C3} (h : d.le 2097152) : wrap64 (wrap64 (wrap64 (d.x * d.x) + wrap64 (d.y * d.y)) + wrap64 (d.z * d.z)) = sqZ d := by
  obtain ⟨⟨x1, x2⟩, ⟨y1, y2⟩, ⟨z1, z2⟩⟩ := h
  have hx := Bo.sq_bd x1 x2 (by decide)
  have hy := Bo.sq_bd y1 y2 (by decide)
  have hz := Bo.sq_bd z1 z2 (by decide)
  unfold sqZ
  simp only [wrap64]
  omega
theorem squareC_walk (d : C3) (w : World) (h : d.le 2097152) :
    Calls Tryd.prog 87 #[vec d] w fun e w' => e = .returned (.int .i64 (sqZ d)) ∧ Below w.heap.size w w' := by
  have := square_walk d.x d.y d.z w
  rw [sqw h] at this
  exact this
theorem squareOfC_walk (d : C3) (w : World) (h : d.le 2097152) :
    Calls Tryd.prog 40 #[vec d] w fun e w' => e = .returned (.int .i64 (sqZ d)) ∧ Below w.heap.size w w' := by
  have := squareOf_walk d.x d.y d.z w
  rw [sqw h] at this
  exact this
theorem okP_less {n : Nat} {E : Nat → Bd} (h : okP n E) {i k : Nat} (hi : i < n) (hk : k < n) : ((E k).p.less (E i).p).le 2097152 := (h k hk).less (h i hi)
theorem okP_fit {n : Nat} {E : Nat → Bd} (h : okP n E) {i k : Nat} (hi : i < n) (hk : k < n) : Fits (E k).p (-1) (E i).p := by
  obtain ⟨⟨p1, p2⟩, ⟨p3, p4⟩, ⟨p5, p6⟩⟩ := h i hi
  obtain ⟨⟨q1, q2⟩, ⟨q3, q4⟩, ⟨q5, q6⟩⟩ := h k hk
  unfold Fits C3.le C3.more
  simp only
  omega

def NearOut (a : Nat → Addr) (w : World) (x : Nat) (e : Ending) (w' : World) : Prop :=
  e = .returned (.tuple #[.int .i64 0, .int .i64 0, .int .i64 0, .int .i64 0, errV a x]) ∧ Below w.heap.size w w'
def NearIn (a : Nat → Addr) (w : World) (n K : Nat) (B : Nat → Bd) (e : Ending) (w' : World) : Prop :=
  Below w.heap.size w w' ∧ ((∃ E z, Bo.run n 1 K B = some E ∧ nrB n B (K + 1) = z ∧ e = .returned (.tuple #[.int .i64 z.t, .int .i64 z.i, .int .i64 z.k, .int .i64 z.f, .nilIface])) ∨
    (Bo.run n 1 K B = none ∧ e = .returned (.tuple #[.int .i64 0, .int .i64 0, .int .i64 0, .int .i64 0, errV a 6])))

theorem results_tmp5 {fn : Func} {t u v x y : Tmp} (h : fn.results = #[.tmp t, .tmp u, .tmp v, .tmp x, .tmp y]) (tmps : Array Value) (P : Program) (w : World) :
    (results fn tmps).run P w = .ok (.tuple #[tmps.getD t undef, tmps.getD u undef, tmps.getD v undef, tmps.getD x undef, tmps.getD y undef]) w := by
  simp [results, h]
set_option maxRecDepth 100000 in
set_option maxHeartbeats 16000000 in
theorem near_bad (a : Nat → Addr) (r : Option Addr) (n cap : Nat) (k : Int) (B : Nat → Bd) (w : World) (hn : n ≤ 9223372036854775807) (hr : BodsAt w r n B) (hs : Sen a [2, 5, 6] w) (h0 : validE n B ≠ 0) :
    Calls Tryd.prog 39 #[.slice r n cap, .int .i64 k] w (NearOut a w (validE n B)) := by
  have V := Lib.hid (valid_walk a r n cap B w hn hr hs)
  have HE := Lib.hid (errV_pos a h0)
  rw [HE.out] at V
  clear hr hs h0
  go_enter Tryd.func39, Tryd.ntmps39
  go_wp2_with (go_at_call 34; (with_reducible refine V.out.mono ?_); rintro e w1 ⟨rfl, hb⟩; have HB := Lib.hid hb; clear hb)
  (try simp only [Exit.inBlock, Exit.then])
  refine bodyPost_ret (results_tmp5 rfl _ _ _) rfl ?_
  exact ⟨by rw [HE.out]; rfl, HB.out⟩
set_option maxRecDepth 100000 in
set_option maxHeartbeats 16000000 in
theorem near_far (a : Nat → Addr) (r : Option Addr) (n cap : Nat) (k : Int) (B : Nat → Bd) (w : World) (hn : n ≤ 9223372036854775807) (hr : BodsAt w r n B) (hs : Sen a [2, 5, 6] w) (h0 : validE n B = 0) (hk : k < 0 ∨ 2000 < k) :
    Calls Tryd.prog 39 #[.slice r n cap, .int .i64 k] w (NearOut a w 2) := by
  have V := Lib.hid (valid_walk a r n cap B w hn hr hs)
  rw [h0, errV_zero] at V
  have HE := Lib.hid (errV_pos a (show 2 ≠ 0 by decide))
  have c2 := (hs 2 (by decide)).1
  have l2 := (hs.lt (k := 2) (by decide)).1
  simp only [gOf] at c2 l2
  clear hr hs h0
  by_cases hk0 : k < 0
  · have d0 : decide (k < 0) = true := decide_eq_true hk0
    clear hk
    go_enter Tryd.func39, Tryd.ntmps39
    go_wp2_with (go_at_call 34; (with_reducible refine V.out.mono ?_); rintro e w1 ⟨rfl, hb⟩; have HB := Lib.hid hb; obtain ⟨hc1, hf1, hz1⟩ := facts hb; clear hb)
    go_quiet (fail)
    go_wp2
    (try simp only [Exit.inBlock, Exit.then])
    refine bodyPost_ret (results_tmp5 rfl _ _ _) rfl ?_
    exact ⟨by rw [HE.out]; rfl, grow_drewN HB.out _⟩
  · have d0 : decide (k < 0) = false := decide_eq_false hk0
    have d1 : decide (2000 < k) = true := decide_eq_true (by omega)
    clear hk
    go_enter Tryd.func39, Tryd.ntmps39
    go_wp2_with (go_at_call 34; (with_reducible refine V.out.mono ?_); rintro e w1 ⟨rfl, hb⟩; have HB := Lib.hid hb; obtain ⟨hc1, hf1, hz1⟩ := facts hb; clear hb)
    go_quiet (fail)
    go_wp2
    (try simp only [Exit.inBlock, Exit.then])
    refine bodyPost_ret (results_tmp5 rfl _ _ _) rfl ?_
    exact ⟨by rw [HE.out]; rfl, grow_drewN HB.out _⟩
set_option maxRecDepth 100000 in
set_option maxHeartbeats 16000000 in
theorem near_few_none (a : Nat → Addr) (r : Option Addr) (n cap : Nat) (K : Nat) (B : Nat → Bd) (w : World) (hn : n ≤ 9223372036854775807) (hr : BodsAt w r n B) (hs : Sen a [2, 5, 6] w) (h0 : validE n B = 0) (hK : K ≤ 2000) (hn2 : n < 2) (hcap : r = none → cap = 0) (hE : runZ n K B = none) :
    Calls Tryd.prog 39 #[.slice r n cap, .int .i64 K] w (NearOut a w 6) := by
  have V := Lib.hid (valid_walk a r n cap B w hn hr hs)
  rw [h0, errV_zero] at V
  have HE := Lib.hid (errV_pos a (show 6 ≠ 0 by decide))
  have RN := Lib.hid (fun x (hx : Below w.heap.size w x) => (run_none a r n cap K B x hn (hr.below hx) hcap (hs.below hx) h0 (by omega) hE).mono fun e w' h => (show e = .returned (.tuple #[.slice none 0 0, .iface 261 (.pointer (some (a 6)))]) ∧ Below x.heap.size x w' from ⟨by rw [h.1, HE.out], h.2⟩))
  clear hr hs h0 hE
  go_enter Tryd.func39, Tryd.ntmps39
  go_wp2_with (first
    | (go_at_call 34; (with_reducible refine V.out.mono ?_); rintro e w1 ⟨rfl, hb⟩; have HB := Lib.hid hb; clear hb)
    | (go_at_call 16; (with_reducible refine (RN.out _ HB.out).mono ?_); rintro e w2 ⟨rfl, hb⟩; have HB2 := Lib.hid (grow_trans HB.out hb); clear hb HB))
  (try simp only [Exit.inBlock, Exit.then])
  refine bodyPost_ret (results_tmp5 rfl _ _ _) rfl ?_
  exact ⟨by rw [HE.out]; rfl, HB2.out⟩
set_option maxRecDepth 100000 in
set_option maxHeartbeats 16000000 in
theorem near_few_some (a : Nat → Addr) (r : Option Addr) (n cap : Nat) (K : Nat) (B : Nat → Bd) (w : World) (hn : n ≤ 9223372036854775807) (hr : BodsAt w r n B) (hs : Sen a [2, 5, 6, 9] w) (h0 : validE n B = 0) (hK : K ≤ 2000) (hn2 : n < 2) (hcap : r = none → cap = 0) (E : Nat → Bd) (hE : runZ n K B = some E) :
    Calls Tryd.prog 39 #[.slice r n cap, .int .i64 K] w (NearOut a w 9) := by
  have hs3 : Sen a [2, 5, 6] w := hs.sub (by decide)
  have V := Lib.hid (valid_walk a r n cap B w hn hr hs3)
  rw [h0, errV_zero] at V
  have HE := Lib.hid (errV_pos a (show 9 ≠ 0 by decide))
  have RN := Lib.hid (fun x (hx : Below w.heap.size w x) => (run_some a r n cap K B E x hn (hr.below hx) hcap (hs3.below hx) h0 (by omega) hE))
  have HS := Lib.hid hs
  clear hr hs hs3 h0 hE
  go_enter Tryd.func39, Tryd.ntmps39
  go_wp2_with (first
    | (go_at_call 34; (with_reducible refine V.out.mono ?_); rintro e w1 ⟨rfl, hb⟩; have HB := Lib.hid hb; clear hb)
    | (go_at_call 16; (with_reducible refine (RN.out _ HB.out).mono ?_); rintro e w2 ⟨r2, c2, rfl, _, _, hb⟩; have HB2 := Lib.hid (grow_trans HB.out hb); have c9 := ((HS.out.below HB2.out) 9 (by decide)).1; have l9 := ((HS.out.below HB2.out).lt (k := 9) (by decide)).1; simp only [gOf] at c9 l9; clear hb HB))
  go_quiet (fail)
  go_wp2
  (try simp only [Exit.inBlock, Exit.then])
  refine bodyPost_ret (results_tmp5 rfl _ _ _) rfl ?_
  exact ⟨by rw [HE.out]; rfl, grow_drewN HB2.out _⟩
set_option maxRecDepth 100000 in
set_option maxHeartbeats 16000000 in
theorem near_main (a : Nat → Addr) (r : Option Addr) (n cap : Nat) (K : Nat) (B : Nat → Bd) (w : World) (hn : n ≤ 9223372036854775807) (hr : BodsAt w r n B) (hs : Sen a [2, 5, 6] w) (h0 : validE n B = 0) (hK : K ≤ 2000) (hn2 : 2 ≤ n) :
    Calls Tryd.prog 39 #[.slice r n cap, .int .i64 K] w (NearIn a w n K B) := by
  have V := Lib.hid (valid_walk a r n cap B w hn hr hs)
  rw [h0, errV_zero] at V
  obtain ⟨hn12, hok⟩ := validE_ok.1 h0
  have HOK := Lib.hid hok
  have HE := Lib.hid (errV_pos a (show 6 ≠ 0 by decide))
  have c6 := (hs 6 (by decide)).1
  have l6 := (hs.lt (k := 6) (by decide)).1
  simp only [gOf] at c6 l6
  have CL := Lib.hid (fun x (hx : Below w.heap.size w x) => cloneB_walk r n cap B x (by omega) (by omega) (hr.below hx))
  clear hr hs h0 hok
  go_enter Tryd.func39, Tryd.ntmps39
  go_wp2_with (first
    | (go_at_call 34; (with_reducible refine V.out.mono ?_); rintro e w1 ⟨rfl, hb⟩; have HB := Lib.hid hb; clear hb)
    | (go_at_call 68; (with_reducible refine (CL.out _ HB.out).mono ?_); rintro e w2 ⟨g, c, rfl, hg, hrw, hb⟩; have hgs : w.heap.size ≤ g := Nat.le_trans HB.out.size hg; have R := Lib.hid hrw; have HB2 := Lib.hid (grow_trans HB.out hb); clear hrw hb HB))
  clear V CL
  go_loopw [4, 5, 6, 7, 12] (fun v4 v5 v6 v7 v12 wr => ∃ (t : Nat) (E : Nat → Bd), t ≤ K ∧ v12 = .int .i64 t ∧ v4 = .int .i64 (nrB n B t).t ∧ v5 = .int .i64 (nrB n B t).i ∧ v6 = .int .i64 (nrB n B t).k ∧ v7 = .int .i64 (nrB n B t).f ∧ Bo.run n 1 t B = some E ∧ Row wr g 0 n E ∧ Below w.heap.size w wr) (fun _ _ _ _ v _ => K - (intOf v).toNat)
  case atStart => exact ⟨0, B, Nat.zero_le _, rfl, rfl, rfl, rfl, rfl, rfl, R.out, HB2.out⟩
  case round =>
    clear R HB2
    obtain ⟨t, E, ht, rfl, rfl, rfl, rfl, rfl, hrun, hrow, hb⟩ := hrel
    have R := Lib.hid hrow
    have HB := Lib.hid hb
    have HRUN := Lib.hid hrun
    have OKE := Lib.hid (run_ok' HOK.out hrun)
    have NB := Lib.hid (nrB_succ hrun)
    clear hrow hb hrun
    generalize nrB n B t = z0 at NB ⊢
    go_wp2
    go_loopw [4, 5, 6, 7, 47] (fun v4 v5 v6 v7 v47 wq => ∃ i : Nat, i ≤ n ∧ v47 = .int .i64 i ∧ v4 = .int .i64 (nrI n E t i z0).t ∧ v5 = .int .i64 (nrI n E t i z0).i ∧ v6 = .int .i64 (nrI n E t i z0).k ∧ v7 = .int .i64 (nrI n E t i z0).f ∧ Row wq g 0 n E ∧ Below w.heap.size w wq) (fun _ _ _ _ v _ => n - (intOf v).toNat)
    case atStart => exact ⟨0, Nat.zero_le _, rfl, rfl, rfl, rfl, rfl, R.out, HB.out⟩
    case round =>
      clear R HB
      obtain ⟨i, hi, rfl, rfl, rfl, rfl, rfl, hrow, hb⟩ := hrel
      have R := Lib.hid hrow
      have HB := Lib.hid hb
      clear hrow hb
      by_cases hlt : i < n
      · have NI := Lib.hid (show nrI n E t (i + 1) z0 = nrK E t i (n - (i + 1)) (nrI n E t i z0) from rfl)
        generalize nrI n E t i z0 = z1 at NI ⊢
        go_wp2
        go_loopw [4, 5, 6, 7, 14] (fun v4 v5 v6 v7 v14 wx => ∃ k : Nat, i < k ∧ k ≤ n ∧ v14 = .int .i64 k ∧ v4 = .int .i64 (nrK E t i (k - (i + 1)) z1).t ∧ v5 = .int .i64 (nrK E t i (k - (i + 1)) z1).i ∧ v6 = .int .i64 (nrK E t i (k - (i + 1)) z1).k ∧ v7 = .int .i64 (nrK E t i (k - (i + 1)) z1).f ∧ Row wx g 0 n E ∧ Below w.heap.size w wx) (fun _ _ _ _ v _ => n - (intOf v).toNat)
        case atStart => exact ⟨i + 1, by omega, by omega, by go_num, by rw [Nat.sub_self]; rfl, by rw [Nat.sub_self]; rfl, by rw [Nat.sub_self]; rfl, by rw [Nat.sub_self]; rfl, R.out, HB.out⟩
        case round =>
          clear R HB
          obtain ⟨k, hik, hk, rfl, rfl, rfl, rfl, rfl, hrow, hb⟩ := hrel
          have R := Lib.hid hrow
          have HB := Lib.hid hb
          by_cases hkn : k < n
          · obtain ⟨k0, k1, k2, _, _, _, _⟩ := hrow.body k hkn
            obtain ⟨i0, i1, i2, _, _, _, _⟩ := hrow.body i hlt
            have fz := hrow.frozen
            have hl := hrow.lt
            clear hrow hb
            have A1 := Lib.hid (fun x => add_walk (E k).p (E i).p (-1) x (okP_fit OKE.out.p hlt hkn))
            rw [more_neg1] at A1
            have S1 := Lib.hid (fun x => squareC_walk ((E k).p.less (E i).p) x (okP_less OKE.out.p hlt hkn))
            have NX := Lib.hid (nrK_next E t hik z1)
            unfold nrP at NX
            generalize sqZ ((E k).p.less (E i).p) = s at S1 NX
            generalize (E k).p.less (E i).p = df at A1 S1
            generalize (E k).p = pk at k0 k1 k2 A1
            generalize (E i).p = pi at i0 i1 i2 A1
            generalize nrK E t i (k - (i + 1)) z1 = y at NX ⊢
            obtain ⟨yt, yi, yk, yf⟩ := y
            unfold vec at A1 S1
            obtain ⟨dx, dy, dz⟩ := df
            obtain ⟨kx, ky, kz⟩ := pk
            obtain ⟨ix, iy, iz⟩ := pi
            simp only [Nat.zero_add] at k0 k1 k2 i0 i1 i2 A1 S1 ⊢
            go_wp2
            refine Grow.wp_region_over (by kernel_rfl) (by kernel_rfl) ?_
            repeat (go_big_quiet_step (first | (go_at_call 70; with_reducible exact Calls.over_of (A1.out _)) | (go_at_call 87; with_reducible exact Calls.over_of (S1.out _))))
            refine wpQuiet_nil ?_
            intro xx hzz
            have RX := Lib.hid (R.out.below (below_over wr xx))
            have HX := Lib.hid (grow_trans HB.out (below_over wr xx))
            clear k0 k1 k2 i0 i1 i2 fz hl R HB A1 S1
            generalize over wr xx = w5 at *
            by_cases hy : yf < 0
            · have d0 : decide (yf < 0) = true := decide_eq_true hy
              have U := Lib.hid (NX.out.trans (nrUp_yes (z := ⟨yt, yi, yk, yf⟩) (.inl hy)))
              clear NX
              go_wp2
              go_roundw
              case rel => exact ⟨k + 1, by omega, by omega, by go_num, by rw [U.out], by rw [U.out], by rw [U.out], by rw [U.out], RX.out, HX.out⟩
              case measure => simp [intOf]; omega
            · have d0 : decide (yf < 0) = false := decide_eq_false hy
              by_cases hys : s < yf
              · have d1 : decide (s < yf) = true := decide_eq_true hys
                have U := Lib.hid (NX.out.trans (nrUp_yes (z := ⟨yt, yi, yk, yf⟩) (.inr hys)))
                clear NX
                go_wp2
                go_roundw
                case rel => exact ⟨k + 1, by omega, by omega, by go_num, by rw [U.out], by rw [U.out], by rw [U.out], by rw [U.out], RX.out, HX.out⟩
                case measure => simp [intOf]; omega
              · have d1 : decide (s < yf) = false := decide_eq_false hys
                have U := Lib.hid (NX.out.trans (nrUp_no (z := ⟨yt, yi, yk, yf⟩) (fun h => h.elim hy hys)))
                clear NX
                go_wp2
                go_roundw
                case rel => exact ⟨k + 1, by omega, by omega, by go_num, by rw [U.out], by rw [U.out], by rw [U.out], by rw [U.out], RX.out, HX.out⟩
                case measure => simp [intOf]; omega
          · obtain rfl : k = n := by omega
            clear hrow hb
            go_wp2
            go_roundw
            case rel => exact ⟨i + 1, by omega, by go_num, by rw [NI.out], by rw [NI.out], by rw [NI.out], by rw [NI.out], R.out, HB.out⟩
            case measure => simp [intOf]; omega
      · obtain rfl : i = n := by omega
        generalize hz1 : nrI i E t i z0 = z1 at NB ⊢
        have NZ := Lib.hid NB.out
        clear hz1 NB
        by_cases htK : t = K
        · subst htK
          go_wp2
          (try simp only [Exit.inBlock, Exit.then])
          refine bodyPost_ret (results_tmp5 rfl _ _ _) rfl ?_
          exact ⟨HB.out, .inl ⟨E, _, HRUN.out, NZ.out, rfl⟩⟩
        · have hlt2 : t < K := by omega
          have hne : ¬ ((t : Int) = (K : Int)) := by omega
          have ST := Lib.hid (step_walk g 0 i c 1 E wr R.out hn12 (by decide) OKE.out)
          cases hst : Bo.step i 1 E with
          | none =>
            have HN := Lib.hid (run_stop HRUN.out hst hlt2)
            have S2 := Lib.hid (show Calls Tryd.prog 69 #[.slice (some ⟨g, 0, none⟩) i c, .int .i64 1] wr fun e w' => e = .returned (.bool false) ∧ But g wr w' from
              ST.out.mono fun e w' ⟨h1, h2⟩ => by
                rcases h2 with ⟨F, h3, _⟩ | ⟨_, h3⟩
                · rw [hst] at h3; cases h3
                · exact ⟨h3, h1⟩)
            clear ST hst
            go_wp2_with (go_at_call 69; (with_reducible refine S2.out.mono ?_); rintro e w3 ⟨rfl, hb⟩; have HB3 := Lib.hid (but_new HB.out hb hgs); obtain ⟨hc1, hf1, hz1⟩ := facts (but_new HB.out hb hgs); clear hb)
            go_quiet (fail)
            go_wp2
            (try simp only [Exit.inBlock, Exit.then])
            refine bodyPost_ret (results_tmp5 rfl _ _ _) rfl ?_
            exact ⟨grow_drewN HB3.out _, .inr ⟨HN.out, by rw [HE.out]; rfl⟩⟩
          | some F =>
            have HN := Lib.hid (run_on HRUN.out hst)
            have S2 := Lib.hid (show Calls Tryd.prog 69 #[.slice (some ⟨g, 0, none⟩) i c, .int .i64 1] wr fun e w' => e = .returned (.bool true) ∧ Row w' g 0 i F ∧ But g wr w' from
              ST.out.mono fun e w' ⟨h1, h2⟩ => by
                rcases h2 with ⟨F2, h3, h4, h5⟩ | ⟨h3, _⟩
                · rw [hst] at h3; cases h3; exact ⟨h4, h5, h1⟩
                · rw [hst] at h3; cases h3)
            clear ST hst
            go_wp2_with (go_at_call 69; (with_reducible refine S2.out.mono ?_); rintro e w3 ⟨rfl, hrw, hb⟩; have R3 := Lib.hid hrw; have HB3 := Lib.hid (but_new HB.out hb hgs); clear hrw hb)
            go_roundw
            case rel => exact ⟨t + 1, F, by omega, by go_num, by rw [NZ.out], by rw [NZ.out], by rw [NZ.out], by rw [NZ.out], HN.out, R3.out, HB3.out⟩
            case measure => simp [intOf]; omega
end Go.Proofs.YtlfpfeidaohjmaaDoor
