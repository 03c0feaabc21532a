/- MountHears: the law's walk. -/
import Derived.Test.YtlfpfeidaohjmaaDoorMh0
import Derived.Test.YtlfpfeidaohjmaaDoorMh1
import Derived.Test.YtlfpfeidaohjmaaDoorTwo
import Derived.Deep.LoopGhost
import Derived.Outline
set_option linter.unusedSimpArgs false
set_option linter.unusedVariables false
namespace Go.Proofs.YtlfpfeidaohjmaaDoor
open Go.RowKit Go.Grow Go.Mo

set_option maxRecDepth 100000 in
set_option maxHeartbeats 40000000 in
theorem hears_yes (a : Nat → Addr) (A B : Lim) (r1 r2 : Option Addr) (l1 l2 cap1 cap2 : Nat) (z1 : Nat → Int) (z2 : Nat → Bool) (w : World) (hsen : Sen a allK w) (hh : Hand w) (hne : ∀ j ∈ allK, ∀ k ∈ allK, j ≠ k → a j ≠ a k) (hk1 : KindsAt w r1 l1 z1) (hk2 : LostAt w r2 l2 z2) (hl1 : l1 ≤ 9223372036854775807) (hl2 : l2 ≤ 9223372036854775807) (h1 : ¬ 40 < l1) (h2 : ¬ 400 < l2) (h0 : newE A B 1073741824 = 0) :
    Calls Tryd.prog 9 #[limV A, limV B, .slice r1 l1 cap1, .slice r2 l2 cap2] w fun e w' => e = .returned (.bool true) ∧ Below w.heap.size w w' := by
  have HS := Lib.hid hsen
  have HH := Lib.hid hh
  have HN := Lib.hid hne
  have HK1 := Lib.hid hk1
  have HK2 := Lib.hid hk2
  clear hsen hh hne hk1 hk2
  have g : Hid (Below w.heap.size w w) := Lib.hid (Below.refl _ _)
  have CD := Lib.hid (fun (k : Nat) (hk : k ≤ 10) (x : World) (hx : Below w.heap.size w x) => coded_same a k hk x (HS.out.below hx) (HH.out.below hx) HN.out)
  have MO := Lib.hid (fun x => mountOf_ok A B 1073741824 h0 x)
  have hok := (st0_ok h0).1
  have HOK := Lib.hid hok
  have H0 := Lib.hid h0
  clear h0 hok
  unfold limV at *
  go_enter Tryd.func9, Tryd.ntmps9
  go_wp2_with (go_at_call 22; refine (mounted_walk a _ ?_).mono ?_; exact (HS.out.below (grow_alloc (grow_alloc g.out _) _)).sub (by decide); rintro e w1 ⟨rfl, hB⟩; have HB := Lib.hid hB; clear hB)
  have r4 : Known w1 w.heap.size _ := ((Known.new w _ _).alloc _).below HB.out
  have r5 : Known w1 (w.heap.size + 1) _ := (Known.new' (by simp)).below HB.out
  have g2 : Hid (Below w.heap.size w w1) := Lib.hid (grow_trans (grow_alloc (grow_alloc g.out _) _) HB.out)
  clear g HB
  have g := g2
  clear g2
  have hsz := Lib.hid (show w.heap.size + 1 < w1.heap.size from r5.lt)
  go_cut [10, 11] (fun s10 s11 wx => ∃ b, w.heap.size + 1 < b ∧ s10 = .pointer (some ⟨b, 0, none⟩) ∧ s11 = .nilIface ∧ Known wx b (mCells a (st0 A B 1073741824)) ∧ Known wx w.heap.size #[.int .i64 A.low, .int .i64 A.high, .int .i64 A.fast, .int .i64 A.home] ∧ Known wx (w.heap.size + 1) #[.int .i64 B.low, .int .i64 B.high, .int .i64 B.fast, .int .i64 B.home] ∧ Below w.heap.size w wx ∧ b < wx.heap.size)
  case first =>
    have LA := Lib.hid (fun x => limits_walk A x)
    have LB := Lib.hid (fun x => limits_walk B x)
    unfold limV at LA LB
    have c4 := r4.cell
    have f4 := r4.frozen
    have c5 := r5.cell
    have f5 := r5.frozen
    go_region_with (first
            | (go_at_call 24; (first | (with_reducible refine (LA.out _).mono ?_) | (with_reducible refine (LB.out _).mono ?_)); rintro e w2 ⟨rfl, hB2⟩; (first | (have r4' := (Known.drew r4).below hB2; have r5' := (Known.drew r5).below hB2; have g' : Hid (Below w.heap.size w w2) := Lib.hid (grow_trans (grow_drew g.out) hB2)) | (have r4' := r4.below hB2; have r5' := r5.below hB2; have g' : Hid (Below w.heap.size w w2) := Lib.hid (grow_trans g.out hB2))); clear r4 r5 g c4 f4 c5 f5 hB2; have r4 := r4'; have r5 := r5'; have g := g'; clear r4' r5' g'; have c4 := r4.cell; have f4 := r4.frozen; have c5 := r5.cell; have f5 := r5.frozen)
            | (go_at_call 23; (with_reducible refine (new_ok a A B 1073741824 H0.out _ ?_).mono ?_); exact (HS.out.below g.out).sub (by decide); rintro e w3 ⟨b, hb, rfl, m, hB3⟩; have r4' := r4.below hB3; have r5' := r5.below hB3; have g' : Hid (Below w.heap.size w w3) := Lib.hid (grow_trans g.out hB3); have hb' : w.heap.size + 1 < b := Nat.lt_of_lt_of_le r5.lt hb; clear r4 r5 g c4 f4 c5 f5 hB3 hb; have r4 := r4'; have r5 := r5'; have g := g'; clear r4' r5' g'))
    all_goals
      go_wp2_with fail
      go_meet
      exact ⟨_, hb', rfl, rfl, m, r4, r5, g.out, m.lt⟩
  case rest =>
    obtain ⟨b, hb, rfl, rfl, m, r4', r5', g', hbw⟩ := hcut
    clear r4 r5 g hsz
    have r4 := r4'
    have r5 := r5'
    have G := Lib.hid g'
    clear r4' r5' g'
    have c4 := r4.cell
    have f4 := r4.frozen
    have l4 := r4.lt
    have c5 := r5.cell
    have f5 := r5.frozen
    have l5 := r5.lt
    go_wp2_with (first
      | (go_at_call 36; (with_reducible refine (MO.out _).mono ?_); rintro e w4 ⟨b2, hb2, rfl, m2, hB⟩; replace m := m.below hB; have hbb := Nat.lt_of_lt_of_le hbw hb2; replace G : Hid (Below w.heap.size w w4) := Lib.hid (grow_trans G.out hB); clear r4 r5 c4 f4 l4 c5 f5 l5 hB hb2)
      | (go_at_call 43; refine (newSender_walk _).mono ?_; rintro e w5 ⟨b3, hb3, rfl, q, hB⟩; have hbc := Nat.lt_of_lt_of_le m2.lt hb3; replace m := m.below hB; replace m2 := m2.below hB; replace G : Hid (Below w.heap.size w w5) := Lib.hid (grow_trans G.out hB); clear hB hb3)
      | (go_at_call 44; refine (again_yes b3 0 0 0 ⟨#[]⟩ _ ?_).mono ?_; exact q; rintro e w6 ⟨rfl, hB⟩; replace m := m.below hB; replace m2 := m2.below hB; replace q := q.below hB; replace G : Hid (Below w.heap.size w w6) := Lib.hid (grow_trans G.out hB); clear hB))
    go_loopw [16, 17, 18] (fun v16 v17 v18 wr => HearsRel a b b2 b3 l1 w v16 v17 v18 wr) (fun _ _ i _ => l1 - (intOf i).toNat)
    case atStart => exact ⟨0, 0, st0 A B 1073741824, rf0 A B 1073741824, ⟨#[]⟩, 0, 0, Nat.zero_le _, rfl, rfl, rfl, by omega, HOK.out, sim0 A B _, by simp [st0], Int.le_refl _, Int.le_refl _, .inl rfl, m.alloc _, m2.alloc _, q.alloc _, grow_alloc G.out _⟩
    case round =>
      clear m m2 q G
      obtain ⟨i, n, s, m0, cl, xl, yl, hi, rfl, rfl, rfl, hn, hs, hsim, he, hq0, hqi, hnum, m, m2, q, g⟩ := hrel
      have G := Lib.hid g
      have HE := Lib.hid he
      have HNUM := Lib.hid hnum
      clear g he hnum
      have hwb := Lib.hid (show w.heap.size ≤ b by omega)
      have hwb2 := Lib.hid (show w.heap.size ≤ b2 by omega)
      have hwb3 := Lib.hid (show w.heap.size ≤ b3 by omega)
      by_cases hlt : i < l1
      · obtain ⟨b0, o0, rfl, hin⟩ := HK1.out.resolve_left (by omega)
        have c0 := hin i hlt
        have hc00 := c0
        have hb0 : b0 < w.heap.size := lt_of_cell c0
        replace c0 : wr.cell? ⟨b0, o0 + i, none⟩ = _ := (G.out.cell (p := ⟨b0, o0 + i, none⟩) hb0).trans c0
        clear hin
        generalize z1 i = x at c0 hc00
        have HC0 := Lib.hid hc00
        clear hc00
        obtain ⟨cs, hcs⟩ : ∃ cs : ByteArray, cs = if x < 0 then ⟨#[115, 116, 111, 112]⟩ else ⟨#[115, 108, 101, 119]⟩ := ⟨_, rfl⟩
        have HCS := Lib.hid hcs
        clear hcs
        go_upto_region 17 with (fail)
        go_upto_if 86 with (fail)
        go_cut [19] (fun s19 wx => s19 = .string cs ∧ wx = wr)
        case first => as_aux_lemma =>
          by_cases hx : x < 0
          · have e := HCS.out
            rw [if_pos hx] at e
            have E := Lib.hid e
            clear e
            go_wp2
            go_meet
            exact ⟨by rw [E.out], rfl⟩
          · have e := HCS.out
            rw [if_neg hx] at e
            have E := Lib.hid e
            clear e
            go_wp2
            go_meet
            exact ⟨by rw [E.out], rfl⟩
        case rest =>
          obtain ⟨rfl, rfl⟩ := hcut
          have hbb1 : b ≠ b3 := by omega
          have hbb2 : b2 ≠ b3 := by omega
          have hbb3 : b ≠ b2 := by omega
          have hbb4 : b2 ≠ b := by omega
          have hbb5 : b3 ≠ b := by omega
          have hbb6 : b3 ≠ b2 := by omega
          have hzb := m.lt
          have hzb2 := m2.lt
          have hzb3 := q.lt
          have AK := Lib.hid (fun y h => ask_walk b3 (i : Int) xl yl x x cl cs true (by omega) (by omega) y h)
          have lw := G.out.size
          go_upto_region 19 with (fail)
          go_cut [20] (fun s20 wx => ∃ b20, wc.heap.size ≤ b20 ∧ s20 = .pointer (some ⟨b20, 0, none⟩) ∧ Known wx b20 #[.int .i64 (i + 1), .string cs, .int .i64 x, .int .i64 x] ∧ Known wx b (mCells a s) ∧ Known wx b2 (rCells m0) ∧ Known wx b3 (sCells (i + 1) cs x x false) ∧ Below w.heap.size w wx)
          case first => as_aux_lemma =>
            have hwc := hzb
            refine Grow.wp_region_reads2 [0, 1, 2, 3, 4, 6, 7, 8] [5, 9] [] 10 11 [11, 12] [10, 12] (by kernel_rfl) (by kernel_rfl) (by kernel_rfl) (by kernel_rfl) (by kernel_rfl) (by kernel_rfl) (by kernel_rfl) (by kernel_rfl) (by kernel_rfl) (by kernel_rfl) ?_ ?_
            · intro c aa d v ww h
              simp (config := {zetaDelta := true}) only [Exit.then, Exit.inBlock] at h ⊢
              exact Grow.bodyPost_blind h
            · simp only [Grow.pick, List.getElem?_cons_zero, List.getElem?_cons_succ, List.cons_append, List.nil_append]
              repeat (go_big_quiet_step (fail))
              refine wpQuiet_nil ?_
              repeat (go_big_quiet_step (fail))
              refine wpQuiet_nil ?_
              repeat (go_big_quiet_step (fail))
              refine wpQuiet_nil ?_
              refine ⟨?_, ?_⟩
              all_goals
                go_wp2_with (go_at_call 45; first | ((with_reducible refine (AK.out _ (Known.drew q)).mono ?_); rintro e w2 ⟨rfl, hL⟩; have m' := (Known.drew m).but hL.2 hbb1; have m2' := (Known.drew m2).but hL.2 hbb2; have G' : Hid (Below w.heap.size w w2) := Lib.hid (hL.2.below (grow_drew G.out) hwb3.out); have q' := hL.1; have hz' := hL.2.size; clear hL) | ((with_reducible refine (AK.out _ (Known.drew (q.alloc _))).mono ?_); rintro e w2 ⟨rfl, hL⟩; have m' := (Known.drew (m.alloc _)).but hL.2 hbb1; have m2' := (Known.drew (m2.alloc _)).but hL.2 hbb2; have G' : Hid (Below w.heap.size w w2) := Lib.hid (hL.2.below (grow_drew (grow_alloc G.out _)) hwb3.out); have q' := hL.1; have r20' := (Known.drew (Known.new _ _ _)).but hL.2 (Nat.ne_of_gt hzb3); have c20 := r20'.cell; have f20 := r20'.frozen; have l20 := r20'.lt; have hz' := hL.2.size; clear hL))
                go_wp2_with fail
                go_meet
                refine ⟨_, ?_, rfl, ?_, ?_, ?_, ?_, ?_⟩
                · (try simp at hz'); omega
                · apply Known.of_eq
                  · (repeat (with_reducible first | exact r20' | exact Known.new _ _ _ | apply Known.same))
                  · simp
                · (repeat (with_reducible first | exact m' | apply Known.other | apply Known.alloc | apply Known.drew)) <;> (first | omega | (simp; omega))
                · (repeat (with_reducible first | exact m2' | apply Known.other | apply Known.alloc | apply Known.drew)) <;> (first | omega | (simp; omega))
                · (repeat (with_reducible first | exact q' | apply Known.other | apply Known.alloc | apply Known.drew)) <;> (first | omega | (simp; omega))
                · (repeat (with_reducible first | exact G'.out | refine Grow.grow_setCell ?_ ?_ _ | refine Grow.grow_alloc ?_ _ | refine Grow.grow_drew ?_)) <;> (first | omega | (simp; omega))
          case rest =>
            clear m m2 q G AK
            obtain ⟨b20, hb20, rfl, r20, m, m2, q, g⟩ := hcut
            have G := Lib.hid g
            have n1 : b20 ≠ b := by omega
            have n2 : b20 ≠ b2 := by omega
            have n3 : b20 ≠ b3 := by omega
            have hw20 := Lib.hid (show w.heap.size ≤ b20 by omega)
            clear g hzb hzb2 hzb3 hb20
            have hzb := m.lt
            have hzb2 := m2.lt
            have hzb3 := q.lt
            have hz20 := r20.lt
            have c20 := r20.cell
            have f20 := r20.frozen
            replace c0 : wc.cell? ⟨b0, o0 + i, none⟩ = some (.int .i64 x) := (G.out.cell (p := ⟨b0, o0 + i, none⟩) hb0).trans HC0.out
            have ei : IntKind.i64.wrap ((i : Int) + 1) = (i : Int) + 1 := IntWalk.i64_in _ (by omega)
            have RBm := rb_of hsim hs
            have RK := Lib.hid (fun y h => rtake_any b2 m0 RBm ((i : Int) + 1) x x cs y h)
            have hnew : s.taken = false ∨ s.number < (i : Int) + 1 := HNUM.out
            have SM := sim_take hsim ((i : Int) + 1) (kindOf cs) x x
            have TE := take_err HE.out ((i : Int) + 1) (kindOf cs) x x
            have TQ := (Mo.take_same s ((i : Int) + 1) (kindOf cs) x x).2.2.2.2.2
            have TO := take_ok hs ((i : Int) + 1) (kindOf cs) x x
            obtain ⟨T2, TN⟩ := take_twice s ((i : Int) + 1) (kindOf cs) x x hnew
            have TNN := take_num s ((i : Int) + 1) (kindOf cs) x x hnew
            unfold cmdV at RK
            rw [← SM.1] at RK
            have SM2 := SM.2
            clear SM hsim RBm hnew
            obtain ⟨T, hT⟩ : ∃ T, take s ((i : Int) + 1) (kindOf cs) x x = T := ⟨_, rfl⟩
            rw [hT] at SM2 TE TQ TO T2 TN TNN RK
            generalize (rtake m0 ((i : Int) + 1) (kindOf cs) x x).1 = m1 at SM2 RK
            obtain ⟨s1, ⟨Rn, Re, Ra, Rb, Rs⟩⟩ := T
            simp only at SM2 TE TQ TO T2 TN TNN RK
            subst TN
            have HT := Lib.hid hT
            have HT2 := Lib.hid T2
            have HSM := Lib.hid SM2
            have HTQ := Lib.hid TQ
            have HTO := Lib.hid TO
            have HTE := Lib.hid TE
            have HTNN := Lib.hid TNN
            have HSK := Lib.hid hs
            clear hT T2 SM2 TQ TO TE TNN hs
            unfold repZ at RK
            go_upto_region 22 with (fail)
            go_cut [21] (fun s21 wx => ∃ b21, wc.heap.size ≤ b21 ∧ s21 = .pointer (some ⟨b21, 0, none⟩) ∧ Known wx b21 #[.int .i64 (i + 1), .int .i64 Re, .int .i64 Ra, .int .i64 Rb, .int .i64 Rs] ∧ Known wx b (mCells a s) ∧ Known wx b2 (rCells m1) ∧ Known wx b3 (sCells (i + 1) cs x x false) ∧ Known wx b20 #[.int .i64 (i + 1), .string cs, .int .i64 x, .int .i64 x] ∧ Below w.heap.size w wx)
            case first => as_aux_lemma =>
              have hwc := hzb
              have hb0' : b0 < wc.heap.size := by omega
              refine Grow.wp_region_reads2 [0, 1, 3, 4, 5, 6, 8, 9, 10] [2, 7, 11] [12] 13 14 [14, 15] [13, 15] (by kernel_rfl) (by kernel_rfl) (by kernel_rfl) (by kernel_rfl) (by kernel_rfl) (by kernel_rfl) (by kernel_rfl) (by kernel_rfl) (by kernel_rfl) (by kernel_rfl) ?_ ?_
              · intro c aa d v ww h
                simp (config := {zetaDelta := true}) only [Exit.then, Exit.inBlock] at h ⊢
                exact Grow.bodyPost_blind h
              · simp only [Grow.pick, List.getElem?_cons_zero, List.getElem?_cons_succ, List.cons_append, List.nil_append]
                repeat (go_big_quiet_step (fail))
                refine wpQuiet_nil ?_
                repeat (go_big_quiet_step (fail))
                refine wpQuiet_nil ?_
                repeat (go_big_quiet_step (fail))
                refine wpQuiet_nil ?_
                refine ⟨?_, ?_⟩
                all_goals
                  go_wp2_with (go_at_call 38; first | ((with_reducible refine (RK.out _ (Known.drew m2)).mono ?_); rintro e w2 ⟨rfl, hL⟩; have m' := (Known.drew m).but hL.2 hbb3; have q' := (Known.drew q).but hL.2 hbb6; have r20' := (Known.drew r20).but hL.2 n2; have G' : Hid (Below w.heap.size w w2) := Lib.hid (hL.2.below (grow_drew G.out) hwb2.out); have m2' := hL.1; have hz' := hL.2.size; clear hL) | ((with_reducible refine (RK.out _ (Known.drew (m2.alloc _))).mono ?_); rintro e w2 ⟨rfl, hL⟩; have m' := (Known.drew (m.alloc _)).but hL.2 hbb3; have q' := (Known.drew (q.alloc _)).but hL.2 hbb6; have r20' := (Known.drew (r20.alloc _)).but hL.2 n2; have G' : Hid (Below w.heap.size w w2) := Lib.hid (hL.2.below (grow_drew (grow_alloc G.out _)) hwb2.out); have m2' := hL.1; have hz' := hL.2.size; have r21' := (Known.drew (Known.new _ _ _)).but hL.2 (Nat.ne_of_gt hzb2); have c21 := r21'.cell; have f21 := r21'.frozen; have l21 := r21'.lt; clear hL))
                  go_wp2_with fail
                  go_meet
                  refine ⟨_, ?_, rfl, ?_, ?_, ?_, ?_, ?_, ?_⟩
                  · (try simp at hz'); omega
                  · apply Known.of_eq
                    · (repeat (with_reducible first | exact r21' | exact Known.new _ _ _ | apply Known.same))
                    · simp
                  · (repeat (with_reducible first | exact m' | apply Known.other | apply Known.alloc | apply Known.drew)) <;> (first | omega | (simp; omega))
                  · (repeat (with_reducible first | exact m2' | apply Known.other | apply Known.alloc | apply Known.drew)) <;> (first | omega | (simp; omega))
                  · (repeat (with_reducible first | exact q' | apply Known.other | apply Known.alloc | apply Known.drew)) <;> (first | omega | (simp; omega))
                  · (repeat (with_reducible first | exact r20' | apply Known.other | apply Known.alloc | apply Known.drew)) <;> (first | omega | (simp; omega))
                  · (repeat (with_reducible first | exact G'.out | refine Grow.grow_setCell ?_ ?_ _ | refine Grow.grow_alloc ?_ _ | refine Grow.grow_drew ?_)) <;> (first | omega | (simp; omega))
            case rest =>
              clear m m2 q r20 G RK c20 f20
              obtain ⟨b21, hb21, rfl, r21, m, m2, q, r20, g⟩ := hcut
              have n4 : b21 ≠ b := by omega
              have n5 : b21 ≠ b2 := by omega
              have n6 : b21 ≠ b3 := by omega
              have n7 : b21 ≠ b20 := by omega
              have hw21 := Lib.hid (show w.heap.size ≤ b21 by omega)
              clear hzb hzb2 hzb3 hz20 hb21 c0
              have TK := Lib.hid (show ∀ s', (s' = s1 ∨ s' = s) → s'.ok ∧ take s' ((i : Int) + 1) (kindOf cs) x x = (s1, ⟨(i : Int) + 1, Re, Ra, Rb, Rs⟩) from fun s' h => by
                rcases h with rfl | rfl
                · exact ⟨HTO.out, HT2.out⟩
                · exact ⟨HSK.out, HT.out⟩)
              have hbs : ∀ j ∈ [6, 7, 10], gOf j ≠ b ∧ (a j).block ≠ b := fun j hj => by
                have := HS.out.lt (k := j) (by revert hj; simp [allK]; omega)
                omega
              have HBS := Lib.hid hbs
              clear hbs
              have lw1 := g.size
              go_wp2
              go_loopw [17, 22] (fun v17 v22 wr => AgainRel a b b2 b3 b20 b21 (402 + 2 * i) s s1 m1 ((i : Int) + 1) cs x ⟨(i : Int) + 1, Re, Ra, Rb, Rs⟩ w v17 v22 wr) (fun v17 v22 _ => agM l2 v17 v22)
              case atStart => exact ⟨n, false, s, rfl, rfl, fun _ => hn, by omega, .inr ⟨rfl, rfl⟩, m, m2, q, r20, r21, g⟩
              case round =>
                clear m m2 q r20 r21 g
                obtain ⟨n', h', s', rfl, rfl, hn1, hn2, hs', m, m2, q, r20, r21, g⟩ := hrel
                have G := Lib.hid g
                clear g
                cases h' with
                | true =>
                  as_aux_lemma =>
                    obtain rfl : s' = s1 := hs'.resolve_right (fun h => by cases h.1)
                    clear hs' hn1 TK
                    have hq1 : 0 ≤ s'.quiet ∧ s'.quiet ≤ i := by rcases HTQ.out with e | e <;> rw [e] <;> omega
                    have hq2 : m1.quiet = s'.quiet := HSM.out.quiet.symm
                    have KT := Lib.hid (fun y h => tick_walk a b s' HTO.out hq1.1 (by omega) y h)
                    have KR := Lib.hid (fun y h => rtick_walk b2 m1 (rb_of HSM.out HTO.out) (by omega) (by omega) y h)
                    have SM := sim_tick HSM.out HTO.out
                    have T4 := (tick_same s').2.2.2
                    have TO := tick_ok HTO.out
                    have TE := tick_err s'
                    have TM := tick_num s'
                    generalize tick s' = s3 at *
                    generalize rtick m1 = m3 at *
                    have HS3 := Lib.hid SM
                    have HT4 := Lib.hid T4
                    have HTO3 := Lib.hid TO
                    have HTE3 := Lib.hid TE
                    have HTM := Lib.hid TM
                    clear T4 TO TE TM hq2
                    have SW := Lib.hid (fun y h => state_same a b s3 y h)
                    obtain ⟨ma, mb, mx, my, mp, mq, mst, mpa, mqu, mta, mnu, mco⟩ := m3
                    obtain ⟨ea, eb, ex, ey, es, ep, eq, et, en, ec, e1, e2, e3⟩ := SM
                    simp only at ea eb ex ey es ep eq et en ec
                    subst ea eb ex ey es ep eq et en ec
                    clear e1 e2 e3
                    dsimp only [rCells, sCells] at *
                    go_wp2_with (first
                      | (go_at_call 44; refine (again_yes b3 ((i : Int) + 1) x x cs _ ?_).mono ?_; exact q; rintro e w2 ⟨rfl, hB⟩; replace m := m.below hB; replace m2 := m2.below hB; replace q := q.below hB; replace r20 := r20.below hB; replace r21 := r21.below hB; replace G : Hid (Below w.heap.size w w2) := Lib.hid (grow_trans G.out hB); clear hB)
                      | (go_at_call 26; (with_reducible refine (KT.out _ ?_).mono ?_); exact m; rintro e w3 ⟨rfl, hL⟩; replace m := hL.1; replace m2 := m2.but hL.2 hbb4; replace q := q.but hL.2 hbb5; replace G : Hid (Below w.heap.size w w3) := Lib.hid (hL.2.below G.out hwb.out); clear hL r20 r21)
                      | (go_at_call 37; (with_reducible refine (KR.out _ ?_).mono ?_); exact m2; rintro e w4 ⟨rfl, hL⟩; replace m2 := hL.1; replace m := m.but hL.2 hbb3; replace q := q.but hL.2 hbb6; replace G : Hid (Below w.heap.size w w4) := Lib.hid (hL.2.below G.out hwb2.out); clear hL; dsimp only [rCells] at m2; have c2 := m2.cell; have f2 := m2.frozen; have l2 := m2.lt))
                    go_quiet ((go_at_call 31; exact Calls.quiet_of_same (SW.out _ (m.drewN _))))
                    go_wp2
                    go_roundw
                    case rel => exact ⟨i + 1, n', s3, _, cs, x, x, by omega, rfl, rfl, by go_num, by omega, HTO3.out, HS3.out, by rw [HTE3.out]; exact HTE.out.2, by rw [HT4.out]; omega, by rw [HT4.out]; omega, .inr (by rw [HTM.out, HTNN.out]; omega), m.drewN _, m2.drewN _, Known.of_eq (q.drewN _) (by simp [sCells]), grow_drewN G.out _⟩
                    case measure => simp [intOf]; omega
                | false =>
                  have hn' := hn1 rfl
                  have hs2 : s' = s1 ∨ s' = s := hs'.imp id (fun h => h.2)
                  have hs2' := hs'
                  have l2le : l2 ≤ 400 := by omega
                  by_cases hA : l2 ≤ n'
                  · have dA := show decide (l2 ≤ n') = true from decide_eq_true hA
                    have dB : decide ((l2 : Int) ≤ (n' : Int) + 1) = true := decide_eq_true (by omega)
                    as_aux_lemma =>
                      have TS := Lib.hid (fun y hx hy => take_any a b s' (TK.out s' hs2).1 ((i : Int) + 1) x x cs y hx hy HBS.out)
                      rw [(TK.out s' hs2).2] at TS
                      unfold cmdV repV at TS
                      simp only at TS
                      dsimp only [rCells, sCells] at *
                      rcases errV_or a Re with hE | ⟨u, hE⟩
                      all_goals
                        have CR := Lib.hid (fun (y : World) (hy : Below w.heap.size w y) => CD.out Re HTE.out.1 y hy)
                        rw [hE] at TS CR
                        clear hE
                        have HY := Lib.hid (fun v hv y h => hear_yes b3 ((i : Int) + 1) x x cs v hv Ra Rb Rs y h)
                        have HO := Lib.hid (fun v hv y h => hear_no b3 ((i : Int) + 1) x x cs v hv ((i : Int) + 1) Ra Rb Rs y h)
                        go_wp2_with (first
                          | (go_at_call 44; refine (again_no b3 ((i : Int) + 1) x x cs _ ?_).mono ?_; exact q; rintro e w2 ⟨rfl, hB⟩; replace m := m.below hB; replace m2 := m2.below hB; replace q := q.below hB; replace r20 := r20.below hB; replace r21 := r21.below hB; replace G : Hid (Below w.heap.size w w2) := Lib.hid (grow_trans G.out hB); clear hB; have hz2 := G.out.size; have c20 := r20.cell; have f20 := r20.frozen; have l20 := r20.lt; have c21 := r21.cell; have f21 := r21.frozen; have l21 := r21.lt)
                          | (go_at_call 28; (with_reducible refine (TS.out _ ?_ ?_).mono ?_); exact m.alloc _; exact ((HS.out.below G.out).below (grow_alloc (grow_refl _) _)).sub (by decide); rintro e w3 ⟨rfl, hL⟩; clear c20 f20 l20 c21 f21 l21; have r23 := (Known.new w2 _ _).but hL.2 (Nat.ne_of_gt m.lt); replace m := hL.1; replace m2 := (m2.alloc _).but hL.2 hbb4; replace q := (q.alloc _).but hL.2 hbb5; replace r20 := (r20.alloc _).but hL.2 n1; replace r21 := (r21.alloc _).but hL.2 n4; replace G : Hid (Below w.heap.size w w3) := Lib.hid (hL.2.below (grow_alloc G.out _) hwb.out); clear hL; have c20 := r20.cell; have f20 := r20.frozen; have l20 := r20.lt; have c21 := r21.cell; have f21 := r21.frozen; have l21 := r21.lt)
                          | (go_at_call 33; (with_reducible refine (CR.out _ (grow_alloc G.out _)).mono ?_); rintro e w4 ⟨rfl, hB⟩; clear c20 f20 l20 c21 f21 l21 r23; have hq3 := q.lt; have r27 := (Known.new w3 _ _).below hB; replace m := (m.alloc _).below hB; replace m2 := (m2.alloc _).below hB; replace q := (q.alloc _).below hB; replace r20 := (r20.alloc _).below hB; replace r21 := (r21.alloc _).below hB; replace G : Hid (Below w.heap.size w w4) := Lib.hid (grow_trans (grow_alloc G.out _) hB); clear hB; have c20 := r20.cell; have f20 := r20.frozen; have l20 := r20.lt; have c21 := r21.cell; have f21 := r21.frozen; have l21 := r21.lt; have c27 := r27.cell; have f27 := r27.frozen; have l27 := r27.lt; have s0 := trivial)
                          | (clear s0; go_at_call 46; (first | (with_reducible refine (HY.out _ (.inl rfl) _ ?_).mono ?_) | (with_reducible refine (HY.out _ (.inr ⟨u, rfl⟩) _ ?_).mono ?_)); exact q; rintro e w5 ⟨rfl, hL⟩; clear c20 f20 l20 c21 f21 l21 c27 f27 l27; replace r27 := r27.but hL.2 (Nat.ne_of_gt hq3); replace m := m.but hL.2 hbb1; replace m2 := m2.but hL.2 hbb2; replace r20 := r20.but hL.2 n3; replace r21 := r21.but hL.2 n6; replace G : Hid (Below w.heap.size w w5) := Lib.hid (hL.2.below G.out hwb3.out); replace q := hL.1; clear hL; have c27 := r27.cell; have f27 := r27.frozen; have l27 := r27.lt; have s1 := trivial)
                          | (clear s1; go_at_call 46; (first | (with_reducible refine (HO.out _ (.inl rfl) _ ?_).mono ?_) | (with_reducible refine (HO.out _ (.inr ⟨u, rfl⟩) _ ?_).mono ?_)); exact q; rintro e w6 ⟨rfl, hB⟩; clear c27 f27 l27 r27; replace m := m.below hB; replace m2 := m2.below hB; replace q := q.below hB; replace r20 := r20.below hB; replace r21 := r21.below hB; replace G : Hid (Below w.heap.size w w6) := Lib.hid (grow_trans G.out hB); clear hB))
                        go_roundw
                        case rel => exact ⟨n' + 2, true, s1, by go_num, rfl, fun h => by first | (cases h; done) | omega, by omega, .inl rfl, m, m2, q, r20, r21, G.out⟩
                        case measure => simp [agM, intOf]; omega
                  · obtain ⟨b4, o4, rfl, hin2⟩ := HK2.out.resolve_left (by omega)
                    have hl1 := hin2 n' (by omega)
                    have hb4 : b4 < w.heap.size := lt_of_cell hl1
                    have dA := show decide (l2 ≤ n') = false from decide_eq_false (by omega)
                    cases hz : z2 n' with
                    | true =>
                      rw [hz] at hl1
                      have HL1 := Lib.hid hl1
                      clear hl1
                      by_cases hB2 : n' + 1 < l2
                      · have dB : decide ((l2 : Int) ≤ (n' : Int) + 1) = false := decide_eq_false (by omega)
                        have hl2 := hin2 (n' + 1) hB2
                        generalize z2 (n' + 1) = lb at hl2
                        have HL2 := Lib.hid hl2
                        clear hl2 hin2
                        as_aux_lemma =>
                          go_wp2_with (go_at_call 44; refine (again_no b3 ((i : Int) + 1) x x cs _ ?_).mono ?_; exact q; rintro e w2 ⟨rfl, hB⟩; replace m := m.below hB; replace m2 := m2.below hB; replace q := q.below hB; replace r20 := r20.below hB; replace r21 := r21.below hB; replace G : Hid (Below w.heap.size w w2) := Lib.hid (grow_trans G.out hB); clear hB; have hz2 := G.out.size; have c20 := r20.cell; have f20 := r20.frozen; have l20 := r20.lt; have c21 := r21.cell; have f21 := r21.frozen; have l21 := r21.lt; have cl1 := (G.out.cell (p := ⟨b4, o4 + n', none⟩) hb4).trans HL1.out; have cl2 := (G.out.cell (p := ⟨b4, o4 + (n' + 1), none⟩) hb4).trans HL2.out)
                          go_roundw
                          case rel => exact ⟨n' + 2, false, s', by go_num, rfl, fun h => by first | (cases h; done) | omega, by omega, hs2.imp id (fun h => ⟨rfl, h⟩), m.alloc _, m2.alloc _, q.alloc _, r20.alloc _, r21.alloc _, grow_alloc G.out _⟩
                          case measure => simp [agM, intOf]; omega
                      · have dB : decide ((l2 : Int) ≤ (n' : Int) + 1) = true := decide_eq_true (by omega)
                        clear hin2
                        as_aux_lemma =>
                          go_wp2_with (go_at_call 44; refine (again_no b3 ((i : Int) + 1) x x cs _ ?_).mono ?_; exact q; rintro e w2 ⟨rfl, hB⟩; replace m := m.below hB; replace m2 := m2.below hB; replace q := q.below hB; replace r20 := r20.below hB; replace r21 := r21.below hB; replace G : Hid (Below w.heap.size w w2) := Lib.hid (grow_trans G.out hB); clear hB; have hz2 := G.out.size; have c20 := r20.cell; have f20 := r20.frozen; have l20 := r20.lt; have c21 := r21.cell; have f21 := r21.frozen; have l21 := r21.lt; have cl1 := (G.out.cell (p := ⟨b4, o4 + n', none⟩) hb4).trans HL1.out)
                          go_roundw
                          case rel => exact ⟨n' + 2, false, s', by go_num, rfl, fun h => by first | (cases h; done) | omega, by omega, hs2.imp id (fun h => ⟨rfl, h⟩), m.alloc _, m2.alloc _, q.alloc _, r20.alloc _, r21.alloc _, grow_alloc G.out _⟩
                          case measure => simp [agM, intOf]; omega
                    | false =>
                      rw [hz] at hl1
                      have HL1 := Lib.hid hl1
                      clear hl1
                      by_cases hB2 : n' + 1 < l2
                      · have dB : decide ((l2 : Int) ≤ (n' : Int) + 1) = false := decide_eq_false (by omega)
                        have hl2 := hin2 (n' + 1) hB2
                        generalize z2 (n' + 1) = lb at hl2
                        have HL2 := Lib.hid hl2
                        clear hl2 hin2
                        cases lb with
                        | true =>
                          as_aux_lemma =>
                            have TS := Lib.hid (fun y hx hy => take_any a b s' (TK.out s' hs2).1 ((i : Int) + 1) x x cs y hx hy HBS.out)
                            rw [(TK.out s' hs2).2] at TS
                            unfold cmdV repV at TS
                            simp only at TS
                            dsimp only [rCells, sCells] at *
                            rcases errV_or a Re with hE | ⟨u, hE⟩
                            all_goals
                              have CR := Lib.hid (fun (y : World) (hy : Below w.heap.size w y) => CD.out Re HTE.out.1 y hy)
                              rw [hE] at TS CR
                              clear hE
                              have HY := Lib.hid (fun v hv y h => hear_yes b3 ((i : Int) + 1) x x cs v hv Ra Rb Rs y h)
                              have HO := Lib.hid (fun v hv y h => hear_no b3 ((i : Int) + 1) x x cs v hv ((i : Int) + 1) Ra Rb Rs y h)
                              go_wp2_with (first
                                | (go_at_call 44; refine (again_no b3 ((i : Int) + 1) x x cs _ ?_).mono ?_; exact q; rintro e w2 ⟨rfl, hB⟩; replace m := m.below hB; replace m2 := m2.below hB; replace q := q.below hB; replace r20 := r20.below hB; replace r21 := r21.below hB; replace G : Hid (Below w.heap.size w w2) := Lib.hid (grow_trans G.out hB); clear hB; have hz2 := G.out.size; have c20 := r20.cell; have f20 := r20.frozen; have l20 := r20.lt; have c21 := r21.cell; have f21 := r21.frozen; have l21 := r21.lt; have cl1 := (G.out.cell (p := ⟨b4, o4 + n', none⟩) hb4).trans HL1.out; have cl2 := (G.out.cell (p := ⟨b4, o4 + (n' + 1), none⟩) hb4).trans HL2.out)
                                | (go_at_call 28; (with_reducible refine (TS.out _ ?_ ?_).mono ?_); exact m.alloc _; exact ((HS.out.below G.out).below (grow_alloc (grow_refl _) _)).sub (by decide); rintro e w3 ⟨rfl, hL⟩; clear c20 f20 l20 c21 f21 l21 cl1 cl2; have r23 := (Known.new w2 _ _).but hL.2 (Nat.ne_of_gt m.lt); replace m := hL.1; replace m2 := (m2.alloc _).but hL.2 hbb4; replace q := (q.alloc _).but hL.2 hbb5; replace r20 := (r20.alloc _).but hL.2 n1; replace r21 := (r21.alloc _).but hL.2 n4; replace G : Hid (Below w.heap.size w w3) := Lib.hid (hL.2.below (grow_alloc G.out _) hwb.out); clear hL; have c20 := r20.cell; have f20 := r20.frozen; have l20 := r20.lt; have c21 := r21.cell; have f21 := r21.frozen; have l21 := r21.lt)
                                | (go_at_call 33; (with_reducible refine (CR.out _ (grow_alloc G.out _)).mono ?_); rintro e w4 ⟨rfl, hB⟩; clear c20 f20 l20 c21 f21 l21 r23; have hq3 := q.lt; have r27 := (Known.new w3 _ _).below hB; replace m := (m.alloc _).below hB; replace m2 := (m2.alloc _).below hB; replace q := (q.alloc _).below hB; replace r20 := (r20.alloc _).below hB; replace r21 := (r21.alloc _).below hB; replace G : Hid (Below w.heap.size w w4) := Lib.hid (grow_trans (grow_alloc G.out _) hB); clear hB; have c20 := r20.cell; have f20 := r20.frozen; have l20 := r20.lt; have c21 := r21.cell; have f21 := r21.frozen; have l21 := r21.lt; have c27 := r27.cell; have f27 := r27.frozen; have l27 := r27.lt; have s0 := trivial))
                              go_roundw
                              case rel => exact ⟨n' + 2, false, s1, by go_num, rfl, fun h => by first | (cases h; done) | omega, by omega, .inl rfl, m, m2, q, r20, r21, G.out⟩
                              case measure => simp [agM, intOf]; omega
                        | false =>
                          as_aux_lemma =>
                            have TS := Lib.hid (fun y hx hy => take_any a b s' (TK.out s' hs2).1 ((i : Int) + 1) x x cs y hx hy HBS.out)
                            rw [(TK.out s' hs2).2] at TS
                            unfold cmdV repV at TS
                            simp only at TS
                            dsimp only [rCells, sCells] at *
                            rcases errV_or a Re with hE | ⟨u, hE⟩
                            all_goals
                              have CR := Lib.hid (fun (y : World) (hy : Below w.heap.size w y) => CD.out Re HTE.out.1 y hy)
                              rw [hE] at TS CR
                              clear hE
                              have HY := Lib.hid (fun v hv y h => hear_yes b3 ((i : Int) + 1) x x cs v hv Ra Rb Rs y h)
                              have HO := Lib.hid (fun v hv y h => hear_no b3 ((i : Int) + 1) x x cs v hv ((i : Int) + 1) Ra Rb Rs y h)
                              go_wp2_with (first
                                | (go_at_call 44; refine (again_no b3 ((i : Int) + 1) x x cs _ ?_).mono ?_; exact q; rintro e w2 ⟨rfl, hB⟩; replace m := m.below hB; replace m2 := m2.below hB; replace q := q.below hB; replace r20 := r20.below hB; replace r21 := r21.below hB; replace G : Hid (Below w.heap.size w w2) := Lib.hid (grow_trans G.out hB); clear hB; have hz2 := G.out.size; have c20 := r20.cell; have f20 := r20.frozen; have l20 := r20.lt; have c21 := r21.cell; have f21 := r21.frozen; have l21 := r21.lt; have cl1 := (G.out.cell (p := ⟨b4, o4 + n', none⟩) hb4).trans HL1.out; have cl2 := (G.out.cell (p := ⟨b4, o4 + (n' + 1), none⟩) hb4).trans HL2.out)
                                | (go_at_call 28; (with_reducible refine (TS.out _ ?_ ?_).mono ?_); exact m.alloc _; exact ((HS.out.below G.out).below (grow_alloc (grow_refl _) _)).sub (by decide); rintro e w3 ⟨rfl, hL⟩; clear c20 f20 l20 c21 f21 l21 cl1 cl2; have r23 := (Known.new w2 _ _).but hL.2 (Nat.ne_of_gt m.lt); replace m := hL.1; replace m2 := (m2.alloc _).but hL.2 hbb4; replace q := (q.alloc _).but hL.2 hbb5; replace r20 := (r20.alloc _).but hL.2 n1; replace r21 := (r21.alloc _).but hL.2 n4; replace G : Hid (Below w.heap.size w w3) := Lib.hid (hL.2.below (grow_alloc G.out _) hwb.out); clear hL; have c20 := r20.cell; have f20 := r20.frozen; have l20 := r20.lt; have c21 := r21.cell; have f21 := r21.frozen; have l21 := r21.lt)
                                | (go_at_call 33; (with_reducible refine (CR.out _ (grow_alloc G.out _)).mono ?_); rintro e w4 ⟨rfl, hB⟩; clear c20 f20 l20 c21 f21 l21 r23; have hq3 := q.lt; have r27 := (Known.new w3 _ _).below hB; replace m := (m.alloc _).below hB; replace m2 := (m2.alloc _).below hB; replace q := (q.alloc _).below hB; replace r20 := (r20.alloc _).below hB; replace r21 := (r21.alloc _).below hB; replace G : Hid (Below w.heap.size w w4) := Lib.hid (grow_trans (grow_alloc G.out _) hB); clear hB; have c20 := r20.cell; have f20 := r20.frozen; have l20 := r20.lt; have c21 := r21.cell; have f21 := r21.frozen; have l21 := r21.lt; have c27 := r27.cell; have f27 := r27.frozen; have l27 := r27.lt; have s0 := trivial)
                                | (clear s0; go_at_call 46; (first | (with_reducible refine (HY.out _ (.inl rfl) _ ?_).mono ?_) | (with_reducible refine (HY.out _ (.inr ⟨u, rfl⟩) _ ?_).mono ?_)); exact q; rintro e w5 ⟨rfl, hL⟩; clear c20 f20 l20 c21 f21 l21 c27 f27 l27; replace r27 := r27.but hL.2 (Nat.ne_of_gt hq3); replace m := m.but hL.2 hbb1; replace m2 := m2.but hL.2 hbb2; replace r20 := r20.but hL.2 n3; replace r21 := r21.but hL.2 n6; replace G : Hid (Below w.heap.size w w5) := Lib.hid (hL.2.below G.out hwb3.out); replace q := hL.1; clear hL; have c27 := r27.cell; have f27 := r27.frozen; have l27 := r27.lt; have s1 := trivial)
                                | (clear s1; go_at_call 46; (first | (with_reducible refine (HO.out _ (.inl rfl) _ ?_).mono ?_) | (with_reducible refine (HO.out _ (.inr ⟨u, rfl⟩) _ ?_).mono ?_)); exact q; rintro e w6 ⟨rfl, hB⟩; clear c27 f27 l27 r27; replace m := m.below hB; replace m2 := m2.below hB; replace q := q.below hB; replace r20 := r20.below hB; replace r21 := r21.below hB; replace G : Hid (Below w.heap.size w w6) := Lib.hid (grow_trans G.out hB); clear hB))
                              go_roundw
                              case rel => exact ⟨n' + 2, true, s1, by go_num, rfl, fun h => by first | (cases h; done) | omega, by omega, .inl rfl, m, m2, q, r20, r21, G.out⟩
                              case measure => simp [agM, intOf]; omega
                      · have dB : decide ((l2 : Int) ≤ (n' : Int) + 1) = true := decide_eq_true (by omega)
                        clear hin2
                        as_aux_lemma =>
                          have TS := Lib.hid (fun y hx hy => take_any a b s' (TK.out s' hs2).1 ((i : Int) + 1) x x cs y hx hy HBS.out)
                          rw [(TK.out s' hs2).2] at TS
                          unfold cmdV repV at TS
                          simp only at TS
                          dsimp only [rCells, sCells] at *
                          rcases errV_or a Re with hE | ⟨u, hE⟩
                          all_goals
                            have CR := Lib.hid (fun (y : World) (hy : Below w.heap.size w y) => CD.out Re HTE.out.1 y hy)
                            rw [hE] at TS CR
                            clear hE
                            have HY := Lib.hid (fun v hv y h => hear_yes b3 ((i : Int) + 1) x x cs v hv Ra Rb Rs y h)
                            have HO := Lib.hid (fun v hv y h => hear_no b3 ((i : Int) + 1) x x cs v hv ((i : Int) + 1) Ra Rb Rs y h)
                            go_wp2_with (first
                              | (go_at_call 44; refine (again_no b3 ((i : Int) + 1) x x cs _ ?_).mono ?_; exact q; rintro e w2 ⟨rfl, hB⟩; replace m := m.below hB; replace m2 := m2.below hB; replace q := q.below hB; replace r20 := r20.below hB; replace r21 := r21.below hB; replace G : Hid (Below w.heap.size w w2) := Lib.hid (grow_trans G.out hB); clear hB; have hz2 := G.out.size; have c20 := r20.cell; have f20 := r20.frozen; have l20 := r20.lt; have c21 := r21.cell; have f21 := r21.frozen; have l21 := r21.lt; have cl1 := (G.out.cell (p := ⟨b4, o4 + n', none⟩) hb4).trans HL1.out)
                              | (go_at_call 28; (with_reducible refine (TS.out _ ?_ ?_).mono ?_); exact m.alloc _; exact ((HS.out.below G.out).below (grow_alloc (grow_refl _) _)).sub (by decide); rintro e w3 ⟨rfl, hL⟩; clear c20 f20 l20 c21 f21 l21 cl1; have r23 := (Known.new w2 _ _).but hL.2 (Nat.ne_of_gt m.lt); replace m := hL.1; replace m2 := (m2.alloc _).but hL.2 hbb4; replace q := (q.alloc _).but hL.2 hbb5; replace r20 := (r20.alloc _).but hL.2 n1; replace r21 := (r21.alloc _).but hL.2 n4; replace G : Hid (Below w.heap.size w w3) := Lib.hid (hL.2.below (grow_alloc G.out _) hwb.out); clear hL; have c20 := r20.cell; have f20 := r20.frozen; have l20 := r20.lt; have c21 := r21.cell; have f21 := r21.frozen; have l21 := r21.lt)
                              | (go_at_call 33; (with_reducible refine (CR.out _ (grow_alloc G.out _)).mono ?_); rintro e w4 ⟨rfl, hB⟩; clear c20 f20 l20 c21 f21 l21 r23; have hq3 := q.lt; have r27 := (Known.new w3 _ _).below hB; replace m := (m.alloc _).below hB; replace m2 := (m2.alloc _).below hB; replace q := (q.alloc _).below hB; replace r20 := (r20.alloc _).below hB; replace r21 := (r21.alloc _).below hB; replace G : Hid (Below w.heap.size w w4) := Lib.hid (grow_trans (grow_alloc G.out _) hB); clear hB; have c20 := r20.cell; have f20 := r20.frozen; have l20 := r20.lt; have c21 := r21.cell; have f21 := r21.frozen; have l21 := r21.lt; have c27 := r27.cell; have f27 := r27.frozen; have l27 := r27.lt; have s0 := trivial)
                              | (clear s0; go_at_call 46; (first | (with_reducible refine (HY.out _ (.inl rfl) _ ?_).mono ?_) | (with_reducible refine (HY.out _ (.inr ⟨u, rfl⟩) _ ?_).mono ?_)); exact q; rintro e w5 ⟨rfl, hL⟩; clear c20 f20 l20 c21 f21 l21 c27 f27 l27; replace r27 := r27.but hL.2 (Nat.ne_of_gt hq3); replace m := m.but hL.2 hbb1; replace m2 := m2.but hL.2 hbb2; replace r20 := r20.but hL.2 n3; replace r21 := r21.but hL.2 n6; replace G : Hid (Below w.heap.size w w5) := Lib.hid (hL.2.below G.out hwb3.out); replace q := hL.1; clear hL; have c27 := r27.cell; have f27 := r27.frozen; have l27 := r27.lt; have s1 := trivial)
                              | (clear s1; go_at_call 46; (first | (with_reducible refine (HO.out _ (.inl rfl) _ ?_).mono ?_) | (with_reducible refine (HO.out _ (.inr ⟨u, rfl⟩) _ ?_).mono ?_)); exact q; rintro e w6 ⟨rfl, hB⟩; clear c27 f27 l27 r27; replace m := m.below hB; replace m2 := m2.below hB; replace q := q.below hB; replace r20 := r20.below hB; replace r21 := r21.below hB; replace G : Hid (Below w.heap.size w w6) := Lib.hid (grow_trans G.out hB); clear hB))
                            go_roundw
                            case rel => exact ⟨n' + 2, true, s1, by go_num, rfl, fun h => by first | (cases h; done) | omega, by omega, .inl rfl, m, m2, q, r20, r21, G.out⟩
                            case measure => simp [agM, intOf]; omega
      · go_wp2
        go_ret
        exact ⟨rfl, G.out⟩

end Go.Proofs.YtlfpfeidaohjmaaDoor
