/- NightLogs: the law's walk. -/
import Derived.Test.YtjjjbkehmnfgbaaNl12
import Derived.Test.YtjjjbkehmnfgbaaPure
set_option linter.unusedSimpArgs false
set_option linter.unusedVariables false
namespace Go.Proofs.Ytjjjbkehmnfgbaa
open Go.RowKit Go.Grow

def r1 : Res := ⟨1, 0, 0⟩
theorem len28 : (logF 0 [r1]).length = 28 := by rw [logF_length]; rfl
/-- The log of one result, in bytes. -/
theorem bytes28 (b : Nat) (v : Value) (w : World) (hk : Known w b #[v]) (ho : w.ownsRow (b + 1) 28 3 v ([] ++ [r1]).length (rv ([] ++ [r1]))) :
    Calls Try.prog 6 #[.pointer (some ⟨b, 0, none⟩)] w fun e w' => ∃ r cap, e = .returned (.slice r 28 cap) ∧ Below w.heap.size w w' :=
  (logBytes_walk b v ([] ++ [r1]) w hk ho (by decide)).mono fun e w' ⟨v', he, ho', hb⟩ => by
    obtain ⟨_, r, cap, rfl, _⟩ := row_of_owns ho'
    rw [show ([] : List Res) ++ [r1] = [r1] from rfl, len28] at he
    exact ⟨r, cap, he, hb⟩
theorem note1 (b : Nat) (w : World) (hk : Known w b #[.slice none 0 0]) :
    Calls Try.prog 5 #[.pointer (some ⟨b, 0, none⟩), .agg #[.int .i64 1, .int .i64 0, .int .i64 0]] w fun e w' => e = .returned (.tuple #[]) ∧
      ∃ v', Known w' b #[v'] ∧ w'.ownsRow (b + 1) 28 3 v' ([] ++ [r1]).length (rv ([] ++ [r1])) ∧ Below b w w' :=
  note_walk b (.slice none 0 0) [] r1 w hk (World.ownsRow_nil _ _ _ _) (by decide)

set_option maxRecDepth 100000 in
set_option maxHeartbeats 8000000 in
theorem logs_long (r1 r2 : Option Addr) (n1 n2 c1 c2 : Nat) (cut : Int) (w : World) (hlong : 60 < n1 ∨ 2000 < n2) :
    Calls Try.prog 3 #[.slice r1 n1 c1, .slice r2 n2 c2, .int .i64 cut] w fun e w' => e = .returned (.bool true) ∧ Below w.heap.size w w' := by
  by_cases h1 : 60 < n1
  all_goals
    have s0 := trivial
    go_enter Try.func3, Try.ntmps3
    go_wp2_with (first
      | (go_at_call 4; refine (newLog_walk w).mono ?_; rintro e w1 ⟨rfl, hw1⟩; have K1 := Lib.hid (show Known w1 w.heap.size #[.slice none 0 0] by rw [hw1]; exact Known.new w _ _); have G1 := Lib.hid (show Below w.heap.size w w1 by rw [hw1]; exact grow_alloc (grow_refl w) _); clear hw1)
      | (go_at_call 5; refine (note1 w.heap.size _ K1.out).mono ?_; rintro e w2 ⟨rfl, v2, hk2, ho2, hb2⟩; have K2 := Lib.hid hk2; have O2 := Lib.hid ho2; have G2 := Lib.hid (G1.out.trans hb2); clear hk2 ho2 hb2 K1 G1)
      | (clear s0; go_at_call 6; refine (bytes28 w.heap.size v2 _ K2.out O2.out).mono ?_; rintro e w3 ⟨r3, c3, rfl, hb3⟩; have K3 := Lib.hid (K2.out.below hb3); have O3 := Lib.hid (ownsRow_below O2.out hb3); have G3 := Lib.hid (G2.out.trans (hb3.mono G2.out.size)); clear hb3 K2 O2 G2; have s1 := trivial)
      | (clear s1; go_at_call 6; refine (bytes28 w.heap.size v2 _ K3.out O3.out).mono ?_; rintro e w4 ⟨r4, c4, rfl, hb4⟩; have G4 := Lib.hid (G3.out.trans (hb4.mono G3.out.size)); clear hb4 K3 O3 G3))
    go_ret
    exact ⟨rfl, G4.out⟩

theorem row_cap {w : World} {base n m cap : Nat} {r : Option Addr} {xs : List Value} {e : TypeId} {size : Nat} (h : w.ownsRow base e size (.slice r m cap) n xs) : n ≤ cap ∧ cap ≤ maxLen ∧ ∀ a, r = some a → ∃ g, a = ⟨g, 0, none⟩ := by
  obtain ⟨_, ⟨hv, hn⟩ | ⟨g, c, cur, hv, _, _, h1, h2, _⟩⟩ := h
  · cases hv; subst hn; exact ⟨Nat.le_refl _, Nat.zero_le _, fun a h => by cases h⟩
  · cases hv; exact ⟨h1, h2, fun a h => by cases h; exact ⟨g, rfl⟩⟩
def NotesRel (w : World) (l : List Res) (gb : Nat) (v8 : Value) (wr : World) : Prop :=
  ∃ (k : Nat) (vg : Value), k ≤ l.length ∧ v8 = .int .i64 k ∧ Known wr gb #[vg] ∧ wr.ownsRow (gb + 1) 28 3 vg (l.take k).length (rv (l.take k)) ∧ Below w.heap.size w wr

set_option maxRecDepth 100000 in
set_option maxHeartbeats 8000000 in
theorem logs_short (r1 r2 : Option Addr) (l : List Res) (B : List Nat) (c1 c2 : Nat) (cut : Int) (w : World) (h1 : l.length ≤ 60) (h2 : B.length ≤ 2000) (hr1 : ResAt w r1 l) (hok : ∀ r ∈ l, r.ok) (hc1 : l.length ≤ c1) (hc1m : c1 ≤ 9223372036854775807)
    (hr2 : 28 ≤ B.length → ∃ b o, r2 = some ⟨b, o, none⟩ ∧ b < w.heap.size ∧ Bytes w b o B) (hc2 : B.length ≤ c2) (hc2m : c2 ≤ 9223372036854775807) :
    Calls Try.prog 3 #[.slice r1 l.length c1, .slice r2 B.length c2, .int .i64 cut] w fun e w' => e = .returned (.bool true) ∧ Below w.heap.size w w' := by
  have HR1 := Lib.hid hr1
  have HR2 := Lib.hid hr2
  have HOK := Lib.hid hok
  clear hr1 hr2 hok
  have s0 := trivial
  go_enter Try.func3, Try.ntmps3
  go_wp2_with (first
      | (clear s0; go_at_call 4; refine (newLog_walk w).mono ?_; rintro e w1 ⟨rfl, hw1⟩; have K1 := Lib.hid (show Known w1 w.heap.size #[.slice none 0 0] by rw [hw1]; exact Known.new w _ _); have G1 := Lib.hid (show Below w.heap.size w w1 by rw [hw1]; exact grow_alloc (grow_refl w) _); clear hw1; have s1 := trivial)
      | (go_at_call 5; refine (note1 w.heap.size _ K1.out).mono ?_; rintro e w2 ⟨rfl, v2, hk2, ho2, hb2⟩; have K2 := Lib.hid hk2; have O2 := Lib.hid ho2; have G2 := Lib.hid (G1.out.trans hb2); clear hk2 ho2 hb2 K1 G1)
      | (go_at_call 6; refine (bytes28 w.heap.size v2 _ K2.out O2.out).mono ?_; rintro e w3 ⟨r3, c3, rfl, hb3⟩; have G3 := Lib.hid (G2.out.trans (hb3.mono G2.out.size)); clear hb3 K2 O2 G2)
      | (clear s1; go_at_call 4; refine (newLog_walk _).mono ?_; rintro e w4 ⟨rfl, hw4⟩; have K4 := Lib.hid (show Known w4 w3.heap.size #[.slice none 0 0] by rw [hw4]; exact Known.new w3 _ _); have G4 := Lib.hid (show Below w.heap.size w w4 by rw [hw4]; exact G3.out.trans ((grow_alloc (grow_refl w3) _).mono G3.out.size)); have hgb := G3.out.size; clear hw4 G3))
  obtain ⟨gb, hgbe⟩ : ∃ gb, w3.heap.size = gb := ⟨_, rfl⟩
  rw [hgbe] at K4 hgb ⊢
  clear hgbe
  go_loopw [8] (fun v8 wr => NotesRel w l gb v8 wr) (fun i _ => l.length - (intOf i).toNat)
  case atStart => exact ⟨0, _, Nat.zero_le _, rfl, K4.out, World.ownsRow_nil _ _ _ _, G4.out⟩
  case round =>
    clear K4 G4
    obtain ⟨k, vg, hk, rfl, hkn, hown, hg⟩ := hrel
    have K := Lib.hid hkn
    have O := Lib.hid hown
    have G := Lib.hid hg
    clear hkn hown hg
    have hz := G.out.size
    by_cases hlt : k < l.length
    · obtain ⟨b1, o1, rfl, hc⟩ := HR1.out.resolve_left (by intro h; rw [h] at hlt; exact absurd hlt (by simp))
      obtain ⟨e0, e1, e2⟩ := hc k hlt
      have hb1 : b1 < w.heap.size := lt_of_cell e0
      rw [← G.out.cell (p := ⟨b1, _, none⟩) hb1] at e0 e1 e2
      have TS := Lib.hid (take_snocR l k hlt)
      clear hc
      generalize l[k] = x at *
      have hb1' : b1 < wr.heap.size := Nat.lt_of_lt_of_le hb1 hz
      go_wp2
      refine Grow.wp_region_over_tail 17 (by kernel_rfl) (by kernel_rfl) ?_
      simp only [List.take_succ_cons, List.take_zero, List.drop_succ_cons, List.drop_zero]
      repeat (go_big_quiet_step (fail))
      refine wpQuiet_nil ?_
      intro x9 hz9
      have KX := Lib.hid (K.out.below (below_over wr x9))
      have OX := Lib.hid (ownsRow_below O.out (below_over wr x9))
      have GX := Lib.hid (G.out.trans ((below_over wr x9).mono hz))
      clear K O G e0 e1 e2
      generalize over wr x9 = w4 at *
      go_wp2_with (go_at_call 5; refine (note_walk gb vg (l.take k) x w4 KX.out OX.out (by rw [List.length_take]; omega)).mono ?_; rintro e w5 ⟨rfl, vg', hk', ho', hB'⟩; have HK5 := Lib.hid hk'; have HO5 := Lib.hid ho'; have HB5 := Lib.hid (GX.out.trans (hB'.mono hgb)); clear hk' ho' hB')
      go_roundw
      case rel => exact ⟨k + 1, vg', by omega, by go_num, HK5.out, by rw [TS.out]; exact HO5.out, HB5.out⟩
      case measure => simp [intOf]; omega
    · obtain rfl : k = l.length := by omega
      rw [List.take_length] at O
      have SL := Lib.hid (small_logF 0 l)
      have LL := Lib.hid (logF_length 0 l)
      have LW := Lib.hid (fun x (hx : Below w.heap.size w x) => logOf_walk r1 l c1 x (by
        rcases HR1.out with h | ⟨b, o, rfl, hc⟩
        · exact .inl h
        · exact .inr ⟨b, o, rfl, fun k hk => by
            obtain ⟨e0, e1, e2⟩ := hc k hk
            have hb : b < w.heap.size := lt_of_cell e0
            exact ⟨by rw [hx.cell (p := ⟨b, _, none⟩) hb]; exact e0, by rw [hx.cell (p := ⟨b, _, none⟩) hb]; exact e1, by rw [hx.cell (p := ⟨b, _, none⟩) hb]; exact e2⟩⟩) (by omega))
      have RW := Lib.hid (fun x (hx : Below w.heap.size w x) => recover_walk r2 B c2 x hc2 hc2m (fun h => by
        obtain ⟨b, o, e, hb, hy⟩ := HR2.out h
        exact ⟨b, o, e, Nat.lt_of_lt_of_le hb hx.size, hy.below hx hb⟩) (by omega))
      have SW := Lib.hid (fun x (hx : Below w.heap.size w x) => resultsOf_walk r2 B c2 x hc2 hc2m (fun h => by
        obtain ⟨b, o, e, hb, hy⟩ := HR2.out h
        exact ⟨b, o, e, Nat.lt_of_lt_of_le hb hx.size, hy.below hx hb⟩) (by omega))
      have RA := Lib.hid (fun x (hx : Below w.heap.size w x) (n : Nat) => show ResAt x r1 (l.take n) by
        rcases HR1.out with h | ⟨b, o, rfl, hc⟩
        · exact .inl (by rw [h]; simp)
        · exact .inr ⟨b, o, rfl, fun k hk => by
            rw [List.length_take] at hk
            obtain ⟨e0, e1, e2⟩ := hc k (by omega)
            have hb : b < w.heap.size := lt_of_cell e0
            simp only [List.getElem_take]
            exact ⟨by rw [hx.cell (p := ⟨b, _, none⟩) hb]; exact e0, by rw [hx.cell (p := ⟨b, _, none⟩) hb]; exact e1, by rw [hx.cell (p := ⟨b, _, none⟩) hb]; exact e2⟩⟩)
      have LB := Lib.hid (fun b v x hk ho => logBytes_walk b v l x hk ho (by omega))
      have RL := Lib.hid (fun cut (h : cut ≤ 28 * l.length) => recF_log l HOK.out 0 cut h cut (Nat.le_refl _))
      have RLEN := Lib.hid (recF_len B.length 0 B)
      generalize hLL : logF 0 l = L at *
      generalize hRR : recF B.length 0 B = R at *
      clear hLL hRR
      have s0 := trivial
      go_wp2_with (first
        | (clear s0; go_at_call 6; refine (LB.out gb vg _ K.out O.out).mono ?_; rintro e wa ⟨va, rfl, hoa, hba⟩; obtain ⟨hd, rx, cx, rfl, hrx, hrxb⟩ := row_of_owns hoa; obtain ⟨hcx, hcxm, hra⟩ := row_cap hoa; have HRA := Lib.hid hra; unfold maxLen at hcxm; clear hd hoa hra; have HX := Lib.hid hrx; have HXB := Lib.hid hrxb; have KA := Lib.hid (K.out.below hba); have OA := Lib.hid (ownsRow_below O.out hba); have GA := Lib.hid (G.out.trans (hba.mono hz)); clear hrx hrxb hba K O G; have s1 := trivial)
        | (clear s1; go_at_call 7; refine (LW.out _ GA.out).mono ?_; rintro e wb ⟨vb, rfl, hob, hbb⟩; obtain ⟨hd, ry, cy, rfl, hry, hryb⟩ := row_of_owns hob; clear hd hob; have HY := Lib.hid hry; have HYB := Lib.hid hryb; have HX2 := Lib.hid (HX.out.below hbb (fun a h => (HXB.out a h).2)); have hxl := fun a h => Nat.lt_of_lt_of_le (HXB.out a h).2 hbb.size; have HXL := Lib.hid hxl; have KB := Lib.hid (KA.out.below hbb); have OB := Lib.hid (ownsRow_below OA.out hbb); have GB := Lib.hid (GA.out.trans (hbb.mono GA.out.size)); clear hry hryb hbb hxl KA OA GA HX HXB; have s2 := trivial)
        | (clear s2; go_at_call 9; refine (results_walk gb vg l _ KB.out OB.out (by omega)).mono ?_; rintro e wc ⟨vc, rfl, hoc, hbc⟩; obtain ⟨hd, rz, cz, rfl, hrz, hrzb⟩ := res_of_owns hoc; clear hd hoc hrzb; have HZ := Lib.hid hrz; have HX3 := Lib.hid (HX2.out.below hbc (fun a h => HXL.out a h)); have HY3 := Lib.hid (HY.out.below hbc (fun a h => (HYB.out a h).2)); have hxl := fun a h => Nat.lt_of_lt_of_le (HXL.out a h) hbc.size; have hyl := fun a h => Nat.lt_of_lt_of_le (HYB.out a h).2 hbc.size; have HXL3 := Lib.hid hxl; have HYL3 := Lib.hid hyl; have GC := Lib.hid (GB.out.trans (hbc.mono GB.out.size)); clear hrz hbc hxl hyl KB OB GB HX2 HY HYB HXL; have s3 := trivial)
        | (clear s3; go_at_call 8; refine (same_walk rz r1 l cz c1 _ HZ.out (by have h := RA.out _ GC.out l.length; rwa [List.take_length] at h) (by omega)).mono ?_; rintro e wd ⟨rfl, hbd⟩; have hx4 := HX3.out.below hbd (fun a h => HXL3.out a h); have hy4 := HY3.out.below hbd (fun a h => HYL3.out a h); have cvx := conv_row hx4 (fun _ => by cases rx; exact .inl rfl; exact .inr ⟨_, rfl⟩) cx; have cvy := conv_row hy4 (fun _ => by cases ry; exact .inl rfl; exact .inr ⟨_, rfl⟩) cy; have HX4 := Lib.hid hx4; have hxl := fun a h => Nat.lt_of_lt_of_le (HXL3.out a h) hbd.size; have HXL4 := Lib.hid hxl; have GD := Lib.hid (GC.out.trans (hbd.mono GC.out.size)); clear hx4 hy4 hxl hbd HX3 HY3 HXL3 HYL3 GC; have s4 := trivial))
      have hR : 28 * R.length ≤ B.length := RLEN.out
      by_cases hcut : 0 ≤ cut ∧ cut ≤ (L.length : Int)
      · obtain ⟨cn, rfl⟩ : ∃ cn : Nat, (cn : Int) = cut := ⟨cut.toNat, by omega⟩
        have hcn : cn ≤ L.length := by omega
        clear hcut
        go_wp2_with (first
          | (clear s4; go_at_call 10; (with_reducible refine (RW.out _ GD.out).mono ?_); rintro e we ⟨ge, ve, hge, rfl, hke, hoe, hbe⟩; have KE := Lib.hid hke; have OE := Lib.hid hoe; have GE := Lib.hid (GD.out.trans (hbe.mono GD.out.size)); have HX5 := Lib.hid (HX4.out.below hbe (fun a h => HXL4.out a h)); have hxl := fun a h => Nat.lt_of_lt_of_le (HXL4.out a h) hbe.size; have HXL5 := Lib.hid hxl; clear hke hoe hbe hxl GD HX4 HXL4; have s5 := trivial)
          | (clear s5; go_at_call 11; (with_reducible refine (SW.out _ GE.out).mono ?_); rintro e wf ⟨vf, rfl, hof, hbf⟩; obtain ⟨hd, rf, cf, rfl, hrf, hrfb⟩ := res_of_owns hof; clear hd hof; have HF := Lib.hid hrf; have HFB := Lib.hid hrfb; have KF := Lib.hid (KE.out.below hbf); have OF := Lib.hid (ownsRow_below OE.out hbf); have GF := Lib.hid (GE.out.trans (hbf.mono GE.out.size)); have HX6 := Lib.hid (HX5.out.below hbf (fun a h => HXL5.out a h)); have hxl := fun a h => Nat.lt_of_lt_of_le (HXL5.out a h) hbf.size; have HXL6 := Lib.hid hxl; clear hrf hrfb hbf hxl KE OE GE HX5 HXL5; have s6 := trivial)
          | (clear s6; go_at_call 9; refine (results_walk ge ve R _ KF.out OF.out (by omega)).mono ?_; rintro e wg ⟨vg2, rfl, hog, hbg⟩; obtain ⟨hd, rg, cg, rfl, hrg, hrgb⟩ := res_of_owns hog; clear hd hog hrgb; have HG2 := Lib.hid hrg; have HF2 := Lib.hid (HF.out.below hbg (fun a h => (HFB.out a h).2)); have GG := Lib.hid (GF.out.trans (hbg.mono GF.out.size)); have HX7 := Lib.hid (HX6.out.below hbg (fun a h => HXL6.out a h)); have hxl := fun a h => Nat.lt_of_lt_of_le (HXL6.out a h) hbg.size; have HXL7 := Lib.hid hxl; clear hrg hbg hxl HF HFB KF OF GF HX6 HXL6; have s7 := trivial)
          | (clear s7; go_at_call 8; refine (same_walk rg rf R cg cf _ HG2.out HF2.out (by omega)).mono ?_; rintro e wh ⟨rfl, hbh⟩; have GH := Lib.hid (GG.out.trans (hbh.mono GG.out.size)); have HX8 := Lib.hid (HX7.out.below hbh (fun a h => HXL7.out a h)); have hxl := fun a h => Nat.lt_of_lt_of_le (HXL7.out a h) hbh.size; have HXL8 := Lib.hid hxl; clear hbh hxl HG2 HF2 GG HX7 HXL7; have s8 := trivial))
        have hT : (L.take cn).length = cn := by rw [List.length_take]; omega
        have hN : (l.take (cn / 28)).length = cn / 28 := by rw [List.length_take]; have := LL.out; omega
        have RL2 := Lib.hid (show recF cn 0 (L.take cn) = l.take (cn / 28) from RL.out cn (by have := LL.out; omega))
        have RX := Lib.hid (show Calls Try.prog 10 #[.slice rx cn cx] wh (RecPost wh (l.take (cn / 28))) by
          have h := recover_walk rx (L.take cn) cx wh (by omega) hcxm (fun h => by
            rcases HX8.out with h0 | ⟨b, o, e, hc⟩
            · rw [h0] at hT h; simp at h
            · exact ⟨b, o, e, HXL8.out _ e, (⟨hc, SL.out⟩ : Bytes wh b o L).take cn⟩) (by have := LL.out; omega)
          rw [hT, RL2.out] at h
          exact h)
        have RN := Lib.hid (RA.out · · (cn / 28))
        obtain ⟨d, hd⟩ : ∃ d, cn / 28 = d := ⟨_, rfl⟩
        have hq : ((cn : Int) / 28) = (d : Int) := by omega
        have hdl : d ≤ l.length := by have := LL.out; omega
        rw [hd] at hN RX RN
        clear RL2
        generalize hlr : l.take d = lr at hN RX RN
        have hdc : (d : Int) ≤ (c1 : Int) := by omega
        clear hd hlr
        go_wp2_with (go_at_call 10; (with_reducible refine RX.out.mono ?_); rintro e wi ⟨gi, vi, hgi, rfl, hki, hoi, hbi⟩; rw [hN]; have KI := Lib.hid hki; have OI := Lib.hid hoi; have GI := Lib.hid (GH.out.trans (hbi.mono GH.out.size)); clear hki hoi hbi)
        clear RW SW RL HX8 HXL8 HRA
        have K2 := Lib.hid (KI.out.drew)
        have O2 := Lib.hid (ownsRow_below OI.out (grow_drew (grow_refl wi)))
        have G2 := Lib.hid (Below.drew GI.out)
        clear KI OI GI
        refine Grow.wp_region_pure [0, 1, 2, 3, 4, 5, 6, 7, 8, 9, 11, 12, 13] [10, 14, 15, 16] (by kernel_rfl) (by kernel_rfl) (by kernel_rfl) (by kernel_rfl) (by kernel_rfl) (fun c a dd v ww h => by
          simp only [Exit.then] at h ⊢
          exact Grow.bodyPost_blind (P := Try.prog) (fn := Try.f3) (R := fun e w' => e = .returned (.bool true) ∧ Below w.heap.size w w') h) ?_
        simp only [Grow.pick, List.getElem?_cons_zero, List.getElem?_cons_succ, List.cons_append, List.nil_append]
        repeat (go_big_quiet_step (fail))
        refine wpQuiet_nil ?_
        generalize wi.drew = wk at *
        go_wp2_with (first
          | (go_at_call 9; refine (results_walk gi vi lr _ K2.out O2.out (by omega)).mono ?_; rintro e wj ⟨vj, rfl, hoj, hbj⟩; obtain ⟨hd, rj, cj, rfl, hrj, hrjb⟩ := res_of_owns hoj; clear hd hoj hrjb; have HJ := Lib.hid hrj; have GJ := Lib.hid (G2.out.trans (hbj.mono G2.out.size)); clear hrj hbj K2 O2 G2)
          | (go_at_call 8; rw [← hN]; refine (same_walk rj r1 lr cj c1 _ HJ.out (RN.out _ GJ.out) (by omega)).mono ?_; rintro e wm ⟨rfl, hbm⟩; have GM := Lib.hid (GJ.out.trans (hbm.mono GJ.out.size)); clear hbm))
        go_ret
        exact ⟨rfl, GM.out⟩
      · rcases (show cut < 0 ∨ (L.length : Int) < cut by omega) with hc | hc
        all_goals
          clear hcut
          go_wp2_with (first
          | (clear s4; go_at_call 10; (with_reducible refine (RW.out _ GD.out).mono ?_); rintro e we ⟨ge, ve, hge, rfl, hke, hoe, hbe⟩; have KE := Lib.hid hke; have OE := Lib.hid hoe; have GE := Lib.hid (GD.out.trans (hbe.mono GD.out.size)); have HX5 := Lib.hid (HX4.out.below hbe (fun a h => HXL4.out a h)); have hxl := fun a h => Nat.lt_of_lt_of_le (HXL4.out a h) hbe.size; have HXL5 := Lib.hid hxl; clear hke hoe hbe hxl GD HX4 HXL4; have s5 := trivial)
          | (clear s5; go_at_call 11; (with_reducible refine (SW.out _ GE.out).mono ?_); rintro e wf ⟨vf, rfl, hof, hbf⟩; obtain ⟨hd, rf, cf, rfl, hrf, hrfb⟩ := res_of_owns hof; clear hd hof; have HF := Lib.hid hrf; have HFB := Lib.hid hrfb; have KF := Lib.hid (KE.out.below hbf); have OF := Lib.hid (ownsRow_below OE.out hbf); have GF := Lib.hid (GE.out.trans (hbf.mono GE.out.size)); have HX6 := Lib.hid (HX5.out.below hbf (fun a h => HXL5.out a h)); have hxl := fun a h => Nat.lt_of_lt_of_le (HXL5.out a h) hbf.size; have HXL6 := Lib.hid hxl; clear hrf hrfb hbf hxl KE OE GE HX5 HXL5; have s6 := trivial)
          | (clear s6; go_at_call 9; refine (results_walk ge ve R _ KF.out OF.out (by omega)).mono ?_; rintro e wg ⟨vg2, rfl, hog, hbg⟩; obtain ⟨hd, rg, cg, rfl, hrg, hrgb⟩ := res_of_owns hog; clear hd hog hrgb; have HG2 := Lib.hid hrg; have HF2 := Lib.hid (HF.out.below hbg (fun a h => (HFB.out a h).2)); have GG := Lib.hid (GF.out.trans (hbg.mono GF.out.size)); have HX7 := Lib.hid (HX6.out.below hbg (fun a h => HXL6.out a h)); have hxl := fun a h => Nat.lt_of_lt_of_le (HXL6.out a h) hbg.size; have HXL7 := Lib.hid hxl; clear hrg hbg hxl HF HFB KF OF GF HX6 HXL6; have s7 := trivial)
          | (clear s7; go_at_call 8; refine (same_walk rg rf R cg cf _ HG2.out HF2.out (by omega)).mono ?_; rintro e wh ⟨rfl, hbh⟩; have GH := Lib.hid (GG.out.trans (hbh.mono GG.out.size)); have HX8 := Lib.hid (HX7.out.below hbh (fun a h => HXL7.out a h)); have hxl := fun a h => Nat.lt_of_lt_of_le (HXL7.out a h) hbh.size; have HXL8 := Lib.hid hxl; clear hbh hxl HG2 HF2 GG HX7 HXL7; have s8 := trivial))
          go_ret
          exact ⟨rfl, GH.out⟩
end Go.Proofs.Ytjjjbkehmnfgbaa
