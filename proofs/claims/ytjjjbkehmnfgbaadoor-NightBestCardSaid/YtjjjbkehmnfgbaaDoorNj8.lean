/- The night's plans: whether slots are a plan, the document's. -/
import Derived.Test.YtjjjbkehmnfgbaaDoorNj7
set_option linter.unusedSimpArgs false
set_option linter.unusedVariables false
namespace Go.Proofs.YtjjjbkehmnfgbaaDoor
open Go.RowKit Go.Grow Go.Night

def idxN (l : List Jb) (s : ByteArray) (n : Nat) : Int := match idxUp l s n with
  | none => -1
  | some k => k
def longN (l : List Jb) (s : ByteArray) (n : Nat) : Int := match idxUp l s n with
  | none => 0
  | some k => (at_ l k).long
theorem idxN_hit {l : List Jb} {s : ByteArray} {n : Nat} (h : (at_ l n).name = s) : idxN l s (n + 1) = n := by unfold idxN idxUp; rw [if_pos h]
theorem idxN_miss {l : List Jb} {s : ByteArray} {n : Nat} (h : (at_ l n).name ≠ s) : idxN l s (n + 1) = idxN l s n := by unfold idxN; rw [idxUp, if_neg h]
theorem longN_hit {l : List Jb} (ha : Apart l) {s : ByteArray} {n : Nat} (hn : n < l.length) (h : (at_ l n).name = s) : longN l s (n + 1) = longN l s n + (at_ l n).long := by
  unfold longN
  rw [idxUp, if_pos h]
  cases e : idxUp l s n with
  | none => simp
  | some k =>
    obtain ⟨h1, h2⟩ := idxUp_some e
    have := ha k n (by omega) hn (h2.trans h.symm)
    omega
theorem longN_miss {l : List Jb} {s : ByteArray} {n : Nat} (h : (at_ l n).name ≠ s) : longN l s (n + 1) = longN l s n := by unfold longN; rw [idxUp, if_neg h]
theorem longN_in {l : List Jb} (hF : Fine l) {s : ByteArray} {n : Nat} (hn : n ≤ l.length) : 0 ≤ longN l s n ∧ longN l s n ≤ 1099511627776 := by
  unfold longN
  cases e : idxUp l s n with
  | none => simp
  | some k =>
    obtain ⟨h1, h2⟩ := idxUp_some e
    have := hF.long _ (at_mem (show k < l.length by omega))
    simp only; omega
set_option maxRecDepth 100000 in
set_option maxHeartbeats 16000000 in
theorem worthOf_walk (r r2 : Option Addr) (l : List Jb) (p : List Sl) (cap cap2 : Nat) (w : World) (hl : l.length ≤ 1000000) (hw : ∀ j ∈ l, j.win.length ≤ 4000) (hr : JobsAt w r l) (hF : Fine l)
    (hp : p.length ≤ 1000000) (hr2 : SlotsAt w r2 p) :
    Calls Tryd.prog 14 #[.slice r l.length cap, .slice r2 p.length cap2] w fun e w' => e = .returned (.tuple #[.int .i64 (planW l p), .bool (planB l p)]) ∧ Below w.heap.size w w' := by
  have HF := Lib.hid hF
  have HR := Lib.hid hr
  have HR2 := Lib.hid hr2
  have HW := Lib.hid hw
  clear hr hr2 hw hF
  go_enter Tryd.func14, Tryd.ntmps14
  go_wp2
  go_loopw [6, 7] (fun v6 v7 wr => ∃ i : Nat, i ≤ p.length ∧ v6 = .int .i64 (worthUp l p i) ∧ v7 = .int .i64 i ∧ Hid (planUp l p i = true) ∧ Below w.heap.size w wr) (fun _ i _ => p.length - (intOf i).toNat)
  case atStart => exact ⟨0, Nat.zero_le _, rfl, rfl, Lib.hid rfl, grow_refl _⟩
  case round =>
    obtain ⟨i, hi, rfl, rfl, HI, hg⟩ := hrel
    have G := Lib.hid hg
    clear hg
    by_cases hlt : i < p.length
    · obtain ⟨b2, o2, rfl, hc⟩ := HR2.out.resolve_left (by intro h; rw [h] at hlt; exact absurd hlt (by simp))
      have HC2 := Lib.hid hc
      obtain ⟨ei0, ei1⟩ := hc i hlt
      have hb2 : b2 < w.heap.size := lt_of_cellS ei0
      have EI0 := Lib.hid ei0
      have EI1 := Lib.hid ei1
      have hi0 : (0 : Int) ≤ (i : Int) := by omega
      have hi1 : (i : Int) < (p.length : Int) := by omega
      have HBAD := Lib.hid (fun (h : okSlot l p i = false) => planB_false hlt h)
      have HUP := Lib.hid (fun (h : okSlot l p i = true) => show planUp l p (i + 1) = true by rw [planUp, HI.out, h]; rfl)
      have HOK := Lib.hid (show okSlot l p i = match idx l (sl p i).name with
        | none => false
        | some k => inWin (at_ l k) (sl p i).frm && !clashUp l p i i from rfl)
      have HWI := worthUp_in HF.out i HI.out
      have HWS := Lib.hid (fun j (h : idx l (sl p i).name = some j) => worthUp_some h)
      have HCL := Lib.hid (fun n (h1 : (sl p n).name ≠ (sl p i).name) (h2 : ¬ (sl p i).frm < endAt l p n) (h3 : clashUp l p i n = false) => show clashUp l p i (n + 1) = false by
        rw [clashUp, h3, clash, decide_eq_false h1, decide_eq_false h2]; rfl)
      have HCT1 := Lib.hid (fun n (hn : n < i) (h1 : (sl p n).name = (sl p i).name) => show clashUp l p i i = true from clashUp_true hn (by rw [clash, decide_eq_true h1]; rfl))
      have HCT2 := Lib.hid (fun n (hn : n < i) (h1 : (sl p i).frm < endAt l p n) => show clashUp l p i i = true from clashUp_true hn (by rw [clash, decide_eq_true h1, Bool.or_true]))
      have HPL := Lib.hid (fun n (hn : n < i) => plan_at HF.out HI.out hn)
      clear hc ei0 ei1
      obtain ⟨⟨nm, f⟩, hsl⟩ : ∃ x, sl p i = x := ⟨_, rfl⟩
      rw [hsl] at EI0 EI1 HOK HWS HCL HCT1 HCT2
      simp only at EI0 EI1 HOK HWS HCL HCT1 HCT2
      clear hsl
      have GV := G
      clear G
      go_wp2
      go_loopw [8, 9] (fun v8 v9 wr' => ∃ n : Nat, n ≤ l.length ∧ v8 = .int .i64 (idxN l nm n) ∧ v9 = .int .i64 n ∧ Below w.heap.size w wr') (fun _ i _ => l.length - (intOf i).toNat)
      case atStart => exact ⟨0, Nat.zero_le _, rfl, rfl, GV.out⟩
      case round =>
        clear GV
        obtain ⟨n, hn, rfl, rfl, hg⟩ := hrel
        have G := Lib.hid hg
        clear hg
        by_cases hlt2 : n < l.length
        · obtain ⟨b1, o1, rfl, hc⟩ := HR.out.resolve_left (by intro h; rw [h] at hlt2; exact absurd hlt2 (by simp))
          obtain ⟨rs, cs, d0, _⟩ := hc n hlt2
          have hb1 : b1 < w.heap.size := lt_of_cellS d0
          replace d0 := (G.out.cell (p := ⟨b1, _, none⟩) hb1).trans d0
          have e0 := (G.out.cell (p := ⟨b2, _, none⟩) hb2).trans EI0.out
          have hn0 : (0 : Int) ≤ (n : Int) := by omega
          have hn1 : (n : Int) < (l.length : Int) := by omega
          have XH := Lib.hid (fun h => idxN_hit (l := l) (s := nm) (n := n) h)
          have XM := Lib.hid (fun h => idxN_miss (l := l) (s := nm) (n := n) h)
          clear hc
          generalize (at_ l n).name = nn at d0 XH XM
          clear HCL HCT1 HCT2 HPL HOK HWS HUP HBAD
          by_cases ce : nn = nm
          · have d3 : (nn.toList == nm.toList) = true := by rw [toList_dec]; exact decide_eq_true ce
            have XZ := Lib.hid (XH.out ce)
            clear XH XM ce
            go_wp2
            go_quiet (fail)
            go_wp2
            go_roundw
            case rel => exact ⟨n + 1, by omega, by rw [XZ.out], by go_num, grow_drewN G.out _⟩
            case measure => simp [intOf]; omega
          · have d3 : (nn.toList == nm.toList) = false := by rw [toList_dec]; exact decide_eq_false ce
            have XZ := Lib.hid (XM.out ce)
            clear XH XM ce
            go_wp2
            go_quiet (fail)
            go_wp2
            go_roundw
            case rel => exact ⟨n + 1, by omega, by rw [XZ.out], by go_num, grow_drewN G.out _⟩
            case measure => simp [intOf]; omega
        · obtain rfl : n = l.length := by omega
          cases hix : idx l nm with
          | none =>
            have HZ := Lib.hid (HBAD.out (by rw [HOK.out, hix]))
            rw [show idxN l nm l.length = -1 by unfold idxN; rw [show idxUp l nm l.length = none from hix]]
            clear HCL HCT1 HCT2 HPL HOK HWS HUP HBAD
            go_wp2
            go_ret2
            exact ⟨by rw [HZ.out, planW_bad HZ.out]; rfl, G.out⟩
          | some k =>
            obtain ⟨hkl, hkn⟩ := idxUp_some hix
            rw [show idxN l nm l.length = (k : Int) by unfold idxN; rw [show idxUp l nm l.length = some k from hix]]
            rw [hix] at HOK
            simp only at HOK
            have HWS2 := Lib.hid (HWS.out k hix)
            clear HWS hix hkn
            obtain ⟨b1, o1, rfl, hc⟩ := HR.out.resolve_left (by intro h; rw [h] at hkl; exact absurd hkl (by simp))
            have HC1 := Lib.hid hc
            obtain ⟨rs, cs, d0, d1, d2, d3, hsp⟩ := hc k hkl
            have hb1 : b1 < w.heap.size := lt_of_cellS d0
            have HSP := Lib.hid hsp
            have D1 := Lib.hid d1
            have D2 := Lib.hid d2
            have D3 := Lib.hid d3
            have hk0 : (0 : Int) ≤ (k : Int) := by omega
            have hk1 : (k : Int) < (l.length : Int) := by omega
            have hlong := HF.out.long _ (at_mem hkl)
            have hworth := HF.out.worth _ (at_mem hkl)
            have hwl := HW.out _ (at_mem hkl)
            have HWIN := Lib.hid (HF.out.win _ (at_mem hkl))
            unfold inWin at HOK
            clear hc d0 d1 d2 d3 hsp
            generalize at_ l k = x at HSP D1 D2 D3 hlong hworth hwl HWIN HOK HWS2
            obtain ⟨jn, wn, lg, wt⟩ := x
            simp only at HSP D1 D2 D3 hlong hworth hwl HWIN HOK HWS2
            have GV := G
            clear G
            go_wp2
            go_loopw [10, 11] (fun v10 v11 wr' => ∃ n : Nat, n ≤ wn.length ∧ v10 = .bool ((wn.take n).any (fitB lg f)) ∧ v11 = .int .i64 n ∧ Below w.heap.size w wr') (fun _ i _ => wn.length - (intOf i).toNat)
            case atStart => exact ⟨0, Nat.zero_le _, rfl, rfl, GV.out⟩
            case round =>
              clear GV
              obtain ⟨n, hn, rfl, rfl, hg⟩ := hrel
              have G := Lib.hid hg
              clear hg
              have hz := G.out.size
              have d1 := (G.out.cell (p := ⟨b1, _, none⟩) hb1).trans D1.out
              have d2 := (G.out.cell (p := ⟨b1, _, none⟩) hb1).trans D2.out
              have d3 := (G.out.cell (p := ⟨b1, _, none⟩) hb1).trans D3.out
              have e1 := (G.out.cell (p := ⟨b2, _, none⟩) hb2).trans EI1.out
              have hb1' : b1 < wr.heap.size := Nat.lt_of_lt_of_le hb1 hz
              have hb2' : b2 < wr.heap.size := Nat.lt_of_lt_of_le hb2 hz
              by_cases hlt2 : n < wn.length
              · obtain ⟨b3, o3, rfl, hc⟩ := HSP.out.resolve_left (by intro h; rw [h] at hlt2; exact absurd hlt2 (by simp))
                obtain ⟨x0, x1⟩ := hc n hlt2
                have hb3 : b3 < w.heap.size := lt_of_cellS x0
                replace x0 := (G.out.cell (p := ⟨b3, _, none⟩) hb3).trans x0
                replace x1 := (G.out.cell (p := ⟨b3, _, none⟩) hb3).trans x1
                have hb3' : b3 < wr.heap.size := Nat.lt_of_lt_of_le hb3 hz
                have hn0 : (0 : Int) ≤ (n : Int) := by omega
                have hn1 : (n : Int) < (wn.length : Int) := by omega
                have hwx := HWIN.out _ (List.getElem_mem hlt2)
                have XS := Lib.hid (show (wn.take (n + 1)).any (fitB lg f) = ((wn.take n).any (fitB lg f) || fitB lg f wn[n]) by rw [take_snocS wn n hlt2, List.any_append]; simp)
                clear hc
                generalize wn[n] = xx at x0 x1 hwx XS
                obtain ⟨xa, xb⟩ := xx
                unfold fitB at XS
                simp only at x0 x1 hwx XS
                clear HCL HCT1 HCT2 HPL HOK HUP HBAD HWIN
                generalize hib : (wn.take n).any (fun w => decide (w.1 ≤ f) && decide (f ≤ w.2 - lg)) = ib at XS
                rw [show (wn.take n).any (fitB lg f) = ib from hib]
                clear hib
                cases ib with
                | true =>
                  go_wp2
                  go_quiet (fail)
                  go_wp2
                  go_roundw
                  case rel => exact ⟨n + 1, by omega, by rw [show (wn.take (n + 1)).any (fitB lg f) = true from XS.out], by go_num, (by (repeat (with_reducible first | exact G.out | refine Grow.grow_drewN ?_ _ | refine Grow.grow_drew ?_ | refine Grow.grow_setCell ?_ ?_ _ | refine Grow.grow_alloc ?_ _)) <;> omega)⟩
                  case measure => simp [intOf]; omega
                | false =>
                  by_cases t1 : xa ≤ f
                  · have u1 : decide (xa ≤ f) = true := decide_eq_true t1
                    rw [u1] at XS
                    simp only [Bool.false_or, Bool.true_and] at XS
                    go_wp2
                    go_quiet (fail)
                    go_wp2
                    go_roundw
                    case rel => exact ⟨n + 1, by omega, by rw [show (wn.take (n + 1)).any (fitB lg f) = decide (f ≤ xb - lg) from XS.out], by go_num, (by (repeat (with_reducible first | exact G.out | refine Grow.grow_drewN ?_ _ | refine Grow.grow_drew ?_ | refine Grow.grow_setCell ?_ ?_ _ | refine Grow.grow_alloc ?_ _)) <;> omega)⟩
                    case measure => simp [intOf]; omega
                  · have u1 : decide (xa ≤ f) = false := decide_eq_false t1
                    rw [u1] at XS
                    simp only [Bool.false_or, Bool.false_and] at XS
                    go_wp2
                    go_quiet (fail)
                    go_wp2
                    go_roundw
                    case rel => exact ⟨n + 1, by omega, by rw [show (wn.take (n + 1)).any (fitB lg f) = false from XS.out], by go_num, (by (repeat (with_reducible first | exact G.out | refine Grow.grow_drewN ?_ _ | refine Grow.grow_drew ?_ | refine Grow.grow_setCell ?_ ?_ _ | refine Grow.grow_alloc ?_ _)) <;> omega)⟩
                    case measure => simp [intOf]; omega
              · obtain rfl : n = wn.length := by omega
                rw [List.take_length]
                cases hf : wn.any (fitB lg f) with
                | false =>
                  rw [hf] at HOK
                  have HZ := Lib.hid (HBAD.out HOK.out)
                  clear HCL HCT1 HCT2 HPL HOK HUP HBAD HWIN
                  go_wp2
                  go_ret2
                  exact ⟨by rw [HZ.out, planW_bad HZ.out]; rfl, G.out⟩
                | true =>
                  rw [hf, Bool.true_and] at HOK
                  have GV := G
                  clear G hf
                  go_wp2
                  go_loopw [13] (fun v13 wr' => ∃ n : Nat, n ≤ i ∧ v13 = .int .i64 n ∧ Hid (clashUp l p i n = false) ∧ Below w.heap.size w wr') (fun j _ => i - (intOf j).toNat)
                  case atStart => exact ⟨0, Nat.zero_le _, rfl, Lib.hid rfl, GV.out⟩
                  case round =>
                    clear GV
                    obtain ⟨n, hn, rfl, HO, hg⟩ := hrel
                    have G := Lib.hid hg
                    clear hg
                    have hz := G.out.size
                    have hb1' : b1 < wr.heap.size := Nat.lt_of_lt_of_le hb1 hz
                    have hb2' : b2 < wr.heap.size := Nat.lt_of_lt_of_le hb2 hz
                    by_cases hlt3 : n < i
                    · obtain ⟨n0, n1⟩ := HC2.out n (by omega)
                      have N0 := Lib.hid n0
                      replace n0 := (G.out.cell (p := ⟨b2, _, none⟩) hb2).trans n0
                      replace n1 := (G.out.cell (p := ⟨b2, _, none⟩) hb2).trans n1
                      have e0 := (G.out.cell (p := ⟨b2, _, none⟩) hb2).trans EI0.out
                      have hn0 : (0 : Int) ≤ (n : Int) := by omega
                      have hn1 : (n : Int) < (p.length : Int) := by omega
                      have XC := Lib.hid (HCL.out n)
                      have XT1 := Lib.hid (HCT1.out n hlt3)
                      have XT2 := Lib.hid (HCT2.out n hlt3)
                      have hpl := HPL.out n hlt3
                      have HEA := Lib.hid (show endAt l p n = (sl p n).frm + longN l (sl p n).name l.length from rfl)
                      generalize endAt l p n = en at XC XT2 hpl HEA
                      generalize sl p n = sn at N0 n0 n1 XC XT1 hpl HEA
                      obtain ⟨ns, fs⟩ := sn
                      simp only at N0 n0 n1 XC XT1 hpl HEA
                      by_cases ce : ns = nm
                      · have t3 : (ns.toList == nm.toList) = true := by rw [toList_dec]; exact decide_eq_true ce
                        have HZ := Lib.hid (HBAD.out (by rw [HOK.out, XT1.out ce]; rfl))
                        clear HCL HCT1 HCT2 HPL HOK HUP HBAD HWIN XC XT1 XT2 HEA
                        go_wp2
                        go_quiet (fail)
                        go_wp2
                        go_ret2
                        exact ⟨by rw [HZ.out, planW_bad HZ.out]; rfl, grow_drewN G.out _⟩
                      · have t3 : (ns.toList == nm.toList) = false := by rw [toList_dec]; exact decide_eq_false ce
                        have XC2 := Lib.hid (fun h => XC.out ce h HO.out)
                        clear XC XT1
                        go_wp2
                        go_quiet (fail)
                        go_wp2
                        have GV : Hid (Below w.heap.size w (wr.drewN nq)) := Lib.hid (grow_drewN G.out _)
                        clear G n0 n1 e0 hz hb1' hb2'
                        go_loopw [14, 15] (fun v14 v15 wr' => ∃ m : Nat, m ≤ l.length ∧ v14 = .int .i64 (fs + longN l ns m) ∧ v15 = .int .i64 m ∧ Below w.heap.size w wr') (fun _ j _ => l.length - (intOf j).toNat)
                        case atStart => exact ⟨0, Nat.zero_le _, by rw [show longN l ns 0 = 0 from rfl, Int.add_zero], rfl, GV.out⟩
                        case round =>
                          clear GV
                          obtain ⟨m, hm, rfl, rfl, hg⟩ := hrel
                          have G := Lib.hid hg
                          clear hg
                          have hlm := longN_in HF.out (s := ns) hm
                          by_cases hlt4 : m < l.length
                          · obtain ⟨rs2, cs2, m0, _, m2, _⟩ := HC1.out m hlt4
                            replace m0 := (G.out.cell (p := ⟨b1, _, none⟩) hb1).trans m0
                            replace m2 := (G.out.cell (p := ⟨b1, _, none⟩) hb1).trans m2
                            have n0 := (G.out.cell (p := ⟨b2, _, none⟩) hb2).trans N0.out
                            have hm0 : (0 : Int) ≤ (m : Int) := by omega
                            have hm1 : (m : Int) < (l.length : Int) := by omega
                            have hn0 : (0 : Int) ≤ (n : Int) := by omega
                            have hn1 : (n : Int) < (p.length : Int) := by omega
                            have hlm2 := HF.out.long _ (at_mem hlt4)
                            have XH := Lib.hid (fun h => longN_hit HF.out.apart (s := ns) hlt4 h)
                            have XM := Lib.hid (fun h => longN_miss (l := l) (s := ns) (n := m) h)
                            generalize at_ l m = jm at m0 m2 hlm2 XH XM
                            obtain ⟨mn, mw, ml, mt⟩ := jm
                            simp only at m0 m2 hlm2 XH XM
                            clear HCL HCT1 HCT2 HPL HOK HUP HBAD HWIN XC2 XT2 HEA
                            by_cases ce2 : mn = ns
                            · have t3 : (mn.toList == ns.toList) = true := by rw [toList_dec]; exact decide_eq_true ce2
                              have XZ := Lib.hid (XH.out ce2)
                              clear XH XM ce2
                              generalize longN l ns m = lm at hlm XZ ⊢
                              go_wp2
                              go_quiet (fail)
                              go_wp2
                              go_roundw
                              case rel => exact ⟨m + 1, by omega, by rw [XZ.out, Int.add_assoc], by go_num, grow_drewN G.out _⟩
                              case measure => simp [intOf]; omega
                            · have t3 : (mn.toList == ns.toList) = false := by rw [toList_dec]; exact decide_eq_false ce2
                              have XZ := Lib.hid (XM.out ce2)
                              clear XH XM ce2
                              generalize longN l ns m = lm at hlm XZ ⊢
                              go_wp2
                              go_quiet (fail)
                              go_wp2
                              go_roundw
                              case rel => exact ⟨m + 1, by omega, by rw [XZ.out], by go_num, grow_drewN G.out _⟩
                              case measure => simp [intOf]; omega
                          · obtain rfl : m = l.length := by omega
                            rw [← HEA.out]
                            have e1 := (G.out.cell (p := ⟨b2, _, none⟩) hb2).trans EI1.out
                            by_cases t5 : f < en
                            · have u5 : decide (f < en) = true := decide_eq_true t5
                              have HZ := Lib.hid (HBAD.out (by rw [HOK.out, XT2.out t5]; rfl))
                              clear HCL HCT1 HCT2 HPL HOK HUP HBAD HWIN XC2 XT2 HEA
                              go_wp2
                              go_ret2
                              exact ⟨by rw [HZ.out, planW_bad HZ.out]; rfl, G.out⟩
                            · have u5 : decide (f < en) = false := decide_eq_false t5
                              have XZ := Lib.hid (XC2.out (by first | exact t5 | omega))
                              clear HCL HCT1 HCT2 HPL HOK HUP HBAD HWIN XC2 XT2 HEA
                              go_wp2
                              go_roundw
                              case rel => exact ⟨n + 1, by omega, by go_num, XZ, G.out⟩
                              case measure => simp [intOf]; omega
                    · obtain rfl : n = i := by omega
                      have HZ := Lib.hid (HUP.out (by rw [HOK.out, HO.out]; rfl))
                      have d3 := (G.out.cell (p := ⟨b1, _, none⟩) hb1).trans D3.out
                      clear HCL HCT1 HCT2 HPL HOK HUP HBAD HWIN
                      go_wp2
                      go_roundw
                      case rel => exact ⟨n + 1, by omega, by rw [HWS2.out], by go_num, HZ, G.out⟩
                      case measure => simp [intOf]; omega
    · obtain rfl : i = p.length := by omega
      have HZ := Lib.hid (show planB l p = true from HI.out)
      have HZ2 := Lib.hid (show planW l p = worthUp l p p.length by unfold planW; rw [HZ.out]; rfl)
      go_wp2
      go_ret2
      exact ⟨by rw [HZ.out, HZ2.out]; rfl, G.out⟩
end Go.Proofs.YtjjjbkehmnfgbaaDoor
