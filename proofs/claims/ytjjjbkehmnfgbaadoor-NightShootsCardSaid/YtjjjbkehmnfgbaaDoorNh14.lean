/- The night's house: the law, the first loop. -/
import Derived.Test.YtjjjbkehmnfgbaaDoorNh15
import Derived.Deep.DeepCutAuto
import Derived.Deep.CutBlock
import Derived.Outline
set_option linter.unusedSimpArgs false
set_option linter.unusedVariables false
namespace Go.Proofs.YtjjjbkehmnfgbaaDoor
open Go.RowKit Go.Grow Go.Hs Go.Maps

def LawA (w W1 : World) (g m : Nat) (l : List Tl) (v7 v8 v9 : Value) (wr : World) : Prop :=
  ∃ k V, k ≤ l.length ∧ v9 = .int .i64 (k : Nat) ∧ wr.ownsRow W1.heap.size 9 1 v7 (fitUp l k).length (snL (namesB (fitUp l k))) ∧ wr.ownsRow W1.heap.size 80 7 v8 (fitUp l k).length (tlL (fitUp l k)) ∧ HAt wr g m (fitUp l k) V ∧ Below w.heap.size w wr ∧ W1.heap.size ≤ wr.heap.size ∧ ∀ j, j < k → Small (tl l j)
def LawC (W : World) (fs : List Tl) (x : Int) (v15 v16 v17 : Value) (wr : World) : Prop :=
  ∃ k : Nat, k ≤ fs.length ∧ v17 = .int .i64 (k : Nat) ∧ v15 = .bool (shutUp fs x k) ∧ wr.ownsRow W.heap.size 80 7 v16 (shotsUp fs k).length (tlL (shotsUp fs k)) ∧ Below W.heap.size W wr
set_option maxRecDepth 100000 in
set_option maxHeartbeats 64000000 in
theorem shoots_walk (a : Nat → Addr) (r : Option Addr) (l : List Tl) (cap : Nat) (x : Int) (w : World) (hs : Sen a allK w) (hh : Hand w) (hne : ∀ j ∈ allK, ∀ k ∈ allK, j ≠ k → a j ≠ a k)
    (hl : l.length ≤ 9223372036854775807) (hr : TsAt w r l) (hin : ∀ k, k < l.length → TlIn w (tl l k) ∧ (tl l k).name.size ≤ maxLen ∧ (tl l k).counts.length ≤ maxLen ∧ (tl l k).opens.length ≤ maxLen) :
    Calls Tryd.prog 6 #[.slice r l.length cap, .int .i64 x] w fun e w' => e = .returned (.bool true) ∧ Below w.heap.size w w' := by
  obtain ⟨i0, hi, hz0, hz1, hz2⟩ := info_parts info_sn
  have HI := Lib.hid hi
  have HZ0 := Lib.hid hz0
  have HZ1 := Lib.hid hz1
  have HZ2 := Lib.hid hz2
  obtain ⟨p0, pi, pz0, pz1, pz2⟩ := info_parts info_tl
  have PI := Lib.hid pi
  have PZ0 := Lib.hid pz0
  have PZ1 := Lib.hid pz1
  have PZ2 := Lib.hid pz2
  clear hi hz0 hz1 hz2 pi pz0 pz1 pz2
  have HSA := Lib.hid hs
  have HSF := Lib.hid (hs.sub (js := [2, 5, 10]) (by decide))
  have HH := Lib.hid hh
  have HNE := Lib.hid hne
  have HR := Lib.hid hr
  have HIN := Lib.hid hin
  have FX := Lib.hid (fun X => fixed_walk 1 1 X)
  have KF := Lib.hid (fun X => kindF_walk 1 1 X)
  have NH := Lib.hid (fun X => newHouse_walk X)
  have dk : (kPtr.toList == [112, 111, 105, 110, 116, 101, 114]) = true := by rw [ByteArray.toList_eq]; rfl
  clear hs hh hne hr hin
  by_cases h20 : 20 < l.length
  · have d20 : (20 : Int) < (l.length : Int) := by omega
    go_enter Tryd.func6, Tryd.ntmps6
    go_wp2_with (first
      | (go_at_call 30; (with_reducible refine (FX.out _).mono ?_); rintro e w1 ⟨rfl, rfl⟩)
      | (go_at_call 29; (with_reducible refine (KF.out _).mono ?_); rintro e w2 ⟨rfl, hb⟩; have B2 := Lib.hid hb; clear hb)
      | (go_at_call 31; (with_reducible refine (NH.out _).mono ?_); rintro e w3 ⟨rfl, _, hb, _⟩; have B3 := Lib.hid (grow_trans B2.out hb); clear hb))
    go_ret
    exact ⟨rfl, B3.out⟩
  · have d20 : ¬ (20 : Int) < (l.length : Int) := by omega
    go_enter Tryd.func6, Tryd.ntmps6
    go_wp2_with (first
      | (go_at_call 30; (with_reducible refine (FX.out _).mono ?_); rintro e w1 ⟨rfl, rfl⟩)
      | (go_at_call 29; (with_reducible refine (KF.out _).mono ?_); rintro e w2 ⟨rfl, hb⟩; have B2 := Lib.hid hb; clear hb)
      | (go_at_call 31; (with_reducible refine (NH.out _).mono ?_); rintro e w3 ⟨rfl, hat, hb, hz⟩; have HA3 := Lib.hid hat; have Z3 := Lib.hid hz; have Z2 := Lib.hid B2.out.size; have B3 := Lib.hid (grow_trans B2.out hb); clear hb hat hz))
    go_loopw [7, 8, 9] (fun v7 v8 v9 wr => LawA w w3 (w2.heap.size + 1) w2.heap.size l v7 v8 v9 wr) (fun _ _ i _ => l.length - (intOf i).toNat)
    case atStart => exact ⟨0, [], Nat.zero_le _, rfl, World.ownsRow_nil _ _ _ _, World.ownsRow_nil _ _ _ _, HA3.out, B3.out, Nat.le_refl _, fun j hj => absurd hj (by omega)⟩
    case round =>
      obtain ⟨k, V, hk, rfl, ho7, ho8, hat, hb, hz, hsm⟩ := hrel
      have O7 := Lib.hid ho7
      have O8 := Lib.hid ho8
      have HA := Lib.hid hat
      have G := Lib.hid hb
      have HZ := Lib.hid hz
      have SM := Lib.hid hsm
      clear ho7 ho8 hat hb hz hsm
      by_cases hlt : k < l.length
      · obtain ⟨bb, oo, rfl, hcc⟩ := HR.out.resolve_left (by intro h; rw [h] at hlt; exact absurd hlt (by simp))
        have CELL := Lib.hid (fun X (hX : Below w.heap.size w X) => ts_get (fun j u hu => (hX.cell (p := ⟨bb, oo + j, none⟩) (lt_of_cellS (hcc j u hu))).trans (hcc j u hu)) hlt)
        clear hcc
        have hi0 : (0 : Int) ≤ (k : Int) := by omega
        have hi1 : (k : Int) < (l.length : Int) := by omega
        obtain ⟨hti, hn1, hn2, hn3⟩ := HIN.out k hlt
        have TI := Lib.hid hti
        have N1 := Lib.hid hn1
        have FU := Lib.hid (show fitUp l (k + 1) = fitL (fitUp l k) (tl l k) from rfl)
        have SMN := Lib.hid (fun (h : Small (tl l k)) j (hj : j < k + 1) => show Small (tl l j) from by
          by_cases he : j < k
          · exact SM.out j he
          · obtain rfl : j = k := by omega
            exact h)
        have hfl := (fitUp_len l k).1
        generalize hfu : fitUp l (k + 1) = fs' at *
        have HFU := Lib.hid hfu
        clear hti hn1 hfu
        generalize tl l k = t at *
        generalize fitUp l k = fs at *
        obtain ⟨e0, e1, e2, e3, e4, e5, e6⟩ := CELL.out wr G.out
        have lb : bb < wr.heap.size := lt_of_cellS e0
        by_cases s1 : 100 < t.name.size
        · have d1 : (100 : Int) < (t.name.size : Int) := by omega
          go_wp2
          go_ret
          exact ⟨rfl, G.out⟩
        · have d1 : ¬ (100 : Int) < (t.name.size : Int) := by omega
          by_cases s2 : 100 < t.counts.length
          · have d2 : (100 : Int) < (t.counts.length : Int) := by omega
            go_wp2
            go_ret
            exact ⟨rfl, G.out⟩
          · have d2 : ¬ (100 : Int) < (t.counts.length : Int) := by omega
            by_cases s3 : 30 < t.opens.length
            · have d3 : (30 : Int) < (t.opens.length : Int) := by omega
              go_wp2
              go_ret
              exact ⟨rfl, G.out⟩
            · have d3 : ¬ (30 : Int) < (t.opens.length : Int) := by omega
              have hsmt : Small t := ⟨by omega, by omega, by omega⟩
              have TW : Hid (∀ X, Below w.heap.size w X → Calls Tryd.prog 32 #[.agg #[.string t.name, .int .i64 t.kind, .int .i64 t.wide, .int .i64 t.high, .slice t.cr t.counts.length t.cc, .slice t.sr t.opens.length t.sc, .int .i64 t.alt]] X fun e w' => ToolPost t X e w') := Lib.hid (fun X hX => tool_walk t X (by omega) (by omega) (TI.out.below hX))
              have KO := Lib.hid (fun X y (h : InsAt X t y) => kindOf_walk t y X h)
              go_upto_region 16 with (first
                | (go_at_call 32; (with_reducible refine (TW.out _ G.out).mono ?_); rintro e4 w4 ⟨y, rfl, hiy, hb⟩; have G4 := Lib.hid (G.out.trans (hb.mono G.out.size)); have Y4 := Lib.hid hiy; have P4 := Lib.hid hb; clear hb hiy)
                | (go_at_call 29; (with_reducible refine (KO.out _ _ Y4.out).mono ?_); rintro e5 w5 ⟨rfl, hb⟩; have Y5 := Lib.hid (Y4.out.below hb); have P5 := Lib.hid (grow_trans P4.out hb); have G5 := Lib.hid (G4.out.trans (hb.mono G4.out.size)); clear hb Y4 G4 P4))
              obtain ⟨r7, c7, rfl, hc7⟩ := names_of_owns O7.out
              have N7 := Lib.hid hc7
              clear hc7 e0 e1 e2 e3 e4 e5 e6 lb d1 d2 d3 s1 s2 s3
              go_upto_if 90 with (fail)
              go_cut [12] (fun v12 wx => v12 = .int .i64 ((if fs.length = 12 then 2 else 0 : Nat) : Int) ∧ wx = w5)
              case first =>
                by_cases c1 : fs.length = 12
                · have d1 : decide ((fs.length : Int) = 12) = true := decide_eq_true (by omega)
                  go_wp2
                  go_meet
                  exact ⟨by rw [if_pos c1]; rfl, rfl⟩
                · have d1 : decide ((fs.length : Int) = 12) = false := decide_eq_false (by omega)
                  go_wp2
                  go_meet
                  exact ⟨by rw [if_neg c1]; rfl, rfl⟩
              case rest =>
                obtain ⟨rfl, rfl⟩ := hcut
                generalize hq0 : (if fs.length = 12 then 2 else 0 : Nat) = q0
                have Q0 := Lib.hid hq0
                clear hq0
                obtain ⟨e0, e1, e2, e3, e4, e5, e6⟩ := CELL.out _ G5.out
                have lb := lt_of_cellS e0
                simp only at lb
                go_upto_region 18 with (fail)
                go_cut [104] (fun v104 wx => v104 = .bool (decide (¬ (1 ≤ t.kind ∧ t.kind ≤ 4))) ∧ wx = wc)
                case first =>
                  by_cases c1 : t.kind < 1
                  · have d1 : decide (t.kind < 1) = true := decide_eq_true c1
                    go_wp2
                    go_meet
                    exact ⟨by rw [decide_eq_true (p := ¬ (1 ≤ t.kind ∧ t.kind ≤ 4)) (by omega)], rfl⟩
                  · have d1 : decide (t.kind < 1) = false := decide_eq_false c1
                    by_cases c2 : 4 < t.kind
                    · have d2 : decide (4 < t.kind) = true := decide_eq_true c2
                      go_wp2
                      go_meet
                      exact ⟨by rw [decide_eq_true (p := ¬ (1 ≤ t.kind ∧ t.kind ≤ 4)) (by omega)], rfl⟩
                    · have d2 : decide (4 < t.kind) = false := decide_eq_false c2
                      go_wp2
                      go_meet
                      exact ⟨by rw [decide_eq_false (p := ¬ (1 ≤ t.kind ∧ t.kind ≤ 4)) (by omega)], rfl⟩
                case rest =>
                  obtain ⟨rfl, rfl⟩ := hcut
                  go_upto_if 104 with (fail)
                  go_cut [12] (fun v12 wx => v12 = .int .i64 ((eUp fs t 0 : Nat) : Int) ∧ wx = wc)
                  case first =>
                    by_cases c1 : ¬ (1 ≤ t.kind ∧ t.kind ≤ 4)
                    · have d1 : decide (¬ (1 ≤ t.kind ∧ t.kind ≤ 4)) = true := decide_eq_true c1
                      have HQ := Lib.hid (show eUp fs t 0 = 5 by rw [eUp_zero, if_pos c1])
                      rw [d1]
                      clear c1 d1
                      go_wp2
                      go_meet
                      exact ⟨by rw [HQ.out]; rfl, rfl⟩
                    · have d1 : decide (¬ (1 ≤ t.kind ∧ t.kind ≤ 4)) = false := decide_eq_false c1
                      have HQ := Lib.hid (show eUp fs t 0 = q0 by rw [eUp_zero, if_neg c1, Q0.out])
                      rw [d1]
                      clear c1 d1
                      go_wp2
                      go_meet
                      exact ⟨by rw [HQ.out], rfl⟩
                  case rest =>
                    obtain ⟨rfl, rfl⟩ := hcut
                    clear Q0
                    generalize hq1 : eUp fs t 0 = q1
                    have Q1 := Lib.hid hq1
                    clear hq1
                    go_wp2
                    go_loopw [12, 13] (fun v12 v13 wr2 => ∃ j : Nat, j ≤ fs.length ∧ v13 = .int .i64 (j : Nat) ∧ v12 = .int .i64 (eUp fs t j : Nat) ∧ Below wc.heap.size wc wr2) (fun _ i _ => fs.length - (intOf i).toNat)
                    case atStart => exact ⟨0, Nat.zero_le _, rfl, by rw [Q1.out], Below.refl _ _⟩
                    case round =>
                      obtain ⟨j, hj, rfl, rfl, hb⟩ := hrel
                      have B6 := Lib.hid hb
                      have P6 := Lib.hid (grow_trans P5.out hb)
                      have G6 := Lib.hid (G5.out.trans (hb.mono G5.out.size))
                      clear hb
                      obtain ⟨e0, e1, e2, e3, e4, e5, e6⟩ := CELL.out _ G6.out
                      have lb := lt_of_cellS e0
                      simp only at lb
                      by_cases hjl : j < fs.length
                      · obtain ⟨b7, rfl, hc7⟩ := N7.out.resolve_left (by intro h; rw [h] at hjl; exact absurd hjl (by simp))
                        have n0 := hc7 j hjl
                        rw [← P6.out.cell (p := ⟨b7, j, none⟩) (lt_of_cellS n0)] at n0
                        have l7 := lt_of_cellS n0
                        simp only at l7
                        have j0 : (0 : Int) ≤ (j : Int) := by omega
                        have j1 : (j : Int) < (fs.length : Int) := by omega
                        clear hc7
                        by_cases hn : (tl fs j).name = t.name
                        · have d3 : ((tl fs j).name.toList == t.name.toList) = true := by rw [toList_decT]; exact decide_eq_true hn
                          have HQ := Lib.hid (eUp_hit hn)
                          clear hn
                          go_wp2
                          go_quiet (fail)
                          go_wp2
                          go_roundw
                          case rel => exact ⟨j + 1, by omega, by go_num, by rw [HQ.out]; rfl, (by (repeat (with_reducible first | exact B6.out | refine Grow.grow_drewN ?_ _ | refine Grow.grow_drew ?_)))⟩
                          case measure => simp [intOf]; omega
                        · have d3 : ((tl fs j).name.toList == t.name.toList) = false := by rw [toList_decT]; exact decide_eq_false hn
                          have HQ := Lib.hid (eUp_miss hn)
                          clear hn
                          go_wp2
                          go_quiet (fail)
                          go_wp2
                          go_roundw
                          case rel => exact ⟨j + 1, by omega, by go_num, by rw [HQ.out], (by (repeat (with_reducible first | exact B6.out | refine Grow.grow_drewN ?_ _ | refine Grow.grow_drew ?_)))⟩
                          case measure => simp [intOf]; omega
                      · obtain rfl : j = fs.length := by omega
                        have Y6 := Lib.hid (Y5.out.below B6.out)
                        have A6 := Lib.hid (HA.out.below P6.out)
                        have R7 := Lib.hid (ownsRow_belowS O7.out P6.out)
                        have R8 := Lib.hid (ownsRow_belowS O8.out P6.out)
                        have Z6 := Lib.hid (Nat.le_trans HZ.out P6.out.size)
                        have FT := Lib.hid (fit_walk a _ _ _ fs V t y (HSF.out.below G6.out) A6.out Y6.out N1.out hfl)
                        clear Y5 O7 O8 P6 B6 HA HZ TI KO TW
                        go_upto_if 126 with (fail)
                        go_cut [12] (fun v12 wx => v12 = .int .i64 (fitE fs t : Nat) ∧ wx = wr)
                        case first =>
                          by_cases c1 : t.name = .empty
                          · have d1 : t.name.toList.isEmpty = true := by rw [← decide_eq_emptyBytes]; exact decide_eq_true c1
                            have HQ := Lib.hid (fitE_empty (fs := fs) c1)
                            rw [d1]
                            clear c1 d1
                            go_wp2
                            go_meet
                            exact ⟨by rw [HQ.out]; rfl, rfl⟩
                          · have d1 : t.name.toList.isEmpty = false := by rw [← decide_eq_emptyBytes]; exact decide_eq_false c1
                            have HQ := Lib.hid (eUp_fit (fs := fs) c1)
                            rw [d1]
                            clear c1 d1
                            go_wp2
                            go_meet
                            exact ⟨by rw [HQ.out], rfl⟩
                        case rest =>
                          obtain ⟨rfl, rfl⟩ := hcut
                          clear Q1
                          have hfe := fitE_le fs t
                          have hmw : ∃ es c, wc.heap[w2.heap.size]? = some (.map es c) := A6.out.isMap
                          obtain ⟨mes, mc, hmm⟩ := hmw
                          have MM := Lib.hid hmm
                          clear hmm
                          go_upto_region 28 with (first
                            | (go_at_call 33; (with_reducible refine (FT.out).mono ?_); rintro e7 w7 ⟨rfl, hgr, V7, hat7⟩; have A7 := Lib.hid hat7; have G7 := Lib.hid (fit_turn G6.out Z2.out hgr); have O7 := Lib.hid (owns_turn MM.out hgr R7.out); have O8 := Lib.hid (owns_turn MM.out hgr R8.out); have Z7 := Lib.hid (Nat.le_trans Z6.out hgr.size); have CD := Lib.hid (coded_same a (fitE fs t) hfe w7 (HSA.out.below G7.out) (HH.out.below G7.out) HNE.out); clear hgr hat7 A6 R7 R8 MM FT Y6)
                            | (go_at_call 12; (with_reducible refine (CD.out).mono ?_); rintro e8 w8 ⟨rfl, hb⟩; have A8 := Lib.hid (A7.out.below hb); have G8 := Lib.hid (G7.out.trans (hb.mono G7.out.size)); have R7 := Lib.hid (ownsRow_belowS O7.out hb); have R8 := Lib.hid (ownsRow_belowS O8.out hb); have Z8 := Lib.hid (Nat.le_trans Z7.out hb.size); clear hb A7 O7 O8 Z7 CD G7))
                          by_cases hfz : fitE fs t = 0
                          · have hfl2 : fitL fs t = fs ++ [t] := by unfold fitL; rw [if_pos hfz]
                            have FL2 := Lib.hid (FU.out.trans hfl2)
                            have hfl3 : fs.length ≠ 12 := (fitE_zero hfz).2.2.2.2
                            have hg3 : w2.heap.size + 1 < w3.heap.size := by have := Z3.out; omega
                            have hm3 : w2.heap.size < w3.heap.size := by omega
                            have hz8 := Z8.out
                            rw [hfl2] at A8
                            rw [hfz]
                            clear hfz hfl2 hfe
                            obtain ⟨e0, e1, e2, e3, e4, e5, e6⟩ := CELL.out _ G8.out
                            have lb := lt_of_cellS e0
                            simp only at lb
                            have C3 := Lib.hid (show fs.length + 1 ≤ maxLen by unfold maxLen; omega)
                            have C4 := Lib.hid (show (fs.length + 1) * 16 ≤ 140737488355328 by omega)
                            have C4' := Lib.hid (show (fs.length + 1) * 96 ≤ 140737488355328 by omega)
                            have OA := Lib.hid (fun (o : Obj) => R7.out.alloc o)
                            have NS := Lib.hid (fun (tt : TypeId) => news_sp w8 [Value.string t.name] tt)
                            have C5 := Lib.hid (fun (o : Obj) => show w3.heap.size ≤ (w8.alloc o).heap.size by simp; omega)
                            go_wp2_with (at_builtin; refine wpList_append_own _ rfl _ _ 63 rfl w3.heap.size 9 i0 (.string .empty) 1 16 Tryd.underlying63 HI.out HZ0.out HZ1.out HZ2.out rfl (by decide) _ _ _ rfl (OA.out _) ⟨w8.heap.size, 0, none⟩ 1 1 [.string t.name] rfl rfl (NS.out _) (sn_cell _) C3.out C4.out (C5.out _) ?_)
                            intro v9 w9 hown9 hg9 _
                            have G9 := Lib.hid (below_grownS (grow_alloc G8.out _) (by have := G8.out.size; simp; omega) hg9 (fun j hj => by have := (R7.out.lt j hj).1; have := B3.out.size; omega))
                            have T9 := Lib.hid (ownsRow_grown (e1 := 9) (e2 := 80) (by decide) (OA.out _) (R8.out.alloc _) hg9)
                            have N9 := Lib.hid hown9
                            have A9 := Lib.hid (HAt.row (A8.out.below (grow_alloc (grow_refl _) _)) (OA.out _) hg3 hm3 (by decide) (by decide) hg9)
                            have Z9 := Lib.hid (show w3.heap.size ≤ w9.heap.size by have := hg9.size; simp at this; omega)
                            clear hown9 hg9 e0 e1 e2 e3 e4 e5 e6 lb NS C5 OA C4 R7 R8 A8
                            obtain ⟨e0, e1, e2, e3, e4, e5, e6⟩ := CELL.out _ G9.out
                            have lb := lt_of_cellS e0
                            simp only at lb
                            have hz9 := Z9.out
                            have OA := Lib.hid (fun (o : Obj) => T9.out.alloc o)
                            have NS := Lib.hid (fun (tt : TypeId) => news_sp w9 (tlC t) tt)
                            have C5 := Lib.hid (fun (o : Obj) => show w3.heap.size ≤ (w9.alloc o).heap.size by simp; omega)
                            go_wp2_with (at_builtin; refine wpList_append_own _ rfl _ _ 68 rfl w3.heap.size 80 p0 (.agg #[.string .empty, .int .i64 0, .int .i64 0, .int .i64 0, .slice none 0 0, .slice none 0 0, .int .i64 0]) 7 96 Tryd.underlying68 PI.out PZ0.out PZ1.out PZ2.out rfl (by decide) _ _ _ rfl (OA.out _) ⟨w9.heap.size, 0, none⟩ 1 1 (tlC t) rfl rfl (NS.out _) (tl_cell _) C3.out C4'.out (C5.out _) ?_)
                            intro v10 w10 hown10 hg10 _
                            have G10 := Lib.hid (below_grownS (grow_alloc G9.out _) (by have := G9.out.size; simp; omega) hg10 (fun j hj => by have := (T9.out.lt j hj).1; have := B3.out.size; omega))
                            have N10 := Lib.hid (ownsRow_grown (e1 := 80) (e2 := 9) (by decide) (OA.out _) (N9.out.alloc _) hg10)
                            have T10 := Lib.hid hown10
                            have A10 := Lib.hid (HAt.row (A9.out.below (grow_alloc (grow_refl _) _)) (OA.out _) hg3 hm3 (by decide) (by decide) hg10)
                            have Z10 := Lib.hid (show w3.heap.size ≤ w10.heap.size by have := hg10.size; simp at this; omega)
                            clear hown10 hg10 e0 e1 e2 e3 e4 e5 e6 lb NS C5 OA
                            go_wp2
                            go_roundw
                            case rel =>
                              refine ⟨k + 1, V7, by omega, by go_num, ?_, ?_, ?_, G10.out, Z10.out, SMN.out hsmt⟩
                              · rw [HFU.out, FL2.out, List.length_append, List.length_singleton, namesB_snoc]; exact N10.out
                              · rw [HFU.out, FL2.out, List.length_append, List.length_singleton, tlL_append, tlL_one]; exact T10.out
                              · rw [HFU.out, FL2.out]; exact A10.out
                            case measure => simp [intOf]; omega
                          · have hfl2 : fitL fs t = fs := by unfold fitL; rw [if_neg hfz]
                            have FL2 := Lib.hid (FU.out.trans hfl2)
                            have d0 : decide (((fitE fs t : Nat) : Int) = 0) = false := decide_eq_false (by omega)
                            have d1 : ¬ ((fitE fs t : Nat) : Int) = 0 := by omega
                            rw [hfl2] at A8
                            clear hfl2 hfe
                            generalize fitE fs t = ee at *
                            go_wp2
                            go_roundw
                            case rel =>
                              refine ⟨k + 1, V7, by omega, by go_num, ?_, ?_, ?_, G8.out, Z8.out, SMN.out hsmt⟩
                              · rw [HFU.out, FL2.out]; exact R7.out
                              · rw [HFU.out, FL2.out]; exact R8.out
                              · rw [HFU.out, FL2.out]; exact A8.out
                            case measure => simp [intOf]; omega
      · as_aux_lemma =>
        obtain rfl : k = l.length := by omega
        have hfits : Fits w (fitUp l l.length) := fits_up SM.out (fun j hj => (HIN.out j hj).1)
        have hfl := (fitUp_len l l.length).1
        generalize fitUp l l.length = fs at *
        have FT := Lib.hid hfits
        obtain ⟨r8, c8, rfl, _, _, _, hts⟩ := ts_of_owns O8.out
        have T8 := Lib.hid hts
        have B8 := Lib.hid (fun j hj => (O8.out.lt j hj).1)
        clear hfits hts O7 O8 SM HIN HR B8 hlt
        go_wp2
        go_loopw [15, 16, 17] (fun v15 v16 v17 wx => LawC wr fs x v15 v16 v17 wx) (fun _ _ i _ => fs.length - (intOf i).toNat)
        case atStart => exact ⟨0, Nat.zero_le _, rfl, rfl, World.ownsRow_nil _ _ _ _, Below.refl _ _⟩
        case round =>
          obtain ⟨k, hk, rfl, rfl, ho, hb⟩ := hrel
          have O16 := Lib.hid ho
          have GW := Lib.hid hb
          have G2 := Lib.hid (G.out.trans (hb.mono G.out.size))
          clear ho hb
          by_cases hlt : k < fs.length
          · obtain ⟨bb, oo, rfl, hcc⟩ := T8.out.resolve_left (by intro h; rw [h] at hlt; exact absurd hlt (by simp))
            obtain ⟨e0, e1, e2, e3, e4, e5, e6⟩ := ts_get (fun j u hu => (GW.out.cell (p := ⟨bb, oo + j, none⟩) (lt_of_cellS (hcc j u hu))).trans (hcc j u hu)) hlt
            have lb := lt_of_cellS e0
            simp only at lb
            have hi0 : (0 : Int) ≤ (k : Int) := by omega
            have hi1 : (k : Int) < (fs.length : Int) := by omega
            obtain ⟨hti, hsm, hk1, hk4⟩ := FT.out k hlt
            have INS := Lib.hid (fun X (hX : Below w.heap.size w X) => inSpans_walk (tl fs k).sr (tl fs k).opens (tl fs k).sc x X (by have := hsm.2.2; omega) (hti.2.below hX))
            have SU := Lib.hid (show shutUp fs x (k + 1) = (shutUp fs x k || shutT x (tl fs k)) from rfl)
            have SP := Lib.hid (show shotsUp fs (k + 1) = if (tl fs k).kind = 1 then insT (shotsUp fs k) (tl fs k) else shotsUp fs k from rfl)
            have hsl := shotsUp_len fs k
            generalize hq1 : shutUp fs x (k + 1) = su1 at *
            generalize hq2 : shotsUp fs (k + 1) = sp1 at *
            have Q1 := Lib.hid hq1
            have Q2 := Lib.hid hq2
            have KB0 := Lib.hid (Known.new wr (tlC (tl fs k)).toArray 80)
            unfold tlC at KB0
            clear hq1 hq2 hcc hti hsm
            generalize tl fs k = t at *
            go_upto_region 40 with (go_at_call 34; (with_reducible refine (INS.out _ (grow_alloc G2.out _)).mono ?_); rintro e5 w5 ⟨rfl, hb⟩; have G5 := Lib.hid (GW.out.alloc GW.out.size _ |>.trans (hb.mono (by have := GW.out.size; simp; omega))); have KB := Lib.hid (KB0.out.below hb); have H5 := Lib.hid (G2.out.trans ((grow_trans (grow_alloc (grow_refl _) _) hb).mono G2.out.size)); have R16 := Lib.hid (ownsRow_belowS O16.out (grow_trans (grow_alloc (grow_refl _) _) hb)); clear hb)
            have b1 := KB.out.cell 1
            have b6 := KB.out.cell 6
            have bl := KB.out.lt
            simp only [List.getElem?_toArray, List.getElem?_cons_zero, List.getElem?_cons_succ] at b1 b6
            clear e0 e1 e2 e3 e4 e5 e6 lb
            go_cut [19, 200] (fun v19 v200 wx => v200 = .bool (shutT x t) ∧ wx = w5)
            case first =>
              have SH := Lib.hid (show shutT x t = ((decide (t.kind = 2) && !(inSp t.opens x)) || (decide (t.kind = 3) && decide (t.alt ≤ 0)) || (decide (t.kind = 4) && (!(inSp t.opens x) || decide (t.alt ≤ 0)))) from rfl)
              cases hin : inSp t.opens x
              all_goals
                by_cases ha : t.alt ≤ 0
                all_goals
                  by_cases k2 : t.kind = 2
                  · rw [k2] at b1
                    have HQ := Lib.hid SH.out
                    simp only [hin, k2, ha] at HQ
                    clear k2 hin SH
                    go_wp2
                    go_meet
                    exact ⟨by rw [HQ.out]; rfl, rfl⟩
                  · by_cases k3 : t.kind = 3
                    · rw [k3] at b1
                      have HQ := Lib.hid SH.out
                      simp only [hin, k3, ha] at HQ
                      clear k2 k3 hin SH
                      go_wp2
                      go_meet
                      exact ⟨by rw [HQ.out]; rfl, rfl⟩
                    · by_cases k4 : t.kind = 4
                      · rw [k4] at b1
                        have HQ := Lib.hid SH.out
                        simp only [hin, k4, ha] at HQ
                        clear k2 k3 k4 hin SH
                        go_wp2
                        go_meet
                        exact ⟨by rw [HQ.out]; rfl, rfl⟩
                      · have k1 : t.kind = 1 := by omega
                        rw [k1] at b1
                        have HQ := Lib.hid SH.out
                        simp only [hin, k1, ha] at HQ
                        clear k1 k2 k3 k4 hin SH
                        go_wp2
                        go_meet
                        exact ⟨by rw [HQ.out]; rfl, rfl⟩
            case rest =>
              obtain ⟨rfl, rfl⟩ := hcut
              go_upto_if 200 with (fail)
              go_cut [15] (fun v15 wx => v15 = .bool su1 ∧ wx = wc)
              case first =>
                cases hsx : shutT x t
                · have HQ := Lib.hid (show su1 = shutUp fs x k by rw [SU.out, hsx, Bool.or_false])
                  clear hsx
                  go_wp2
                  go_meet
                  exact ⟨by rw [HQ.out], rfl⟩
                · have HQ := Lib.hid (show su1 = true by rw [SU.out, hsx, Bool.or_true])
                  clear hsx
                  go_wp2
                  go_meet
                  exact ⟨by rw [HQ.out], rfl⟩
              case rest =>
                obtain ⟨rfl, rfl⟩ := hcut
                clear SU
                by_cases k1 : t.kind = 1
                · have SP1 := Lib.hid (show sp1 = insT (shotsUp fs k) t by rw [SP.out, if_pos k1])
                  obtain ⟨r16, c16, rfl, q1, q2, q3, q4⟩ := ts_of_owns R16.out
                  have BN := Lib.hid (byName_walk r16 (shotsUp fs k) c16 t wc (by omega) q1 q2 q3 q4)
                  unfold tlV at BN
                  have bl2 : wr.heap.size < wc.heap.size := bl
                  have b0 := KB.out.cell 0
                  have b2 := KB.out.cell 2
                  have b3 := KB.out.cell 3
                  have b4 := KB.out.cell 4
                  have b5 := KB.out.cell 5
                  simp only [List.getElem?_toArray, List.getElem?_cons_zero, List.getElem?_cons_succ] at b0 b2 b3 b4 b5
                  rw [k1] at b1 BN
                  clear SP R16 O16 KB KB0 q1 q2 q3 q4
                  go_wp2_with (go_at_call 35; (with_reducible refine (BN.out).mono ?_); rintro e6 w6 ⟨v6, rfl, ho, hb⟩; have G6 := Lib.hid (G5.out.trans (hb.mono G5.out.size)); have O6 := Lib.hid (ownsRow_base ho G5.out.size); clear ho hb)
                  go_roundw
                  case rel => exact ⟨k + 1, by omega, by go_num, by rw [Q1.out], by rw [Q2.out, SP1.out]; exact O6.out, G6.out⟩
                  case measure => simp [intOf]; omega
                · have SP1 := Lib.hid (show sp1 = shotsUp fs k by rw [SP.out, if_neg k1])
                  have d1 : decide (t.kind = 1) = false := decide_eq_false k1
                  clear SP O16 KB KB0
                  go_wp2
                  go_roundw
                  case rel => exact ⟨k + 1, by omega, by go_num, by rw [Q1.out], by rw [Q2.out, SP1.out]; exact R16.out, G5.out⟩
                  case measure => simp [intOf]; omega
          · as_aux_lemma =>
            obtain rfl : k = fs.length := by omega
            have HAW := Lib.hid (HA.out.below GW.out)
            have S7 := Lib.hid ((HSA.out.sub (js := [7]) (by decide)).below G2.out)
            have CO : Hid (∀ X, Below w.heap.size w X → Calls Tryd.prog 12 #[errV a 7, .int .i64 7] X fun e w' => e = .returned (.bool true) ∧ Below X.heap.size X w') := Lib.hid (fun X hX => coded_same a 7 (by decide) X (HSA.out.below hX) (HH.out.below hX) HNE.out)
            have hu := errV_pos a (show 7 ≠ 0 by decide)
            obtain ⟨r16, c16, rfl, _, _, _, hts16⟩ := ts_of_owns O16.out
            have T16 := Lib.hid hts16
            have SF := Lib.hid (shots_fits FT.out fs.length (Nat.le_refl _))
            have hsl := shotsUp_len fs fs.length
            clear hts16 O16
            cases hS : shutUp fs x fs.length
            · have SH := Lib.hid (shoot_open a w wr _ _ fs V x S7.out HAW.out hfl FT.out hS)
              clear hS HAW S7 CO hu
              generalize shotsUp fs fs.length = ts at *
              go_wp2_with (go_at_call 36; (with_reducible refine (SH.out).mono ?_); rintro e6 w6 ⟨v6, S6, rfl, hp, hb⟩; obtain ⟨r6, c6, rfl, hpc⟩ := pics_cells hp; have G6 := Lib.hid (G2.out.trans (hb.mono G2.out.size)); have P6 := Lib.hid hpc; have T6 := Lib.hid (T16.out.below hb); clear hb hp hpc)
              go_loopw [22] (fun v22 wx => ∃ k : Nat, k ≤ ts.length ∧ v22 = .int .i64 (k : Nat) ∧ Below w6.heap.size w6 wx) (fun i _ => ts.length - (intOf i).toNat)
              case atStart => exact ⟨0, Nat.zero_le _, rfl, Below.refl _ _⟩
              case round =>
                obtain ⟨k, hk, rfl, hb⟩ := hrel
                have GB := Lib.hid hb
                have GD := Lib.hid (show Below w6.heap.size w6 wr.drew from grow_drew hb)
                clear hb
                by_cases hlt : k < ts.length
                · obtain ⟨bp, rfl, hpc⟩ := P6.out.resolve_left (by intro h; rw [h] at hlt; exact absurd hlt (by simp))
                  obtain ⟨bt, ot, rfl, htc⟩ := T6.out.resolve_left (by intro h; rw [h] at hlt; exact absurd hlt (by simp))
                  obtain ⟨rk, ck, p0, p1, p2, hnr⟩ := hpc k hlt
                  have ET := Lib.hid (fun X (hX : Below w6.heap.size w6 X) => ts_get (fun j u hu => (hX.cell (p := ⟨bt, ot + j, none⟩) (lt_of_cellS (htc j u hu))).trans (htc j u hu)) hlt)
                  have EP := Lib.hid (fun X (hX : Below w6.heap.size w6 X) => show X.cell? ⟨bp, k * 3, none⟩ = _ ∧ X.cell? ⟨bp, k * 3 + 1, none⟩ = _ ∧ X.cell? ⟨bp, k * 3 + 2, none⟩ = _ from ⟨(hX.cell (lt_of_cellS p0)).trans p0, (hX.cell (lt_of_cellS p1)).trans p1, (hX.cell (lt_of_cellS p2)).trans p2⟩)
                  have hi0 : (0 : Int) ≤ (k : Int) := by omega
                  have hi1 : (k : Int) < (ts.length : Int) := by omega
                  obtain ⟨hti, hsm⟩ := SF.out k hlt
                  have SI : Hid (∀ X, Below w6.heap.size w6 X → Calls Tryd.prog 37 #[.slice rk (tl ts k).counts.length ck, .slice (tl ts k).cr (tl ts k).counts.length (tl ts k).cc] X fun e w' => e = .returned (.bool true) ∧ Below X.heap.size X w') := Lib.hid (fun X hX => (sameInts_walk rk (tl ts k).cr (tl ts k).counts (tl ts k).counts ck (tl ts k).cc X (by have := hsm.2.1; omega) (by have := hsm.2.1; omega) (hnr.below hX) (hti.1.below (G6.out.trans (hX.mono G6.out.size)))).mono (by rintro e w' ⟨rfl, hb⟩; exact ⟨by simp, hb⟩))
                  clear hpc htc hti hsm hnr p0 p1 p2
                  generalize tl ts k = t at *
                  go_upto_region 52 with (fail)
                  refine Grow.wp_region_plan (.quiet [0, 1, 2, 3, 5, 6, 7, 8, 9] (.reads [4, 10] (.tail [11, 12]))) (by kernel_rfl) (by kernel_rfl) (by kernel_rfl) (by kernel_rfl) ?_ ?_
                  · intro c aa d v ww h
                    first
                      | exact Grow.bodyPost_blind h
                      | (simp (config := {zetaDelta := true}) only [Exit.then, Exit.inBlock] at h ⊢; first | exact Grow.bodyPost_blind h | exact h)
                  simp only [Grow.Plan.wp, Grow.pick, List.getElem?_cons_zero, List.getElem?_cons_succ, List.cons_append, List.nil_append]
                  generalize wr.drew = wd at GD ⊢
                  obtain ⟨e0, e1, e2, e3, e4, e5, e6⟩ := ET.out wd GD.out
                  obtain ⟨p0, p1, p2⟩ := EP.out wd GD.out
                  have lb := lt_of_cellS e0
                  have lp := lt_of_cellS p0
                  simp only at lb lp
                  repeat (go_big_quiet_step (fail))
                  refine wpQuiet_nil ?_
                  repeat (go_big_quiet_step (fail))
                  refine wpQuiet_nil ?_
                  go_upto_region 53 with (go_at_call 37; (with_reducible refine (SI.out _ GD.out).mono ?_); rintro e8 w8 ⟨rfl, hb⟩; have G8 := Lib.hid (GD.out.trans (hb.mono GD.out.size)); clear hb)
                  clear e0 e1 e2 e3 e4 e5 e6 p0 p1 p2 lb lp
                  obtain ⟨e0, e1, e2, e3, e4, e5, e6⟩ := ET.out w8 G8.out
                  obtain ⟨p0, p1, p2⟩ := EP.out w8 G8.out
                  have lb := lt_of_cellS e0
                  have lp := lt_of_cellS p0
                  simp only at lb lp
                  go_quiet (fail)
                  go_wp2
                  go_roundw
                  case rel => exact ⟨k + 1, by omega, by go_num, (by (repeat (with_reducible first | exact G8.out | refine Grow.grow_drewN ?_ _ | refine Grow.grow_drew ?_)))⟩
                  case measure => simp [intOf]; omega
                · obtain rfl : k = ts.length := by omega
                  go_wp2
                  go_ret
                  exact ⟨rfl, G6.out.trans (GB.out.mono G6.out.size)⟩
            · have SH := Lib.hid (shoot_shut a w wr _ _ fs V x S7.out HAW.out hfl FT.out hS)
              rw [hu] at SH CO
              clear hS HAW S7 hu
              go_wp2_with (first
                | (go_at_call 36; (with_reducible refine (SH.out).mono ?_); rintro e6 w6 ⟨rfl, hb⟩; have G6 := Lib.hid (G2.out.trans (hb.mono G2.out.size)); clear hb)
                | (go_at_call 12; (with_reducible refine (CO.out _ G6.out).mono ?_); rintro e7 w7 ⟨rfl, hb⟩; have G7 := Lib.hid (G6.out.trans (hb.mono G6.out.size)); clear hb))
              go_ret
              exact ⟨rfl, G7.out⟩
end Go.Proofs.YtjjjbkehmnfgbaaDoor
