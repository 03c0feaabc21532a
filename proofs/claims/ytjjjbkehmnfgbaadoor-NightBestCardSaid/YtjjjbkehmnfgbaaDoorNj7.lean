/- The night's plans: whether slots are a plan, the program's. -/
import Derived.Test.YtjjjbkehmnfgbaaDoorNj6
import Derived.Maps.Own
import Derived.Maps.OwnOps
import Derived.Maps.Views
import Derived.BigQuiet
set_option linter.unusedSimpArgs false
set_option linter.unusedVariables false
namespace Go.Proofs.YtjjjbkehmnfgbaaDoor
open Go.RowKit Go.Grow Go.Night Go.Maps

theorem lawS : Keyed Tryd.prog 9 := string_keyed Tryd.underlying9
theorem zeroI (w : World) : (zeroValue 3).run Tryd.prog w = .ok (.int .i64 0) w := by kernel_rfl
def i64D (c : Int) : DataW Unit := .lit (.int .i64 c)
def keyS (s : ByteArray) : Lit := .string s.data.toList
theorem keyS_inj {a b : ByteArray} (h : keyS a = keyS b) : a = b := by
  obtain ⟨⟨x⟩⟩ := a
  obtain ⟨⟨y⟩⟩ := b
  unfold keyS at h
  simpa using h
/-- Of each name the map says whether it was seen. -/
def Seen (D : DataW Unit) (p : List Sl) (k : Nat) : Prop := ∀ s : ByteArray, ∃ c : Int, D.atKey (keyS s) (i64D 0) = i64D c ∧ 0 ≤ c ∧ c ≤ k ∧ (0 < c ↔ sawUp p s k = true)
theorem Seen.start (p : List Sl) : Seen (.map []) p 0 := fun s => ⟨0, rfl, by omega, by omega, ⟨fun h => absurd h (by omega), fun h => (by cases h)⟩⟩
theorem Seen.step {D : DataW Unit} {p : List Sl} {k : Nat} {c : Int} (h : Seen D p k) (hD : IsMap D) (hc : D.atKey (keyS (sl p k).name) (i64D 0) = i64D c) : Seen (D.put (keyS (sl p k).name) (i64D (c + 1))) p (k + 1) := fun s => by
  by_cases e : s = (sl p k).name
  · subst e
    obtain ⟨c', h1, h2, h3, h4⟩ := h (sl p k).name
    obtain rfl : c' = c := by
      have := h1.symm.trans hc
      unfold i64D at this
      injection this with this
      injection this
    refine ⟨c' + 1, atKey_put_same hD (by simp [WideAt.IsKeyLit, keyS]) _ _, by omega, by omega, ⟨fun _ => ?_, fun _ => by omega⟩⟩
    rw [sawUp, decide_eq_true rfl, Bool.or_true]
  · obtain ⟨c', h1, h2, h3, h4⟩ := h s
    refine ⟨c', by rw [atKey_put_other (fun he => e (keyS_inj he)), h1], h2, by omega, ?_⟩
    rw [h4, sawUp, decide_eq_false (fun he => e he.symm), Bool.or_false]
theorem ownsMap_below {w w' : World} {P : Program} {k : TypeId} {R : Value → Option (DataW Unit × List MemPlace)} {b n : Nat} {D : DataW Unit} (h : w.ownsMap P k R b n D) (hb : Below w.heap.size w w') : w'.ownsMap P k R b n D :=
  h.kept (row := none) ⟨hb.os, hb.tape, hb.output, hb.size, fun k hk _ => hb.block k hk⟩ (by simp)
theorem cell?_grown {w w' : World} {row : Option Nat} (g : w.grownBy w' row) {p : Addr} (hp : p.block < w.heap.size) (hne : some p.block ≠ row) : w'.cell? p = w.cell? p := by
  unfold World.cell?; rw [g.block _ hp hne]
theorem worthUp_in {l : List Jb} (h : Fine l) {p : List Sl} : ∀ k, planUp l p k = true → 0 ≤ worthUp l p k ∧ worthUp l p k ≤ k * 1099511627776
  | 0, _ => ⟨Int.le_refl _, by simp [worthUp]⟩
  | k + 1, hp => by
    rw [planUp, Bool.and_eq_true] at hp
    obtain ⟨h1, h2⟩ := worthUp_in h k hp.1
    obtain ⟨i, hi, hl, _⟩ := okSlot_spec hp.2
    have := h.worth _ (at_mem hl)
    rw [worthUp, hi]
    simp only
    omega
theorem worthUp_some {l : List Jb} {p : List Sl} {k i : Nat} (h : idx l (sl p k).name = some i) : worthUp l p (k + 1) = worthUp l p k + (at_ l i).worth := by rw [worthUp, h]
theorem planW_bad {l : List Jb} {p : List Sl} (h : planB l p = false) : planW l p = 0 := by unfold planW; rw [h]; rfl

set_option maxRecDepth 100000 in
set_option maxHeartbeats 8000000 in
theorem check_bad (a : Nat → Addr) (r r2 : Option Addr) (l : List Jb) (cap n2 cap2 : Nat) (w : World) (hs : Sen a [2, 5, 10] w) (hl : l.length ≤ 1000000) (hcap : l.length ≤ cap) (hw : ∀ j ∈ l, j.win.length ≤ 4000) (hr : JobsAt w r l) (hE : jobsE l ≠ 0) :
    Calls Tryd.prog 16 #[.slice r l.length cap, .slice r2 n2 cap2] w fun e w' => e = .returned (.tuple #[.int .i64 0, .bool false, errV a (jobsE l)]) ∧ Below w.heap.size w w' := by
  have HV := Lib.hid (valid_walk a r l cap w hs hl hcap hw hr)
  have hu := errV_pos a hE
  rw [hu] at HV ⊢
  clear hs hr hE hu hw
  go_enter Tryd.func16, Tryd.ntmps16
  go_wp2_with (go_at_call 13; (with_reducible refine HV.out.mono ?_); rintro e w1 ⟨rfl, hb⟩; have HB := Lib.hid hb; clear hb)
  go_ret3
  exact ⟨rfl, HB.out⟩
set_option maxRecDepth 100000 in
set_option maxHeartbeats 16000000 in
theorem check_good (a : Nat → Addr) (r r2 : Option Addr) (l : List Jb) (p : List Sl) (cap cap2 : Nat) (w : World) (hs : Sen a [2, 5, 10] w) (hl : l.length ≤ 1000000) (hcap : l.length ≤ cap) (hw : ∀ j ∈ l, j.win.length ≤ 4000) (hr : JobsAt w r l) (hE : jobsE l = 0)
    (hp : p.length ≤ 1000000) (hn : ∀ k, k < p.length → (sl p k).name.size ≤ maxLen) (hr2 : SlotsAt w r2 p) :
    Calls Tryd.prog 16 #[.slice r l.length cap, .slice r2 p.length cap2] w fun e w' => e = .returned (.tuple #[.int .i64 (planW l p), .bool (planB l p), .nilIface]) ∧ Below w.heap.size w w' := by
  have HV := Lib.hid (valid_walk a r l cap w hs hl hcap hw hr)
  rw [hE, errV_zero] at HV
  obtain ⟨hF, _⟩ := fine_of_jobs hE
  have HF := Lib.hid hF
  have HR := Lib.hid hr
  have HR2 := Lib.hid hr2
  have HN := Lib.hid hn
  have HW := Lib.hid hw
  have hmm := @run_makeMap Tryd.prog
  clear hs hr hr2 hn hE hw hF
  go_enter Tryd.func16, Tryd.ntmps16
  go_wp2_with (go_at_call 13; (with_reducible refine HV.out.mono ?_); rintro e w1 ⟨rfl, hb⟩; have HB := Lib.hid hb; clear hb HV)
  have hz1 := HB.out.size
  go_loopw [8, 9, 23] (fun v8 v9 v23 wr => ∃ (k : Nat) (D : DataW Unit), k ≤ p.length ∧ v8 = .int .i64 (worthUp l p k) ∧ v9 = .int .i64 (lastEnd l p k) ∧ v23 = .int .i64 k ∧ wr.ownsMap Tryd.prog 9 (plainElem Tryd.prog 3) w1.heap.size k D ∧ Seen D p k ∧ Hid (planUp l p k = true) ∧ Below w.heap.size w wr) (fun _ _ i _ => p.length - (intOf i).toNat)
  case atStart => exact ⟨0, .map [], Nat.zero_le _, rfl, rfl, rfl, World.ownsMap_made _ _ _ _, Seen.start p, Lib.hid rfl, grow_alloc HB.out _⟩
  case round =>
    obtain ⟨k, D, hk, rfl, rfl, rfl, hown, hseen, HI, hg⟩ := hrel
    have OM := Lib.hid hown
    have SE := Lib.hid hseen
    have G := Lib.hid hg
    clear hown hseen hg
    have hz := G.out.size
    by_cases hlt : k < p.length
    · obtain ⟨b2, o2, rfl, hc⟩ := HR2.out.resolve_left (by intro h; rw [h] at hlt; exact absurd hlt (by simp))
      obtain ⟨e0, e1⟩ := hc k hlt
      have hb2 : b2 < w.heap.size := lt_of_cellS e0
      rw [← G.out.cell (p := ⟨b2, _, none⟩) hb2] at e0 e1
      have hb2' : b2 < wr.heap.size := Nat.lt_of_lt_of_le hb2 hz
      have hi0 : (0 : Int) ≤ (k : Int) := by omega
      have hi1 : (k : Int) < (p.length : Int) := by omega
      have HFN := Lib.hid (fun X (hX : Below w.heap.size w X) (hcc : X.cell? ⟨wr.heap.size, 0, none⟩ = some (.string (sl p k).name)) => find_name r l cap wr.heap.size (sl p k).name X HF.out.apart hl (HR.out.below hX) hcc)
      have hkey := WideMaps.keyOf_string_mk Tryd.underlying9 (HN.out k hlt)
      have hst := SE.out (sl p k).name
      obtain ⟨c, hat0, hc0, hck, hsaw⟩ := hst
      have HAT := Lib.hid hat0
      have HOK := Lib.hid (okSlot_program HF.out HI.out)
      have HBAD := Lib.hid (fun (h : okSlot l p k = false) => planB_false hlt h)
      have HUP := Lib.hid (fun (h : okSlot l p k = true) => show planUp l p (k + 1) = true by rw [planUp, HI.out, h]; rfl)
      have HSEEN := Lib.hid (fun (hD : IsMap D) => SE.out.step hD HAT.out)
      have HWI := worthUp_in HF.out k HI.out
      have HLE : -4611686018427387904 ≤ lastEnd l p k ∧ lastEnd l p k ≤ 1152921504606846976 := by
        cases k with
        | zero => show (-4611686018427387904 : Int) ≤ -4611686018427387904 ∧ (-4611686018427387904 : Int) ≤ 1152921504606846976; omega
        | succ k => have := plan_at HF.out HI.out (n := k) (by omega); show -4611686018427387904 ≤ endAt l p k ∧ endAt l p k ≤ 1152921504606846976; omega
      have HLE2 := Lib.hid (show lastEnd l p (k + 1) = (sl p k).frm + longOf l (sl p k).name from rfl)
      have HWS := Lib.hid (fun i (h : idx l (sl p k).name = some i) => worthUp_some h)
      clear hc hat0
      obtain ⟨⟨nm, f⟩, hsl⟩ : ∃ x, sl p k = x := ⟨_, rfl⟩
      rw [hsl] at e0 e1 HFN hkey hsaw HAT HOK HSEEN HLE2 HWS
      simp only at e0 e1 HFN hkey hsaw HAT HOK HSEEN HLE2 HWS
      clear hsl
      generalize hle : lastEnd l p k = le at HLE HOK ⊢
      generalize hwu : worthUp l p k = wu at HWI HWS ⊢
      clear hle hwu
      cases hix : idx l nm with
      | none =>
        have HZ := Lib.hid (HBAD.out (by rw [HOK.out, hix]))
        rw [show idxI l nm = -1 by unfold idxI; rw [hix]] at HFN
        clear HOK HBAD HUP HSEEN HWS hix
        go_wp2_with (go_at_call 48; (with_reducible refine (HFN.out _ (by (repeat (with_reducible first | exact G.out | refine Grow.grow_drewN ?_ _ | refine Grow.grow_drew ?_ | refine Grow.grow_setCell ?_ ?_ _ | refine Grow.grow_alloc ?_ _)) <;> omega) (by simp [cell?_cells])).mono ?_); rintro e w2 ⟨rfl, hb⟩; have HB2 : Hid (Below w.heap.size w w2) := Lib.hid (grow_trans (by (repeat (with_reducible first | exact G.out | refine Grow.grow_drewN ?_ _ | refine Grow.grow_drew ?_ | refine Grow.grow_setCell ?_ ?_ _ | refine Grow.grow_alloc ?_ _)) <;> omega) hb); clear hb)
        go_ret3
        exact ⟨by rw [HZ.out, planW_bad HZ.out]; rfl, HB2.out⟩
      | some i =>
        obtain ⟨hil, hin⟩ := idxUp_some hix
        rw [show idxI l nm = (i : Int) by unfold idxI; rw [hix]] at HFN
        rw [hix] at HOK
        simp only at HOK
        have HWS2 := Lib.hid (HWS.out i hix)
        rw [longOf_some hix] at HLE2
        clear hix HWS
        by_cases t1 : 0 < c
        · have u1 : decide (0 < c) = true := decide_eq_true t1
          have HZ := Lib.hid (HBAD.out (by rw [HOK.out, hsaw.1 t1]; rfl))
          clear HOK HBAD HUP HSEEN HWS2 HLE2 hsaw
          go_wp2_with (go_at_call 48; (with_reducible refine (HFN.out _ (by (repeat (with_reducible first | exact G.out | refine Grow.grow_drewN ?_ _ | refine Grow.grow_drew ?_ | refine Grow.grow_setCell ?_ ?_ _ | refine Grow.grow_alloc ?_ _)) <;> omega) (by simp [cell?_cells])).mono ?_); rintro e w2 ⟨rfl, hb⟩; have HB2 : Hid (Below w.heap.size w w2) := Lib.hid (grow_trans (by (repeat (with_reducible first | exact G.out | refine Grow.grow_drewN ?_ _ | refine Grow.grow_drew ?_ | refine Grow.grow_setCell ?_ ?_ _ | refine Grow.grow_alloc ?_ _)) <;> omega) hb); have K2 := (Known.new wr #[Value.string nm, .int .i64 f] 37).below hb; have s0 := K2.cell 0; have s1 := K2.cell 1; simp only [List.getElem?_toArray, List.getElem?_cons_zero, List.getElem?_cons_succ] at s0 s1; have O2 := Lib.hid (ownsMap_below OM.out (grow_trans (by (repeat (with_reducible first | exact grow_refl _ | refine Grow.grow_drewN ?_ _ | refine Grow.grow_drew ?_ | refine Grow.grow_alloc ?_ _))) hb)); have HZ2 := Lib.hid hb.size; clear hb; obtain ⟨c', hrun, hat, _⟩ := O2.out.lookup_int lawS Tryd.underlying115 Tryd.underlying3 (zeroI _) hkey; obtain rfl : c' = c := (by have := hat.symm.trans HAT.out; unfold i64D at this; injection this with this; injection this))
          go_ret3
          exact ⟨by rw [HZ.out, planW_bad HZ.out]; rfl, HB2.out⟩
        · have u1 : decide (0 < c) = false := decide_eq_false t1
          have hs0 : sawUp p nm k = false := by
            cases h : sawUp p nm k with
            | false => rfl
            | true => exact absurd (hsaw.2 h) t1
          rw [hs0] at HOK
          clear hs0 hsaw
          by_cases t2 : f < le
          · have u2 : decide (f < le) = true := decide_eq_true t2
            have HZ := Lib.hid (HBAD.out (by rw [HOK.out, u2]; rfl))
            clear HOK HBAD HUP HSEEN HWS2 HLE2
            go_wp2_with (go_at_call 48; (with_reducible refine (HFN.out _ (by (repeat (with_reducible first | exact G.out | refine Grow.grow_drewN ?_ _ | refine Grow.grow_drew ?_ | refine Grow.grow_setCell ?_ ?_ _ | refine Grow.grow_alloc ?_ _)) <;> omega) (by simp [cell?_cells])).mono ?_); rintro e w2 ⟨rfl, hb⟩; have HB2 : Hid (Below w.heap.size w w2) := Lib.hid (grow_trans (by (repeat (with_reducible first | exact G.out | refine Grow.grow_drewN ?_ _ | refine Grow.grow_drew ?_ | refine Grow.grow_setCell ?_ ?_ _ | refine Grow.grow_alloc ?_ _)) <;> omega) hb); have K2 := (Known.new wr #[Value.string nm, .int .i64 f] 37).below hb; have s0 := K2.cell 0; have s1 := K2.cell 1; simp only [List.getElem?_toArray, List.getElem?_cons_zero, List.getElem?_cons_succ] at s0 s1; have O2 := Lib.hid (ownsMap_below OM.out (grow_trans (by (repeat (with_reducible first | exact grow_refl _ | refine Grow.grow_drewN ?_ _ | refine Grow.grow_drew ?_ | refine Grow.grow_alloc ?_ _))) hb)); have HZ2 := Lib.hid hb.size; clear hb; obtain ⟨c', hrun, hat, _⟩ := O2.out.lookup_int lawS Tryd.underlying115 Tryd.underlying3 (zeroI _) hkey; obtain rfl : c' = c := (by have := hat.symm.trans HAT.out; unfold i64D at this; injection this with this; injection this))
            go_ret3
            exact ⟨by rw [HZ.out, planW_bad HZ.out]; rfl, HB2.out⟩
          · have u2 : decide (f < le) = false := decide_eq_false t2
            rw [u2] at HOK
            simp only [Bool.not_false, Bool.and_self, Bool.true_and] at HOK
            obtain ⟨b1, o1, rfl, hcj⟩ := HR.out.resolve_left (by intro h; rw [h] at hil; exact absurd hil (by simp))
            obtain ⟨rs, cs, d0, d1, d2, d3, hsp⟩ := hcj i hil
            have hb1 : b1 < w.heap.size := lt_of_cellS d0
            have hlong := HF.out.long _ (at_mem hil)
            have hworth := HF.out.worth _ (at_mem hil)
            have hwl := HW.out _ (at_mem hil)
            have HFR := Lib.hid (fun h => frm_in HF.out hil (f := f) h)
            have HCH := Lib.hid (fun X (hX : Below w.heap.size w X) (bj : Nat) (c1 : X.cell? ⟨wr.heap.size, 1, none⟩ = some (.int .i64 f)) (c2 : X.cell? ⟨bj, 2, none⟩ = some (.int .i64 (at_ l i).long)) => has_chk2 rs (at_ l i).win cs wr.heap.size bj f (at_ l i).long X (by omega) (HF.out.win _ (at_mem hil)) (HF.out.long _ (at_mem hil)) (hsp.below hX) c1 c2)
            unfold inWin at HOK HFR
            have hi0' : (0 : Int) ≤ (i : Int) := by omega
            have hi1' : (i : Int) < (l.length : Int) := by omega
            clear hsp hcj
            generalize at_ l i = x at d0 d1 d2 d3 HCH HOK HWS2 HLE2 hlong hworth hwl HFR
            obtain ⟨jn, wn, lg, wt⟩ := x
            simp only at d0 d1 d2 d3 HCH HOK HWS2 HLE2 hlong hworth hwl HFR
            cases hf : wn.any (fitB lg f) with
            | false =>
              rw [hf] at HCH HOK
              have HZ := Lib.hid (HBAD.out HOK.out)
              clear HOK HBAD HUP HSEEN HWS2 HLE2 hf HFR
              go_wp2_with (first
                | ((go_at_call 48; (with_reducible refine (HFN.out _ (by (repeat (with_reducible first | exact G.out | refine Grow.grow_drewN ?_ _ | refine Grow.grow_drew ?_ | refine Grow.grow_setCell ?_ ?_ _ | refine Grow.grow_alloc ?_ _)) <;> omega) (by simp [cell?_cells])).mono ?_); rintro e w2 ⟨rfl, hb⟩; have HB2 : Hid (Below w.heap.size w w2) := Lib.hid (grow_trans (by (repeat (with_reducible first | exact G.out | refine Grow.grow_drewN ?_ _ | refine Grow.grow_drew ?_ | refine Grow.grow_setCell ?_ ?_ _ | refine Grow.grow_alloc ?_ _)) <;> omega) hb); have K2 := (Known.new wr #[Value.string nm, .int .i64 f] 37).below hb; have s0 := K2.cell 0; have s1 := K2.cell 1; simp only [List.getElem?_toArray, List.getElem?_cons_zero, List.getElem?_cons_succ] at s0 s1; have O2 := Lib.hid (ownsMap_below OM.out (grow_trans (by (repeat (with_reducible first | exact grow_refl _ | refine Grow.grow_drewN ?_ _ | refine Grow.grow_drew ?_ | refine Grow.grow_alloc ?_ _))) hb)); have HZ2 := Lib.hid hb.size; clear hb; obtain ⟨c', hrun, hat, _⟩ := O2.out.lookup_int lawS Tryd.underlying115 Tryd.underlying3 (zeroI _) hkey; obtain rfl : c' = c := (by have := hat.symm.trans HAT.out; unfold i64D at this; injection this with this; injection this)); have hz2 := HB2.out.size; have j0 := (HB2.out.cell (p := ⟨b1, _, none⟩) hb1).trans d0; have j1 := (HB2.out.cell (p := ⟨b1, _, none⟩) hb1).trans d1; have j2 := (HB2.out.cell (p := ⟨b1, _, none⟩) hb1).trans d2; have j3 := (HB2.out.cell (p := ⟨b1, _, none⟩) hb1).trans d3; have hb1' : b1 < w2.heap.size := Nat.lt_of_lt_of_le hb1 hz2; (try simp only [World.size_alloc] at HZ2); have hz3 := HZ2.out)
                | (go_at_call 50; (with_reducible refine (HCH.out _ (grow_alloc HB2.out _) _ (by simp [cell?_cells, s1]; omega) (by simp [cell?_cells])).mono ?_); rintro e w3 ⟨rfl, hb⟩; have HB3 : Hid (Below w.heap.size w w3) := Lib.hid (grow_trans (grow_alloc HB2.out _) hb); clear hb))
              go_ret3
              exact ⟨by rw [HZ.out, planW_bad HZ.out]; rfl, HB3.out⟩
            | true =>
              rw [hf] at HCH HOK
              have HZ := Lib.hid (HUP.out HOK.out)
              have hfr := HFR.out hf
              clear HOK HBAD HUP hf HFR
              go_wp2_with (first
                | ((go_at_call 48; (with_reducible refine (HFN.out _ (by (repeat (with_reducible first | exact G.out | refine Grow.grow_drewN ?_ _ | refine Grow.grow_drew ?_ | refine Grow.grow_setCell ?_ ?_ _ | refine Grow.grow_alloc ?_ _)) <;> omega) (by simp [cell?_cells])).mono ?_); rintro e w2 ⟨rfl, hb⟩; have HB2 : Hid (Below w.heap.size w w2) := Lib.hid (grow_trans (by (repeat (with_reducible first | exact G.out | refine Grow.grow_drewN ?_ _ | refine Grow.grow_drew ?_ | refine Grow.grow_setCell ?_ ?_ _ | refine Grow.grow_alloc ?_ _)) <;> omega) hb); have K2 := (Known.new wr #[Value.string nm, .int .i64 f] 37).below hb; have s0 := K2.cell 0; have s1 := K2.cell 1; simp only [List.getElem?_toArray, List.getElem?_cons_zero, List.getElem?_cons_succ] at s0 s1; have O2 := Lib.hid (ownsMap_below OM.out (grow_trans (by (repeat (with_reducible first | exact grow_refl _ | refine Grow.grow_drewN ?_ _ | refine Grow.grow_drew ?_ | refine Grow.grow_alloc ?_ _))) hb)); have HZ2 := Lib.hid hb.size; clear hb; obtain ⟨c', hrun, hat, _⟩ := O2.out.lookup_int lawS Tryd.underlying115 Tryd.underlying3 (zeroI _) hkey; obtain rfl : c' = c := (by have := hat.symm.trans HAT.out; unfold i64D at this; injection this with this; injection this)); have hz2 := HB2.out.size; have j0 := (HB2.out.cell (p := ⟨b1, _, none⟩) hb1).trans d0; have j1 := (HB2.out.cell (p := ⟨b1, _, none⟩) hb1).trans d1; have j2 := (HB2.out.cell (p := ⟨b1, _, none⟩) hb1).trans d2; have j3 := (HB2.out.cell (p := ⟨b1, _, none⟩) hb1).trans d3; have hb1' : b1 < w2.heap.size := Nat.lt_of_lt_of_le hb1 hz2; (try simp only [World.size_alloc] at HZ2); have hz3 := HZ2.out)
                | (go_at_call 50; (with_reducible refine (HCH.out _ (grow_alloc HB2.out _) _ (by simp [cell?_cells, s1]; omega) (by simp [cell?_cells])).mono ?_); rintro e w3 ⟨rfl, hb⟩; have HB3 : Hid (Below w.heap.size w w3) := Lib.hid (grow_trans (grow_alloc HB2.out _) hb); have KJ := (Known.new w2 #[Value.string jn, .slice rs wn.length cs, .int .i64 lg, .int .i64 wt] 95).below hb; have KS := (K2.alloc (.cells #[Value.string jn, .slice rs wn.length cs, .int .i64 lg, .int .i64 wt] 95)).below hb; have r0 := KS.cell 0; have r1 := KS.cell 1; have q2 := KJ.cell 2; have q3 := KJ.cell 3; simp only [List.getElem?_toArray, List.getElem?_cons_zero, List.getElem?_cons_succ] at r0 r1 q2 q3; have HL3 := Lib.hid KS.lt; have HL4 := Lib.hid KJ.lt; have O3 := Lib.hid (ownsMap_below O2.out (grow_trans (grow_alloc (grow_refl w2) _) hb)); clear hb s0 s1 j0 j1 j2 j3 hrun hat K2; obtain ⟨c'', hrun, hat, _⟩ := O3.out.lookup_int lawS Tryd.underlying115 Tryd.underlying3 (zeroI _) hkey; obtain rfl : c'' = c' := (by have := hat.symm.trans HAT.out; unfold i64D at this; injection this with this; injection this))
                | (at_mapUpdate; refine wpList_mapUpdate_own _ rfl _ _ _ 115 rfl 9 3 lawS Tryd.underlying115 _ w1.heap.size k _ rfl O3.out (by unfold maxLen; omega) _ _ _ rfl rfl hkey (i64D (c'' + 1)) [] (plainElem_int Tryd.underlying3 (WalkArith.wf_i64 (by omega))) ?_; intro w4 hown4 hgrow4; have O4 := Lib.hid hown4; have hz4 := hgrow4.size; have r1' := (cell?_grown hgrow4 (p := ⟨wr.heap.size, 1, none⟩) HL3.out (by have := OM.out.lt; simp; omega)).trans r1; have q2' := (cell?_grown hgrow4 (p := ⟨w2.heap.size, 2, none⟩) HL4.out (by have := OM.out.lt; simp; omega)).trans q2; have q3' := (cell?_grown hgrow4 (p := ⟨w2.heap.size, 3, none⟩) HL4.out (by have := OM.out.lt; simp; omega)).trans q3; have HB4 := Lib.hid (below_grownS HB3.out HB3.out.size hgrow4 (fun j hj => by cases hj; exact hz1)); have l3 := Nat.lt_of_lt_of_le HL3.out hz4; have l4 := Nat.lt_of_lt_of_le HL4.out hz4; clear hown4 hgrow4 r0 r1 q2 q3 hrun hat KJ KS)
                | go_in)
              go_frame
              go_quiet (fail)
              go_wp2
              go_roundw
              case rel =>
                refine ⟨k + 1, _, by omega, by rw [HWS2.out], by rw [HLE2.out], by go_num, O4.out, HSEEN.out (O3.out.tidy lawS).isMap, HZ, grow_drewN HB4.out _⟩
              case measure => simp [intOf]; omega
    · obtain rfl : k = p.length := by omega
      have HZ := Lib.hid (show planB l p = true from HI.out)
      have HZ2 := Lib.hid (show planW l p = worthUp l p p.length by unfold planW; rw [HZ.out]; rfl)
      go_wp2
      go_ret3
      exact ⟨by rw [HZ.out, HZ2.out]; rfl, G.out⟩
end Go.Proofs.YtjjjbkehmnfgbaaDoor
