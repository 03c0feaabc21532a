/- The program's events, walked: at a right track and level, and at wrong ones. -/
import Derived.Test.YtlfpfeidaohjmaaDoorEa6
import Derived.Test.YtlfpfeidaohjmaaDoorEc7
import Derived.Deep.MidRow
set_option linter.unusedSimpArgs false
set_option linter.unusedVariables false
namespace Go.Proofs.YtlfpfeidaohjmaaDoor
open Go.RowKit Go.Grow Go.Fl Go.Bg

theorem wpList_append_ev {w : World} {ops : Array Oper} {rest : List Oper} {o : Oper} {a : Act} {Q : Exit → Act → World → Prop} (hgd : o.guard = none) (s x : Operand) (ho : o.op = .call { callee := .builtin .append, args := #[s, x], argTypes := #[109, 109] })
    (base n : Nat) (v v2 : Value) (l1 l2 : List Ev) (hs : a.eval s = v) (hown : w.ownsRow base 115 3 v n (evL l1)) (hx : a.eval x = v2) (h2 : EvRow w v2 l2) (hL : n + l2.length ≤ 100000) (hb : base ≤ w.heap.size)
    (h : ∀ v' w', w'.ownsRow base 115 3 v' (n + l2.length) (evL (l1 ++ l2)) → Below base w w' → wpList Tryd.prog ops Q rest (a.put o.dst v') w') : wpList Tryd.prog ops Q (o :: rest) a w := by
  obtain ⟨i0, HI, HZ0, HZ1, HZ2⟩ := info_parts info_ev
  rcases h2 with ⟨rfl, rfl⟩ | ⟨g, cap, rfl, h3, h4, h5, h6⟩
  · refine wpList_append_own_none hgd s x 109 ho base 115 i0 3 Tryd.underlying109 HI v n (evL l1) hs hown hx (h _ _ ?_ (Below.refl _ _))
    simpa using hown
  · refine wpList_append_own w hgd s x 109 ho base 115 i0 (.agg #[.int .i64 0, .int .i64 0, .int .i64 0]) 3 24 Tryd.underlying109 HI HZ0 HZ1 HZ2 rfl (by decide) v n (evL l1) hs hown ⟨g, 0, none⟩ l2.length cap (evL l2) hx (evL_length l2) (fun j u hu => by rw [add_none, Nat.zero_add]; exact h6 j u hu) (evL_cell _) (by unfold maxLen; omega) (by omega) hb ?_
    intro v' w6 hown' hgr _
    rw [← evL_append] at hown'
    exact h v' w6 hown' (below_grownS (Below.refl _ _) hb hgr (fun k hk => (hown.lt k hk).1))
def EvsPost (l : List Ev) (w : World) (e : Ending) (w' : World) : Prop := ∃ v, e = .returned (.tuple #[v, .nilIface]) ∧ w'.ownsRow w.heap.size 115 3 v l.length (evL l) ∧ Below w.heap.size w w'
set_option maxRecDepth 100000 in
set_option maxHeartbeats 16000000 in
theorem events_walk (a : Nat → Addr) (F : Int) (T : Nat) (r : Option Addr) (c : Nat) (L : List Int) (n : Int) (w : World) (hs : Sen a [2, 3, 5] w) (hl : L.length ≤ 9223372036854775807) (hr : InAt w r L) (h0 : trE F T L = 0) (hn : bigH n = false) :
    Calls Tryd.prog 58 #[.agg #[.int .i64 F, .int .i64 T, .slice r L.length c], .int .i64 n] w (EvsPost (allE F T n L) w) := by
  have FT := fit_of h0
  have FTH := Lib.hid FT
  have hmost := FT.most
  have hn1 : -1099511627776 ≤ n ∧ n ≤ 1099511627776 := by
    unfold bigH at hn
    simp at hn
    omega
  have VW := Lib.hid (fun X (hX : Below w.heap.size w X) => valid_ok a F T r L c X (hs.below hX) hl (hr.below hX) h0)
  have LV := Lib.hid (fun X (hX : Below w.heap.size w X) => show Calls Tryd.prog 95 #[.int .i64 n] X fun e w' => e = .returned .nilIface ∧ Below X.heap.size X w' from by
    have h := level_walk a n X (hs.below hX)
    rw [hn] at h
    exact h)
  have CR := Lib.hid (fun X (hX : Below w.heap.size w X) => crossings_walk F T r c L n X FTH.out (hr.below hX) hn1.1 hn1.2)
  have TU := Lib.hid (fun X (hX : Below w.heap.size w X) => turns_walk F T r c L n X FTH.out (hr.below hX))
  unfold CrossPost at CR
  unfold TurnPost at TU
  have SO := Lib.hid (fun v l base n X h1 h2 h3 => sortF_walk v l base n X h1 h2 h3)
  unfold SortPost at SO
  have AL := Lib.hid (show allE F T n L = sortE (evUp F T n L (L.length - 1) ++ trUp F T n L (L.length - 1)) from rfl)
  have L1 := evUp_le F T n L (L.length - 1)
  have L2 := trUp_le F T n L (L.length - 1)
  generalize evUp F T n L (L.length - 1) = E at CR AL L1
  generalize trUp F T n L (L.length - 1) = T2 at TU AL L2
  have g : Hid (Below w.heap.size w w) := Lib.hid (grow_refl w)
  have C3 := Lib.hid (show E.length + T2.length ≤ 100000 by omega)
  unfold EvsPost
  clear hs hr FT h0 hn
  go_enter Tryd.func58, Tryd.ntmps58
  go_wp2_with (first
    | (go_at_call 65; (with_reducible refine (VW.out _ (grow_alloc g.out _)).mono ?_); rintro e w1 ⟨rfl, hb1⟩; have K := Lib.hid ((Known.new w #[.int .i64 F, .int .i64 T, .slice r L.length c] 111).below hb1); have G := Lib.hid (grow_trans (grow_alloc g.out _) hb1); clear hb1; have k0 := K.out.cell 0; have k1 := K.out.cell 1; have k2 := K.out.cell 2; have kl := K.out.lt)
    | (go_at_call 95; (with_reducible refine (LV.out _ G.out).mono ?_); rintro e w2 ⟨rfl, hb1⟩; replace K := Lib.hid (K.out.below hb1); replace G := Lib.hid (grow_trans G.out hb1); clear hb1 k0 k1 k2 kl; have k0 := K.out.cell 0; have k1 := K.out.cell 1; have k2 := K.out.cell 2; have kl := K.out.lt))
  refine Grow.wp_region_reads2 [1, 4] [0] [] 2 3 [3, 5, 6, 7] [2, 5, 6, 7] (by kernel_rfl) (by kernel_rfl) (by kernel_rfl) (by kernel_rfl) (by kernel_rfl) (by kernel_rfl) (by kernel_rfl) (by kernel_rfl) (by kernel_rfl) (by kernel_rfl) ?_ ?_
  · intro c aa d v ww h
    simp (config := {zetaDelta := true}) only [Exit.then, Exit.inBlock] at h ⊢
    exact Grow.bodyPost_blind h
  simp only [Grow.pick, List.getElem?_cons_zero, List.getElem?_cons_succ, List.cons_append, List.nil_append]
  repeat (go_big_quiet_step (fail))
  refine wpQuiet_nil ?_
  repeat (go_big_quiet_step (fail))
  refine wpQuiet_nil ?_
  repeat (go_big_quiet_step (fail))
  refine wpQuiet_nil ?_
  have K2 := Lib.hid (K.out.drew)
  have G2 := Lib.hid (Below.drew G.out)
  clear K G k0 k1 k2 kl
  have k0 := K2.out.cell 0
  have k1 := K2.out.cell 1
  have k2 := K2.out.cell 2
  refine ⟨?_, ?_⟩
  all_goals
    go_wp2_with (first
      | (go_at_call 96; (with_reducible refine (CR.out _ G2.out).mono ?_); rintro e w3 ⟨v3, rfl, ho, hb1⟩; have O := Lib.hid (owns_base ho G2.out.size); replace K2 := Lib.hid (K2.out.below hb1); replace G2 := Lib.hid (grow_trans G2.out hb1); clear hb1 ho k0 k1 k2; have k0 := K2.out.cell 0; have k1 := K2.out.cell 1; have k2 := K2.out.cell 2)
      | (go_at_call 97; (with_reducible refine (TU.out _ G2.out).mono ?_); rintro e w4 ⟨v4, rfl, ho, hb1⟩; have R := Lib.hid (EvRow.of_owns ho); replace O := Lib.hid (ownsRow_belowS O.out hb1); replace G2 := Lib.hid (grow_trans G2.out hb1); clear hb1 ho k0 k1 k2 K2)
      | (at_builtin; refine wpList_append_ev rfl _ _ rfl _ _ _ _ _ _ rfl O.out rfl R.out C3.out G2.out.size ?_; intro v5 w5 ho hb1; have O5 := Lib.hid ho; have G5 := Lib.hid (G2.out.trans hb1); clear ho hb1)
      | (go_at_call 98; (with_reducible refine (SO.out _ _ _ _ _ (by rw [List.length_append]; exact C3.out) O5.out G5.out.size).mono ?_); rintro e w6 ⟨rfl, ho, hb1⟩; have O6 := Lib.hid ho; have G6 := Lib.hid (G5.out.trans hb1); clear ho hb1))
    go_ret2
    refine ⟨_, rfl, ?_, G6.out⟩
    rw [AL.out, sortE_length]
    exact O6.out
set_option maxRecDepth 100000 in
set_option maxHeartbeats 8000000 in
theorem events_bad (a : Nat → Addr) (F S : Int) (r : Option Addr) (c : Nat) (L : List Int) (n : Int) (w : World) (hs : Sen a [2, 3, 5] w) (hl : L.length ≤ 9223372036854775807) (hr : InAt w r L) (h0 : winE F S L n ≠ 0) :
    Calls Tryd.prog 58 #[.agg #[.int .i64 F, .int .i64 S, .slice r L.length c], .int .i64 n] w (WbPost a (winE F S L n) w) := by
  have VW := Lib.hid (fun X (hX : Below w.heap.size w X) => valid_walk a F S r L c X (hs.below hX) hl (hr.below hX))
  have LV := Lib.hid (fun X (hX : Below w.heap.size w X) => level_walk a n X (hs.below hX))
  unfold VPost trk at VW
  unfold WbPost
  have g : Hid (Below w.heap.size w w) := Lib.hid (grow_refl w)
  by_cases h1 : trE F S L = 0
  · have h2 : bigH n = true := by
      unfold winE at h0
      rw [if_neg (by simpa using h1)] at h0
      by_cases h : bigH n = true
      · exact h
      · simp [h] at h0
    have hW : winE F S L n = 5 := by unfold winE; rw [if_neg (by simpa using h1), if_pos h2]
    rw [hW]
    rw [h1] at VW
    rw [h2, if_pos rfl] at LV
    rw [errV_zero] at VW
    rw [errV_pos a (by decide)] at LV ⊢
    clear hs hr h1 h2 h0 hW
    go_enter Tryd.func58, Tryd.ntmps58
    go_wp2_with (first
      | (go_at_call 65; (with_reducible refine (VW.out _ (grow_alloc g.out _)).mono ?_); rintro e w1 ⟨rfl, hb9⟩; have KK := Lib.hid ((Known.new w #[.int .i64 F, .int .i64 S, .slice r L.length c] 111).below hb9); have GG := Lib.hid (grow_trans (grow_alloc g.out _) hb9); clear hb9)
      | (go_at_call 95; (with_reducible refine (LV.out _ GG.out).mono ?_); rintro e w2 ⟨rfl, hb9⟩; replace GG := Lib.hid (grow_trans GG.out hb9); clear hb9))
    go_ret2
    exact ⟨rfl, GG.out⟩
  · have hW : winE F S L n = trE F S L := by unfold winE; rw [if_pos h1]
    rw [hW]
    rw [errV_pos a h1] at VW ⊢
    generalize trE F S L = k at VW ⊢
    clear hs hr h1 h0 hW LV
    go_enter Tryd.func58, Tryd.ntmps58
    go_wp2_with (go_at_call 65; (with_reducible refine (VW.out _ (grow_alloc g.out _)).mono ?_); rintro e w1 ⟨rfl, hb9⟩; have GG := Lib.hid (grow_trans (grow_alloc g.out _) hb9); clear hb9)
    go_ret2
    exact ⟨rfl, GG.out⟩
end Go.Proofs.YtlfpfeidaohjmaaDoor
/- The program's first rise or set, walked. -/
set_option linter.unusedSimpArgs false
set_option linter.unusedVariables false
namespace Go.Proofs.YtlfpfeidaohjmaaDoor
open Go.RowKit Go.Grow Go.Fl Go.Bg

set_option maxRecDepth 100000 in
set_option maxHeartbeats 8000000 in
theorem first1_walk (ek ea ex x : Int) (b : Nat) (w : World) (h : w.cell? ⟨b, 0, none⟩ = some (.int .i64 x)) :
    Calls Tryd.prog 103 #[.agg #[.int .i64 ek, .int .i64 ea, .int .i64 ex], .pointer (some ⟨b, 0, none⟩)] w fun e w' => e = .returned (.bool (isFirst x ⟨ek, ea, ex⟩)) ∧ Below w.heap.size w w' := by
  have hl := lt_of_cellS h
  simp only at hl
  unfold isFirst
  simp only
  by_cases h1 : ek ≤ 2
  · have d1 : decide (ek ≤ 2) = true := decide_eq_true h1
    by_cases h2 : x ≤ ea
    · have d2 : decide (x ≤ ea) = true := decide_eq_true h2
      rw [d1, d2]
      go_enter Tryd.func103, Tryd.ntmps103
      go_wp2
      go_ret
      exact ⟨rfl, grow_alloc (grow_refl w) _⟩
    · have d2 : decide (x ≤ ea) = false := decide_eq_false h2
      rw [d1, d2]
      go_enter Tryd.func103, Tryd.ntmps103
      go_wp2
      go_ret
      exact ⟨rfl, grow_alloc (grow_refl w) _⟩
  · have d1 : decide (ek ≤ 2) = false := decide_eq_false h1
    rw [d1, Bool.false_and]
    go_enter Tryd.func103, Tryd.ntmps103
    go_wp2
    go_ret
    exact ⟨rfl, grow_alloc (grow_refl w) _⟩
/-- The place of the first from an instant on. -/
def firstI (x : Int) (l : List Ev) : Int := match l.findIdx? (isFirst x) with | some i => (i : Int) | none => -1
def FixPost (x : Int) (l : List Ev) (w : World) (e : Ending) (w' : World) : Prop := e = .returned (.int .i64 (firstI x l)) ∧ Below w.heap.size w w'
theorem firstI_at {x : Int} {l : List Ev} {k : Nat} (hk : k < l.length) (h1 : ∀ j (h : j < l.length), j < k → isFirst x l[j] = false) (h2 : isFirst x l[k] = true) : firstI x l = k := by
  unfold firstI
  rw [List.findIdx?_eq_some_iff_getElem.2 ⟨hk, h2, fun j hj => by simpa using h1 j (by omega) hj⟩]
theorem firstI_none {x : Int} {l : List Ev} (h1 : ∀ j (h : j < l.length), isFirst x l[j] = false) : firstI x l = -1 := by
  unfold firstI
  rw [List.findIdx?_eq_none_iff.2 (fun e he => by
    obtain ⟨j, hj, rfl⟩ := List.mem_iff_getElem.1 he
    exact h1 j hj)]
set_option maxRecDepth 100000 in
set_option maxHeartbeats 8000000 in
theorem idxE_walk (v : Value) (l : List Ev) (x : Int) (b : Nat) (w : World) (hn : l.length ≤ 100000) (hr : EvRow w v l) (hx : w.cell? ⟨b, 0, none⟩ = some (.int .i64 x)) :
    Calls Tryd.prog 102 #[v, .func (.func 103) #[] #[.pointer (some ⟨b, 0, none⟩)]] w (FixPost x l w) := by
  have V1 := Lib.hid (fun ek ea ex X (hX : Below w.heap.size w X) => first1_walk ek ea ex x b X ((hX.cell (p := ⟨b, 0, none⟩) (lt_of_cellS hx)).trans hx))
  unfold FixPost
  rcases hr with ⟨rfl, rfl⟩ | ⟨g, cap, rfl, hcap, hcap2, hg, hc⟩
  · clear hx V1
    go_enter Tryd.func102, Tryd.ntmps102
    go_wp2
    refine wp_loop_rounds 1 ?_
    rw [rounds_succ]
    go_wp2
    go_ret
    exact ⟨rfl, Below.refl _ _⟩
  · have CC := Lib.hid hc
    have FA := Lib.hid (fun k => @firstI_at x l k)
    have FN := Lib.hid (@firstI_none x l)
    clear hx hc
    go_enter Tryd.func102, Tryd.ntmps102
    go_wp2
    go_loopw [8] (fun v8 wr => ∃ k : Nat, k ≤ l.length ∧ v8 = .int .i64 k ∧ (∀ j (h : j < l.length), j < k → isFirst x l[j] = false) ∧ Below w.heap.size w wr) (fun i _ => l.length - (intOf i).toNat)
    case atStart => exact ⟨0, Nat.zero_le _, rfl, fun j h h2 => absurd h2 (by omega), Below.refl _ _⟩
    case round =>
      obtain ⟨k, hk, rfl, hno, hb⟩ := hrel
      have HNO := Lib.hid hno
      have G := Lib.hid hb
      clear hno hb
      by_cases hlt : k < l.length
      · obtain ⟨s0, s1, s2⟩ := evL_get l k hlt
        have c0 := (G.out.cell (p := ⟨g, _, none⟩) hg).trans (CC.out _ _ s0)
        have c1 := (G.out.cell (p := ⟨g, _, none⟩) hg).trans (CC.out _ _ s1)
        have c2 := (G.out.cell (p := ⟨g, _, none⟩) hg).trans (CC.out _ _ s2)
        have hgr : g < wr.heap.size := Nat.lt_of_lt_of_le hg G.out.size
        have hi0 : (0 : Int) ≤ (k : Int) := by omega
        have hi1 : (k : Int) < (l.length : Int) := by omega
        have FK := Lib.hid (fun h => FA.out k hlt HNO.out h)
        have NK := Lib.hid (show isFirst x l[k] = false → ∀ j (h : j < l.length), j < k + 1 → isFirst x l[j] = false from fun h j hj h2 => by
          by_cases h3 : j = k
          · subst h3; exact h
          · exact HNO.out j hj (by omega))
        clear s0 s1 s2
        generalize l[k] = y at c0 c1 c2 FK NK
        obtain ⟨yk, ya, yx⟩ := y
        simp only at c0 c1 c2
        have V2 := Lib.hid (fun X hX => V1.out yk ya yx X hX)
        obtain ⟨bb, hbb⟩ : ∃ bb, isFirst x ⟨yk, ya, yx⟩ = bb := ⟨_, rfl⟩
        rw [hbb] at V2 FK NK
        clear hbb
        cases bb
        · go_wp2_with (go_at_call 103; (with_reducible refine (V2.out _ G.out).mono ?_); rintro e w1 ⟨rfl, hb9⟩; have G2 := Lib.hid (grow_trans G.out hb9); clear hb9)
          go_roundw
          case rel => exact ⟨k + 1, by omega, by go_num, by first | exact NK.out | exact NK.out trivial | exact NK.out rfl, G2.out⟩
          case measure => simp [intOf]; omega
        · go_wp2_with (go_at_call 103; (with_reducible refine (V2.out _ G.out).mono ?_); rintro e w1 ⟨rfl, hb9⟩; have G2 := Lib.hid (grow_trans G.out hb9); clear hb9)
          go_ret
          have ef : firstI x l = k := by first | exact FK.out | exact FK.out trivial | exact FK.out rfl
          exact ⟨by rw [ef]; rfl, G2.out⟩
      · have e := FN.out (fun j hj => HNO.out j hj (by omega))
        obtain rfl : k = l.length := by omega
        go_wp2
        go_ret
        exact ⟨by rw [e]; rfl, G.out⟩
theorem results_known3 {P : Program} {fn : Func} {p q1 q2 : Tmp} {ty : TypeId} (h : fn.results = #[.cell p ty, .tmp q1, .tmp q2]) (tmps : Array Value) (w : World) (g : Nat) (cs : List Value) (d : TypeDesc)
    (hp : tmps.getD p undef = .pointer (some ⟨g, 0, none⟩)) (hK : Known w g cs.toArray) (hu : P.underlying ty = some d) (hd : d.isRow = true) (hi : (P.info? ty).map (·.size) = some cs.length) :
    (results fn tmps).run P w = .ok (.tuple #[.agg cs.toArray, tmps.getD q1 undef, tmps.getD q2 undef]) w := by
  have hp' : tmps[p]?.getD undef = .pointer (some ⟨g, 0, none⟩) := by simpa using hp
  have hl := run_loadVar_mid (P := P) w g 0 ty cs d (fun j v hv => by rw [Nat.zero_add, hK.cell j]; simpa using hv) hu hd hi
  simp [results, h, hp', asAddr, hl]
theorem alloc_evt (w : World) : (Instr.alloc 115 true (.tuple #[])).run Tryd.prog w = .ok (.pointer (some ⟨w.heap.size, 0, none⟩)) (w.alloc (.cells #[.int .i64 0, .int .i64 0, .int .i64 0] 115)) := by kernel_rfl
def zeroE : Ev := ⟨0, 0, 0⟩
/-- What First answers at a right track. -/
def firstE (x : Int) (l : List Ev) : Ev × Bool := if 0 ≤ firstI x l then (l.getD (firstI x l).toNat zeroE, true) else (zeroE, false)
def FstPost (a : Nat → Addr) (y : Ev) (s : Bool) (k : Nat) (w : World) (e : Ending) (w' : World) : Prop := e = .returned (.tuple #[.agg #[.int .i64 y.k, .int .i64 y.at', .int .i64 y.ix], .bool s, errV a k]) ∧ Below w.heap.size w w'
theorem firstI_lt (x : Int) (l : List Ev) : -1 ≤ firstI x l ∧ firstI x l < l.length := by
  unfold firstI
  cases h : l.findIdx? (isFirst x) with
  | none => simp; omega
  | some i =>
    obtain ⟨hi, _⟩ := List.findIdx?_eq_some_iff_getElem.1 h
    simp; omega
set_option maxRecDepth 100000 in
set_option maxHeartbeats 16000000 in
theorem first_walk (a : Nat → Addr) (F : Int) (T : Nat) (r : Option Addr) (c : Nat) (L : List Int) (n x : Int) (w : World) (hs : Sen a [2, 3, 5] w) (hl : L.length ≤ 9223372036854775807) (hr : InAt w r L) (h0 : trE F T L = 0) (hn : bigH n = false) :
    Calls Tryd.prog 59 #[.agg #[.int .i64 F, .int .i64 T, .slice r L.length c], .int .i64 n, .int .i64 x] w (FstPost a (firstE x (allE F T n L)).1 (firstE x (allE F T n L)).2 0 w) := by
  have EW := Lib.hid (fun X (hX : Below w.heap.size w X) => events_walk a F T r c L n X (hs.below hX) hl (hr.below hX) h0 hn)
  have hmost := (fit_of h0).most
  have hlen : (allE F T n L).length ≤ 100000 := by
    have := foundE_len F T n L
    unfold allE
    rw [sortE_length]
    omega
  unfold EvsPost at EW
  generalize allE F T n L = l at EW hlen ⊢
  have IW := Lib.hid (fun v b X hr hx => idxE_walk v l x b X hlen hr hx)
  unfold FixPost at IW
  obtain ⟨j1, j2⟩ := firstI_lt x l
  have FE := Lib.hid (show firstE x l = if 0 ≤ firstI x l then (l.getD (firstI x l).toNat zeroE, true) else (zeroE, false) from rfl)
  obtain ⟨i, hi⟩ : ∃ i, firstI x l = i := ⟨_, rfl⟩
  rw [hi] at IW j1 j2 FE
  clear hi
  have g : Hid (Below w.heap.size w w) := Lib.hid (grow_refl w)
  unfold FstPost
  rw [errV_zero]
  clear hs hr h0 hn
  by_cases hi0 : 0 ≤ i
  · obtain ⟨k, rfl⟩ : ∃ k : Nat, i = (k : Int) := ⟨i.toNat, by omega⟩
    have hk : k < l.length := by omega
    have hz0 : ¬ (k : Int) < 0 := by omega
    have hi1 : (k : Int) < (l.length : Int) := by omega
    obtain ⟨s0, s1, s2⟩ := evL_get l k hk
    have S0 := Lib.hid s0
    have S1 := Lib.hid s1
    have S2 := Lib.hid s2
    rw [if_pos hi0, Int.toNat_natCast] at FE
    have FG := Lib.hid (show l.getD k zeroE = l[k] by simp [hk])
    rw [FE.out, FG.out]
    clear s0 s1 s2
    generalize l[k] = y at S0 S1 S2 ⊢
    obtain ⟨yk, ya, yx⟩ := y
    simp only at S0 S1 S2 ⊢
    go_enter Tryd.func59, Tryd.ntmps59
    go_wp2_with (first
      | (go_at_call 58; (with_reducible refine (EW.out _ (grow_alloc (grow_alloc (grow_alloc g.out _) _) _)).mono ?_); rintro e w1 ⟨v1, rfl, ho, hb1⟩; have KX := Lib.hid (show w1.cell? ⟨w.heap.size + 1, 0, none⟩ = some (.int .i64 x) from (((Known.new' (c := #[.int .i64 x]) (by simp)).alloc _).below hb1).cell 0); have KR := Lib.hid (show Known w1 (w.heap.size + 1 + 1) #[.int .i64 0, .int .i64 0, .int .i64 0] from (Known.new' (by simp)).below hb1); have G := Lib.hid (grow_trans (grow_alloc (grow_alloc (grow_alloc g.out _) _) _) hb1); have ER := Lib.hid (EvRow.of_owns ho); obtain ⟨g1, cp1, rfl, hcp, hcp2, hg1, hc1⟩ := ER.out.resolve_left (by rintro ⟨_, h⟩; rw [h] at hk; exact absurd hk (by simp)); have CC1 := Lib.hid hc1; clear hc1; clear ho hb1)
      | (go_at_call 102; (with_reducible refine (IW.out _ _ _ ER.out KX.out).mono ?_); rintro e w2 ⟨rfl, hb2⟩; replace KR := Lib.hid (KR.out.below hb2); replace G := Lib.hid (grow_trans G.out hb2); have c0 := (hb2.cell (p := ⟨g1, _, none⟩) hg1).trans (CC1.out _ _ S0.out); have c1 := (hb2.cell (p := ⟨g1, _, none⟩) hg1).trans (CC1.out _ _ S1.out); have c2 := (hb2.cell (p := ⟨g1, _, none⟩) hg1).trans (CC1.out _ _ S2.out); have hg2 := Nat.lt_of_lt_of_le hg1 hb2.size; clear hb2; have k0 := KR.out.cell 0; have k1 := KR.out.cell 1; have k2 := KR.out.cell 2; have kl := KR.out.lt; have z0 := KR.out.frozen 0; have z1 := KR.out.frozen 1; have z2 := KR.out.frozen 2))
    (try simp only [Exit.inBlock, Exit.then])
    refine bodyPost_ret (results_known3 rfl _ _ (w.heap.size + 1 + 1) [.int .i64 yk, .int .i64 ya, .int .i64 yx] _ rfl ?_ Tryd.underlying115 rfl (by kernel_rfl)) rfl ?_
    · exact Known.at KR.out (((KR.out.same 0 _).same 1 _).same 2 _)
    · refine ⟨rfl, ?_⟩
      (repeat (with_reducible first | exact G.out | refine Grow.grow_setCell ?_ ?_ _)) <;> omega
  · have hz0 : i < 0 := by omega
    rw [if_neg hi0] at FE
    rw [FE.out]
    unfold zeroE
    simp only
    go_enter Tryd.func59, Tryd.ntmps59
    go_wp2_with (first
      | (go_at_call 58; (with_reducible refine (EW.out _ (grow_alloc (grow_alloc (grow_alloc g.out _) _) _)).mono ?_); rintro e w1 ⟨v1, rfl, ho, hb1⟩; have KX := Lib.hid (show w1.cell? ⟨w.heap.size + 1, 0, none⟩ = some (.int .i64 x) from (((Known.new' (c := #[.int .i64 x]) (by simp)).alloc _).below hb1).cell 0); have KR := Lib.hid (show Known w1 (w.heap.size + 1 + 1) #[.int .i64 0, .int .i64 0, .int .i64 0] from (Known.new' (by simp)).below hb1); have G := Lib.hid (grow_trans (grow_alloc (grow_alloc (grow_alloc g.out _) _) _) hb1); have ER := Lib.hid (EvRow.of_owns ho); clear ho hb1)
      | (go_at_call 102; (with_reducible refine (IW.out _ _ _ ER.out KX.out).mono ?_); rintro e w2 ⟨rfl, hb2⟩; replace KR := Lib.hid (KR.out.below hb2); replace G := Lib.hid (grow_trans G.out hb2); clear hb2; have k0 := KR.out.cell 0; have k1 := KR.out.cell 1; have k2 := KR.out.cell 2; have kl := KR.out.lt; have z0 := KR.out.frozen 0; have z1 := KR.out.frozen 1; have z2 := KR.out.frozen 2))
    (try simp only [Exit.inBlock, Exit.then])
    refine bodyPost_ret (results_known3 rfl _ _ (w.heap.size + 1 + 1) [.int .i64 0, .int .i64 0, .int .i64 0] _ rfl ?_ Tryd.underlying115 rfl (by kernel_rfl)) rfl ?_
    · exact Known.at KR.out (((KR.out.same 0 _).same 1 _).same 2 _)
    · refine ⟨rfl, ?_⟩
      (repeat (with_reducible first | exact G.out | refine Grow.grow_setCell ?_ ?_ _)) <;> omega
set_option maxRecDepth 100000 in
set_option maxHeartbeats 16000000 in
theorem first_bad (a : Nat → Addr) (F S : Int) (r : Option Addr) (c : Nat) (L : List Int) (n x : Int) (w : World) (hs : Sen a [2, 3, 5] w) (hl : L.length ≤ 9223372036854775807) (hr : InAt w r L) (h0 : winE F S L n ≠ 0) :
    Calls Tryd.prog 59 #[.agg #[.int .i64 F, .int .i64 S, .slice r L.length c], .int .i64 n, .int .i64 x] w (FstPost a zeroE false (winE F S L n) w) := by
  have EW := Lib.hid (fun X (hX : Below w.heap.size w X) => events_bad a F S r c L n X (hs.below hX) hl (hr.below hX) h0)
  have g : Hid (Below w.heap.size w w) := Lib.hid (grow_refl w)
  unfold FstPost zeroE
  unfold WbPost at EW
  generalize winE F S L n = k at EW h0 ⊢
  rw [errV_pos a h0] at EW ⊢
  simp only
  clear hs hr h0
  go_enter Tryd.func59, Tryd.ntmps59
  go_wp2_with (go_at_call 58; (with_reducible refine (EW.out _ (grow_alloc (grow_alloc (grow_alloc g.out _) _) _)).mono ?_); rintro e w1 ⟨rfl, hb1⟩; have KR := Lib.hid (show Known w1 (w.heap.size + 1 + 1) #[.int .i64 0, .int .i64 0, .int .i64 0] from (Known.new' (by simp)).below hb1); have G := Lib.hid (grow_trans (grow_alloc (grow_alloc (grow_alloc g.out _) _) _) hb1); clear hb1; have k0 := KR.out.cell 0; have k1 := KR.out.cell 1; have k2 := KR.out.cell 2; have kl := KR.out.lt; have z0 := KR.out.frozen 0; have z1 := KR.out.frozen 1; have z2 := KR.out.frozen 2)
  (try simp only [Exit.inBlock, Exit.then])
  refine bodyPost_ret (results_known3 rfl _ _ (w.heap.size + 1 + 1) [.int .i64 0, .int .i64 0, .int .i64 0] _ rfl ?_ Tryd.underlying115 rfl (by kernel_rfl)) rfl ?_
  · exact Known.at KR.out (((KR.out.same 0 _).same 1 _).same 2 _)
  · refine ⟨rfl, ?_⟩
    (repeat (with_reducible first | exact G.out | refine Grow.grow_setCell ?_ ?_ _)) <;> omega
end Go.Proofs.YtlfpfeidaohjmaaDoor
