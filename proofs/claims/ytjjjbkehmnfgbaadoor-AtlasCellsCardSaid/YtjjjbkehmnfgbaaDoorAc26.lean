/- Cells of directions: the law, walked. -/
import Derived.Test.YtjjjbkehmnfgbaaDoorAc25
import Derived.Deep.DeepCutAuto
import Derived.Deep.CutBlock
import Derived.Outline
set_option linter.unusedSimpArgs false
set_option linter.unusedVariables false
namespace Go.Proofs.YtjjjbkehmnfgbaaDoor
open Go.RowKit Go.Grow Go.Atl Go.Maps

theorem cellE_le (d : Dr) (lev : Int) : cellE d lev ≤ 10 := by unfold cellE; split <;> (try split) <;> omega
theorem cellE_ok {d : Dr} {lev : Int} (h : cellE d lev = 0) : isDir d = true ∧ 0 ≤ lev ∧ lev ≤ 12 := by
  unfold cellE at h
  split at h
  · omega
  · split at h
    · omega
    · rename_i h1 h2; exact ⟨by simpa using h1, by omega, by omega⟩
theorem cellR_good {d : Dr} {lev : Int} (L : Nat) (h1 : isDir d = true) (h2 : lev = L) (h3 : L ≤ 12) : cellR d lev = cellAt d L := by
  have he : cellE d lev = 0 := by unfold cellE; rw [if_neg (by rw [h1]; decide), if_neg (by omega)]
  unfold cellR
  rw [if_pos he, h2, Int.toNat_natCast]
theorem cellR_low {d : Dr} {lev : Int} (h : lev < 0) : cellR d lev = ⟨0, 0, 0, 0⟩ := by
  have he : cellE d lev ≠ 0 := by unfold cellE; split; decide; rw [if_pos (.inl h)]; decide
  unfold cellR
  rw [if_neg he]
def faceB (fc lv : Int) : Bool := decide (0 ≤ fc) && decide (fc < 6) && decide (0 ≤ lv) && decide (lv ≤ 12)
def inB (co ro n : Int) : Bool := decide (0 ≤ co) && decide (co < n) && decide (0 ≤ ro) && decide (ro < n)
theorem valid_parts (fc lv co ro : Int) : validS ⟨fc, lv, co, ro⟩ = (faceB fc lv && inB co ro ((2 ^ (min lv.toNat 20) : Nat) : Int)) := by
  rw [Bool.eq_iff_iff, validS_iff, Bool.and_eq_true]
  unfold faceB inB
  simp only [Bool.and_eq_true, decide_eq_true_eq]
  constructor
  · rintro ⟨h1, h2, h3, h4, h5, h6, h7, h8⟩
    rw [show min lv.toNat 20 = lv.toNat by omega]
    push_cast
    exact ⟨⟨⟨⟨h1, h2⟩, h3⟩, h4⟩, ⟨⟨h5, h7⟩, h6⟩, h8⟩
  · rintro ⟨⟨⟨⟨h1, h2⟩, h3⟩, h4⟩, ⟨⟨h5, h7⟩, h6⟩, h8⟩
    rw [show min lv.toNat 20 = lv.toNat by omega] at h7 h8
    push_cast at h7 h8
    exact ⟨h1, h2, h3, h4, h5, h6, h7, h8⟩
theorem pow20 : ∀ k : Nat, k < 21 → 2 ^ k ≤ 1048576 := by decide +kernel
theorem cellOf_any (a : Nat → Addr) (d : Dr) (lev : Int) (w : World) (hs : Sen a [2, 5] w) :
    Calls Tryd.prog 20 #[drV d, .int .i64 lev] w fun e w' => e = .returned (.tuple #[spV (cellR d lev), errV a (cellE d lev)]) ∧ Below w.heap.size w w' := by
  cases hd : isDir d
  · have he : cellE d lev = 5 := by unfold cellE; rw [if_pos hd]
    unfold cellR
    rw [he, if_neg (by decide)]
    exact cellOf_dir a d lev w hs hd
  · by_cases hl : lev < 0 ∨ 12 < lev
    · have he : cellE d lev = 2 := by unfold cellE; rw [if_neg (by rw [hd]; decide), if_pos hl]
      unfold cellR
      rw [he, if_neg (by decide)]
      exact cellOf_lev a d lev w hs hd hl
    · have he : cellE d lev = 0 := by unfold cellE; rw [if_neg (by rw [hd]; decide), if_neg hl]
      unfold cellR
      rw [he, if_pos rfl]
      obtain ⟨L, rfl⟩ : ∃ L : Nat, lev = L := ⟨lev.toNat, by omega⟩
      rw [Int.toNat_natCast]
      exact cellOf_good d L w hd (by omega)
theorem cellAt_any (d : Dr) (lev : Int) (w : World) :
    Calls Tryd.prog 21 #[drV d, .int .i64 lev] w fun e w' => e = .returned (.tuple #[spV (cellR d lev), .int .i64 (cellE d lev)]) ∧ Below w.heap.size w w' := by
  cases hd : isDir d
  · have he : cellE d lev = 5 := by unfold cellE; rw [if_pos hd]
    unfold cellR
    rw [he, if_neg (by decide)]
    exact cellAt_dir d lev w hd
  · by_cases hl : lev < 0 ∨ 12 < lev
    · have he : cellE d lev = 2 := by unfold cellE; rw [if_neg (by rw [hd]; decide), if_pos hl]
      unfold cellR
      rw [he, if_neg (by decide)]
      exact cellAt_lev d lev w hd hl
    · have he : cellE d lev = 0 := by unfold cellE; rw [if_neg (by rw [hd]; decide), if_neg hl]
      unfold cellR
      rw [he, if_pos rfl]
      obtain ⟨L, rfl⟩ : ∃ L : Nat, lev = L := ⟨lev.toNat, by omega⟩
      rw [Int.toNat_natCast]
      exact cellAt_good d L w hd (by omega)
set_option maxRecDepth 100000 in
set_option maxHeartbeats 64000000 in
theorem law_cells (a : Nat → Addr) (r : Option Addr) (l : List En) (cap : Nat) (lev : Int) (d : Dr) (s : Sp) (w : World) (hs : Sen a allK w) (hh : Hand w) (hne : ∀ j ∈ allK, ∀ k ∈ allK, j ≠ k → a j ≠ a k) (hl : l.length ≤ 9223372036854775807) (hr : EnsAt w r l) (hn : ∀ k, k < l.length → (en l k).name.size ≤ maxLen) (ho : outB l d = false) :
    Calls Tryd.prog 5 #[.slice r l.length cap, .int .i64 lev, drV d, spV s] w fun e w' => e = .returned (.bool true) ∧ Below w.heap.size w w' := by
  have LW := Lib.hid (fun X => listed_walk X)
  have FW := Lib.hid (fun X (hX : Below w.heap.size w X) => few_walk r l cap X hl (hr.below hX) hn)
  have HS := Lib.hid hs
  have HH := Lib.hid hh
  have HNE := Lib.hid hne
  have HR := Lib.hid hr
  have HN := Lib.hid hn
  clear hr hn hs hh hne
  have hf : fewB l = true := by
    unfold outB at ho
    cases h : fewB l
    · rw [h] at ho; cases ho
    · rfl
  have hx : hugeB d.x = false := by
    unfold outB at ho
    cases h : hugeB d.x
    · rfl
    · rw [h] at ho; simp at ho
  have hy : hugeB d.y = false := by
    unfold outB at ho
    cases h : hugeB d.y
    · rfl
    · rw [h] at ho; simp at ho
  have hz : hugeB d.z = false := by
    unfold outB at ho
    cases h : hugeB d.z
    · rfl
    · rw [h] at ho; simp at ho
  clear ho
  have hl2 : l.length ≤ 200 := by unfold fewB at hf; simp only [Bool.and_eq_true, decide_eq_true_eq] at hf; exact hf.2
  rw [hf] at FW
  clear hf
  have CA := Lib.hid (fun X (hX : Below w.heap.size w X) => cellOf_any a d lev X (Sen.below (ks := [2, 5]) (fun k hk => HS.out k ((by decide : ∀ k ∈ [2, 5], k ∈ allK) k hk)) hX))
  have CB := Lib.hid (fun X => cellAt_any d lev X)
  have CB2 := Lib.hid (fun X => cellAt_any d (lev - 1) X)
  have CC := Lib.hid (fun X (hX : Below w.heap.size w X) => coded_same a (cellE d lev) (cellE_le d lev) X (HS.out.below hX) (HH.out.below hX) HNE.out)
  have SO := Lib.hid (fun p X => spotOf_walk p X)
  have VS := Lib.hid (fun p X => valid_spot p X)
  have OKC := Lib.hid (show cellE d lev = 0 → isDir d = true ∧ 0 ≤ lev ∧ lev ≤ 12 from cellE_ok)
  have RC := Lib.hid (fun L h1 h2 h3 => cellR_good (d := d) (lev := lev) L h1 h2 h3)
  have RC2 := Lib.hid (fun L h1 h2 h3 => cellR_good (d := d) (lev := lev - 1) L h1 h2 h3)
  have RC3 := Lib.hid (fun h => cellR_low (d := d) (lev := lev - 1) h)
  generalize hcr : cellR d lev = cr at *
  generalize hcr2 : cellR d (lev - 1) = cr2 at *
  generalize hce : cellE d lev = ce at *
  clear hcr hcr2
  obtain ⟨x, y, z⟩ := d
  obtain ⟨fc, lv, co, ro⟩ := s
  obtain ⟨cf, cl, cx, cy⟩ := cr
  obtain ⟨of, ol, ox, oy⟩ := cr2
  have HX := Lib.hid (fun X => huge_walk x X)
  have HY := Lib.hid (fun X => huge_walk y X)
  have HZ := Lib.hid (fun X => huge_walk z X)
  rw [hx] at HX
  rw [hy] at HY
  rw [hz] at HZ
  clear hx hy hz
  have KX := Lib.hid (fun X (hX : Below ((w.alloc (.cells #[.int .i64 x, .int .i64 y, .int .i64 z] 46)).alloc (.cells #[.int .i64 fc, .int .i64 lv, .int .i64 co, .int .i64 ro] 48)).heap.size ((w.alloc (.cells #[.int .i64 x, .int .i64 y, .int .i64 z] 46)).alloc (.cells #[.int .i64 fc, .int .i64 lv, .int .i64 co, .int .i64 ro] 48)) X) => (Known.alloc (Known.new w #[.int .i64 x, .int .i64 y, .int .i64 z] 46) (.cells #[.int .i64 fc, .int .i64 lv, .int .i64 co, .int .i64 ro] 48)).below hX)
  have GX := Lib.hid (fun X (hX : Below ((w.alloc (.cells #[.int .i64 x, .int .i64 y, .int .i64 z] 46)).alloc (.cells #[.int .i64 fc, .int .i64 lv, .int .i64 co, .int .i64 ro] 48)).heap.size ((w.alloc (.cells #[.int .i64 x, .int .i64 y, .int .i64 z] 46)).alloc (.cells #[.int .i64 fc, .int .i64 lv, .int .i64 co, .int .i64 ro] 48)) X) => grow_trans (grow_alloc (grow_alloc (grow_refl w) _) _) hX)
  have KS := Lib.hid (fun X (hX : Below ((w.alloc (.cells #[.int .i64 x, .int .i64 y, .int .i64 z] 46)).alloc (.cells #[.int .i64 fc, .int .i64 lv, .int .i64 co, .int .i64 ro] 48)).heap.size ((w.alloc (.cells #[.int .i64 x, .int .i64 y, .int .i64 z] 46)).alloc (.cells #[.int .i64 fc, .int .i64 lv, .int .i64 co, .int .i64 ro] 48)) X) => (Known.new' (w := w.alloc (.cells #[.int .i64 x, .int .i64 y, .int .i64 z] 46)) (c := #[.int .i64 fc, .int .i64 lv, .int .i64 co, .int .i64 ro]) (t := 48) (b := w.heap.size + 1) (by simp)).below hX)
  unfold drV spV at CA CB CB2 ⊢
  simp only at CA CB CB2 RC RC2 RC3 ⊢
  go_enter Tryd.func5, Tryd.ntmps5
  go_upto_region 8 with (first
    | (go_at_call 17; (with_reducible refine (LW.out _).mono ?_); rintro e1 w1 ⟨rfl, hb⟩; have B1 := Lib.hid hb; clear hb)
    | (go_at_call 18; (with_reducible refine (FW.out _ (GX.out _ B1.out)).mono ?_); rintro e2 w2 ⟨rfl, hb⟩; have B2 := Lib.hid (grow_trans B1.out hb); have K := Lib.hid (KX.out _ B2.out); clear hb B1; have k0 := K.out.cell 0; have lk := K.out.lt; simp only [List.getElem?_toArray, List.getElem?_cons_zero, List.getElem?_cons_succ] at k0)
    | (go_at_call 19; (with_reducible refine (HX.out _).mono ?_); rintro e3 w3 ⟨rfl, hb⟩; have B3 := Lib.hid (grow_trans B2.out hb); clear hb B2 K k0 lk; have K := Lib.hid (KX.out _ B3.out); have k1 := K.out.cell 1; have lk := K.out.lt; simp only [List.getElem?_toArray, List.getElem?_cons_zero, List.getElem?_cons_succ] at k1)
    | (go_at_call 19; (with_reducible refine (HY.out _).mono ?_); rintro e4 w4 ⟨rfl, hb⟩; have B4 := Lib.hid (grow_trans B3.out hb); clear hb B3 K k1 lk; have K := Lib.hid (KX.out _ B4.out); have k2 := K.out.cell 2; have lk := K.out.lt; simp only [List.getElem?_toArray, List.getElem?_cons_zero, List.getElem?_cons_succ] at k2)
    | (go_at_call 19; (with_reducible refine (HZ.out _).mono ?_); rintro e5 w5 ⟨rfl, hb⟩; have B5 := Lib.hid (grow_trans B4.out hb); clear hb B4 K k2 lk; have KD := Lib.hid (KX.out _ B5.out); have KT := Lib.hid (KS.out _ B5.out); have G5 := Lib.hid (GX.out _ B5.out); clear B5 KX KS GX))
  clear LW FW HX HY HZ
  have c0 := KD.out.cell 0
  have c1 := KD.out.cell 1
  have c2 := KD.out.cell 2
  have lc := KD.out.lt
  simp only [List.getElem?_toArray, List.getElem?_cons_zero, List.getElem?_cons_succ] at c0 c1 c2
  go_upto_region 11 with (first
    | (go_at_call 20; (with_reducible refine (CA.out _ G5.out).mono ?_); rintro e6 w6 ⟨rfl, hb⟩; have B6 := Lib.hid hb; have KC := Lib.hid (Known.new w6 #[.int .i64 cf, .int .i64 cl, .int .i64 cx, .int .i64 cy] 51); have G6 := Lib.hid (grow_alloc (grow_trans G5.out hb) (.cells #[.int .i64 cf, .int .i64 cl, .int .i64 cx, .int .i64 cy] 51)); have KD6 := Lib.hid ((KD.out.below hb).alloc (.cells #[.int .i64 cf, .int .i64 cl, .int .i64 cx, .int .i64 cy] 51)); have KT6 := Lib.hid ((KT.out.below hb).alloc (.cells #[.int .i64 cf, .int .i64 cl, .int .i64 cx, .int .i64 cy] 51)); clear hb c0 c1 c2 lc KD KT; have c0 := KD6.out.cell 0; have c1 := KD6.out.cell 1; have c2 := KD6.out.cell 2; have lc := KD6.out.lt; simp only [List.getElem?_toArray, List.getElem?_cons_zero, List.getElem?_cons_succ] at c0 c1 c2)
    | (go_at_call 21; (with_reducible refine (CB.out _).mono ?_); rintro e7 w7 ⟨rfl, hb⟩; have KC7 := Lib.hid ((KC.out.below hb).alloc (.cells #[.int .i64 cf, .int .i64 cl, .int .i64 cx, .int .i64 cy] 48)); have KW := Lib.hid (Known.new w7 #[.int .i64 cf, .int .i64 cl, .int .i64 cx, .int .i64 cy] 48); have G7 := Lib.hid (grow_alloc (grow_trans G6.out hb) (.cells #[.int .i64 cf, .int .i64 cl, .int .i64 cx, .int .i64 cy] 48)); have KD7 := Lib.hid ((KD6.out.below hb).alloc (.cells #[.int .i64 cf, .int .i64 cl, .int .i64 cx, .int .i64 cy] 48)); have KT7 := Lib.hid ((KT6.out.below hb).alloc (.cells #[.int .i64 cf, .int .i64 cl, .int .i64 cx, .int .i64 cy] 48)); clear hb c0 c1 c2 lc KD6 KT6 KC G6)
    | (go_at_call 12; (with_reducible refine (CC.out _ G7.out).mono ?_); rintro e8 w8 ⟨rfl, hb⟩; have KC8 := Lib.hid (KC7.out.below hb); have KW8 := Lib.hid (KW.out.below hb); have G8 := Lib.hid (grow_trans G7.out hb); have KD8 := Lib.hid (KD7.out.below hb); have KT8 := Lib.hid (KT7.out.below hb); clear hb KC7 KW G7 KD7 KT7))
  have SOC := Lib.hid (fun X => spotOf_walk ⟨cf, cl, cx, cy⟩ X)
  unfold spV at SOC
  simp only at SOC
  have KC8d := Lib.hid KC8.out.drew
  have KW8d := Lib.hid KW8.out.drew
  have a0 := KC8d.out.cell 0
  have a1 := KC8d.out.cell 1
  have a2 := KC8d.out.cell 2
  have a3 := KC8d.out.cell 3
  have la := KC8d.out.lt
  have b0 := KW8d.out.cell 0
  have b1 := KW8d.out.cell 1
  have b2 := KW8d.out.cell 2
  have b3 := KW8d.out.cell 3
  have lb := KW8d.out.lt
  simp only [List.getElem?_toArray, List.getElem?_cons_zero, List.getElem?_cons_succ] at a0 a1 a2 a3 b0 b1 b2 b3
  go_cut [82] (fun v82 wx => v82 = .bool false ∧ Known wx (w.heap.size + 1) #[.int .i64 fc, .int .i64 lv, .int .i64 co, .int .i64 ro] ∧ Known wx w.heap.size #[.int .i64 x, .int .i64 y, .int .i64 z] ∧ Known wx w6.heap.size #[.int .i64 cf, .int .i64 cl, .int .i64 cx, .int .i64 cy] ∧ Below w.heap.size w wx)
  case first =>
    refine Grow.wp_region_plan (.quiet [0, 1, 2] (.reads [4] (.two 3 (.tail [5, 6, 7]) 5 (.tail [3, 6, 7])))) (by kernel_rfl) (by kernel_rfl) (by kernel_rfl) (by kernel_rfl) ?_ ?_
    · intro c aa d v ww h
      first
        | exact Grow.bodyPost_blind h
        | (simp (config := {zetaDelta := true}) only [Exit.then, Exit.inBlock] at h ⊢; first | exact Grow.bodyPost_blind h | exact h)
    simp only [Grow.Plan.wp, Grow.pick, List.getElem?_cons_zero, List.getElem?_cons_succ, List.cons_append, List.nil_append]
    repeat (go_big_quiet_step (fail))
    refine wpQuiet_nil ?_
    repeat (go_big_quiet_step (fail))
    refine wpQuiet_nil ?_
    unfold oneK
    refine ⟨?_, ?_⟩
    · go_wp2_with (go_at_call 22; (with_reducible refine (SOC.out _).mono ?_); rintro e9 w9 ⟨rfl, hb⟩; have B9 := Lib.hid hb; clear hb)
      go_meet
      exact ⟨rfl, KT8.out.drew.below B9.out, KD8.out.drew.below B9.out, KC8d.out.below B9.out, grow_trans (grow_drew G8.out) B9.out⟩
    · go_wp2_with (go_at_call 22; (with_reducible refine (SOC.out _).mono ?_); rintro e9 w9 ⟨rfl, hb⟩; have B9 := Lib.hid hb; clear hb; have KC9 := Lib.hid (KC8d.out.below B9.out); have m0 := KC9.out.cell 0; have m1 := KC9.out.cell 1; have m2 := KC9.out.cell 2; have m3 := KC9.out.cell 3; have lm := KC9.out.lt; simp only [List.getElem?_toArray, List.getElem?_cons_zero, List.getElem?_cons_succ] at m0 m1 m2 m3)
      go_meet
      exact ⟨rfl, KT8.out.drew.below B9.out, KD8.out.drew.below B9.out, KC8d.out.below B9.out, grow_trans (grow_drew G8.out) B9.out⟩
  case rest =>
    obtain ⟨rfl, kt, kd, kc, kg⟩ := hcut
    have KT := Lib.hid kt
    have KD := Lib.hid kd
    have KC := Lib.hid kc
    have G := Lib.hid kg
    clear kt kd kc kg a0 a1 a2 a3 la b0 b1 b2 b3 lb KC8d KW8d KC8 KW8 G8 KD8 KT8 SOC
    go_upto_if 84 with (fail)
    go_cut [] (fun wx => Known wx (w.heap.size + 1) #[.int .i64 fc, .int .i64 lv, .int .i64 co, .int .i64 ro] ∧ Below w.heap.size w wx)
    case first =>
      cases ce with
      | succ n =>
        go_wp2
        go_meet
        exact ⟨KT.out, G.out⟩
      | zero =>
        obtain ⟨hd, hl0, hl1⟩ := OKC.out rfl
        obtain ⟨L, rfl⟩ : ∃ L : Nat, lev = L := ⟨lev.toNat, by omega⟩
        have hL : L ≤ 12 := by omega
        have HRC := RC.out L hd rfl hL
        have hv : validS ⟨cf, cl, cx, cy⟩ = true := by rw [HRC]; exact cell_valid hd hL
        have VV := Lib.hid (fun X => valid_spot ⟨cf, cl, cx, cy⟩ X)
        rw [hv] at VV
        have hcl : cl = L := congrArg Sp.level HRC
        have k0 := KC.out.cell 0
        have k1 := KC.out.cell 1
        have k2 := KC.out.cell 2
        have k3 := KC.out.cell 3
        have lk := KC.out.lt
        simp only [List.getElem?_toArray, List.getElem?_cons_zero, List.getElem?_cons_succ] at k0 k1 k2 k3
        have SOU := Lib.hid (fun X => spotOf_walk ⟨of, ol, ox, oy⟩ X)
        unfold spV at SOU VV
        simp only at SOU VV
        have CB3 := Lib.hid (fun X (n : Int) (hn : n = (L : Int) - 1) => hn ▸ CB2.out X)
        clear CA CB CC SO VS HS HH HNE HR HN OKC CB2
        cases L with
        | zero =>
          obtain rfl : cl = 0 := by simpa using hcl
          have UP := Lib.hid (fun X => up_zero cf cx cy X hv)
          have h0 := RC3.out (by simp)
          simp only [Sp.mk.injEq] at h0
          obtain ⟨rfl, rfl, rfl, rfl⟩ := h0
          unfold spV at UP
          simp only at UP
          clear RC RC2 RC3 HRC hv hcl hl0 hl1
          as_aux_lemma =>
            go_upto_region 17 with (first
              | (go_at_call 23; (with_reducible refine (UP.out _).mono ?_); rintro e8 w8 ⟨rfl, hb⟩; have B8 := Lib.hid (grow_trans G.out hb); have KU8 := Lib.hid (Known.new w8 #[.int .i64 0, .int .i64 0, .int .i64 0, .int .i64 0] 51); have KC8 := Lib.hid ((KC.out.below hb).alloc (.cells #[.int .i64 0, .int .i64 0, .int .i64 0, .int .i64 0] 51)); have KD8 := Lib.hid ((KD.out.below hb).alloc (.cells #[.int .i64 0, .int .i64 0, .int .i64 0, .int .i64 0] 51)); have KT8 := Lib.hid ((KT.out.below hb).alloc (.cells #[.int .i64 0, .int .i64 0, .int .i64 0, .int .i64 0] 51)); have G8 := Lib.hid (grow_alloc B8.out (.cells #[.int .i64 0, .int .i64 0, .int .i64 0, .int .i64 0] 51)); clear hb k0 k1 k2 k3 lk; have c0 := KD8.out.cell 0; have c1 := KD8.out.cell 1; have c2 := KD8.out.cell 2; have lc := KD8.out.lt; simp only [List.getElem?_toArray, List.getElem?_cons_zero, List.getElem?_cons_succ] at c0 c1 c2)
              | (go_at_call 21; (with_reducible refine (CB3.out _ _ (by first | omega | (simp; done) | (simp; omega) | (rw [IntWalk.i64_in _ (by omega)]; omega) | (rw [IntWalk.i64_in _ (by omega)]))).mono ?_); rintro e9 w9 ⟨rfl, hb⟩; have KU9 := Lib.hid ((KU8.out.below hb).alloc (.cells #[.int .i64 0, .int .i64 0, .int .i64 0, .int .i64 0] 48)); have KO9 := Lib.hid (Known.new w9 #[.int .i64 0, .int .i64 0, .int .i64 0, .int .i64 0] 48); have KC9 := Lib.hid ((KC8.out.below hb).alloc (.cells #[.int .i64 0, .int .i64 0, .int .i64 0, .int .i64 0] 48)); have KT9 := Lib.hid ((KT8.out.below hb).alloc (.cells #[.int .i64 0, .int .i64 0, .int .i64 0, .int .i64 0] 48)); have G9 := Lib.hid (grow_alloc (grow_trans G8.out hb) (.cells #[.int .i64 0, .int .i64 0, .int .i64 0, .int .i64 0] 48)); clear hb c0 c1 c2 lc KU8 KC8 KT8 KD8; have k0 := KC9.out.cell 0; have k1 := KC9.out.cell 1; have k2 := KC9.out.cell 2; have k3 := KC9.out.cell 3; have lk := KC9.out.lt; simp only [List.getElem?_toArray, List.getElem?_cons_zero, List.getElem?_cons_succ] at k0 k1 k2 k3)
              | (go_at_call 24; (with_reducible refine (VV.out _).mono ?_); rintro e10 w10 ⟨rfl, hb⟩; have KUa := Lib.hid ((KU9.out.below hb).drew); have KOa := Lib.hid ((KO9.out.below hb).drew); have KTa := Lib.hid ((KT9.out.below hb).drew); have Ga := Lib.hid (grow_drew (grow_trans G9.out hb)); clear hb k0 k1 k2 k3 lk KU9 KO9 KC9 KT9))
            have a0 := KUa.out.cell 0
            have a1 := KUa.out.cell 1
            have a2 := KUa.out.cell 2
            have a3 := KUa.out.cell 3
            have la := KUa.out.lt
            have b0 := KOa.out.cell 0
            have b1 := KOa.out.cell 1
            have b2 := KOa.out.cell 2
            have b3 := KOa.out.cell 3
            have lb := KOa.out.lt
            simp only [List.getElem?_toArray, List.getElem?_cons_zero, List.getElem?_cons_succ] at a0 a1 a2 a3 b0 b1 b2 b3
            refine Grow.wp_region_plan (.quiet [0, 1, 2, 3, 4] (.reads [6] (.two 5 (.one 7 (.quiet [8, 9, 10, 11, 12, 13] (.tail []))) 7 (.one 5 (.quiet [8, 9, 10, 11, 12, 13] (.tail [])))))) (by kernel_rfl) (by kernel_rfl) (by kernel_rfl) (by kernel_rfl) ?_ ?_
            · intro c aa d v ww h
              first
                | exact Grow.bodyPost_blind h
                | (simp (config := {zetaDelta := true}) only [Exit.then, Exit.inBlock] at h ⊢; first | exact Grow.bodyPost_blind h | exact h)
            simp only [Grow.Plan.wp, Grow.pick, List.getElem?_cons_zero, List.getElem?_cons_succ, List.cons_append, List.nil_append]
            repeat (go_big_quiet_step (fail))
            refine wpQuiet_nil ?_
            repeat (go_big_quiet_step (fail))
            refine wpQuiet_nil ?_
            unfold oneK
            refine ⟨?_, ?_⟩
            · go_wp2_with (go_at_call 22; (with_reducible refine (SOU.out _).mono ?_); rintro e11 w11 ⟨rfl, hb⟩; have B11 := Lib.hid hb; clear hb)
              repeat (go_big_quiet_step (fail))
              refine wpQuiet_nil ?_
              go_wp2
              go_meet
              exact ⟨KTa.out.below B11.out, grow_trans Ga.out B11.out⟩
            · go_wp2_with (go_at_call 22; (with_reducible refine (SOU.out _).mono ?_); rintro e11 w11 ⟨rfl, hb⟩; have B11 := Lib.hid hb; clear hb; have KUb := Lib.hid (KUa.out.below B11.out); have m0 := KUb.out.cell 0; have m1 := KUb.out.cell 1; have m2 := KUb.out.cell 2; have m3 := KUb.out.cell 3; have lm := KUb.out.lt; simp only [List.getElem?_toArray, List.getElem?_cons_zero, List.getElem?_cons_succ] at m0 m1 m2 m3)
              repeat (go_big_quiet_step (fail))
              refine wpQuiet_nil ?_
              go_wp2
              go_meet
              exact ⟨KTa.out.below B11.out, grow_trans Ga.out B11.out⟩
        | succ K =>
          have hn0 : cl ≠ 0 := by omega
          have UP := Lib.hid (fun X => up_good cf cl cx cy X hv hn0)
          have h0 := RC2.out K hd (by simp) (by omega)
          have h1 : upOf ⟨cf, cl, cx, cy⟩ = ⟨of, ol, ox, oy⟩ := by rw [HRC, up_cell hd, h0]
          rw [h1] at UP
          unfold spV at UP
          simp only at UP
          clear RC RC2 RC3 HRC hv h0 h1 hcl hn0 hl0 hl1
          as_aux_lemma =>
            go_upto_region 17 with (first
              | (go_at_call 23; (with_reducible refine (UP.out _).mono ?_); rintro e8 w8 ⟨rfl, hb⟩; have B8 := Lib.hid (grow_trans G.out hb); have KU8 := Lib.hid (Known.new w8 #[.int .i64 of, .int .i64 ol, .int .i64 ox, .int .i64 oy] 51); have KC8 := Lib.hid ((KC.out.below hb).alloc (.cells #[.int .i64 of, .int .i64 ol, .int .i64 ox, .int .i64 oy] 51)); have KD8 := Lib.hid ((KD.out.below hb).alloc (.cells #[.int .i64 of, .int .i64 ol, .int .i64 ox, .int .i64 oy] 51)); have KT8 := Lib.hid ((KT.out.below hb).alloc (.cells #[.int .i64 of, .int .i64 ol, .int .i64 ox, .int .i64 oy] 51)); have G8 := Lib.hid (grow_alloc B8.out (.cells #[.int .i64 of, .int .i64 ol, .int .i64 ox, .int .i64 oy] 51)); clear hb k0 k1 k2 k3 lk; have c0 := KD8.out.cell 0; have c1 := KD8.out.cell 1; have c2 := KD8.out.cell 2; have lc := KD8.out.lt; simp only [List.getElem?_toArray, List.getElem?_cons_zero, List.getElem?_cons_succ] at c0 c1 c2)
              | (go_at_call 21; (with_reducible refine (CB3.out _ _ (by first | omega | (simp; done) | (simp; omega) | (rw [IntWalk.i64_in _ (by omega)]; omega) | (rw [IntWalk.i64_in _ (by omega)]))).mono ?_); rintro e9 w9 ⟨rfl, hb⟩; have KU9 := Lib.hid ((KU8.out.below hb).alloc (.cells #[.int .i64 of, .int .i64 ol, .int .i64 ox, .int .i64 oy] 48)); have KO9 := Lib.hid (Known.new w9 #[.int .i64 of, .int .i64 ol, .int .i64 ox, .int .i64 oy] 48); have KC9 := Lib.hid ((KC8.out.below hb).alloc (.cells #[.int .i64 of, .int .i64 ol, .int .i64 ox, .int .i64 oy] 48)); have KT9 := Lib.hid ((KT8.out.below hb).alloc (.cells #[.int .i64 of, .int .i64 ol, .int .i64 ox, .int .i64 oy] 48)); have G9 := Lib.hid (grow_alloc (grow_trans G8.out hb) (.cells #[.int .i64 of, .int .i64 ol, .int .i64 ox, .int .i64 oy] 48)); clear hb c0 c1 c2 lc KU8 KC8 KT8 KD8; have k0 := KC9.out.cell 0; have k1 := KC9.out.cell 1; have k2 := KC9.out.cell 2; have k3 := KC9.out.cell 3; have lk := KC9.out.lt; simp only [List.getElem?_toArray, List.getElem?_cons_zero, List.getElem?_cons_succ] at k0 k1 k2 k3)
              | (go_at_call 24; (with_reducible refine (VV.out _).mono ?_); rintro e10 w10 ⟨rfl, hb⟩; have KUa := Lib.hid ((KU9.out.below hb).drew); have KOa := Lib.hid ((KO9.out.below hb).drew); have KTa := Lib.hid ((KT9.out.below hb).drew); have Ga := Lib.hid (grow_drew (grow_trans G9.out hb)); clear hb k0 k1 k2 k3 lk KU9 KO9 KC9 KT9))
            have a0 := KUa.out.cell 0
            have a1 := KUa.out.cell 1
            have a2 := KUa.out.cell 2
            have a3 := KUa.out.cell 3
            have la := KUa.out.lt
            have b0 := KOa.out.cell 0
            have b1 := KOa.out.cell 1
            have b2 := KOa.out.cell 2
            have b3 := KOa.out.cell 3
            have lb := KOa.out.lt
            simp only [List.getElem?_toArray, List.getElem?_cons_zero, List.getElem?_cons_succ] at a0 a1 a2 a3 b0 b1 b2 b3
            refine Grow.wp_region_plan (.quiet [0, 1, 2, 3, 4] (.reads [6] (.two 5 (.one 7 (.quiet [8, 9, 10, 11, 12, 13] (.tail []))) 7 (.one 5 (.quiet [8, 9, 10, 11, 12, 13] (.tail [])))))) (by kernel_rfl) (by kernel_rfl) (by kernel_rfl) (by kernel_rfl) ?_ ?_
            · intro c aa d v ww h
              first
                | exact Grow.bodyPost_blind h
                | (simp (config := {zetaDelta := true}) only [Exit.then, Exit.inBlock] at h ⊢; first | exact Grow.bodyPost_blind h | exact h)
            simp only [Grow.Plan.wp, Grow.pick, List.getElem?_cons_zero, List.getElem?_cons_succ, List.cons_append, List.nil_append]
            repeat (go_big_quiet_step (fail))
            refine wpQuiet_nil ?_
            repeat (go_big_quiet_step (fail))
            refine wpQuiet_nil ?_
            unfold oneK
            refine ⟨?_, ?_⟩
            · go_wp2_with (go_at_call 22; (with_reducible refine (SOU.out _).mono ?_); rintro e11 w11 ⟨rfl, hb⟩; have B11 := Lib.hid hb; clear hb)
              repeat (go_big_quiet_step (fail))
              refine wpQuiet_nil ?_
              go_wp2
              go_meet
              exact ⟨KTa.out.below B11.out, grow_trans Ga.out B11.out⟩
            · go_wp2_with (go_at_call 22; (with_reducible refine (SOU.out _).mono ?_); rintro e11 w11 ⟨rfl, hb⟩; have B11 := Lib.hid hb; clear hb; have KUb := Lib.hid (KUa.out.below B11.out); have m0 := KUb.out.cell 0; have m1 := KUb.out.cell 1; have m2 := KUb.out.cell 2; have m3 := KUb.out.cell 3; have lm := KUb.out.lt; simp only [List.getElem?_toArray, List.getElem?_cons_zero, List.getElem?_cons_succ] at m0 m1 m2 m3)
              repeat (go_big_quiet_step (fail))
              refine wpQuiet_nil ?_
              go_wp2
              go_meet
              exact ⟨KTa.out.below B11.out, grow_trans Ga.out B11.out⟩
    case rest =>
      obtain ⟨kt, kg⟩ := hcut
      have KU := Lib.hid kt
      have GU := Lib.hid kg
      clear kt kg KT KD KC G CA CB CB2 CC OKC RC RC2 RC3
      by_cases hbad : lev < 0 ∨ 12 < lev
      · have EN := Lib.hid (fun X (hX : Below w.heap.size w X) => entries_no a r l.length cap lev X (HS.out.below hX) (HH.out.below hX) HNE.out hbad)
        go_wp2_with (go_at_call 25; (with_reducible refine (EN.out _ GU.out).mono ?_); rintro ea wa ⟨rfl, hb⟩; have BA := Lib.hid (grow_trans GU.out hb); clear hb)
        go_ret
        exact ⟨rfl, BA.out⟩
      · obtain ⟨L, rfl⟩ : ∃ L : Nat, lev = L := ⟨lev.toNat, by omega⟩
        have hL : L ≤ 12 := by omega
        clear hbad
        have EN := Lib.hid (fun X (hX : Below w.heap.size w X) => entries_walk a r l cap L X (HS.out.below hX) (HH.out.below hX) HNE.out hl2 hL (HR.out.below hX) HN.out)
        have SOS := Lib.hid (fun X => spotOf_walk ⟨fc, lv, co, ro⟩ X)
        have VVS := Lib.hid (fun X => valid_spot ⟨fc, lv, co, ro⟩ X)
        have HVP := Lib.hid (valid_parts fc lv co ro)
        unfold spV at SOS VVS
        simp only at SOS VVS
        clear SO VS HS HH HNE HR HN
        generalize hV : validS ⟨fc, lv, co, ro⟩ = V at *
        have HV := Lib.hid hV
        clear hV
        go_wp2_with (first
          | (go_at_call 25; (with_reducible refine (EN.out _ GU.out).mono ?_); rintro ea wa ⟨rfl, v5, vd5, hp5, hd5, hb⟩; have PA := Lib.hid hp5; have DA := Lib.hid hd5; have BA := Lib.hid (grow_trans GU.out hb); have KA := Lib.hid (KU.out.below hb); clear hb hp5 hd5; have s0 := KA.out.cell 0; have s1 := KA.out.cell 1; have s2 := KA.out.cell 2; have s3 := KA.out.cell 3; have lsx := KA.out.lt; simp only [List.getElem?_toArray, List.getElem?_cons_zero, List.getElem?_cons_succ] at s0 s1 s2 s3)
          | (go_at_call 22; (with_reducible refine (SOS.out _).mono ?_); rintro eb wb ⟨rfl, hb⟩; have BB := Lib.hid hb; clear hb s0 s1 s2 s3 lsx)
          | (go_at_call 24; (with_reducible refine (VVS.out _).mono ?_); rintro ec wz ⟨rfl, hb⟩; have BZ := Lib.hid (grow_trans BB.out hb); clear hb BB))
        have KZ := Lib.hid (KA.out.below BZ.out)
        have PZ := Lib.hid (PA.out.below BZ.out)
        have DZ := Lib.hid (DA.out.off (X := fun _ => False) (Off.of_below BZ.out) (fun f => f) (fun _ _ f => f))
        have GZ := Lib.hid (grow_trans BA.out BZ.out)
        clear PA DA BA KA BZ
        have s0 := KZ.out.cell 0
        have s1 := KZ.out.cell 1
        have s2 := KZ.out.cell 2
        have s3 := KZ.out.cell 3
        have lsx := KZ.out.lt
        simp only [List.getElem?_toArray, List.getElem?_cons_zero, List.getElem?_cons_succ] at s0 s1 s2 s3
        generalize hes : addUp l l.length = es at *
        have HES := Lib.hid (show es.length ≤ 200 by rw [← hes]; exact Nat.le_trans (addUp_len l l.length) hl2)
        have HED := Lib.hid (show ∀ k, k < es.length → isDir (en es k).at' = true from fun k hk => by
          rw [en_get hk]
          exact addUp_dir l l.length _ (by rw [hes]; exact List.getElem_mem hk))
        clear hes
        go_loopw [27, 28] (fun v27 v28 wr => ∃ k : Nat, k ≤ min lv.toNat 20 ∧ v27 = .int .i64 ((2 ^ k : Nat) : Int) ∧ v28 = .int .i64 k ∧ wr = wz) (fun _ i _ => 20 - (intOf i).toNat)
        case atStart => exact ⟨0, Nat.zero_le _, rfl, rfl, rfl⟩
        case round =>
          obtain ⟨k, hk, rfl, rfl, rfl⟩ := hrel
          by_cases hlt : (k : Int) < lv ∧ k < 20
          · have d1 : decide ((k : Int) < lv) = true := decide_eq_true hlt.1
            have d2 : decide ((k : Int) < 20) = true := decide_eq_true (by omega)
            have hp := pow20 k (by omega)
            have hq : 2 ^ (k + 1) = 2 ^ k * 2 := Nat.pow_succ ..
            have hk1 : k + 1 ≤ min lv.toNat 20 := by omega
            have hk2 : k < 20 := hlt.2
            generalize 2 ^ k = p at *
            clear hlt hk
            go_wp2
            go_roundw
            case rel => exact ⟨k + 1, hk1, by rw [hq]; go_num, by go_num, by first | rfl | trivial⟩
            case measure => simp [intOf]; omega
          · go_upto_region 27 with (fail)
            go_cut [135] (fun v135 wx => v135 = .bool false ∧ wx = wr)
            case first =>
              by_cases c1 : (k : Int) < lv
              · have d1 : decide ((k : Int) < lv) = true := decide_eq_true c1
                have d2 : decide ((k : Int) < 20) = false := decide_eq_false (by omega)
                clear hlt hk c1
                go_wp2
                go_meet
                exact ⟨rfl, rfl⟩
              · have d1 : decide ((k : Int) < lv) = false := decide_eq_false c1
                clear hlt hk c1
                go_wp2
                go_meet
                exact ⟨rfl, rfl⟩
            case rest =>
              obtain ⟨rfl, rfl⟩ := hcut
              obtain rfl : k = min lv.toNat 20 := by omega
              have hp := pow20 (min lv.toNat 20) (by omega)
              clear hlt hk
              generalize 2 ^ (min lv.toNat 20) = p at *
              generalize min lv.toNat 20 = kk at *
              go_upto_region 30 with (fail)
              go_cut [29] (fun v29 wx => v29 = .bool (faceB fc lv) ∧ wx = wc)
              case first =>
                by_cases c0 : 0 ≤ fc
                · have d0 : decide (0 ≤ fc) = true := decide_eq_true c0
                  by_cases c1 : fc < 6
                  · have d1 : decide (fc < 6) = true := decide_eq_true c1
                    by_cases c2 : 0 ≤ lv
                    · have d2 : decide (0 ≤ lv) = true := decide_eq_true c2
                      by_cases c3 : lv ≤ 12
                      · have d3 : decide (lv ≤ 12) = true := decide_eq_true c3
                        go_wp2
                        go_meet
                        exact ⟨by unfold faceB; rw [d0, d1, d2, d3]; rfl, rfl⟩
                      · have d3 : decide (lv ≤ 12) = false := decide_eq_false c3
                        go_wp2
                        go_meet
                        exact ⟨by unfold faceB; rw [d0, d1, d2, d3]; simp, rfl⟩
                    · have d2 : decide (0 ≤ lv) = false := decide_eq_false c2
                      go_wp2
                      go_meet
                      exact ⟨by unfold faceB; rw [d0, d1, d2]; simp, rfl⟩
                  · have d1 : decide (fc < 6) = false := decide_eq_false c1
                    go_wp2
                    go_meet
                    exact ⟨by unfold faceB; rw [d0, d1]; simp, rfl⟩
                · have d0 : decide (0 ≤ fc) = false := decide_eq_false c0
                  go_wp2
                  go_meet
                  exact ⟨by unfold faceB; rw [d0]; simp, rfl⟩
              case rest =>
                obtain ⟨rfl, rfl⟩ := hcut
                generalize hF : faceB fc lv = F at *
                go_upto_region 31 with (fail)
                go_cut [30] (fun v30 wx => v30 = .bool (inB co ro p) ∧ wx = wc)
                case first =>
                  by_cases c0 : 0 ≤ co
                  · have d0 : decide (0 ≤ co) = true := decide_eq_true c0
                    by_cases c1 : co < (p : Int)
                    · have d1 : decide (co < (p : Int)) = true := decide_eq_true c1
                      by_cases c2 : 0 ≤ ro
                      · have d2 : decide (0 ≤ ro) = true := decide_eq_true c2
                        by_cases c3 : ro < (p : Int)
                        · have d3 : decide (ro < (p : Int)) = true := decide_eq_true c3
                          go_wp2
                          go_meet
                          exact ⟨by unfold inB; rw [d0, d1, d2, d3]; rfl, rfl⟩
                        · have d3 : decide (ro < (p : Int)) = false := decide_eq_false c3
                          go_wp2
                          go_meet
                          exact ⟨by unfold inB; rw [d0, d1, d2, d3]; simp, rfl⟩
                      · have d2 : decide (0 ≤ ro) = false := decide_eq_false c2
                        go_wp2
                        go_meet
                        exact ⟨by unfold inB; rw [d0, d1, d2]; simp, rfl⟩
                    · have d1 : decide (co < (p : Int)) = false := decide_eq_false c1
                      go_wp2
                      go_meet
                      exact ⟨by unfold inB; rw [d0, d1]; simp, rfl⟩
                  · have d0 : decide (0 ≤ co) = false := decide_eq_false c0
                    go_wp2
                    go_meet
                    exact ⟨by unfold inB; rw [d0]; simp, rfl⟩
                case rest =>
                  obtain ⟨rfl, rfl⟩ := hcut
                  generalize hI : inB co ro p = I at *
                  clear hF hI
                  cases V with
                  | false =>
                    have PN := Lib.hid (fun X (hX : Below wc.heap.size wc X) => pIn_no X _ _ _ _ L es _ ⟨fc, lv, co, ro⟩ (PZ.out.below hX) (.inl HV.out))
                    unfold spV at PN
                    simp only at PN
                    have hFI : (F = false) ∨ (F = true ∧ I = false) := by
                      have := HVP.out
                      cases F
                      · exact .inl rfl
                      · cases I
                        · exact .inr ⟨rfl, rfl⟩
                        · cases this
                    clear HVP
                    rcases hFI with rfl | ⟨rfl, rfl⟩
                    all_goals as_aux_lemma =>
                      go_wp2_with (first
                        | (go_at_call 22; (with_reducible refine (SOS.out _).mono ?_); rintro ed wd ⟨rfl, hb⟩; have BD := Lib.hid hb; clear hb)
                        | (go_at_call 26; (with_reducible refine (PN.out _ BD.out).mono ?_); rintro ee we ⟨rfl, hb⟩; have BE := Lib.hid (grow_trans BD.out hb); clear hb))
                      go_ret
                      exact ⟨by first | rfl | simp, grow_trans GZ.out BE.out⟩
                  | true =>
                    obtain rfl : F = true := by have := HVP.out; cases F; cases this; rfl
                    obtain rfl : I = true := by have := HVP.out; cases I; cases this; rfl
                    obtain ⟨v0, v1, v2, v3, v4, v5', v6, v7⟩ := (validS_iff _).1 HV.out
                    simp only at v2 v3
                    obtain ⟨M, rfl⟩ : ∃ M : Nat, lv = M := ⟨lv.toNat, by omega⟩
                    have hM12 : M ≤ 12 := by omega
                    clear v0 v1 v4 v5' v6 v7 HVP v2 v3
                    have h200 := HES.out
                    by_cases hML : M ≤ L
                    · have PI := Lib.hid (fun X (hX : Below wc.heap.size wc X) => pIn_walk X _ _ _ _ L es _ fc co ro M (PZ.out.below hX) (by omega) hM12 hML HV.out HED.out sorts)
                      have DI := Lib.hid (fun X (hX : Below wc.heap.size wc X) => dIn_walk X _ _ L es _ fc co ro M (DZ.out.off (X := fun _ => False) (Off.of_below hX) (fun f => f) (fun _ _ f => f)) (by omega) hM12 (by omega) HED.out)
                      have hlen := Nat.le_trans (inUp_len es ⟨fc, M, co, ro⟩ M es.length) h200
                      unfold spV at PI DI
                      simp only at PI DI
                      generalize inUp es ⟨fc, M, co, ro⟩ M es.length = ns at *
                      as_aux_lemma =>
                        go_wp2_with (first
                          | (go_at_call 22; (with_reducible refine (SOS.out _).mono ?_); rintro ed wd ⟨rfl, hb⟩; have BD := Lib.hid hb; clear hb)
                          | (go_at_call 26; (with_reducible refine (PI.out _ BD.out).mono ?_); rintro ee we ⟨q7, rfl, hown, hb⟩; obtain ⟨r7, c7, rfl, _, hst⟩ := str_of_owns hown; have S7 := Lib.hid hst; have BE := Lib.hid (grow_trans BD.out hb); clear hb hst hown; have KE := Lib.hid (KZ.out.below BE.out); clear s0 s1 s2 s3 lsx; have s0 := KE.out.cell 0; have s1 := KE.out.cell 1; have s2 := KE.out.cell 2; have s3 := KE.out.cell 3; have lsx := KE.out.lt; simp only [List.getElem?_toArray, List.getElem?_cons_zero, List.getElem?_cons_succ] at s0 s1 s2 s3)
                          | (go_at_call 28; (with_reducible refine (DI.out _ BE.out).mono ?_); rintro ef wf ⟨q8, rfl, hown, hb⟩; obtain ⟨r8, c8, rfl, _, hst⟩ := str_of_owns hown; have S8 := Lib.hid hst; have T7 := Lib.hid (S7.out.below hb); have BF := Lib.hid (grow_trans BE.out hb); clear hb hst hown)
                          | (go_at_call 27; (with_reducible refine (same_walk r7 r8 ns ns c7 c8 wf (by omega) (by omega) T7.out S8.out).mono ?_); rintro eg wg ⟨rfl, hb⟩; have BG := Lib.hid (grow_trans BF.out hb); clear hb))
                        go_ret
                        exact ⟨by first | rfl | simp, grow_trans GZ.out BG.out⟩
                    · have PN := Lib.hid (fun X (hX : Below wc.heap.size wc X) => pIn_no X _ _ _ _ L es _ ⟨fc, M, co, ro⟩ (PZ.out.below hX) (.inr (by simp only; omega)))
                      have DN := Lib.hid (fun X (hX : Below wc.heap.size wc X) => dIn_low X _ _ L es _ fc co ro M (DZ.out.off (X := fun _ => False) (Off.of_below hX) (fun f => f) (fun _ _ f => f)) (by omega))
                      have SN := Lib.hid (fun X => same_walk none none [] [] 0 0 X (by decide) (by decide) (.inl rfl) (.inl rfl))
                      unfold spV at PN DN
                      simp only at PN DN
                      simp only [List.length_nil] at SN
                      as_aux_lemma =>
                        go_wp2_with (first
                          | (go_at_call 22; (with_reducible refine (SOS.out _).mono ?_); rintro ed wd ⟨rfl, hb⟩; have BD := Lib.hid hb; clear hb)
                          | (go_at_call 26; (with_reducible refine (PN.out _ BD.out).mono ?_); rintro ee we ⟨rfl, hb⟩; have BE := Lib.hid (grow_trans BD.out hb); clear hb; have KE := Lib.hid (KZ.out.below BE.out); clear s0 s1 s2 s3 lsx; have s0 := KE.out.cell 0; have s1 := KE.out.cell 1; have s2 := KE.out.cell 2; have s3 := KE.out.cell 3; have lsx := KE.out.lt; simp only [List.getElem?_toArray, List.getElem?_cons_zero, List.getElem?_cons_succ] at s0 s1 s2 s3)
                          | (go_at_call 28; (with_reducible refine (DN.out _ BE.out).mono ?_); rintro ef wf ⟨rfl, hb⟩; have BF := Lib.hid (grow_trans BE.out hb); clear hb)
                          | (go_at_call 27; (with_reducible refine (SN.out _).mono ?_); rintro eg wg ⟨rfl, hb⟩; have BG := Lib.hid (grow_trans BF.out hb); clear hb))
                        go_ret
                        exact ⟨by first | rfl | simp, grow_trans GZ.out BG.out⟩
end Go.Proofs.YtjjjbkehmnfgbaaDoor
