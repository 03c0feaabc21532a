/- Cells of directions: both atlases of a row of entries. -/
import Derived.Test.YtlnbeildplafbaaGreatDoorAc21
import Derived.Test.YtlnbeildplafbaaGreatDoorCs5
set_option linter.unusedSimpArgs false
set_option linter.unusedVariables false
namespace Go.Proofs.YtlnbeildplafbaaGreatDoor
open Go.RowKit Go.Grow Go.Atl Go.Maps

def addUp (l : List En) : Nat → List En
  | 0 => []
  | k + 1 => addL (addUp l k) (en l k)
theorem addUp_len (l : List En) : ∀ k, (addUp l k).length ≤ k
  | 0 => Nat.le_refl _
  | k + 1 => by
    have := addUp_len l k
    unfold addUp addL
    split
    · rw [List.length_append, List.length_singleton]; omega
    · omega
theorem addE_le (es : List En) (e : En) : addE es e ≤ 10 := by unfold addE; split <;> (try split) <;> (try split) <;> omega
theorem addUp_dir (l : List En) : ∀ k, ∀ e ∈ addUp l k, isDir e.at' = true
  | 0, e, h => by cases h
  | k + 1, e, h => by
    unfold addUp addL at h
    split at h
    · rename_i hz
      rcases List.mem_append.1 h with h | h
      · exact addUp_dir l k e h
      · obtain rfl : e = en l k := by simpa using h
        unfold addE at hz
        split at hz
        · omega
        · split at hz
          · omega
          · rename_i hd; simpa using hd
    · exact addUp_dir l k e h
/-- The two atlases stand beside one another. -/
theorem PAt.aside {w w' : World} {B g m1 m2 gd : Nat} {lev lev2 : Int} {es es2 : List En} {v vd : Value} (h : PAt w B g m1 m2 lev es v) (d : DAt w B gd lev2 es2 vd) (h0 : gd ≠ g) (h1 : gd ≠ m1) (h2 : gd ≠ m2) (o : Off (fun k => k = gd ∨ vd.ownBlock = some k) w w') : PAt w' B g m1 m2 lev es v := by
  have hgB := h.at'.2.1
  have h1B := h.low
  have h2B : m2 < B := by obtain ⟨E, hc⟩ := h.cells; obtain ⟨_, _, _, _, _, _, h, _⟩ := hc; exact h
  have hdB := d.2.1
  have low : ∀ {m : Nat}, m < B → gd ≠ m → ¬ (m = gd ∨ vd.ownBlock = some m) := fun {m} hm hne hx => by
    rcases hx with hx | hx
    · exact hne hx.symm
    · have := (owns_block d.2.2.2 hx).1; omega
  refine h.off o (low hgB h0) (low h1B h1) (low h2B h2) ?_ ?_
  · intro k hk hx
    obtain ⟨hb, _, cur, e1⟩ := owns_blockT h.at'.2.2.2 hk
    rcases hx with hx | hx
    · omega
    · obtain ⟨_, _, cur2, e2⟩ := owns_blockT d.2.2.2 hx
      rw [e1] at e2
      simp at e2
  · intro k hx hb cur e1
    rcases hx with hx | hx
    · omega
    · obtain ⟨_, _, cur2, e2⟩ := owns_blockT d.2.2.2 hx
      rw [e1] at e2
      simp at e2
theorem DAt.aside {w w' : World} {B g m1 m2 gd : Nat} {lev lev2 : Int} {es es2 : List En} {v vd : Value} (h : PAt w B g m1 m2 lev es v) (d : DAt w B gd lev2 es2 vd) (h0 : gd ≠ g) (h1 : gd ≠ m1) (h2 : gd ≠ m2) (o : Off (PSet w B g m1 m2 v) w w') : DAt w' B gd lev2 es2 vd := by
  have hgB := h.at'.2.1
  have h1B := h.low
  have h2B : m2 < B := by obtain ⟨E, hc⟩ := h.cells; obtain ⟨_, _, _, _, _, _, h, _⟩ := hc; exact h
  have hdB := d.2.1
  refine d.off o ?_ ?_
  · intro hx
    rcases hx with hx | hx | hx | hx | hx
    · exact h0 hx
    · exact h1 hx
    · exact h2 hx
    · have := (owns_block h.at'.2.2.2 hx).1; omega
    · omega
  · intro k hk hx
    obtain ⟨hb, _, cur, e1⟩ := owns_blockT d.2.2.2 hk
    rcases hx with hx | hx | hx | hx | ⟨_, cur2, e2⟩
    · omega
    · omega
    · omega
    · obtain ⟨_, _, cur2, e2⟩ := owns_blockT h.at'.2.2.2 hx
      rw [e1] at e2
      simp at e2
    · rw [e1] at e2
      simp at e2
theorem PSet.ge {w : World} {B g m1 m2 n : Nat} {lev : Int} {es : List En} {v : Value} (h : PAt w B g m1 m2 lev es v) (hg : n ≤ g) (h1 : n ≤ m1) (h2 : n ≤ m2) : ∀ k, PSet w B g m1 m2 v k → n ≤ k := fun k hx => by
  have hgB := h.at'.2.1
  rcases hx with hx | hx | hx | hx | hx
  · omega
  · omega
  · omega
  · have := (owns_block h.at'.2.2.2 hx).1; omega
  · omega
theorem groups_new {w : World} {P : Program} {k e : TypeId} {q : IntKind} {b base : Nat} (hb : w.heap[b]? = some (.map #[] 0)) (h : b < base) : w.ownsGroups (H := Unit) P k base e q b 0 (.map []) :=
  ⟨#[], 0, hb, ⟨by simp, MapKept.stamped_empty 0, by simp⟩, Nat.le_refl _, rfl, h, by simp, by simp⟩
theorem map_new {w : World} {P : Program} {k : TypeId} {R : Value → Option (DataW Unit × List MemPlace)} {b : Nat} (hb : w.heap[b]? = some (.map #[] 0)) : w.ownsMap P k R b 0 (.map []) :=
  ⟨#[], 0, hb, ⟨by simp, MapKept.stamped_empty 0, by simp⟩, Nat.le_refl _, rfl⟩
set_option maxRecDepth 100000 in
set_option maxHeartbeats 32000000 in
theorem entries_no (a : Nat → Addr) (r : Option Addr) (n cap : Nat) (lev : Int) (w : World) (hs : Sen a allK w) (hh : Hand w) (hne : ∀ j ∈ allK, ∀ k ∈ allK, j ≠ k → a j ≠ a k) (hl : lev < 0 ∨ 12 < lev) :
    Calls Tryz.prog 16 #[.slice r n cap, .int .i64 lev] w fun e w' => e = .returned (.tuple #[.pointer none, .pointer none, .bool true]) ∧ Below w.heap.size w w' := by
  have NW := Lib.hid (fun X (hX : Below w.heap.size w X) => new_no a lev X (Sen.below (ks := [2, 5]) (fun k hk => hs k ((by decide : ∀ k ∈ [2, 5], k ∈ allK) k hk)) hX) hl)
  have CO := Lib.hid (show ∀ X, Below w.heap.size w X → Calls Tryz.prog 12 #[errV a 2, .int .i64 2] X fun e w' => e = .returned (.bool true) ∧ Below X.heap.size X w' from fun X (hX : Below w.heap.size w X) => coded_same a 2 (by decide) X (hs.below hX) (hh.below hX) hne)
  have hu := errV_pos a (show 2 ≠ 0 by decide)
  rw [hu] at NW CO
  clear hs hh hne hu
  by_cases h0 : lev < 0
  · have u0 : decide (lev < 0) = true := decide_eq_true h0
    clear hl
    go_enter Tryz.func16, Tryz.ntmps16
    go_wp2_with (first
      | (go_at_call 36; (with_reducible refine (NW.out _ (grow_refl _)).mono ?_); rintro e w2 ⟨rfl, hb⟩; have B2 := Lib.hid hb; clear hb)
      | (go_at_call 12; (with_reducible refine (CO.out _ B2.out).mono ?_); rintro e w3 ⟨rfl, hb⟩; have B3 := Lib.hid (grow_trans B2.out hb); clear hb))
    go_ret3
    exact ⟨rfl, B3.out⟩
  · have u0 : decide (lev < 0) = false := decide_eq_false h0
    have u1 : decide (12 < lev) = true := decide_eq_true (by omega)
    clear hl
    go_enter Tryz.func16, Tryz.ntmps16
    go_wp2_with (first
      | (go_at_call 36; (with_reducible refine (NW.out _ (grow_refl _)).mono ?_); rintro e w2 ⟨rfl, hb⟩; have B2 := Lib.hid hb; clear hb)
      | (go_at_call 12; (with_reducible refine (CO.out _ B2.out).mono ?_); rintro e w3 ⟨rfl, hb⟩; have B3 := Lib.hid (grow_trans B2.out hb); clear hb))
    go_ret3
    exact ⟨rfl, B3.out⟩
end Go.Proofs.YtlnbeildplafbaaGreatDoor
/- Cells of directions: both atlases of a row of entries, when the level is one. -/
set_option linter.unusedSimpArgs false
set_option linter.unusedVariables false
namespace Go.Proofs.YtlnbeildplafbaaGreatDoor
open Go.RowKit Go.Grow Go.Atl Go.Maps

/-- Both atlases after k entries. -/
def Both (w : World) (B g m1 m2 gd : Nat) (L : Nat) (l : List En) (k : Nat) (wr : World) : Prop :=
  ∃ v vd, PAt wr B g m1 m2 L (addUp l k) v ∧ DAt wr B gd L (addUp l k) vd ∧ Below w.heap.size w wr
set_option maxRecDepth 100000 in
set_option maxHeartbeats 64000000 in
theorem entries_walk (a : Nat → Addr) (r : Option Addr) (l : List En) (cap : Nat) (L : Nat) (w : World) (hs : Sen a allK w) (hh : Hand w) (hne : ∀ j ∈ allK, ∀ k ∈ allK, j ≠ k → a j ≠ a k) (hl : l.length ≤ 200) (hL : L ≤ 12) (hr : EnsAt w r l) (hn : ∀ k, k < l.length → (en l k).name.size ≤ maxLen) :
    Calls Tryz.prog 16 #[.slice r l.length cap, .int .i64 L] w fun e w' => e = .returned (.tuple #[.pointer (some ⟨w.heap.size + 2, 0, none⟩), .pointer (some ⟨w.heap.size + 3, 0, none⟩), .bool true]) ∧ Both w (w.heap.size + 4) (w.heap.size + 2) w.heap.size (w.heap.size + 1) (w.heap.size + 3) L l l.length w' := by
  have NW := Lib.hid (fun X => new_good L X hL)
  have HS := Lib.hid hs
  have HH := Lib.hid hh
  have HNE := Lib.hid hne
  have HR := Lib.hid hr
  have HN := Lib.hid hn
  clear hs hh hne hr hn
  have u0 : decide ((L : Int) < 0) = false := decide_eq_false (by omega)
  have u1 : decide (12 < (L : Int)) = false := decide_eq_false (by omega)
  go_enter Tryz.func16, Tryz.ntmps16
  go_wp2_with (go_at_call 36; (with_reducible refine (NW.out _).mono ?_); rintro e w2 ⟨rfl, rfl⟩)
  refine Grow.seal_wp ?_
  intro W1 hW1
  have BW := Lib.hid (show Below w.heap.size w W1 from hW1.out ▸ (grow_alloc (grow_alloc (grow_alloc (grow_alloc (grow_refl w) _) _) _) _))
  have hz : W1.heap.size = w.heap.size + 4 := by rw [hW1.out]; simp
  have M1 : W1.heap[w.heap.size]? = some (.map #[] 0) := hW1.out ▸ ((grow_alloc (grow_alloc (grow_alloc (grow_refl (w.alloc (.map #[] 0))) _) _) _).block _ (by simp)).trans (MapKept.heap_alloc w _).1
  have M2 : W1.heap[w.heap.size + 1]? = some (.map #[] 0) := hW1.out ▸ ((grow_alloc (grow_alloc (grow_refl ((w.alloc (.map #[] 0)).alloc (.map #[] 0))) _) _).block _ (by simp)).trans (by have := (MapKept.heap_alloc (w.alloc (.map #[] 0)) (.map #[] 0)).1; simpa using this)
  have KP := Lib.hid (show Known W1 (w.heap.size + 2) #[.int .i64 L, .map (some w.heap.size), .slice none 0 0, .map (some (w.heap.size + 1)), .int .i64 0] from hW1.out ▸ (Known.new' (by simp)).alloc _)
  have KD := Lib.hid (show Known W1 (w.heap.size + 3) #[.int .i64 L, .slice none 0 0] from hW1.out ▸ Known.new' (by simp))
  have START := Lib.hid (show Both w (w.heap.size + 4) (w.heap.size + 2) w.heap.size (w.heap.size + 1) (w.heap.size + 3) L l 0 W1 from
    ⟨.slice none 0 0, .slice none 0 0, ⟨⟨KP.out, by omega, by omega, World.ownsRow_nil _ _ _ _⟩, ⟨.map [], map_new M1, Nms.start⟩, ⟨.map [], groups_new M2 (by omega)⟩, by omega, by omega, by omega, by omega⟩, ⟨KD.out, by omega, by omega, World.ownsRow_nil _ _ _ _⟩, BW.out⟩)
  clear hW1 BW hz M1 M2 KP KD NW
  go_loopw [10] (fun v10 wr => ∃ k : Nat, k ≤ l.length ∧ v10 = .int .i64 k ∧ Hid (Both w (w.heap.size + 4) (w.heap.size + 2) w.heap.size (w.heap.size + 1) (w.heap.size + 3) L l k wr)) (fun i _ => l.length - (intOf i).toNat)
  case atStart => exact ⟨0, Nat.zero_le _, rfl, START⟩
  case round =>
    obtain ⟨k, hk, rfl, HB⟩ := hrel
    by_cases hlt : k < l.length
    · have hi0 : (0 : Int) ≤ (k : Int) := by omega
      have hi1 : (k : Int) < (l.length : Int) := by omega
      obtain ⟨bb, oo, rfl, hc⟩ := HR.out.resolve_left (by intro h; rw [h] at hlt; exact absurd hlt (by simp))
      have EA := Lib.hid (hc k hlt)
      have hnm := Lib.hid (HN.out k hlt)
      clear hc
      obtain ⟨v, vd, hp, hd, hb⟩ := HB.out
      have HP := Lib.hid hp
      have HD := Lib.hid hd
      have G := Lib.hid hb
      clear hp hd hb HB
      have EA2 := Lib.hid (EA.out.below G.out)
      obtain ⟨e0, e1, e2, e3, e4⟩ := EA2.out
      have lbb : bb < wr.heap.size := lt_of_cellE e0
      have hup := addUp_len l k
      have HAD := Lib.hid (show addUp l (k + 1) = addL (addUp l k) (en l k) from rfl)
      generalize hes : addUp l k = es at *
      have hec := Lib.hid (addE_le es (en l k))
      generalize en l k = ee at *
      have PW := Lib.hid (fun X (hX : Below wr.heap.size wr X) => padd_walk a X _ _ _ _ L es v ee (Sen.below (ks := [2, 5, 10]) (fun k hk => HS.out k ((by decide : ∀ k ∈ [2, 5, 10], k ∈ allK) k hk)) (grow_trans G.out hX)) (HP.out.below hX) hnm.out (by omega) hL)
      have DW := Lib.hid (fun X v' (hX : DAt X (w.heap.size + 4) (w.heap.size + 3) L es v') => show Calls Tryz.prog 38 #[.pointer (some ⟨w.heap.size + 1 + 1 + 1, 0, none⟩), enV ee] X fun en' w' => DAdd X (w.heap.size + 4) (w.heap.size + 3) L es v' ee en' w' from dadd_walk X _ _ L es v' ee hX hnm.out (by omega))
      have CO := Lib.hid (fun X (hX : Below w.heap.size w X) => coded_same a (addE es ee) hec.out X (HS.out.below hX) (HH.out.below hX) HNE.out)
      obtain ⟨nm, ⟨x, y, z⟩, lt⟩ := ee
      unfold anV at PW
      unfold enV at DW
      simp only at e0 e1 e2 e3 e4 PW DW
      go_upto_region 10 with (fail)
      refine Grow.wp_region_plan (.quiet [0, 1, 2, 3, 4, 6, 7, 8, 9, 11, 12, 13, 14] (.reads [5, 10, 15] (.quiet [16] (.tail [17, 18])))) (by kernel_rfl) (by kernel_rfl) (by kernel_rfl) (by kernel_rfl) ?_ ?_
      · intro c aa d v ww h
        first
          | exact Grow.bodyPost_blind h
          | (simp (config := {zetaDelta := true}) only [Exit.then, Exit.inBlock] at h ⊢; first | exact Grow.bodyPost_blind h | exact h)
      simp only [Grow.Plan.wp, Grow.pick, List.getElem?_cons_zero, List.getElem?_cons_succ, List.cons_append, List.nil_append]
      repeat (go_big_quiet_step (fail))
      refine wpQuiet_nil ?_
      repeat (go_big_quiet_step (fail))
      refine wpQuiet_nil ?_
      repeat (go_big_quiet_step (fail))
      refine wpQuiet_nil ?_
      go_wp2_with (first
        | (go_at_call 37; (with_reducible refine (PW.out _ (grow_drew (grow_refl wr))).mono ?_); rintro e5 w5 ⟨rfl, ho5, v5, hp5⟩; have D0 := HD.out.off (X := fun _ => False) (Off.of_below (grow_drew (grow_refl wr))) (fun f => f) (fun _ _ f => f); have P0 := HP.out.below (grow_drew (grow_refl wr)); have GE5 := Lib.hid (show ∀ k, PSet wr.drew (w.heap.size + 4) (w.heap.size + 2) w.heap.size (w.heap.size + 1) v k → w.heap.size ≤ k from PSet.ge P0 (by omega) (by omega) (by omega)); have D5 := Lib.hid (DAt.aside P0 D0 (by omega) (by omega) (by omega) ho5); have P5 := Lib.hid hp5; have G5 := Lib.hid (Off.below ho5 (grow_drew G.out) GE5.out); clear D0 P0 hp5 ho5 GE5; have EB := EA.out.below G5.out; obtain ⟨f0, f1, f2, f3, f4⟩ := EB; have lb5 : bb < w5.heap.size := lt_of_cellE f0)
        | (go_at_call 38; (with_reducible refine (DW.out _ _ D5.out).mono ?_); rintro e6 w6 ⟨rfl, ho6, v6, hd6⟩; have P6 := Lib.hid (PAt.aside P5.out D5.out (by omega) (by omega) (by omega) ho6); have G6 := Lib.hid (Off.below ho6 G5.out (by intro j hj; rcases hj with hj | hj; omega; have := (owns_block D5.out.2.2.2 hj).1; omega)); have D6 := Lib.hid hd6; clear hd6 ho6 P5 D5 G5)
        | (go_at_call 12; (with_reducible refine (CO.out _ G6.out).mono ?_); rintro e7 w7 ⟨rfl, hb7⟩; have G7 := Lib.hid (grow_trans G6.out hb7); have P7 := Lib.hid (P6.out.below hb7); have D7 := Lib.hid (D6.out.off (X := fun _ => False) (Off.of_below hb7) (fun f => f) (fun _ _ f => f)); clear hb7 G6 P6 D6))
      go_roundw
      case rel => exact ⟨k + 1, by omega, by go_num, Lib.hid ⟨_, _, by rw [HAD.out]; exact P7.out, by rw [HAD.out]; exact D7.out, G7.out⟩⟩
      case measure => simp [intOf]; omega
    · obtain rfl : k = l.length := by omega
      obtain ⟨v, vd, hp, hd, hb⟩ := HB.out
      have HP := Lib.hid hp
      have HD := Lib.hid hd
      have G := Lib.hid hb
      clear hp hd hb HB
      have SZ := Lib.hid (fun X (hX : Below wr.heap.size wr X) => asize_walk X _ _ _ _ L _ v (HP.out.below hX).at')
      obtain ⟨rd, cd, rfl, _⟩ := ens_of_owns HD.out.2.2.2
      have KD := Lib.hid HD.out.1.drew
      have d1 := KD.out.cell 1
      have ld := KD.out.lt
      simp only [List.getElem?_toArray, List.getElem?_cons_zero, List.getElem?_cons_succ] at d1
      go_upto_region 14 with (fail)
      refine Grow.wp_region_plan (.quiet [0, 1, 2, 4, 5, 6] (.two 3 (.quiet [10, 11] (.tail [7, 8, 9, 12])) 7 (.two 3 (.quiet [10, 11] (.tail [8, 9, 12])) 8 (.one 3 (.quiet [9, 10, 11] (.tail [12])))))) (by kernel_rfl) (by kernel_rfl) (by kernel_rfl) (by kernel_rfl) ?_ ?_
      · intro c aa d v ww h
        first
          | exact Grow.bodyPost_blind h
          | (simp (config := {zetaDelta := true}) only [Exit.then, Exit.inBlock] at h ⊢; first | exact Grow.bodyPost_blind h | exact h)
      simp only [Grow.Plan.wp, Grow.pick, List.getElem?_cons_zero, List.getElem?_cons_succ, List.cons_append, List.nil_append]
      repeat (go_big_quiet_step (fail))
      refine wpQuiet_nil ?_
      unfold oneK
      refine ⟨?_, ?_⟩
      · go_wp2_with (go_at_call 39; (with_reducible refine (SZ.out _ (grow_drew (grow_refl wr))).mono ?_); rintro e5 w5 ⟨rfl, rfl⟩)
        repeat (go_big_quiet_step (fail))
        refine wpQuiet_nil ?_
        go_wp2
        go_ret3
        exact ⟨by simp, _, _, HP.out.below (grow_drew (grow_refl wr)), HD.out.off (X := fun _ => False) (Off.of_below (grow_drew (grow_refl wr))) (fun f => f) (fun _ _ f => f), grow_drew G.out⟩
      · go_wp2
        refine ⟨?_, ?_⟩
        · go_wp2_with (go_at_call 39; (with_reducible refine (SZ.out _ (grow_drew (grow_refl wr))).mono ?_); rintro e5 w5 ⟨rfl, rfl⟩)
          repeat (go_big_quiet_step (fail))
          refine wpQuiet_nil ?_
          go_wp2
          go_ret3
          exact ⟨by simp, _, _, HP.out.below (grow_drew (grow_refl wr)), HD.out.off (X := fun _ => False) (Off.of_below (grow_drew (grow_refl wr))) (fun f => f) (fun _ _ f => f), grow_drew G.out⟩
        · go_wp2_with (go_at_call 39; (with_reducible refine (SZ.out _ (grow_drew (grow_refl wr))).mono ?_); rintro e5 w5 ⟨rfl, rfl⟩)
          repeat (go_big_quiet_step (fail))
          refine wpQuiet_nil ?_
          go_wp2
          go_ret3
          exact ⟨by simp, _, _, HP.out.below (grow_drew (grow_refl wr)), HD.out.off (X := fun _ => False) (Off.of_below (grow_drew (grow_refl wr))) (fun f => f) (fun _ _ f => f), grow_drew G.out⟩
end Go.Proofs.YtlnbeildplafbaaGreatDoor
