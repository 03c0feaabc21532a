/- Pairs of stars: rows of pairs; slices.SortFunc by the first names. -/
import Derived.Test.YtlnbeildplafbaaGreatDoorAp3
import Derived.Test.YtlnbeildplafbaaGreatDoorEb0
import Derived.Sort.OwnSortedInts
set_option linter.unusedSimpArgs false
set_option linter.unusedVariables false
namespace Go.Proofs.YtlnbeildplafbaaGreatDoor
open Go.RowKit Go.Grow Go.Atl Go.Sort

abbrev Pr := ByteArray × ByteArray
def encP (p : Pr) : List Value := [.string p.1, .string p.2]
def pL (l : List Pr) : List Value := l.flatMap encP
theorem pL_length : ∀ l : List Pr, (pL l).length = l.length * 2
  | [] => rfl
  | p :: l => by
    show (encP p ++ pL l).length = _
    rw [List.length_append, pL_length l, List.length_cons]
    show 2 + _ = _
    omega
theorem pL_append (a b : List Pr) : pL (a ++ b) = pL a ++ pL b := by simp [pL]
theorem pL_get : ∀ (l : List Pr) (k : Nat) (h : k < l.length), (pL l)[k * 2]? = some (.string l[k].1) ∧ (pL l)[k * 2 + 1]? = some (.string l[k].2)
  | p :: l, 0, _ => ⟨rfl, rfl⟩
  | p :: l, k + 1, h => by
    have h' : k < l.length := by simpa using h
    obtain ⟨e0, e1⟩ := pL_get l k h'
    have hs : pL (p :: l) = .string p.1 :: .string p.2 :: pL l := rfl
    rw [hs, show (k + 1) * 2 = k * 2 + 1 + 1 by omega]
    exact ⟨e0, e1⟩
theorem pL_get2 (l : List Pr) (t : Nat) (h : t < l.length * 2) : (pL l)[t]? = some ((encP l.toArray[t / 2]!)[t % 2]!) := by
  have h1 : t / 2 < l.length := by omega
  obtain ⟨e0, e1⟩ := pL_get l (t / 2) h1
  have hg : l.toArray[t / 2]! = l[t / 2] := by
    rw [getElem!_pos l.toArray (t / 2) (by simpa using h1)]; simp
  rw [hg]
  have hm : t % 2 = 0 ∨ t % 2 = 1 := by omega
  rcases hm with hm | hm
  · rw [hm]; exact (congrArg (fun u => (pL l)[u]?) (show t = t / 2 * 2 by omega)).trans e0
  · rw [hm]; exact (congrArg (fun u => (pL l)[u]?) (show t = t / 2 * 2 + 1 by omega)).trans e1
theorem flatP (l : List Pr) : (Sort.flatK encP 2 l.toArray).toList = pL l := by
  apply List.ext_getElem?
  intro t
  by_cases h : t < l.length * 2
  · rw [pL_get2 l t h, Array.getElem?_toList]
    have h2 : t < (Sort.flatK encP 2 l.toArray).size := by simpa using h
    rw [Array.getElem?_eq_getElem h2, ← getElem!_pos _ t h2, Sort.get_flatK _ _ _ _ (by simpa using h)]
  · have h2 : (pL l)[t]? = none := List.getElem?_eq_none (by rw [pL_length]; omega)
    have h3 : (Sort.flatK encP 2 l.toArray).toList[t]? = none := List.getElem?_eq_none (by rw [Array.length_toList, Sort.size_flatK]; simp; omega)
    rw [h2, h3]
theorem holds_p {w : World} {g : Nat} {cur : Array Value} {e : TypeId} {l : List Pr} (hb : w.heap[g]? = some (.cells cur e (0, 0))) (ht : cur.toList.take (l.length * 2) = pL l) : Sort.HoldsK encP 2 w g 0 l.toArray := by
  intro j hj
  have hj' : j < l.length * 2 := by simpa using hj
  refine ⟨?_, by simp [World.frozen?, hb]⟩
  have h1 : (cur.toList.take (l.length * 2))[j]? = (pL l)[j]? := by rw [ht]
  rw [List.getElem?_take_of_lt hj', pL_get2 l j hj'] at h1
  rw [Sort.get_flatK _ _ _ _ (by simpa using hj'), Nat.zero_add]
  simp only [World.cell?, hb]
  simpa using h1
theorem heap_sortedV {w : World} {g n : Nat} {os : Array Obj} {cur : Array Value} {e : TypeId} {fr : Nat × Nat} (d : Array Value) (hb : w.heap[g]? = some (.cells cur e fr)) :
    (Sort.grow (Sort.putRow id (Sort.ahead w n) g 0 d) os).heap[g]? = some (.cells (Sort.putCells id 0 d cur) e fr) := by
  have hg : g < w.heap.size := (Array.getElem?_eq_some_iff.1 hb).1
  rw [Sort.heap_grow_old _ _ (by simpa using hg)]
  simp [Sort.putRow, Sort.mapBlock, Sort.ahead, Array.getElem?_modify, hb, Sort.onCells]
theorem grownBy_sortedV {w : World} {g n : Nat} {os : Array Obj} (d : Array Value) : w.grownBy (Sort.grow (Sort.putRow id (Sort.ahead w n) g 0 d) os) (some g) := by
  refine ⟨rfl, rfl, rfl, by simp, fun k hk hne => ?_⟩
  rw [Sort.heap_grow_old _ _ (by simpa using hk)]
  have : g ≠ k := fun e => hne (by rw [e])
  simp [Sort.putRow, Sort.mapBlock, Sort.ahead, Array.getElem?_modify, this]
theorem take_putCellsV (cur d : Array Value) (h : d.size ≤ cur.size) : (Sort.putCells id 0 d cur).toList.take d.size = d.toList := by
  apply List.ext_getElem?
  intro j
  by_cases hj : j < d.size
  · rw [List.getElem?_take_of_lt hj, Array.getElem?_toList]
    simp [Sort.putCells, hj, show j < cur.size by omega]
  · rw [List.getElem?_eq_none (by simp; omega), List.getElem?_eq_none (by simpa using hj)]
theorem ownsRow_sortedP {w : World} {base g cap n : Nat} {e : TypeId} {os : Array Obj} {cur : Array Value} {l m : List Pr} (hl : m.length = l.length) (hbase : base ≤ g) (hb : w.heap[g]? = some (.cells cur e (0, 0)))
    (h1 : l.length ≤ cap) (h2 : cap ≤ maxLen) (h3 : cur.size = cap * 2) :
    (sortWorldK encP 2 w g 0 n m.toArray os).ownsRow base e 2 (.slice (some ⟨g, 0, none⟩) l.length cap) l.length (pL m) := by
  have hs : (Sort.flatK encP 2 m.toArray).size = l.length * 2 := by simp [hl]
  refine ⟨by rw [pL_length, hl], .inr ⟨g, cap, _, rfl, hbase, heap_sortedV _ hb, h1, h2, by simp [Sort.putCells, h3], ?_⟩⟩
  rw [← hs, take_putCellsV cur _ (by rw [hs, h3]; omega), flatP]
theorem cmp_lt : ∀ a b : List UInt8, Lib.compareBytes a b < 0 ↔ a < b
  | [], [] => by simp [Lib.compareBytes]
  | [], _ :: _ => by simp [Lib.compareBytes]
  | _ :: _, [] => by simp [Lib.compareBytes]
  | x :: a, y :: b => by
    unfold Lib.compareBytes
    rw [List.cons_lt_cons_iff]
    by_cases h1 : x < y
    · simp [h1]
    · by_cases h2 : y < x
      · have hne : x ≠ y := fun e => by subst e; exact h1 h2
        simp [h1, h2, hne]
      · have he : x = y := UInt8.le_antisymm (UInt8.not_lt.1 h2) (UInt8.not_lt.1 h1)
        subst he
        simp [UInt8.lt_irrefl, cmp_lt a b]
theorem lt_cmp (x y : List UInt8) : Go.Proofs.ltOf Lib.compareBytes x y = decide (x < y) := by
  unfold Go.Proofs.ltOf
  exact decide_eq_decide.2 (cmp_lt x y)
theorem swo_cmp : SWO (Go.Proofs.ltOf Lib.compareBytes) where
  irrefl x := by rw [lt_cmp]; exact decide_eq_false (List.lt_irrefl x)
  trans x y z h1 h2 := by
    rw [lt_cmp, decide_eq_true_eq] at *
    exact List.lt_trans h1 h2
  ntrans x y z h1 h2 := by
    rw [lt_cmp, decide_eq_false_iff_not] at *
    exact List.not_lt.2 (List.le_trans (List.not_lt.1 h2) (List.not_lt.1 h1))
def cfP (x y : Pr) : Int := cmpS x.1 y.1
theorem ltOf_cfP : ltOf cfP = fun x y => ltOf Lib.compareBytes x.1.data.toList y.1.data.toList := rfl
theorem swoP : SWO (ltOf cfP) where
  irrefl x := swo_cmp.irrefl _
  trans x y z h1 h2 := swo_cmp.trans _ _ _ h1 h2
  ntrans x y z h1 h2 := swo_cmp.ntrans _ _ _ h1 h2
set_option maxRecDepth 100000 in
set_option maxHeartbeats 8000000 in
theorem pCmp_walk (x y : Pr) (W : World) : Calls Tryz.prog 44 #[.agg (encP x).toArray, .agg (encP y).toArray] W fun e w' => e = .returned (.int .i64 (cfP x y)) ∧ ∃ q os', w' = Sort.grow (W.drewN q) os' := by
  obtain ⟨x1, x2⟩ := x
  obtain ⟨y1, y2⟩ := y
  have CW := Lib.hid (fun X => compare_walk x1 y1 X)
  unfold encP cfP
  simp only
  generalize cmpS x1 y1 = s at *
  go_enter Tryz.func44, Tryz.ntmps44
  go_wp2_with (go_at_call 45; (with_reducible refine (CW.out _).mono ?_); rintro e w' ⟨rfl, rfl⟩)
  go_ret
  refine ⟨rfl, 0, #[.cells #[.string x1, .string x2] 62] ++ #[.cells #[.string y1, .string y2] 62], ?_⟩
  rw [Sort.alloc_eq_grow, Sort.alloc_eq_grow, Sort.grow_grow]
  rfl
theorem len_walk (x : Nat) (h1 : x < 18446744073709551616) (w : World) : Calls Tryz.prog 81 #[.int .u64 x] w fun e w' => e = .returned (.int .i64 (Lib.bitLen x : Nat)) ∧ w' = w := by
  have h := Any.bits_Len YtlnbeildplafbaaGreatDoor.laysLen (x : Int) w (by omega) (by omega)
  rwa [Int.toNat_natCast] at h
theorem len0_walk (w : World) : Calls Tryz.prog 81 #[.int .u64 0] w fun e w' => e = .returned (.int .i64 (Lib.bitLen 0 : Nat)) ∧ w' = w := len_walk 0 (by omega) w
/-! An empty row. -/
set_option maxRecDepth 100000 in
set_option maxHeartbeats 8000000 in
theorem ins0_walk (fv : Value) (w : World) :
    Calls Tryz.prog 104 #[.slice none 0 0, .int .i64 0, .int .i64 0, fv] w fun e w' => e = .returned (.tuple #[]) ∧ w' = w := by
  go_enter Tryz.func104, Tryz.ntmps104
  go_wp2
  refine wp_loop_rounds 1 ?_
  rw [rounds_succ]
  go_wp2
  go_end0
  exact ⟨rfl, rfl⟩
set_option maxRecDepth 100000 in
set_option maxHeartbeats 8000000 in
theorem pdq0_walk (lim : Int) (fv : Value) (w : World) :
    Calls Tryz.prog 80 #[.slice none 0 0, .int .i64 0, .int .i64 0, .int .i64 lim, fv] w fun e w' => e = .returned (.tuple #[]) ∧ w' = w := by
  have I1 := Lib.hid (fun X => ins0_walk fv X)
  go_enter Tryz.func80, Tryz.ntmps80
  go_wp2
  refine wp_loop_rounds 1 ?_
  rw [rounds_succ]
  go_wp2_with (go_at_call 104; (with_reducible refine (I1.out _).mono ?_); rintro e w1 ⟨rfl, rfl⟩)
  (try simp only [Exit.inBlock, Exit.then]); refine bodyPost_ret (results_none rfl _ _ _) rfl ?_
  exact ⟨rfl, rfl⟩
set_option maxRecDepth 100000 in
set_option maxHeartbeats 8000000 in
theorem sort0_walk (fv : Value) (w : World) :
    Calls Tryz.prog 43 #[.slice none 0 0, fv] w fun e w' => e = .returned (.tuple #[]) ∧ w' = w := by
  have P1 := Lib.hid (fun l X => pdq0_walk l fv X)
  have LN := Lib.hid (fun X => len0_walk X)
  go_enter Tryz.func43, Tryz.ntmps43
  go_wp2_with (first
    | (go_at_call 81; (with_reducible refine (LN.out _).mono ?_); rintro e w1 ⟨rfl, rfl⟩)
    | (go_at_call 80; (with_reducible refine (P1.out _ _).mono ?_); rintro e w1 ⟨rfl, rfl⟩))
  go_end0
  exact ⟨rfl, rfl⟩
/-- What the sort leaves: the same pairs, their first names rising. -/
def PSort (base : Nat) (v : Value) (l : List Pr) (w : World) (e : Ending) (w' : World) : Prop := e = .returned (.tuple #[]) ∧ ∃ m : List Pr, m.Perm l ∧ (∀ i j, i < j → j < m.length → ltOf cfP (m.getD j (.empty, .empty)) (m.getD i (.empty, .empty)) = false) ∧ w'.ownsRow base 62 2 v l.length (pL m) ∧ w.grownBy w' v.ownBlock
theorem sortP_walk (v : Value) (l : List Pr) (base n : Nat) (w : World) (hl : l.length ≤ 100000) (h : w.ownsRow base 62 2 v n (pL l)) :
    Calls Tryz.prog 43 #[v, .func (.func 44) #[] #[]] w (PSort base v l w) := by
  have hlen : n = l.length := by have := h.1; rw [pL_length] at this; omega
  subst hlen
  obtain ⟨_, ⟨hv, hn⟩ | ⟨g, cap, cur, hv, hg, hc, h1, h2, h3, h4⟩⟩ := h
  · have : l = [] := List.length_eq_zero_iff.1 hn
    subst this hv
    refine (sort0_walk _ w).mono ?_
    rintro e w' ⟨rfl, rfl⟩
    exact ⟨rfl, [], .nil, fun i j _ hj => absurd hj (by simp), World.ownsRow_nil _ _ _ _, rfl, rfl, rfl, Nat.le_refl _, fun _ _ _ => rfl⟩
  · subst hv
    have hH := holds_p hc h4
    have hgl : g < w.heap.size := (Array.getElem?_eq_some_iff.1 hc).1
    have eg : ∀ args w, (callFunc 44 args).run Tryz.prog w = .ok (.enter 44 args) w := enters_of Tryz.func44 (by kernel_rfl) rfl
    have hcon := AnyQ.slices_SortFunc YtlnbeildplafbaaGreatDoor.laysSortP 2 Tryz.isAgg62 Tryz.sizeOf62 encP (fun _ => rfl) (fun x v hv => by simp [encP] at hv; rcases hv with rfl | rfl <;> rfl) cfP swoP 44 #[] g 0 cap l.toArray w eg (fun m os dk _ x y => pCmp_walk x y _) hH hgl (by simp; omega)
    have e1 : l.toArray.size = l.length := by simp
    rw [e1] at hcon
    refine Calls.mono (show Calls Tryz.prog 43 _ _ _ from hcon) ?_
    rintro e w' ⟨rfl, d', m, os, hp, hs, rfl⟩
    obtain ⟨hsz, _, hpm⟩ := hp
    have hsz2 : d'.size = l.length := by rw [hsz, e1]
    have hpm2 : d'.toList.Perm l := by
      have h1 : d'.extract 0 l.length = d' := by rw [← hsz2]; simp
      have h2 : l.toArray.extract 0 l.length = l.toArray := by simp
      rw [h1, h2] at hpm
      exact hpm
    refine ⟨rfl, d'.toList, hpm2, fun i j hij hj => ?_, ?_, grownBy_sortedV _⟩
    · have hj' : j < d'.size := by simpa using hj
      have := hs i j (Nat.zero_le _) hij (by omega)
      rw [getElem!_pos d' j hj', getElem!_pos d' i (by omega)] at this
      simpa [hj', show i < d'.size by omega] using this
    · have := ownsRow_sortedP (n := m) (os := os) (m := d'.toList) (by simpa using hsz2) hg hc h1 h2 h3
      simpa using this
end Go.Proofs.YtlnbeildplafbaaGreatDoor
