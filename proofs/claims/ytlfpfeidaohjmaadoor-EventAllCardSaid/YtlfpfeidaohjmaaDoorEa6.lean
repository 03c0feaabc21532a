/- slices.SortFunc of events: an own row of events sorted; the program's order of events walked. -/
import Derived.Test.YtlfpfeidaohjmaaDoorEa3
import Derived.Test.YtlfpfeidaohjmaaDoorEa2
import Derived.Test.YtlfpfeidaohjmaaDoorShl3
import Derived.Test.YtlfpfeidaohjmaaDoorEb12
import Derived.Sort.OwnSortedInts
set_option linter.unusedSimpArgs false
set_option linter.unusedVariables false
namespace Go.Proofs.YtlfpfeidaohjmaaDoor
open Go.RowKit Go.Grow Go.Fl Go.Bg

def encE (e : Ev) : List Value := [.int .i64 e.k, .int .i64 e.at', .int .i64 e.ix]
theorem evL_get3 (l : List Ev) (t : Nat) (h : t < l.length * 3) : (evL l)[t]? = some ((encE l.toArray[t / 3]!)[t % 3]!) := by
  have h1 : t / 3 < l.length := by omega
  obtain ⟨e0, e1, e2⟩ := evL_get l (t / 3) h1
  have hg : l.toArray[t / 3]! = l[t / 3] := by
    rw [getElem!_pos l.toArray (t / 3) (by simpa using h1)]; simp
  rw [hg]
  have hm : t % 3 = 0 ∨ t % 3 = 1 ∨ t % 3 = 2 := by omega
  rcases hm with hm | hm | hm
  · rw [hm]; exact (congrArg (fun u => (evL l)[u]?) (show t = t / 3 * 3 by omega)).trans e0
  · rw [hm]; exact (congrArg (fun u => (evL l)[u]?) (show t = t / 3 * 3 + 1 by omega)).trans e1
  · rw [hm]; exact (congrArg (fun u => (evL l)[u]?) (show t = t / 3 * 3 + 2 by omega)).trans e2
theorem flatE (l : List Ev) : (Sort.flatK encE 3 l.toArray).toList = evL l := by
  apply List.ext_getElem?
  intro t
  by_cases h : t < l.length * 3
  · rw [evL_get3 l t h, Array.getElem?_toList]
    have h2 : t < (Sort.flatK encE 3 l.toArray).size := by simpa using h
    rw [Array.getElem?_eq_getElem h2, ← getElem!_pos _ t h2, Sort.get_flatK _ _ _ _ (by simpa using h)]
  · have h2 : (evL l)[t]? = none := List.getElem?_eq_none (by rw [evL_length]; omega)
    have h3 : (Sort.flatK encE 3 l.toArray).toList[t]? = none := List.getElem?_eq_none (by rw [Array.length_toList, Sort.size_flatK]; simp; omega)
    rw [h2, h3]
theorem holds_ev {w : World} {g : Nat} {cur : Array Value} {e : TypeId} {l : List Ev} (hb : w.heap[g]? = some (.cells cur e (0, 0))) (ht : cur.toList.take (l.length * 3) = evL l) : Sort.HoldsK encE 3 w g 0 l.toArray := by
  intro j hj
  have hj' : j < l.length * 3 := by simpa using hj
  refine ⟨?_, by simp [World.frozen?, hb]⟩
  have h1 : (cur.toList.take (l.length * 3))[j]? = (evL l)[j]? := by rw [ht]
  rw [List.getElem?_take_of_lt hj', evL_get3 l j hj'] at h1
  rw [Sort.get_flatK _ _ _ _ (by simpa using hj'), Nat.zero_add]
  simp only [World.cell?, hb]
  simpa using h1
theorem heap_sortedV {w : World} {g n : Nat} {os : Array Obj} {cur : Array Value} {e : TypeId} {fr : Nat × Nat} (d : Array Value) (hb : w.heap[g]? = some (.cells cur e fr)) :
    (Sort.grow (Sort.putRow id (Sort.ahead w n) g 0 d) os).heap[g]? = some (.cells (Sort.putCells id 0 d cur) e fr) := by
  have hg : g < w.heap.size := (Array.getElem?_eq_some_iff.1 hb).1
  rw [Sort.heap_grow_old _ _ (by simpa using hg)]
  simp [Sort.putRow, Sort.mapBlock, Sort.ahead, Array.getElem?_modify, hb, Sort.onCells]
theorem grownBy_sortedV {w : World} {g n : Nat} {os : Array Obj} (d : Array Value) : w.grownBy (Sort.grow (Sort.putRow id (Sort.ahead w n) g 0 d) os) (some g) := by
  refine ⟨rfl, rfl, rfl, by simp, fun k hk hne => ?_⟩
  rw [Sort.heap_grow_old _ _ (by simpa using hk)]
  have : g ≠ k := fun e => hne (by rw [e])
  simp [Sort.putRow, Sort.mapBlock, Sort.ahead, Array.getElem?_modify, this]
theorem take_putCellsV (cur d : Array Value) (h : d.size ≤ cur.size) : (Sort.putCells id 0 d cur).toList.take d.size = d.toList := by
  apply List.ext_getElem?
  intro j
  by_cases hj : j < d.size
  · rw [List.getElem?_take_of_lt hj, Array.getElem?_toList]
    simp [Sort.putCells, hj, show j < cur.size by omega]
  · rw [List.getElem?_eq_none (by simp; omega), List.getElem?_eq_none (by simpa using hj)]
theorem ownsRow_sortedE {w : World} {base g cap n : Nat} {e : TypeId} {os : Array Obj} {cur : Array Value} {l m : List Ev} (hl : m.length = l.length) (hbase : base ≤ g) (hb : w.heap[g]? = some (.cells cur e (0, 0)))
    (h1 : l.length ≤ cap) (h2 : cap ≤ maxLen) (h3 : cur.size = cap * 3) :
    (sortWorldK encE 3 w g 0 n m.toArray os).ownsRow base e 3 (.slice (some ⟨g, 0, none⟩) l.length cap) l.length (evL m) := by
  have hs : (Sort.flatK encE 3 m.toArray).size = l.length * 3 := by simp [hl]
  refine ⟨by rw [evL_length, hl], .inr ⟨g, cap, _, rfl, hbase, heap_sortedV _ hb, h1, h2, by simp [Sort.putCells, h3], ?_⟩⟩
  rw [← hs, take_putCellsV cur _ (by rw [hs, h3]; omega), flatE]
/-- The order of events. -/
def or3 (a b c : Int) : Int := if a ≠ 0 then a else if b ≠ 0 then b else c
def cfE (x y : Ev) : Int := or3 (Lib.compareInt x.at' y.at') (Lib.compareInt x.ix y.ix) (Lib.compareInt x.k y.k)
theorem ltOf_cfE : ltOf cfE = aheadE := by
  funext x y
  unfold ltOf cfE or3 aheadE Lib.compareInt
  rw [Bool.eq_iff_iff]
  simp only [decide_eq_true_eq, Bool.or_eq_true, Bool.and_eq_true]
  split <;> split <;> (try split) <;> (try split) <;> (try split) <;> (try split) <;> omega
set_option maxRecDepth 100000 in
set_option maxHeartbeats 8000000 in
theorem or3_walk (a b c : Int) (g : Nat) (w : World) (h0 : w.cell? ⟨g, 0, none⟩ = some (.int .i64 a)) (h1 : w.cell? ⟨g, 1, none⟩ = some (.int .i64 b)) (h2 : w.cell? ⟨g, 2, none⟩ = some (.int .i64 c)) :
    Calls Tryd.prog 100 #[.slice (some ⟨g, 0, none⟩) 3 3] w fun e w' => e = .returned (.int .i64 (or3 a b c)) ∧ w' = w := by
  unfold or3
  have lg := lt_of_cellS h0
  simp only at lg
  by_cases ha : a = 0
  · by_cases hb : b = 0
    · by_cases hc : c = 0
      · rw [if_neg (by simpa using ha), if_neg (by simpa using hb)]
        subst ha hb hc
        go_enter Tryd.func100, Tryd.ntmps100
        go_wp2
        refine wp_loop_rounds 4 ?_
        rw [rounds_succ]
        go_wp2
        rw [rounds_succ]
        go_wp2
        rw [rounds_succ]
        go_wp2
        rw [rounds_succ]
        go_wp2
        go_ret
        exact ⟨rfl, rfl⟩
      · rw [if_neg (by simpa using ha), if_neg (by simpa using hb)]
        subst ha hb
        go_enter Tryd.func100, Tryd.ntmps100
        go_wp2
        refine wp_loop_rounds 4 ?_
        rw [rounds_succ]
        go_wp2
        rw [rounds_succ]
        go_wp2
        rw [rounds_succ]
        go_wp2
        go_ret
        exact ⟨rfl, rfl⟩
    · rw [if_neg (by simpa using ha), if_pos hb]
      subst ha
      go_enter Tryd.func100, Tryd.ntmps100
      go_wp2
      refine wp_loop_rounds 4 ?_
      rw [rounds_succ]
      go_wp2
      rw [rounds_succ]
      go_wp2
      go_ret
      exact ⟨rfl, rfl⟩
  · rw [if_pos ha]
    go_enter Tryd.func100, Tryd.ntmps100
    go_wp2
    refine wp_loop_rounds 4 ?_
    rw [rounds_succ]
    go_wp2
    go_ret
    exact ⟨rfl, rfl⟩
end Go.Proofs.YtlfpfeidaohjmaaDoor
/- The program's sort of its events: its order walked, and what an own row of events holds behind it. -/
set_option linter.unusedSimpArgs false
set_option linter.unusedVariables false
namespace Go.Proofs.YtlfpfeidaohjmaaDoor
open Go.RowKit Go.Grow Go.Fl Go.Bg

theorem compareI_walk (x y : Int) (w : World) : Calls Tryd.prog 101 #[.int .i64 x, .int .i64 y] w fun e w' => e = .returned (.int .i64 (Lib.compareInt x y)) ∧ w' = w := AnyG.cmp_Compare_int YtlfpfeidaohjmaaDoor.laysCmp x y w
set_option maxRecDepth 100000 in
set_option maxHeartbeats 8000000 in
theorem evCmp_walk (x y : Ev) (W : World) : Calls Tryd.prog 99 #[.agg (encE x).toArray, .agg (encE y).toArray] W fun e w' => e = .returned (.int .i64 (cfE x y)) ∧ ∃ q os', w' = Sort.grow (W.drewN q) os' := by
  obtain ⟨xk, xa, xi⟩ := x
  obtain ⟨yk, ya, yi⟩ := y
  have CW := Lib.hid (fun a b X => compareI_walk a b X)
  have OW := Lib.hid (fun a b c g X h0 h1 h2 => or3_walk a b c g X h0 h1 h2)
  unfold encE cfE
  simp only
  generalize Lib.compareInt = cmp at CW ⊢
  go_enter Tryd.func99, Tryd.ntmps99
  go_wp2
  obtain ⟨X, hX⟩ : ∃ X, (W.alloc (.cells #[.int .i64 xk, .int .i64 xa, .int .i64 xi] 115)).alloc (.cells #[.int .i64 yk, .int .i64 ya, .int .i64 yi] 115) = X := ⟨_, rfl⟩
  have K1 := Lib.hid (show Known X W.heap.size #[.int .i64 xk, .int .i64 xa, .int .i64 xi] by rw [← hX]; exact (Known.new _ _ _).alloc _)
  have K2 := Lib.hid (show Known X (W.heap.size + 1) #[.int .i64 yk, .int .i64 ya, .int .i64 yi] by rw [← hX]; exact Known.new' (by simp))
  have HX := Lib.hid hX
  have hs : X.heap.size = W.heap.size + 2 := by rw [← hX]; simp
  rw [hX]
  clear hX
  have k0 := K1.out.cell 0
  have k1 := K1.out.cell 1
  have k2 := K1.out.cell 2
  have j0 := K2.out.cell 0
  have j1 := K2.out.cell 1
  have j2 := K2.out.cell 2
  have kl := K1.out.lt
  have jl := K2.out.lt
  have HS := Lib.hid hs
  clear hs
  refine Grow.wp_region_tail (C := fun w' => ∃ m : Nat, w' = X.drewN m) 15 (by kernel_rfl) (by kernel_rfl) ⟨1, rfl⟩ ?_
  simp only [List.take_succ_cons, List.take_zero, List.drop_succ_cons, List.drop_zero]
  repeat (go_big_quiet_step ((go_at_call 101; (with_reducible refine (CW.out _ _ _).mono ?_); rintro e w' ⟨rfl, rfl⟩; exact ⟨rfl, _, rfl⟩)))
  refine wpQuiet_nil ?_
  rintro w' ⟨m, rfl⟩
  have O2 := Lib.hid (fun a b c => show Calls Tryd.prog 100 #[.slice (some ⟨X.heap.size, 0, none⟩) 3 3] ((X.drewN m).alloc (.cells #[.int .i64 a, .int .i64 b, .int .i64 c] 3)) fun e w' => e = .returned (.int .i64 (or3 a b c)) ∧ w' = (X.drewN m).alloc (.cells #[.int .i64 a, .int .i64 b, .int .i64 c] 3) from by
    have K3 : Known ((X.drewN m).alloc (.cells #[.int .i64 a, .int .i64 b, .int .i64 c] 3)) X.heap.size #[.int .i64 a, .int .i64 b, .int .i64 c] := Known.new' (by simp)
    exact OW.out a b c X.heap.size _ (K3.cell 0) (K3.cell 1) (K3.cell 2))
  go_wp2_with (go_at_call 100; (with_reducible refine (O2.out _ _ _).mono ?_); rintro e w' ⟨rfl, rfl⟩)
  go_ret
  refine ⟨rfl, m, #[.cells #[.int .i64 xk, .int .i64 xa, .int .i64 xi] 115] ++ #[.cells #[.int .i64 yk, .int .i64 ya, .int .i64 yi] 115] ++ #[.cells #[.int .i64 (cmp xa ya), .int .i64 (cmp xi yi), .int .i64 (cmp xk yk)] 3], ?_⟩
  rw [← HX.out, Sort.alloc_eq_grow, Sort.alloc_eq_grow, Sort.alloc_eq_grow, Sort.grow_grow]
  rfl
/-! An empty row. -/
set_option maxRecDepth 100000 in
set_option maxHeartbeats 8000000 in
theorem ins0_walk (fv : Value) (w : World) :
    Calls Tryd.prog 151 #[.slice none 0 0, .int .i64 0, .int .i64 0, fv] w fun e w' => e = .returned (.tuple #[]) ∧ w' = w := by
  go_enter Tryd.func151, Tryd.ntmps151
  go_wp2
  refine wp_loop_rounds 1 ?_
  rw [rounds_succ]
  go_wp2
  go_end0
  exact ⟨rfl, rfl⟩
set_option maxRecDepth 100000 in
set_option maxHeartbeats 8000000 in
theorem pdq0_walk (lim : Int) (fv : Value) (w : World) :
    Calls Tryd.prog 131 #[.slice none 0 0, .int .i64 0, .int .i64 0, .int .i64 lim, fv] w fun e w' => e = .returned (.tuple #[]) ∧ w' = w := by
  have I1 := Lib.hid (fun X => ins0_walk fv X)
  go_enter Tryd.func131, Tryd.ntmps131
  go_wp2
  refine wp_loop_rounds 1 ?_
  rw [rounds_succ]
  go_wp2_with (go_at_call 151; (with_reducible refine (I1.out _).mono ?_); rintro e w1 ⟨rfl, rfl⟩)
  (try simp only [Exit.inBlock, Exit.then]); refine bodyPost_ret (results_none rfl _ _ _) rfl ?_
  exact ⟨rfl, rfl⟩
set_option maxRecDepth 100000 in
set_option maxHeartbeats 8000000 in
theorem sort0_walk (fv : Value) (w : World) :
    Calls Tryd.prog 98 #[.slice none 0 0, fv] w fun e w' => e = .returned (.tuple #[]) ∧ w' = w := by
  have P1 := Lib.hid (fun l X => pdq0_walk l fv X)
  have LN := Lib.hid (fun X => len_walk 0 (by omega) (by omega) X)
  go_enter Tryd.func98, Tryd.ntmps98
  go_wp2_with (first
    | (go_at_call 132; (with_reducible refine (LN.out _).mono ?_); rintro e w1 ⟨rfl, rfl⟩)
    | (go_at_call 131; (with_reducible refine (P1.out _ _).mono ?_); rintro e w1 ⟨rfl, rfl⟩))
  go_end0
  exact ⟨rfl, rfl⟩
def SortPost (base : Nat) (v : Value) (l : List Ev) (w : World) (e : Ending) (w' : World) : Prop := e = .returned (.tuple #[]) ∧ w'.ownsRow base 115 3 v l.length (evL (sortE l)) ∧ Below base w w'
theorem sortF_walk (v : Value) (l : List Ev) (base n : Nat) (w : World) (hl : l.length ≤ 100000) (h : w.ownsRow base 115 3 v n (evL l)) (hb : base ≤ w.heap.size) :
    Calls Tryd.prog 98 #[v, .func (.func 99) #[] #[]] w (SortPost base v l w) := by
  have hlen : n = l.length := by have := h.1; rw [evL_length] at this; omega
  subst hlen
  obtain ⟨_, ⟨hv, hn⟩ | ⟨g, cap, cur, hv, hg, hc, h1, h2, h3, h4⟩⟩ := h
  · have : l = [] := List.length_eq_zero_iff.1 hn
    subst this hv
    refine (sort0_walk _ w).mono ?_
    rintro e w' ⟨rfl, rfl⟩
    exact ⟨rfl, World.ownsRow_nil _ _ _ _, Below.refl _ _⟩
  · subst hv
    have hH := holds_ev hc h4
    have hgl : g < w.heap.size := (Array.getElem?_eq_some_iff.1 hc).1
    have eg : ∀ args w, (callFunc 99 args).run Tryd.prog w = .ok (.enter 99 args) w := enters_of Tryd.func99 (by kernel_rfl) rfl
    have hcon := AnyQ.slices_SortFunc YtlfpfeidaohjmaaDoor.laysSortF 3 Tryd.isAgg115 Tryd.sizeOf115 encE (fun _ => rfl) (fun x v hv => by simp [encE] at hv; rcases hv with rfl | rfl | rfl <;> rfl) cfE (by rw [ltOf_cfE]; exact swoE) 99 #[] g 0 cap l.toArray w eg (fun m os dk _ x y => evCmp_walk x y _) hH hgl (by simp; omega)
    have e1 : l.toArray.size = l.length := by simp
    rw [e1] at hcon
    refine Calls.mono (show Calls Tryd.prog 98 _ _ _ from hcon) ?_
    rintro e w' ⟨rfl, d', m, os, hp, hs, rfl⟩
    rw [ltOf_cfE] at hs
    have hd : d'.toList = sortE l := sorted_same (by rw [e1]; exact hp) (by rw [e1]; exact hs)
    have hd2 : d' = (sortE l).toArray := by rw [← hd]
    subst hd2
    refine ⟨rfl, ownsRow_sortedE (by rw [sortE_length]) hg hc h1 h2 h3, ?_⟩
    exact below_grownS (Below.refl _ _) hb (grownBy_sortedV _) (fun k hk => by cases hk; exact hg)
end Go.Proofs.YtlfpfeidaohjmaaDoor
