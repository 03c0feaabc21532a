/- The night's house: rows of tools; numbers that are the same; a tool put in by its name. -/
import Derived.Test.YtjjjbkehmnfgbaaDoorNh9
import Derived.Deep.Onto
set_option linter.unusedSimpArgs false
set_option linter.unusedVariables false
namespace Go.Proofs.YtjjjbkehmnfgbaaDoor
open Go.RowKit Go.Grow Go.Hs

def tlL (l : List Tl) : List Value := l.flatMap tlC
theorem tlL_append (a b : List Tl) : tlL (a ++ b) = tlL a ++ tlL b := by simp [tlL]
theorem tlL_one (t : Tl) : tlL [t] = tlC t := by simp [tlL]
theorem tlC_length (t : Tl) : (tlC t).length = 7 := rfl
theorem tlL_cons (t : Tl) (l : List Tl) : tlL (t :: l) = tlC t ++ tlL l := rfl
theorem tlL_length (l : List Tl) : (tlL l).length = l.length * 7 := by
  induction l with
  | nil => rfl
  | cons x p ih => rw [tlL_cons, List.length_append, ih, tlC_length, List.length_cons]; omega
theorem tlL_at : ∀ (l : List Tl) (k i : Nat), k < l.length → i < 7 → (tlL l)[k * 7 + i]? = (tlC (tl l k))[i]?
  | [], k, i, h, _ => absurd h (by simp)
  | t :: l, 0, i, _, hi => by
    rw [tlL_cons, Nat.zero_mul, Nat.zero_add, List.getElem?_append_left (by rw [tlC_length]; exact hi)]
    rfl
  | t :: l, k + 1, i, h, hi => by
    rw [tlL_cons, List.getElem?_append_right (by rw [tlC_length]; omega), tlC_length, show (k + 1) * 7 + i - 7 = k * 7 + i by omega, tlL_at l k i (by simpa using h) hi]
    rw [show tl (t :: l) (k + 1) = tl l k by unfold tl; simp]
theorem tlL_drop : ∀ (l : List Tl) (k : Nat), tlL (l.drop k) = (tlL l).drop (k * 7)
  | l, 0 => by simp
  | [], k + 1 => by simp [tlL]
  | t :: l, k + 1 => by
    have h1 : (tlC t).drop ((k + 1) * 7) = [] := List.drop_eq_nil_of_le (by rw [tlC_length]; omega)
    rw [List.drop_succ_cons, tlL_drop l k, tlL_cons, List.drop_append, h1, List.nil_append, show (k + 1) * 7 - (tlC t).length = k * 7 by rw [tlC_length]; omega]
theorem tl_cell (t : Tl) : ∀ u ∈ tlC t, u.oneCell' = true := fun u h => by simp [tlC] at h; rcases h with rfl | rfl | rfl | rfl | rfl | rfl | rfl <;> rfl
theorem tl_cells (l : List Tl) : ∀ u ∈ tlL l, u.oneCell' = true := fun u h => by
  unfold tlL at h
  obtain ⟨t, _, ht⟩ := List.mem_flatMap.1 h
  exact tl_cell t u ht
/-- A row of tools. -/
def TsAt (w : World) (r : Option Addr) (l : List Tl) : Prop := l = [] ∨ ∃ b o, r = some ⟨b, o, none⟩ ∧ ∀ j u, (tlL l)[j]? = some u → w.cell? ⟨b, o + j, none⟩ = some u
theorem TsAt.below {w w' : World} {r : Option Addr} {l : List Tl} (h : TsAt w r l) (hb : Below w.heap.size w w') : TsAt w' r l := by
  rcases h with h | ⟨b, o, hr, h⟩
  · exact .inl h
  · exact .inr ⟨b, o, hr, fun j u hu => (hb.cell (p := ⟨b, o + j, none⟩) (lt_of_cellS (h j u hu))).trans (h j u hu)⟩
theorem ts_get {w : World} {b o : Nat} {l : List Tl} (h : ∀ j u, (tlL l)[j]? = some u → w.cell? ⟨b, o + j, none⟩ = some u) {k : Nat} (hk : k < l.length) :
    w.cell? ⟨b, o + k * 7, none⟩ = some (.string (tl l k).name) ∧ w.cell? ⟨b, o + k * 7 + 1, none⟩ = some (.int .i64 (tl l k).kind) ∧ w.cell? ⟨b, o + k * 7 + 2, none⟩ = some (.int .i64 (tl l k).wide) ∧ w.cell? ⟨b, o + k * 7 + 3, none⟩ = some (.int .i64 (tl l k).high) ∧ w.cell? ⟨b, o + k * 7 + 4, none⟩ = some (.slice (tl l k).cr (tl l k).counts.length (tl l k).cc) ∧ w.cell? ⟨b, o + k * 7 + 5, none⟩ = some (.slice (tl l k).sr (tl l k).opens.length (tl l k).sc) ∧ w.cell? ⟨b, o + k * 7 + 6, none⟩ = some (.int .i64 (tl l k).alt) := by
  have g : ∀ i u, i < 7 → (tlC (tl l k))[i]? = some u → w.cell? ⟨b, o + k * 7 + i, none⟩ = some u := fun i u hi hu => by
    have := h (k * 7 + i) u ((tlL_at l k i hk hi).trans hu)
    rw [← Nat.add_assoc] at this
    exact this
  exact ⟨g 0 _ (by decide) rfl, g 1 _ (by decide) rfl, g 2 _ (by decide) rfl, g 3 _ (by decide) rfl, g 4 _ (by decide) rfl, g 5 _ (by decide) rfl, g 6 _ (by decide) rfl⟩
theorem ts_of_owns {w : World} {base n : Nat} {v : Value} {l : List Tl} {e : TypeId} (h : w.ownsRow base e 7 v n (tlL l)) : ∃ r cap, v = .slice r l.length cap ∧ l.length ≤ cap ∧ cap ≤ maxLen ∧ (r = none → cap = 0) ∧ TsAt w r l := by
  have hlen : n = l.length := by have := h.1; rw [tlL_length] at this; omega
  subst hlen
  have h0 := h
  obtain ⟨hl, ⟨hv, hn⟩ | ⟨g, cap, cur, hv, hg, hh, hc1, hc2, hc3⟩⟩ := h
  · exact ⟨none, 0, by rw [hv, hn], by omega, by simp [maxLen], fun _ => rfl, .inl (List.length_eq_zero_iff.1 hn)⟩
  · subst hv
    exact ⟨some ⟨g, 0, none⟩, cap, rfl, hc1, hc2, fun h => by simp at h, .inr ⟨g, 0, rfl, fun j u hu => by rw [Nat.zero_add]; exact owns_cellsS h0 j u hu⟩⟩
theorem info_tl : (Tryd.prog.info? 80).map (fun i => (i.zero, i.size, i.bytes)) = some (some (.agg #[.string .empty, .int .i64 0, .int .i64 0, .int .i64 0, .slice none 0 0, .slice none 0 0, .int .i64 0]), 7, 96) := by kernel_rfl
def lessN (a b : ByteArray) : Bool := Op.bytesLess a.toList b.toList
def insT (l : List Tl) (t : Tl) : List Tl := l.takeWhile (fun y => lessN y.name t.name) ++ t :: l.dropWhile (fun y => lessN y.name t.name)
theorem insT_length (l : List Tl) (t : Tl) : (insT l t).length = l.length + 1 := by
  unfold insT
  have := congrArg List.length (List.takeWhile_append_dropWhile (p := (fun y => lessN y.name t.name)) (l := l))
  rw [List.length_append] at this ⊢
  rw [List.length_cons]; omega
theorem insT_at (t : Tl) : ∀ (l : List Tl) (k : Nat), k ≤ l.length → (∀ i (hi : i < l.length), i < k → lessN l[i].name t.name = true) → (∀ hi : k < l.length, lessN l[k].name t.name = false) → insT l t = l.take k ++ t :: l.drop k
  | [], k, hk, _, _ => by simp [insT]
  | x :: l, 0, _, _, he => by
    have : lessN x.name t.name = false := he (by simp)
    simp [insT, List.takeWhile, List.dropWhile, this]
  | x :: l, k + 1, hk, h, he => by
    have h0 : lessN x.name t.name = true := h 0 (by simp) (by omega)
    have := insT_at t l k (by simpa using hk) (fun i hi hik => by have := h (i + 1) (by simpa using hi) (by omega); simpa using this) (fun hi => by have := he (by simpa using hi); simpa using this)
    have e : insT (x :: l) t = x :: insT l t := by simp [insT, List.takeWhile, List.dropWhile, h0]
    rw [e, this]; rfl
theorem drop_ts {w w1 : World} {b o k : Nat} {l : List Tl} (hb : Below w.heap.size w w1) (hc : ∀ j u, (tlL l)[j]? = some u → w.cell? ⟨b, o + j, none⟩ = some u) : ∀ j u, (tlL (l.drop k))[j]? = some u → w1.cell? ((⟨b, o + k * 7, none⟩ : Addr).add j) = some u := fun j u h => by
  rw [tlL_drop, List.getElem?_drop] at h
  have := hc _ _ h
  rw [addNsH, Nat.add_assoc, hb.cell (p := ⟨b, _, none⟩) (lt_of_cellS this), this]
theorem drop_tsl (l : List Tl) (k : Nat) : (tlL (l.drop k)).length = (l.length - k) * 7 := by rw [tlL_length, List.length_drop]
set_option maxRecDepth 100000 in
set_option maxHeartbeats 8000000 in
theorem sameInts_walk (ra rb : Option Addr) (la lb : List Int) (ca cb : Nat) (w : World) (hl : la.length ≤ 1000000) (hl2 : lb.length ≤ 1000000) (ha : NrAt w ra la) (hb : NrAt w rb lb) :
    Calls Tryd.prog 37 #[.slice ra la.length ca, .slice rb lb.length cb] w fun e w' => e = .returned (.bool (decide (la = lb))) ∧ Below w.heap.size w w' := by
  have HA := Lib.hid ha
  have HB := Lib.hid hb
  clear ha hb
  by_cases c0 : la.length = lb.length
  rotate_left
  · have HZ := Lib.hid (show decide (la = lb) = false from decide_eq_false (fun h => c0 (by rw [h])))
    have d0 : decide ((la.length : Int) = (lb.length : Int)) = false := decide_eq_false (by omega)
    go_enter Tryd.func37, Tryd.ntmps37
    go_wp2
    go_ret
    exact ⟨by rw [HZ.out]; rfl, grow_refl _⟩
  · have HL := Lib.hid c0
    have d0 : decide ((la.length : Int) = (lb.length : Int)) = true := decide_eq_true (by omega)
    go_enter Tryd.func37, Tryd.ntmps37
    go_wp2
    go_loopw [5] (fun v5 wr => ∃ k : Nat, k ≤ la.length ∧ v5 = .int .i64 k ∧ Hid (la.take k = lb.take k) ∧ Below w.heap.size w wr) (fun i _ => la.length - (intOf i).toNat)
    case atStart => exact ⟨0, Nat.zero_le _, rfl, Lib.hid rfl, grow_refl _⟩
    case round =>
      obtain ⟨k, hk, rfl, HI, hg⟩ := hrel
      have G := Lib.hid hg
      clear hg
      by_cases hlt : k < la.length
      · have hlt2 : k < lb.length := by omega
        obtain ⟨b1, o1, rfl, hc1⟩ := HA.out.resolve_left (by intro h; rw [h] at hlt; exact absurd hlt (by simp))
        obtain ⟨b2, o2, rfl, hc2⟩ := HB.out.resolve_left (by intro h; rw [h] at hlt2; exact absurd hlt2 (by simp))
        have e1 := hc1 k hlt
        have e2 := hc2 k hlt2
        have m1 : b1 < w.heap.size := lt_of_cellS e1
        have m2 : b2 < w.heap.size := lt_of_cellS e2
        rw [← G.out.cell (p := ⟨b1, _, none⟩) m1] at e1
        rw [← G.out.cell (p := ⟨b2, _, none⟩) m2] at e2
        have hz := G.out.size
        have m1' : b1 < wr.heap.size := by omega
        have m2' : b2 < wr.heap.size := by omega
        have hi0 : (0 : Int) ≤ (k : Int) := by omega
        have hi1 : (k : Int) < (la.length : Int) := by omega
        have hi2 : (k : Int) < (lb.length : Int) := by omega
        have HY := Lib.hid (fun (h : la[k] = lb[k]) => show la.take (k + 1) = lb.take (k + 1) by
          rw [List.take_succ_eq_append_getElem hlt, List.take_succ_eq_append_getElem hlt2, HI.out, h])
        have HN := Lib.hid (fun (h : ¬ la[k] = lb[k]) => show decide (la = lb) = false from decide_eq_false (fun e => h (by subst e; rfl)))
        clear hc1 hc2
        generalize la[k] = x1 at *
        generalize lb[k] = x2 at *
        by_cases hx : x1 = x2
        · have HT := Lib.hid (HY.out hx)
          subst hx
          clear HY HN
          go_wp2
          go_quiet (fail)
          go_wp2
          go_roundw
          case rel => exact ⟨k + 1, by omega, by go_num, HT, by (repeat (with_reducible first | exact G.out | refine Grow.grow_drewN ?_ _ | refine Grow.grow_drew ?_))⟩
          case measure => simp [intOf]; omega
        · have HT := Lib.hid (HN.out hx)
          have dx : decide (x1 = x2) = false := decide_eq_false hx
          clear HY HN
          go_wp2
          go_quiet (fail)
          go_wp2
          go_ret
          exact ⟨by rw [HT.out]; rfl, by (repeat (with_reducible first | exact G.out | refine Grow.grow_drewN ?_ _ | refine Grow.grow_drew ?_))⟩
      · obtain rfl : k = la.length := by omega
        have HT := Lib.hid (show decide (la = lb) = true from decide_eq_true (by
          have := HI.out
          rw [List.take_length, HL.out, List.take_length] at this
          exact this))
        go_wp2
        go_ret
        exact ⟨by rw [HT.out]; rfl, G.out⟩
end Go.Proofs.YtjjjbkehmnfgbaaDoor
