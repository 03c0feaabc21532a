/- Waves: a share of all, the document's. -/
import Derived.Test.YtaakbajhbmbhcaaDoorWv4
import Derived.Test.YtaakbajhbmbhcaaDoorLate
set_option linter.unusedSimpArgs false
set_option linter.unusedVariables false
namespace Go.Proofs.YtaakbajhbmbhcaaDoor
open Go.RowKit Go.Fl Go.Grow Go.Tr

def pvL (l : List (Nat × Nat)) : List Value := l.flatMap fun p => [.float .f64 p.1, .float .f64 p.2]
theorem pvL_append (a b : List (Nat × Nat)) : pvL (a ++ b) = pvL a ++ pvL b := by simp [pvL]
theorem pvL_length (l : List (Nat × Nat)) : (pvL l).length = l.length * 2 := by
  induction l with
  | nil => rfl
  | cons x l ih =>
    rw [show pvL (x :: l) = .float .f64 x.1 :: .float .f64 x.2 :: pvL l from rfl]
    simp only [List.length_cons, ih]; omega
theorem pvL_get : ∀ (l : List (Nat × Nat)) (k : Nat) (h : k < l.length), (pvL l)[k * 2]? = some (.float .f64 l[k].1) ∧ (pvL l)[k * 2 + 1]? = some (.float .f64 l[k].2)
  | [], k, h => absurd h (by simp)
  | x :: l, 0, h => ⟨rfl, rfl⟩
  | x :: l, k + 1, h => by
    have := pvL_get l k (by simpa using h)
    rw [show pvL (x :: l) = .float .f64 x.1 :: .float .f64 x.2 :: pvL l from rfl, show (k + 1) * 2 = k * 2 + 1 + 1 by omega]
    simpa using this
theorem info_pr : (Tryd.prog.info? 28).map (fun i => (i.zero, i.size, i.bytes)) = some (some (.agg #[.float .f64 0, .float .f64 0]), 2, 16) := by kernel_rfl
theorem pr_cell (a b : Nat) : ∀ u ∈ [Value.float .f64 a, Value.float .f64 b], u.oneCell' = true := fun u h => by simp at h; rcases h with rfl | rfl <;> rfl
theorem news_pr (w : World) (c : List Value) (t : TypeId) : ∀ j u, c[j]? = some u → (w.alloc (.cells c.toArray t)).cell? ((⟨w.heap.size, 0, none⟩ : Addr).add j) = some u := fun j u h => by
  rw [add_zero, cell?_cells, if_pos rfl]; simpa using h
/-- A row of pairs of the call's own, read. -/
theorem pr_of_owns {w : World} {base n : Nat} {v : Value} {l : List (Nat × Nat)} {e : TypeId} (h : w.ownsRow base e 2 v n (pvL l)) : ∃ r cap, v = .slice r l.length cap ∧ PrAt w r l := by
  have hlen : n = l.length := by have := h.1; rw [pvL_length] at this; omega
  subst hlen
  obtain ⟨hl, ⟨hv, hn⟩ | ⟨g, cap, cur, hv, hg⟩⟩ := h
  · exact ⟨none, 0, by rw [hv, hn], .inl (List.length_eq_zero_iff.1 hn)⟩
  · subst hv
    have hc := owns_cells (w := w) (base := base) (e := e) (size := 2) (g := g) (n := l.length) (cap := cap) (xs := pvL l) ⟨hl, .inr ⟨g, cap, cur, rfl, hg⟩⟩
    refine ⟨some ⟨g, 0, none⟩, cap, rfl, .inr ⟨g, 0, rfl, fun k hk => ?_⟩⟩
    obtain ⟨h0, h1⟩ := pvL_get l k hk
    rw [Nat.zero_add]
    exact ⟨hc _ _ h0, hc _ _ h1⟩
def OvRel (w : World) (n : Nat) (l : List (Nat × Nat)) (v4 v5 : Value) (wr : World) : Prop :=
  ∃ (k : Nat) (L : List (Nat × Nat)), k ≤ l.length ∧ v5 = .int .i64 k ∧ L.map cb = (l.take k).map (fun p => shr n (cb p)) ∧ wr.ownsRow w.heap.size 28 2 v4 k (pvL L) ∧ Below w.heap.size w wr
def PrPost (w : World) (T : List C2) (e : Ending) (w' : World) : Prop := ∃ r c L, e = .returned (.slice r L.length c) ∧ PrAt w' r L ∧ L.map cb = T ∧ Below w.heap.size w w'
set_option maxRecDepth 100000 in
set_option maxHeartbeats 8000000 in
theorem over_walk (r : Option Addr) (l : List (Nat × Nat)) (cap : Nat) (w : World) (hl : l.length ≤ 256) (hr : PrAt w r l) :
    Calls Tryd.prog 46 #[.slice r l.length cap] w (PrPost w (l.map fun p => shr l.length (cb p))) := by
  obtain ⟨i0, hi, hz0, hz1, hz2⟩ := info_parts info_pr
  have HI := Lib.hid hi
  have HZ0 := Lib.hid hz0
  have HZ1 := Lib.hid hz1
  have HZ2 := Lib.hid hz2
  have HR := Lib.hid hr
  clear hr hi hz0 hz1 hz2
  go_enter Tryd.func46, Tryd.ntmps46
  go_wp2
  obtain ⟨q, hq⟩ : ∃ q, nF l.length = q := ⟨_, rfl⟩
  have HQ := Lib.hid hq
  unfold nF at hq
  rw [hq]
  clear hq
  go_loopw [4, 5] (fun v4 v5 wr => OvRel w l.length l v4 v5 wr) (fun _ i _ => l.length - (intOf i).toNat)
  case atStart => exact ⟨0, [], Nat.zero_le _, rfl, rfl, World.ownsRow_nil _ _ _ _, Below.refl _ _⟩
  case round =>
    obtain ⟨k, L, hk, rfl, hL, hown, hg⟩ := hrel
    have HL := Lib.hid hL
    have O := Lib.hid hown
    have G := Lib.hid hg
    clear hown hg hL
    have hz := G.out.size
    by_cases hlt : k < l.length
    · obtain ⟨b1, o1, rfl, hc⟩ := HR.out.resolve_left (by intro h; rw [h] at hlt; exact absurd hlt (by simp))
      obtain ⟨e0, e1⟩ := hc k hlt
      have hb1 : b1 < w.heap.size := lt_of_cell e0
      rw [← G.out.cell (p := ⟨b1, _, none⟩) hb1] at e0 e1
      have TS := Lib.hid (take_snocC l k hlt)
      clear hc
      generalize l[k] = x at *
      obtain ⟨xa, xb⟩ := x
      simp only at e0 e1
      have hb1' : b1 < wr.heap.size := Nat.lt_of_lt_of_le hb1 hz
      have hi0 : (0 : Int) ≤ (k : Int) := by omega
      have hi1 : (k : Int) < (l.length : Int) := by omega
      go_wp2
      refine Rel.wp_region_rel_late SpecC 16 0 16 (by kernel_rfl) (by kernel_rfl) (lexTailB_of_fast (by kernel_rfl) (by kernel_rfl) (by kernel_rfl)) (by decide) (fun _ _ _ _ _ h => h) ?_
      simp only [List.append_eq, List.cons_append, List.nil_append, List.take_succ_cons, List.take_zero, List.drop_succ_cons, List.drop_zero]
      have s0 := trivial
      repeat (first
        | (clear s0; refine rel_arith (by rfl) rfl (by rfl) rfl rfl ?_; intro p1 P1; have s1 := trivial; simp only [Act.put, List.setIfInBounds_toArray, List.set_cons_zero, List.set_cons_succ])
        | (clear s1; refine rel_arith (by rfl) rfl (by rfl) rfl rfl ?_; intro p2 P2; simp only [Act.put, List.setIfInBounds_toArray, List.set_cons_zero, List.set_cons_succ])
        | (refine rel_plain (by rfl) rfl ?_; intro K hK; go_big_quiet_op; go_big_quiet_on)
        | (refine rel_skip (by rfl) ?_; simp only [Act.put, List.setIfInBounds_toArray, List.set_cons_zero, List.set_cons_succ]))
      refine Rel.wpRel_nil ?_
      intro w4 hB9 hG9
      clear hG9
      have OX := Lib.hid (ownsRow_below O.out hB9)
      have GX := Lib.hid (grow_trans G.out hB9)
      clear O G e0 e1 hB9
      have hz4 := GX.out.size
      have C3 := Lib.hid (show k + 1 ≤ maxLen by unfold maxLen; omega)
      have C4 := Lib.hid (show (k + 1) * 16 ≤ 140737488355328 by omega)
      have C5 := Lib.hid (show w.heap.size ≤ (w4.alloc (.cells #[Value.float .f64 p1, Value.float .f64 p2] 28)).heap.size by simp; omega)
      go_wp2_with (at_builtin; refine wpList_append_own _ rfl _ _ 22 rfl w.heap.size 28 i0 (.agg #[.float .f64 0, .float .f64 0]) 2 16 Tryd.underlying22 HI.out HZ0.out HZ1.out HZ2.out rfl (by decide) _ _ _ rfl (OX.out.alloc _) ⟨w4.heap.size, 0, none⟩ 1 1 [.float .f64 p1, .float .f64 p2] rfl rfl (news_pr _ _ _) (pr_cell _ _) C3.out C4.out C5.out ?_)
      intro v' w1 hown' hg' _
      have HO2 := Lib.hid hown'
      have HG2 := Lib.hid hg'
      clear hown' hg'
      go_wp2
      go_roundw
      case rel =>
        refine ⟨k + 1, L ++ [(p1, p2)], by omega, by go_num, ?_, ?_, below_grown (GX.out.alloc hz4 _) (by simp; omega) HG2.out (fun k hk => (OX.out.lt k hk).1)⟩
        · rw [TS.out, List.map_append, List.map_append, HL.out]
          congr 1
          have h1 : fl p1 = fdiv (fl xa) (fl (nF l.length)) := by rw [P1.out, HQ.out]; rfl
          have h2 : fl p2 = fdiv (fl xb) (fl (nF l.length)) := by rw [P2.out, HQ.out]; rfl
          simp only [List.map_cons, List.map_nil, cb, shr, h1, h2]
        · rw [pvL_append]
          exact HO2.out
      case measure => simp [intOf]; omega
    · obtain rfl : k = l.length := by omega
      obtain ⟨r', c', hv, hx⟩ := pr_of_owns O.out
      subst hv
      go_wp2
      go_ret
      exact ⟨r', c', L, rfl, hx, by rw [HL.out, List.take_length], G.out⟩
end Go.Proofs.YtaakbajhbmbhcaaDoor
