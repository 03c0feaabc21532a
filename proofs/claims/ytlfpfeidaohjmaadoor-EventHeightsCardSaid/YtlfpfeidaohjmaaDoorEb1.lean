/- The document's large numbers: digits in memory; of a number; without noughts at the end. -/
import Derived.Test.YtlfpfeidaohjmaaDoorEs17
import Derived.Test.YtlfpfeidaohjmaaDoorBg
set_option linter.unusedSimpArgs false
set_option linter.unusedVariables false
namespace Go.Proofs.YtlfpfeidaohjmaaDoor
open Go.RowKit Go.Grow Go.Bg

/-- Digits lie in w. -/
def DgAt (w : World) (r : Option Addr) (l : List Nat) : Prop := l = [] ∨ ∃ b o, r = some ⟨b, o, none⟩ ∧ ∀ k (h : k < l.length), w.cell? ⟨b, o + k, none⟩ = some (.int .i64 (l[k] : Nat))
theorem DgAt.below {w w' : World} {r : Option Addr} {l : List Nat} (h : DgAt w r l) (hb : Below w.heap.size w w') : DgAt w' r l := by
  rcases h with h | ⟨b, o, rfl, hc⟩
  · exact .inl h
  · refine .inr ⟨b, o, rfl, fun k hk => ?_⟩
    have hl : b < w.heap.size := lt_of_cellS (hc k hk)
    exact (hb.cell (p := ⟨b, o + k, none⟩) hl).trans (hc k hk)
def vL (l : List Nat) : List Value := l.map fun (d : Nat) => Value.int .i64 (d : Int)
theorem vL_append (a b : List Nat) : vL (a ++ b) = vL a ++ vL b := by simp [vL]
theorem dg_of_owns {w : World} {base n : Nat} {v : Value} {l : List Nat} {e : TypeId} (h : w.ownsRow base e 1 v n (vL l)) : ∃ r cap, v = .slice r l.length cap ∧ DgAt w r l := by
  have hlen : n = l.length := by have := h.1; simp only [vL, List.length_map] at this; omega
  subst hlen
  obtain ⟨hl, ⟨hv, hn⟩ | ⟨g, cap, cur, hv, hg⟩⟩ := h
  · exact ⟨none, 0, by rw [hv, hn], .inl (List.length_eq_zero_iff.1 hn)⟩
  · subst hv
    have hc := owns_cellsS (w := w) (base := base) (e := e) (size := 1) (g := g) (n := l.length) (cap := cap) (xs := vL l) ⟨hl, .inr ⟨g, cap, cur, rfl, hg⟩⟩
    refine ⟨some ⟨g, 0, none⟩, cap, rfl, .inr ⟨g, 0, rfl, fun k hk => ?_⟩⟩
    rw [Nat.zero_add]
    exact hc k _ (by simp [vL, hk])
theorem news_vl (w : World) (c : List Nat) (t : TypeId) : ∀ j u, (vL c)[j]? = some u → (w.alloc (.cells (vL c).toArray t)).cell? ((⟨w.heap.size, 0, none⟩ : Addr).add j) = some u := news_sp w (vL c) t
theorem vl_cell (c : List Nat) : ∀ u ∈ vL c, u.oneCell' = true := fun u h => by
  unfold vL at h
  obtain ⟨x, _, rfl⟩ := List.mem_map.1 h
  rfl
/-- A row of digits that is given back. -/
def DgPost (l : List Nat) (w : World) (e : Ending) (w' : World) : Prop := ∃ r c, e = .returned (.slice r l.length c) ∧ DgAt w' r l ∧ Below w.heap.size w w'
def OfRel (n : Nat) (W : World) (v0 v3 : Value) (wr : World) : Prop :=
  ∃ (m : Nat) (D : List Nat), m ≤ n ∧ v0 = .int .i64 m ∧ dig n = D ++ dig m ∧ D.length ≤ 10 ∧ wr.ownsRow W.heap.size 3 1 v3 D.length (vL D) ∧ Below W.heap.size W wr
set_option maxRecDepth 100000 in
set_option maxHeartbeats 8000000 in
theorem bigOf_walk (n : Nat) (hn : n ≤ 9223372036854775807) (w : World) : Calls Tryd.prog 140 #[.int .i64 n] w (DgPost (dig n) w) := by
  obtain ⟨i0, hi, hz0, hz1, hz2⟩ := info_parts info_in
  have HI := Lib.hid hi
  have HZ0 := Lib.hid hz0
  have HZ1 := Lib.hid hz1
  have HZ2 := Lib.hid hz2
  clear hi hz0 hz1 hz2
  have HL := Lib.hid (dig_length_le n 10 (by omega))
  go_enter Tryd.func140, Tryd.ntmps140
  go_wp2
  go_loopw [0, 3] (fun v0 v3 wr => OfRel n w v0 v3 wr) (fun v _ _ => (intOf v).toNat)
  case atStart => exact ⟨n, [], Nat.le_refl _, rfl, rfl, by simp, World.ownsRow_nil _ _ _ _, Below.refl _ _⟩
  case round =>
    obtain ⟨m, D, hm, rfl, hD, hDl, hown, hg⟩ := hrel
    have O := Lib.hid hown
    have G := Lib.hid hg
    have HD := Lib.hid hD
    clear hown hg hD
    by_cases h0 : 0 < m
    · have C3 := Lib.hid (show D.length + 1 ≤ maxLen by unfold maxLen; omega)
      have C4 := Lib.hid (show (D.length + 1) * 8 ≤ 140737488355328 by omega)
      have C5 := Lib.hid (show w.heap.size ≤ (wr.alloc (.cells (vL [m % 1000000]).toArray 3)).heap.size by have := G.out.size; simp; omega)
      have hz := G.out.size
      have HD2 := Lib.hid (show dig n = (D ++ [m % 1000000]) ++ dig (m / 1000000) by rw [HD.out, dig_pos h0, List.append_assoc]; rfl)
      have HL2 := Lib.hid (show D.length + 1 ≤ 10 by have := HL.out; rw [HD2.out] at this; simp at this; omega)
      have hlt : m / 1000000 < m := by omega
      go_wp2_with (at_builtin; refine wpList_append_own _ rfl _ _ 170 rfl w.heap.size 3 i0 (.int .i64 0) 1 8 Tryd.underlying170 HI.out HZ0.out HZ1.out HZ2.out rfl (by decide) _ _ _ rfl (O.out.alloc _) ⟨wr.heap.size, 0, none⟩ 1 1 (vL [m % 1000000]) rfl rfl (news_vl wr [m % 1000000] 3) (vl_cell _) C3.out C4.out C5.out ?_)
      intro v' w1' hown' hg' _
      have HO2 := Lib.hid hown'
      have HG2 := Lib.hid hg'
      clear hown' hg'
      go_wp2
      go_roundw
      case rel =>
        refine ⟨m / 1000000, D ++ [m % 1000000], by omega, by first | rfl | go_num, HD2.out, by rw [List.length_append]; exact HL2.out, ?_, below_grownS (G.out.alloc hz _) (by simp; omega) HG2.out (fun k hk => (O.out.lt k hk).1)⟩
        rw [vL_append, List.length_append]
        exact HO2.out
      case measure => simp [intOf]; omega
    · obtain rfl : m = 0 := by omega
      have e : dig n = D := by rw [HD.out, dig_zero, List.append_nil]
      obtain ⟨r3, c3, rfl, hd⟩ := dg_of_owns O.out
      go_wp2
      go_ret
      rw [e]
      exact ⟨r3, c3, rfl, hd, G.out⟩
end Go.Proofs.YtlfpfeidaohjmaaDoor
