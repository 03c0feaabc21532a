/- The law's own bodies. -/
import Derived.Test.YtlfpfeidaohjmaaDoorBw13
import Derived.Deep.RegionLaw
set_option linter.unusedSimpArgs false
set_option linter.unusedVariables false
namespace Go.Proofs.YtlfpfeidaohjmaaDoor
open Go.RowKit Go.Grow Go.Bo

set_option maxRecDepth 100000 in
set_option maxHeartbeats 8000000 in
theorem run_in0 (a : Nat → Addr) (r : Option Addr) (cap : Nat) (k : Int) (B : Nat → Bd) (w : World) (hcap : r = none → cap = 0) (hs : Sen a [2, 5, 6] w) (hk : -2000 ≤ k ∧ k ≤ 2000) :
    Calls Tryd.prog 16 #[.slice r 0 cap, .int .i64 k] w (RunIn a w 0 k B) := by
  have V := Lib.hid (valid_walk a r 0 cap B w (by omega) (.inl rfl) hs)
  rw [show validE 0 B = 0 from validE_ok.2 ⟨by omega, fun i h => absurd h (by omega), fun i h => absurd h (by omega), fun i h => absurd h (by omega)⟩, errV_zero] at V
  have CL := Lib.hid (fun x => cloneB_none r cap x hcap)
  have S0 := Lib.hid step0
  clear hs hcap
  by_cases hneg : k < 0
  · obtain ⟨K, hK⟩ : ∃ K : Nat, (K : Int) = -k := ⟨k.natAbs, by omega⟩
    have en : IntKind.i64.wrap (-k) = (K : Int) := by rw [← hK]; exact IntWalk.i64_in _ (by omega)
    have hKm : K ≤ 2000 := by omega
    clear hK
    go_enter Tryd.func16, Tryd.ntmps16
    go_wp2_with (first
      | (go_at_call 34; (with_reducible refine V.out.mono ?_); rintro e w1 ⟨rfl, hb⟩; have HB := Lib.hid hb; clear hb)
      | (go_at_call 68; (with_reducible refine (CL.out _).mono ?_); rintro e w2 ⟨⟨r2, c, rfl, hrc⟩, hb⟩; have HRC := Lib.hid hrc; have HB2 := Lib.hid (grow_trans HB.out hb); clear hb HB hrc))
    go_loopw [27] (fun v27 wr => ∃ (i : Nat), i ≤ K ∧ v27 = .int .i64 i ∧ Below w.heap.size w wr) (fun v _ => K - (intOf v).toNat)
    case atStart => exact ⟨0, Nat.zero_le _, rfl, HB2.out⟩
    case round =>
      clear HB2
      obtain ⟨i, hi, rfl, hb⟩ := hrel
      have HB := Lib.hid hb
      clear hb
      by_cases hlt : i < K
      · go_wp2_with (go_at_call 69; (with_reducible refine (S0.out _ _ _ _).mono ?_); rintro e w3 ⟨rfl, hb⟩; have HB3 := Lib.hid (grow_trans HB.out hb); clear hb)
        go_roundw
        case rel => exact ⟨i + 1, by omega, by go_num, HB3.out⟩
        case measure => simp [intOf]; omega
      · obtain rfl : i = K := by omega
        go_wp2
        go_ret2
        obtain ⟨E, hE⟩ := run_zero_n (sgn k) k.natAbs B
        exact ⟨HB.out, .inl ⟨E, _, _, hE, rfl, .inl rfl, HRC.out⟩⟩
  · obtain ⟨K, rfl⟩ : ∃ K : Nat, (K : Int) = k := ⟨k.toNat, by omega⟩
    have hKm : K ≤ 2000 := by omega
    go_enter Tryd.func16, Tryd.ntmps16
    go_wp2_with (first
      | (go_at_call 34; (with_reducible refine V.out.mono ?_); rintro e w1 ⟨rfl, hb⟩; have HB := Lib.hid hb; clear hb)
      | (go_at_call 68; (with_reducible refine (CL.out _).mono ?_); rintro e w2 ⟨⟨r2, c, rfl, hrc⟩, hb⟩; have HRC := Lib.hid hrc; have HB2 := Lib.hid (grow_trans HB.out hb); clear hb HB hrc))
    go_loopw [27] (fun v27 wr => ∃ (i : Nat), i ≤ K ∧ v27 = .int .i64 i ∧ Below w.heap.size w wr) (fun v _ => K - (intOf v).toNat)
    case atStart => exact ⟨0, Nat.zero_le _, rfl, HB2.out⟩
    case round =>
      clear HB2
      obtain ⟨i, hi, rfl, hb⟩ := hrel
      have HB := Lib.hid hb
      clear hb
      by_cases hlt : i < K
      · go_wp2_with (go_at_call 69; (with_reducible refine (S0.out _ _ _ _).mono ?_); rintro e w3 ⟨rfl, hb⟩; have HB3 := Lib.hid (grow_trans HB.out hb); clear hb)
        go_roundw
        case rel => exact ⟨i + 1, by omega, by go_num, HB3.out⟩
        case measure => simp [intOf]; omega
      · obtain rfl : i = K := by omega
        go_wp2
        go_ret2
        obtain ⟨E, hE⟩ := run_zero_n (sgn (i : Int)) (i : Int).natAbs B
        exact ⟨HB.out, .inl ⟨E, _, _, hE, rfl, .inl rfl, HRC.out⟩⟩
/-- Run, of valid bodies, in range. -/
theorem run_all (a : Nat → Addr) (r : Option Addr) (n cap : Nat) (k : Int) (B : Nat → Bd) (w : World) (hn : n ≤ 9223372036854775807) (hr : BodsAt w r n B) (hcap : r = none → cap = 0) (hs : Sen a [2, 5, 6] w) (h0 : validE n B = 0) (hk : -2000 ≤ k ∧ k ≤ 2000) :
    Calls Tryd.prog 16 #[.slice r n cap, .int .i64 k] w (RunIn a w n k B) := by
  rcases Nat.eq_zero_or_pos n with h | h
  · subst h; exact run_in0 a r cap k B w hcap hs hk
  · exact run_inside a r n cap k B w hn hr hs h0 hk h

def BodsPost (w : World) (n : Nat) (B : Nat → Bd) (e : Ending) (w' : World) : Prop :=
  ∃ r c, e = .returned (.slice r n c) ∧ (r = none → c = 0) ∧ BodsAt w' r n B ∧ Below w.heap.size w w'
theorem bods_of_owns {w : World} {base n : Nat} {v : Value} {B : Nat → Bd} {e : TypeId} (h : w.ownsRow base e 7 v n (cellsB n B)) : ∃ r c, v = .slice r n c ∧ (r = none → c = 0) ∧ BodsAt w r n B := by
  have h' := h
  obtain ⟨_, ⟨hv, hn⟩ | ⟨g, cap, cur, hv, _⟩⟩ := h
  · exact ⟨none, 0, by rw [hv, hn], fun _ => rfl, .inl hn⟩
  · subst hv
    exact ⟨some ⟨g, 0, none⟩, cap, rfl, (fun h => by cases h), (row_of h').bods⟩
set_option maxRecDepth 100000 in
set_option maxHeartbeats 16000000 in
theorem bodies_walk (r : Option Addr) (n cap : Nat) (B : Nat → Bd) (w : World) (hn : n ≤ 1000000) (hr : BodsAt w r n B) :
    Calls Tryd.prog 17 #[.slice r n cap] w (BodsPost w n B) := by
  obtain ⟨i0, hi, hz0, hz1, hz2⟩ := info_partsB infoB
  have HI := Lib.hid hi
  have HZ0 := Lib.hid hz0
  have HZ1 := Lib.hid hz1
  have HZ2 := Lib.hid hz2
  have HR := Lib.hid hr
  clear hi hz0 hz1 hz2 hr
  go_enter Tryd.func17, Tryd.ntmps17
  go_wp2
  go_loopw [3, 4] (fun v3 v4 wr => ∃ k : Nat, k ≤ n ∧ v4 = .int .i64 k ∧ wr.ownsRow w.heap.size 35 7 v3 k (cellsB k B) ∧ Below w.heap.size w wr) (fun _ i _ => n - (intOf i).toNat)
  case atStart => exact ⟨0, Nat.zero_le _, rfl, World.ownsRow_nil _ _ _ _, Below.refl _ _⟩
  case round =>
    obtain ⟨k, hk, rfl, hown, hb⟩ := hrel
    have HO := Lib.hid hown
    have HB := Lib.hid hb
    clear hown hb
    by_cases hlt : k < n
    · obtain ⟨b1, o1, rfl, hl1, hc⟩ := HR.out.resolve_left (by omega)
      obtain ⟨c0, c1, c2, c3, c4, c5, c6⟩ := (hc k hlt).below HB.out hl1
      have hl2 : b1 < wr.heap.size := Nat.lt_of_lt_of_le hl1 HB.out.size
      have hbz := HB.out.size
      have NX := Lib.hid (show cellsB (k + 1) B = cellsB k B ++ bc (B k) from rfl)
      clear hc
      generalize B k = d at *
      have C3 := Lib.hid (show k + 1 ≤ maxLen by unfold maxLen; omega)
      have C4 := Lib.hid (show (k + 1) * 56 ≤ 140737488355328 by omega)
      have B1 := Lib.hid (show ∀ u ∈ bc d, u.oneCell' = true from fun u h => by
        simp [bc] at h
        rcases h with rfl | rfl | rfl | rfl | rfl | rfl | rfl <;> rfl)
      have NW := Lib.hid (fun (W : World) j u (hu : (bc d)[j]? = some u) => show (W.alloc (.cells (bc d).toArray 35)).cell? ((⟨W.heap.size, 0, none⟩ : Addr).add j) = some u by
        rw [add0, cell?_cells, if_pos rfl]; simpa using hu)
      obtain ⟨⟨x, y, z⟩, ⟨u, v, q⟩, m⟩ := d
      unfold bc at B1 NW NX
      simp only at c0 c1 c2 c3 c4 c5 c6 B1 NW NX
      go_wp2
      go_region_law (refine step_append_lies _ rfl (.tmp 11) (.tmp 28) 25 rfl w.heap.size 35 i0 (.agg #[.int .i64 0, .int .i64 0, .int .i64 0, .int .i64 0, .int .i64 0, .int .i64 0, .int .i64 0]) 7 56 Tryd.underlying25 HI.out HZ0.out HZ1.out HZ2.out rfl (by decide) _ k (cellsB k B) (by simp [Act.eval, Act.put]; exact rfl) (by (repeat (first | exact HO.out | apply World.ownsRow.alloc | apply World.ownsRow.drew))) _ 1 1 [.int .i64 x, .int .i64 y, .int .i64 z, .int .i64 u, .int .i64 v, .int .i64 q, .int .i64 m] (by simp [Act.eval, Act.put]) rfl (NW.out _) B1.out (by decide) C3.out C4.out (by simp; omega) _ rfl ?_; intro g cap7 w7 hown hg hat hlt7; have HO7 := Lib.hid hown; have HG7 := Lib.hid hg; clear hown hg hat)
      all_goals
        have hb7 : Below w.heap.size w w7 := Below.grown (by (repeat (first | exact HB.out | refine Grow.grow_alloc ?_ _ | refine Grow.grow_drew ?_))) HG7.out (by simp; omega) (fun k hk => (HO.out.lt k hk).1)
        have HB7 := Lib.hid hb7
        clear HG7 hb7
        go_wp2
        go_simp
        go_wp2
        go_roundw
        case rel => exact ⟨k + 1, by omega, by go_num, by rw [NX.out]; exact HO7.out, HB7.out⟩
        case measure => simp [intOf]; omega
    · obtain rfl : k = n := by omega
      go_wp2
      go_ret
      obtain ⟨r2, c2, rfl, h1, h2⟩ := bods_of_owns HO.out
      exact ⟨_, _, rfl, h1, h2, HB.out⟩
end Go.Proofs.YtlfpfeidaohjmaaDoor
