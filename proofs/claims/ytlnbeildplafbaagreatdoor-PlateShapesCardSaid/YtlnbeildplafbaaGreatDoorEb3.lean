/- The document's large numbers: digits in memory; of a number; without noughts at the end. -/
import Derived.Test.YtlnbeildplafbaaGreatDoorEb0
import Derived.Test.YtlnbeildplafbaaGreatDoorBh
set_option linter.unusedSimpArgs false
set_option linter.unusedVariables false
namespace Go.Proofs.YtlnbeildplafbaaGreatDoor
open Go.RowKit Go.Grow Go.Bg

/-- Digits lie in w. -/
def DgAt (w : World) (r : Option Addr) (l : List Nat) : Prop := l = [] ∨ ∃ b o, r = some ⟨b, o, none⟩ ∧ ∀ k (h : k < l.length), w.cell? ⟨b, o + k, none⟩ = some (.int .i64 (l[k] : Nat))
theorem DgAt.below {w w' : World} {r : Option Addr} {l : List Nat} (h : DgAt w r l) (hb : Below w.heap.size w w') : DgAt w' r l := by
  rcases h with h | ⟨b, o, rfl, hc⟩
  · exact .inl h
  · refine .inr ⟨b, o, rfl, fun k hk => ?_⟩
    have hl : b < w.heap.size := lt_of_cellS (hc k hk)
    exact (hb.cell (p := ⟨b, o + k, none⟩) hl).trans (hc k hk)
def vL (l : List Nat) : List Value := l.map fun (d : Nat) => Value.int .i64 (d : Int)
theorem vL_append (a b : List Nat) : vL (a ++ b) = vL a ++ vL b := by simp [vL]
theorem dg_of_owns {w : World} {base n : Nat} {v : Value} {l : List Nat} {e : TypeId} (h : w.ownsRow base e 1 v n (vL l)) : ∃ r cap, v = .slice r l.length cap ∧ DgAt w r l := by
  have hlen : n = l.length := by have := h.1; simp only [vL, List.length_map] at this; omega
  subst hlen
  obtain ⟨hl, ⟨hv, hn⟩ | ⟨g, cap, cur, hv, hg⟩⟩ := h
  · exact ⟨none, 0, by rw [hv, hn], .inl (List.length_eq_zero_iff.1 hn)⟩
  · subst hv
    have hc := owns_cellsS (w := w) (base := base) (e := e) (size := 1) (g := g) (n := l.length) (cap := cap) (xs := vL l) ⟨hl, .inr ⟨g, cap, cur, rfl, hg⟩⟩
    refine ⟨some ⟨g, 0, none⟩, cap, rfl, .inr ⟨g, 0, rfl, fun k hk => ?_⟩⟩
    rw [Nat.zero_add]
    exact hc k _ (by simp [vL, hk])
theorem news_vl (w : World) (c : List Nat) (t : TypeId) : ∀ j u, (vL c)[j]? = some u → (w.alloc (.cells (vL c).toArray t)).cell? ((⟨w.heap.size, 0, none⟩ : Addr).add j) = some u := news_sp w (vL c) t
theorem vl_cell (c : List Nat) : ∀ u ∈ vL c, u.oneCell' = true := fun u h => by
  unfold vL at h
  obtain ⟨x, _, rfl⟩ := List.mem_map.1 h
  rfl
/-- A row of digits that is given back. -/
def DgPost (l : List Nat) (w : World) (e : Ending) (w' : World) : Prop := ∃ r c, e = .returned (.slice r l.length c) ∧ DgAt w' r l ∧ Below w.heap.size w w'
def OfRel (n : Nat) (W : World) (v0 v3 : Value) (wr : World) : Prop :=
  ∃ (m : Nat) (D : List Nat), m ≤ n ∧ v0 = .int .i64 m ∧ dig n = D ++ dig m ∧ D.length ≤ 10 ∧ wr.ownsRow W.heap.size 3 1 v3 D.length (vL D) ∧ Below W.heap.size W wr
set_option maxRecDepth 100000 in
set_option maxHeartbeats 8000000 in
theorem bigOf_walk (n : Nat) (hn : n ≤ 9223372036854775807) (w : World) : Calls Tryz.prog 51 #[.int .i64 n] w (DgPost (dig n) w) := by
  obtain ⟨i0, hi, hz0, hz1, hz2⟩ := info_parts info_in
  have HI := Lib.hid hi
  have HZ0 := Lib.hid hz0
  have HZ1 := Lib.hid hz1
  have HZ2 := Lib.hid hz2
  clear hi hz0 hz1 hz2
  have HL := Lib.hid (dig_length_le n 10 (by omega))
  go_enter Tryz.func51, Tryz.ntmps51
  go_wp2
  go_loopw [0, 3] (fun v0 v3 wr => OfRel n w v0 v3 wr) (fun v _ _ => (intOf v).toNat)
  case atStart => exact ⟨n, [], Nat.le_refl _, rfl, rfl, by simp, World.ownsRow_nil _ _ _ _, Below.refl _ _⟩
  case round =>
    obtain ⟨m, D, hm, rfl, hD, hDl, hown, hg⟩ := hrel
    have O := Lib.hid hown
    have G := Lib.hid hg
    have HD := Lib.hid hD
    clear hown hg hD
    by_cases h0 : 0 < m
    · have C3 := Lib.hid (show D.length + 1 ≤ maxLen by unfold maxLen; omega)
      have C4 := Lib.hid (show (D.length + 1) * 8 ≤ 140737488355328 by omega)
      have C5 := Lib.hid (show w.heap.size ≤ (wr.alloc (.cells (vL [m % 1000000]).toArray 3)).heap.size by have := G.out.size; simp; omega)
      have hz := G.out.size
      have HD2 := Lib.hid (show dig n = (D ++ [m % 1000000]) ++ dig (m / 1000000) by rw [HD.out, dig_pos h0, List.append_assoc]; rfl)
      have HL2 := Lib.hid (show D.length + 1 ≤ 10 by have := HL.out; rw [HD2.out] at this; simp at this; omega)
      have hlt : m / 1000000 < m := by omega
      go_wp2_with (at_builtin; refine wpList_append_own _ rfl _ _ 107 rfl w.heap.size 3 i0 (.int .i64 0) 1 8 Tryz.underlying107 HI.out HZ0.out HZ1.out HZ2.out rfl (by decide) _ _ _ rfl (O.out.alloc _) ⟨wr.heap.size, 0, none⟩ 1 1 (vL [m % 1000000]) rfl rfl (news_vl wr [m % 1000000] 3) (vl_cell _) C3.out C4.out C5.out ?_)
      intro v' w1' hown' hg' _
      have HO2 := Lib.hid hown'
      have HG2 := Lib.hid hg'
      clear hown' hg'
      go_wp2
      go_roundw
      case rel =>
        refine ⟨m / 1000000, D ++ [m % 1000000], by omega, by first | rfl | go_num, HD2.out, by rw [List.length_append]; exact HL2.out, ?_, below_grownS (G.out.alloc hz _) (by simp; omega) HG2.out (fun k hk => (O.out.lt k hk).1)⟩
        rw [vL_append, List.length_append]
        exact HO2.out
      case measure => simp [intOf]; omega
    · obtain rfl : m = 0 := by omega
      have e : dig n = D := by rw [HD.out, dig_zero, List.append_nil]
      obtain ⟨r3, c3, rfl, hd⟩ := dg_of_owns O.out
      go_wp2
      go_ret
      rw [e]
      exact ⟨r3, c3, rfl, hd, G.out⟩
end Go.Proofs.YtlnbeildplafbaaGreatDoor
/- The document's large numbers: noughts at the end; times. -/
set_option linter.unusedSimpArgs false
set_option linter.unusedVariables false
namespace Go.Proofs.YtlnbeildplafbaaGreatDoor
open Go.RowKit Go.Grow Go.Bg

def TrimPost (g n c : Nat) (w : World) (e : Ending) (w' : World) : Prop := e = .returned (.slice (some ⟨g, 0, none⟩) n c) ∧ Below w.heap.size w w'
set_option maxRecDepth 100000 in
set_option maxHeartbeats 8000000 in
theorem trimmed_walk (g c : Nat) (l : List Nat) (w : World) (hl : l.length ≤ 1000000) (hc : l.length ≤ c) (hr : ∀ k (h : k < l.length), w.cell? ⟨g, k, none⟩ = some (.int .i64 (l[k] : Nat))) (hg : g < w.heap.size) :
    Calls Tryz.prog 83 #[.slice (some ⟨g, 0, none⟩) l.length c] w (TrimPost g (cutTo l l.length) c w) := by
  have HR := Lib.hid hr
  clear hr
  go_enter Tryz.func83, Tryz.ntmps83
  go_wp2
  go_loopw [3] (fun v3 wr => ∃ k : Nat, k ≤ l.length ∧ v3 = .int .i64 k ∧ cutTo l k = cutTo l l.length ∧ Below w.heap.size w wr) (fun v _ => (intOf v).toNat)
  case atStart => exact ⟨l.length, Nat.le_refl _, rfl, rfl, Below.refl _ _⟩
  case round =>
    obtain ⟨k, hk, rfl, hcut, hb⟩ := hrel
    have G := Lib.hid hb
    have HC := Lib.hid hcut
    clear hb hcut
    rcases Nat.eq_zero_or_pos k with h0 | h0
    · subst h0
      have d0 : decide (0 < 0) = false := by decide
      have e : cutTo l l.length = 0 := HC.out.symm
      go_wp2
      go_ret
      rw [e]
      exact ⟨rfl, by first | exact G.out | exact Grow.grow_drewN G.out _⟩
    · obtain ⟨j, rfl⟩ : ∃ j, k = j + 1 := ⟨k - 1, by omega⟩
      have hj : j < l.length := by omega
      have c0 := (G.out.cell (p := ⟨g, j, none⟩) hg).trans (HR.out j hj)
      have hgw : g < wr.heap.size := Nat.lt_of_lt_of_le hg G.out.size
      have d0 : decide (0 < j + 1) = true := by simp
      have E0 := Lib.hid (show cutTo l (j + 1) = if l[j] = 0 then cutTo l j else j + 1 by
        show (if l.getD j 0 = 0 then _ else _) = _
        rw [show l.getD j 0 = l[j] by simp [hj]])
      generalize l[j] = x at c0 E0
      by_cases hx : x = 0
      · subst hx
        rw [if_pos rfl] at E0
        have d1 : decide (((0 : Nat) : Int) = 0) = true := by decide
        go_wp2
        go_roundw
        case rel => exact ⟨j, by omega, by go_num, by rw [← E0.out]; exact HC.out, by first | exact G.out | exact Grow.grow_drewN G.out _⟩
        case measure => simp [intOf]
      · rw [if_neg hx] at E0
        have d1 : decide ((x : Int) = 0) = false := decide_eq_false (by omega)
        have d2 : decide (x = 0) = false := decide_eq_false (by omega)
        have e : cutTo l l.length = j + 1 := by rw [← HC.out]; exact E0.out
        go_wp2
        go_ret
        rw [e]
        exact ⟨rfl, by first | exact G.out | exact Grow.grow_drewN G.out _⟩

/-- Digits in block g, which is free to be written. -/
structure DRow (w : World) (g : Nat) (l : List Nat) : Prop where
  lt : g < w.heap.size
  frozen : ∀ i, w.frozen? ⟨g, i, none⟩ = false
  cell : ∀ k (h : k < l.length), w.cell? ⟨g, k, none⟩ = some (.int .i64 (l[k] : Nat))
theorem DRow.below {w w' : World} {g : Nat} {l : List Nat} (h : DRow w g l) (hb : Below w.heap.size w w') : DRow w' g l :=
  ⟨Nat.lt_of_lt_of_le h.lt hb.size, fun i => (hb.frozen (p := ⟨g, i, none⟩) h.lt).trans (h.frozen i), fun k hk => (hb.cell (p := ⟨g, k, none⟩) h.lt).trans (h.cell k hk)⟩
theorem DRow.set {w : World} {g : Nat} {l : List Nat} (h : DRow w g l) {i : Nat} (hi : i < l.length) (x : Nat) : DRow (w.setCell ⟨g, i, none⟩ (.int .i64 x)) g (l.set i x) := by
  have h0 := h.cell i hi
  refine ⟨by simpa using h.lt, fun j => by rw [frozen?_setCell]; exact h.frozen j, fun k hk => ?_⟩
  have hk' : k < l.length := by simpa using hk
  rw [cell?_put]
  by_cases e : i = k
  · subst e
    simp [h0]
  · rw [if_neg (fun h => e h.2), h.cell k hk']
    simp [e]
theorem madeCells_one (n k : Nat) (h : k < n) : (madeCells #[.int .i64 0] (n * 1))[k]? = some (.int .i64 0) := by
  unfold madeCells
  rw [Array.getElem?_map, Array.getElem?_range, if_pos (by omega)]
  simp [Nat.mod_one]
theorem DRow.made (w : World) (n : Nat) (t : TypeId) : DRow (w.alloc (.cells (madeCells #[.int .i64 0] (n * 1)) t)) w.heap.size (List.replicate n 0) := by
  have K := Known.new w (madeCells #[.int .i64 0] (n * 1)) t
  refine ⟨K.lt, K.frozen, fun k hk => ?_⟩
  rw [K.cell, madeCells_one n k (by simpa using hk)]
  simp
theorem mk_big (n : Nat) (hn : n ≤ 100000) (W : World) :
    (Instr.makeSlice 107 (.int .i64 (n : Int)) (.int .i64 (n : Int))).run Tryz.prog W = .ok (.slice (some ⟨W.heap.size, 0, none⟩) n n) (W.alloc (.cells (madeCells #[.int .i64 0] (n * 1)) 3)) := by
  obtain ⟨i0, hi, hz0, hz1, hz2⟩ := info_parts info_in
  have hr := run_make (P := Tryz.prog) W 107 3 i0 (.int .i64 0) Tryz.underlying107 hi hz0 .i64 .i64 n n (by omega) (Int.le_refl _) (by rw [hz2]; omega) (by omega)
  simp only [Int.toNat_natCast, hz1] at hr
  exact hr
def MulOut (a b : List Nat) (g : Nat) (W : World) (v6 : Value) (wr : World) : Prop :=
  ∃ (i : Nat) (L : List Nat), i ≤ a.length ∧ v6 = .int .i64 i ∧ L.length = a.length + b.length ∧ Small L ∧ val L = val (a.take i) * val b ∧ (∀ j, i + b.length ≤ j → L.getD j 0 = 0) ∧ DRow wr g L ∧ Below W.heap.size W wr
def MulIn (a b : List Nat) (g i x V : Nat) (W : World) (v7 v8 : Value) (wr : World) : Prop :=
  ∃ (k cy : Nat) (L : List Nat), k ≤ b.length ∧ v8 = .int .i64 k ∧ v7 = .int .i64 cy ∧ cy < 1000000 ∧ L.length = a.length + b.length ∧ Small L ∧ Inn V i k x cy b L ∧ (∀ j, i + b.length ≤ j → L.getD j 0 = 0) ∧ DRow wr g L ∧ Below W.heap.size W wr
set_option maxRecDepth 100000 in
set_option maxHeartbeats 16000000 in
theorem bigMul_walk (r1 r2 : Option Addr) (a b : List Nat) (c1 c2 : Nat) (w : World) (ha : a.length ≤ 1000) (hb : b.length ≤ 1000) (h1 : DgAt w r1 a) (h2 : DgAt w r2 b) (s1 : Small a) (s2 : Small b) :
    Calls Tryz.prog 49 #[.slice r1 a.length c1, .slice r2 b.length c2] w (DgPost (dig (val a * val b)) w) := by
  have A1 := Lib.hid h1
  have A2 := Lib.hid h2
  have S1 := Lib.hid s1
  have S2 := Lib.hid s2
  have hmk : ∀ W : World, (Instr.makeSlice 107 (.int .i64 ((a.length : Int) + (b.length : Int))) (.int .i64 ((a.length : Int) + (b.length : Int)))).run Tryz.prog W = .ok (.slice (some ⟨W.heap.size, 0, none⟩) (a.length + b.length) (a.length + b.length)) (W.alloc (.cells (madeCells #[.int .i64 0] ((a.length + b.length) * 1)) 3)) := fun W => by
    have := mk_big (a.length + b.length) (by omega) W
    rwa [Int.natCast_add] at this
  clear h1 h2 s1 s2
  go_enter Tryz.func49, Tryz.ntmps49
  go_wp2
  go_loopw [6] (fun v6 wr => MulOut a b w.heap.size w v6 wr) (fun v _ => a.length - (intOf v).toNat)
  case atStart =>
    refine ⟨0, List.replicate (a.length + b.length) 0, Nat.zero_le _, rfl, by simp, fun d hd => ?_, ?_, fun j _ => ?_, ?_, grow_alloc (grow_refl w) _⟩
    · rw [List.eq_of_mem_replicate hd]; decide
    · rw [val_replicate, List.take_zero]; simp [val]
    · rw [List.getD_eq_getElem?_getD, List.getElem?_replicate]; split <;> rfl
    · have h := DRow.made w (a.length + b.length) 3
      first | exact h | simpa using h
  case round =>
    obtain ⟨i, L, hi, rfl, hL, hs, hv, hz, hd, hg⟩ := hrel
    have D := Lib.hid hd
    have G := Lib.hid hg
    have HV := Lib.hid hv
    have HZ := Lib.hid hz
    have HS := Lib.hid hs
    clear hd hg hv hz hs hmk
    by_cases hlt : i < a.length
    · obtain ⟨b1, o1, rfl, hc⟩ := A1.out.resolve_left (by intro h; rw [h] at hlt; exact absurd hlt (by simp))
      have f0 := hc i hlt
      have hb1 : b1 < w.heap.size := lt_of_cellS f0
      have hx : a[i] < 1000000 := S1.out _ (List.getElem_mem hlt)
      have MR := Lib.hid (mul_row (b := b) hlt)
      have hi0 : (0 : Int) ≤ (i : Int) := by omega
      have hi1 : (i : Int) < (a.length : Int) := by omega
      clear hc
      generalize a[i] = x at f0 hx MR
      have E0 := Lib.hid f0
      clear f0
      go_wp2
      go_loopw [7, 8] (fun v7 v8 wr => MulIn a b w.heap.size i x (val L) w v7 v8 wr) (fun _ v _ => b.length - (intOf v).toNat)
      case atStart => exact ⟨0, 0, L, Nat.zero_le _, rfl, rfl, by decide, hL, HS.out, Inn.zero rfl, HZ.out, D.out, G.out⟩
      case round =>
        clear D G HS HZ
        obtain ⟨k, cy, L1, hk, rfl, rfl, hcy, hL1, hs1, hin, hz1, hd, hg⟩ := hrel
        have D := Lib.hid hd
        have G := Lib.hid hg
        have HS := Lib.hid hs1
        have HI := Lib.hid hin
        have HZ := Lib.hid hz1
        clear hd hg hs1 hin hz1
        have cA := (G.out.cell (p := ⟨b1, o1 + i, none⟩) hb1).trans E0.out
        by_cases hlk : k < b.length
        · obtain ⟨b2, o2, rfl, hc⟩ := A2.out.resolve_left (by intro h; rw [h] at hlk; exact absurd hlk (by simp))
          have f0 := hc k hlk
          have hb2 : b2 < w.heap.size := lt_of_cellS f0
          have hy : b[k] < 1000000 := S2.out _ (List.getElem_mem hlk)
          have hp : i + k < L1.length := by omega
          have hz0 : L1[i + k] < 1000000 := HS.out _ (List.getElem_mem hp)
          have ST := Lib.hid (fun t (ht : t = cy + L1[i + k] + x * b[k]) => HI.out.step hlk hp ht)
          have cB := (G.out.cell (p := ⟨b2, o2 + k, none⟩) hb2).trans f0
          have c0 := D.out.cell (i + k) hp
          have cf := D.out.frozen
          have cl := D.out.lt
          have DS := Lib.hid (fun t => D.out.set hp t)
          clear hc f0
          generalize b[k] = y at cB hy ST
          generalize L1[i + k] = z at c0 hz0 ST
          obtain ⟨hq1, hq2⟩ := carry_lt hcy hz0 hx hy
          have hq3 := sum_lt hcy hz0 hx hy
          have hn1 : ¬ (b1 = w.heap.size) := by omega
          have hn2 : ¬ (b2 = w.heap.size) := by omega
          have hk0 : (0 : Int) ≤ (k : Int) := by omega
          have hk1 : (k : Int) < (b.length : Int) := by omega
          obtain ⟨p, hp2⟩ : ∃ p, x * y = p := ⟨_, rfl⟩
          have hp3 : (x : Int) * (y : Int) = (p : Int) := by rw [← Int.natCast_mul, hp2]
          rw [hp2] at hq1 hq2 hq3 ST
          go_wp2
          go_quiet (fail)
          go_wp2
          have em : ((cy : Int) + (z : Int) + (p : Int)) % 1000000 = (((cy + z + p) % 1000000 : Nat) : Int) := by omega
          have ed : ((cy : Int) + (z : Int) + (p : Int)) / 1000000 = (((cy + z + p) / 1000000 : Nat) : Int) := by omega
          rw [em, ed]
          have D3 := Lib.hid ((D.out.below (grow_drewN (grow_refl wr) nq)).set hp ((cy + z + p) % 1000000))
          have G3 := Lib.hid (grow_trans G.out (grow_drewN (grow_refl wr) nq))
          go_roundw
          case rel =>
            refine ⟨k + 1, (cy + z + p) / 1000000, L1.set (i + k) ((cy + z + p) % 1000000), by omega, by go_num, rfl, hq1, by simpa using hL1, small_set HS.out (Nat.mod_lt _ (by decide)), ST.out _ rfl, fun j hj => ?_, D3.out, Below.setCell G3.out (Nat.le_refl _) _⟩
            have := HZ.out j hj
            rw [List.getD_eq_getElem?_getD] at this ⊢
            rw [List.getElem?_set_ne (by omega)]
            exact this
          case measure => simp [intOf]; omega
        · obtain rfl : k = b.length := by omega
          have hp : i + b.length < L1.length := by omega
          have h0 : L1[i + b.length] = 0 := by
            have := HZ.out (i + b.length) (Nat.le_refl _)
            simpa [hp] using this
          have LA := Lib.hid (HI.out.last hp h0)
          have c0 := D.out.cell (i + b.length) hp
          have cf := D.out.frozen
          have cl := D.out.lt
          have DS := Lib.hid (D.out.set hp cy)
          rw [h0] at c0
          go_wp2
          go_roundw
          case rel =>
            refine ⟨i + 1, L1.set (i + b.length) cy, by omega, by go_num, by simpa using hL1, small_set HS.out hcy, by rw [LA.out, HV.out]; exact MR.out, fun j hj => ?_, DS.out, Below.setCell G.out (Nat.le_refl _) _⟩
            have := HZ.out j (by omega)
            rw [List.getD_eq_getElem?_getD] at this ⊢
            rw [List.getElem?_set_ne (by omega)]
            exact this
          case measure => simp [intOf]; omega
    · obtain rfl : i = a.length := by omega
      rw [List.take_length] at HV
      have CD := cut_dig HS.out
      rw [HV.out] at CD
      have HT := Lib.hid (trimmed_walk w.heap.size (a.length + b.length) L wr (by omega) (by omega) D.out.cell D.out.lt)
      rw [hL] at HT
      go_wp2_with (go_at_call 83; (with_reducible refine HT.out.mono ?_); rintro e w2 ⟨rfl, hb⟩; have G2 := Lib.hid (G.out.trans (hb.mono G.out.size)); have D2 := Lib.hid (D.out.below hb); clear hb)
      go_ret
      have hle := cutTo_le L L.length
      have hlen : cutTo L (a.length + b.length) = (dig (val a * val b)).length := by
        rw [← CD, List.length_take, hL]
        rw [hL] at hle
        omega
      refine ⟨some ⟨w.heap.size, 0, none⟩, a.length + b.length, by rw [hlen]; rfl, .inr ⟨w.heap.size, 0, rfl, fun k hk => ?_⟩, G2.out⟩
      have hk2 : k < L.length := by rw [← hlen] at hk; rw [hL] at hle; omega
      rw [Nat.zero_add, D2.out.cell k hk2]
      congr 3
      simp only [← CD, List.getElem_take]
end Go.Proofs.YtlnbeildplafbaaGreatDoor
/- The document's large numbers: which is the larger; of two numbers with signs. -/
set_option linter.unusedSimpArgs false
set_option linter.unusedVariables false
namespace Go.Proofs.YtlnbeildplafbaaGreatDoor
open Go.RowKit Go.Grow Go.Bg


set_option maxRecDepth 100000 in
set_option maxHeartbeats 8000000 in
theorem bigCmp_walk (r1 r2 : Option Addr) (a b : List Nat) (c1 c2 : Nat) (w : World) (ha : a.length ≤ 1000) (hb : b.length ≤ 1000) (h1 : DgAt w r1 a) (h2 : DgAt w r2 b) (s1 : Canon a) (s2 : Canon b) :
    Calls Tryz.prog 52 #[.slice r1 a.length c1, .slice r2 b.length c2] w fun e w' => e = .returned (.int .i64 (cmpN (val a) (val b))) ∧ Below w.heap.size w w' := by
  have A1 := Lib.hid h1
  have A2 := Lib.hid h2
  have S1 := Lib.hid s1
  have S2 := Lib.hid s2
  clear h1 h2 s1 s2
  rcases Nat.lt_trichotomy a.length b.length with hl | hl | hl
  · have e : cmpN (val a) (val b) = -1 := by have := canon_lt S1.out S2.out hl; unfold cmpN; rw [if_pos this]
    rw [e]
    have n1 : ¬ ((a.length : Int) = (b.length : Int)) := by omega
    have n2 : (a.length : Int) < (b.length : Int) := by omega
    go_enter Tryz.func52, Tryz.ntmps52
    go_wp2
    go_ret
    exact ⟨rfl, Below.refl _ _⟩
  · have hbl : (b.length : Int) = (a.length : Int) := by omega
    have HLN := Lib.hid hl
    clear hl
    go_enter Tryz.func52, Tryz.ntmps52
    go_wp2
    go_loopw [5] (fun v5 wr => ∃ k : Nat, k ≤ a.length ∧ v5 = .int .i64 ((k : Int) - 1) ∧ a.drop k = b.drop k ∧ Below w.heap.size w wr) (fun v _ => (intOf v + 1).toNat)
    case atStart => exact ⟨a.length, Nat.le_refl _, rfl, by rw [List.drop_of_length_le (by omega), List.drop_of_length_le (by have := HLN.out; omega)], Below.refl _ _⟩
    case round =>
      obtain ⟨k, hk, rfl, hdr, hg⟩ := hrel
      have G := Lib.hid hg
      have HD := Lib.hid hdr
      clear hg hdr
      rcases Nat.eq_zero_or_pos k with h0 | h0
      · subst h0
        have e : cmpN (val a) (val b) = 0 := by
          have := HD.out
          rw [List.drop_zero, List.drop_zero] at this
          rw [this]; unfold cmpN; simp
        go_wp2
        go_ret
        exact ⟨by rw [e]; rfl, G.out⟩
      · obtain ⟨j, rfl⟩ : ∃ j, k = j + 1 := ⟨k - 1, by omega⟩
        have hj : j < a.length := by omega
        have hj2 : j < b.length := by omega
        obtain ⟨b1, o1, rfl, hc⟩ := A1.out.resolve_left (by intro h; rw [h] at hj; exact absurd hj (by simp))
        obtain ⟨b2, o2, rfl, hc2⟩ := A2.out.resolve_left (by intro h; rw [h] at hj2; exact absurd hj2 (by simp))
        have hb1 : b1 < w.heap.size := lt_of_cellS (hc j hj)
        have hb2 : b2 < w.heap.size := lt_of_cellS (hc2 j hj2)
        have f1 := (G.out.cell (p := ⟨b1, _, none⟩) hb1).trans (hc j hj)
        have f2 := (G.out.cell (p := ⟨b2, _, none⟩) hb2).trans (hc2 j hj2)
        have LT := Lib.hid (lt_at (b := b) S1.out.small hj hj2 HD.out)
        have GT := Lib.hid (lt_at (b := a) S2.out.small hj2 hj HD.out.symm)
        have EQ := Lib.hid (fun (h : a[j] = b[j]) => show a.drop j = b.drop j by rw [List.drop_eq_getElem_cons hj, List.drop_eq_getElem_cons hj2, h, HD.out])
        clear hc hc2
        generalize a[j] = x at f1 LT GT EQ
        generalize b[j] = y at f2 LT GT EQ
        have hi0 : (0 : Int) ≤ (j : Int) := by omega
        have hi1 : (j : Int) < (a.length : Int) := by omega
        have hi2 : (j : Int) < (b.length : Int) := by omega
        rcases Nat.lt_trichotomy x y with h | h | h
        · have e : cmpN (val a) (val b) = -1 := by have := LT.out h; unfold cmpN; rw [if_pos this]
          have d1 : (x : Int) < (y : Int) := by omega
          go_wp2
          go_quiet (fail)
          go_wp2
          go_ret
          exact ⟨by rw [e]; rfl, grow_drewN G.out _⟩
        · subst h
          go_wp2
          go_quiet (fail)
          go_wp2
          go_quiet (fail)
          go_wp2
          go_roundw
          case rel =>
            exact ⟨j, by omega, by go_num, EQ.out trivial, by first | exact grow_drewN G.out _ | exact grow_drewN (grow_drewN G.out _) _⟩
          case measure => simp [intOf]
        · have e : cmpN (val a) (val b) = 1 := by have := GT.out h; unfold cmpN; rw [if_neg (by omega), if_pos this]
          have d1 : ¬ (x : Int) < (y : Int) := by omega
          have d2 : (y : Int) < (x : Int) := by omega
          go_wp2
          go_quiet (fail)
          go_wp2
          go_quiet (fail)
          go_wp2
          go_ret
          exact ⟨by rw [e]; rfl, grow_drewN (grow_drewN G.out _) _⟩
  · have e : cmpN (val a) (val b) = 1 := by have := canon_lt S2.out S1.out hl; unfold cmpN; rw [if_neg (by omega), if_pos this]
    rw [e]
    have n1 : ¬ ((a.length : Int) = (b.length : Int)) := by omega
    have n2 : ¬ ((a.length : Int) < (b.length : Int)) := by omega
    go_enter Tryz.func52, Tryz.ntmps52
    go_wp2
    go_ret
    exact ⟨rfl, Below.refl _ _⟩
/-- Numbers' digits. -/
theorem dgCmp_walk (r1 r2 : Option Addr) (x y : Nat) (c1 c2 : Nat) (w : World) (hx : x < 1000000 ^ 100) (hy : y < 1000000 ^ 100) (h1 : DgAt w r1 (dig x)) (h2 : DgAt w r2 (dig y)) :
    Calls Tryz.prog 52 #[.slice r1 (dig x).length c1, .slice r2 (dig y).length c2] w fun e w' => e = .returned (.int .i64 (cmpN x y)) ∧ Below w.heap.size w w' := by
  have h := bigCmp_walk r1 r2 (dig x) (dig y) c1 c2 w (Nat.le_trans (dig_length_le _ 100 hx) (by decide)) (Nat.le_trans (dig_length_le _ 100 hy) (by decide)) h1 h2 (canon_dig x) (canon_dig y)
  rwa [val_dig, val_dig] at h
theorem dgMul_walk (r1 r2 : Option Addr) (x y : Nat) (c1 c2 : Nat) (w : World) (hx : x < 1000000 ^ 100) (hy : y < 1000000 ^ 100) (h1 : DgAt w r1 (dig x)) (h2 : DgAt w r2 (dig y)) :
    Calls Tryz.prog 49 #[.slice r1 (dig x).length c1, .slice r2 (dig y).length c2] w (DgPost (dig (x * y)) w) := by
  have h := bigMul_walk r1 r2 (dig x) (dig y) c1 c2 w (Nat.le_trans (dig_length_le _ 100 hx) (by decide)) (Nat.le_trans (dig_length_le _ 100 hy) (by decide)) h1 h2 (canon_dig x).small (canon_dig y).small
  rwa [val_dig, val_dig] at h
/-- A sign and a size. -/
theorem big_pow {x : Nat} (h : x ≤ 9223372036854775807) : x < 1000000 ^ 100 :=
  Nat.lt_of_lt_of_le (show x < 1000000 ^ 4 by omega) (Nat.pow_le_pow_right (by decide) (by decide))
end Go.Proofs.YtlnbeildplafbaaGreatDoor
