/- Bodies, cloned. -/
import Derived.Test.YtlfpfeidaohjmaaDoorBw10
import Derived.Laws.AppendOwn
import Derived.OwnWalk
import Derived.Lib.SliceRun
import Derived.Deep.AppendLies
set_option linter.unusedSimpArgs false
set_option linter.unusedVariables false
namespace Go.Proofs.YtlfpfeidaohjmaaDoor
open Go.RowKit Go.Grow Go.Bo

def bc (d : Bd) : List Value := [.int .i64 d.p.x, .int .i64 d.p.y, .int .i64 d.p.z, .int .i64 d.v.x, .int .i64 d.v.y, .int .i64 d.v.z, .int .i64 d.m]
def cellsB : Nat → (Nat → Bd) → List Value
  | 0, _ => []
  | n + 1, B => cellsB n B ++ bc (B n)
theorem cellsB_length (n : Nat) (B : Nat → Bd) : (cellsB n B).length = n * 7 := by
  induction n with
  | zero => rfl
  | succ n ih => rw [cellsB, List.length_append, ih]; simp [bc]; omega
theorem cellsB_get (n : Nat) (B : Nat → Bd) (k t : Nat) (hk : k < n) (ht : t < 7) : (cellsB n B)[k * 7 + t]? = (bc (B k))[t]? := by
  induction n with
  | zero => omega
  | succ n ih =>
    rw [cellsB]
    by_cases h : k < n
    · rw [List.getElem?_append_left (by rw [cellsB_length]; omega)]
      exact ih h
    · obtain rfl : k = n := by omega
      rw [List.getElem?_append_right (by rw [cellsB_length]; omega), cellsB_length]
      congr 1; omega
theorem cellsB_one (n : Nat) (B : Nat → Bd) : ∀ u ∈ cellsB n B, u.oneCell' = true := fun u h => by
  induction n with
  | zero => cases h
  | succ n ih =>
    rw [cellsB] at h
    rcases List.mem_append.1 h with h | h
    · exact ih h
    · simp [bc] at h
      rcases h with rfl | rfl | rfl | rfl | rfl | rfl | rfl <;> rfl
theorem infoB : (Tryd.prog.info? 35).map (fun i => (i.zero, i.size, i.bytes)) = some (some (.agg #[.int .i64 0, .int .i64 0, .int .i64 0, .int .i64 0, .int .i64 0, .int .i64 0, .int .i64 0]), 7, 56) := by kernel_rfl
theorem info_partsB {P : Program} {e : TypeId} {z : Option Value} {s b : Nat} (h : (P.info? e).map (fun i => (i.zero, i.size, i.bytes)) = some (z, s, b)) : ∃ i, P.info? e = some i ∧ i.zero = z ∧ i.size = s ∧ i.bytes = b := by
  cases hi : P.info? e with
  | none => rw [hi] at h; cases h
  | some i => rw [hi] at h; simp at h; exact ⟨i, rfl, h.1, h.2.1, h.2.2⟩
theorem add0 (g j : Nat) : (⟨g, 0, none⟩ : Addr).add j = ⟨g, j, none⟩ := by
  cases j with
  | zero => rfl
  | succ j => simp [Addr.add]
theorem addo (b o j : Nat) : (⟨b, o, none⟩ : Addr).add j = ⟨b, o + j, none⟩ := by unfold Addr.add; split <;> simp_all
/-- An own row of bodies, as it is read and written. -/
theorem row_of {w : World} {base g n cap : Nat} {B : Nat → Bd} {e : TypeId} (h : w.ownsRow base e 7 (.slice (some ⟨g, 0, none⟩) n cap) n (cellsB n B)) : Row w g 0 n B := by
  have hlt := (h.lt g rfl).2
  have hc := fun j u hu => h.cells (g := g) rfl j u hu
  have hz : ∀ i, w.frozen? ⟨g, i, none⟩ = false := by
    obtain ⟨_, ⟨hv, _⟩ | ⟨g', c', cur, hv, _, hh, _⟩⟩ := h
    · cases hv
    · cases hv
      intro i
      simp [World.frozen?, hh]
  have key : ∀ k t u, k < n → t < 7 → (bc (B k))[t]? = some u → w.cell? ⟨g, k * 7 + t, none⟩ = some u := fun k t u hk ht hu => by
    have := hc (k * 7 + t) u (by rw [cellsB_get n B k t hk ht]; exact hu)
    rwa [add0] at this
  refine ⟨hlt, hz, fun k hk => ?_⟩
  rw [Nat.zero_add]
  exact ⟨key k 0 _ hk (by omega) rfl, key k 1 _ hk (by omega) rfl, key k 2 _ hk (by omega) rfl, key k 3 _ hk (by omega) rfl, key k 4 _ hk (by omega) rfl, key k 5 _ hk (by omega) rfl, key k 6 _ hk (by omega) rfl⟩
theorem bods_cells {w : World} {b o n : Nat} {B : Nat → Bd} (h : ∀ k, k < n → BodyAt w b (o + k * 7) (B k)) : ∀ j u, (cellsB n B)[j]? = some u → w.cell? ((⟨b, o, none⟩ : Addr).add j) = some u := fun j u hu => by
  have hj : j < n * 7 := by
    have := (List.getElem?_eq_some_iff.1 hu).1
    rwa [cellsB_length] at this
  have hk : j / 7 < n := by omega
  have hd := h (j / 7) hk
  have e : j = j / 7 * 7 + j % 7 := by omega
  have ht : j % 7 < 7 := by omega
  rw [addo]
  rw [e, cellsB_get n B _ _ hk ht] at hu
  rw [e, ← Nat.add_assoc]
  generalize j % 7 = t at ht hu ⊢
  generalize o + j / 7 * 7 = q at hd ⊢
  have : t = 0 ∨ t = 1 ∨ t = 2 ∨ t = 3 ∨ t = 4 ∨ t = 5 ∨ t = 6 := by omega
  rcases this with rfl | rfl | rfl | rfl | rfl | rfl | rfl <;> (simp [bc] at hu; subst hu)
  · exact hd.c0
  · exact hd.c1
  · exact hd.c2
  · exact hd.c3
  · exact hd.c4
  · exact hd.c5
  · exact hd.c6

def CloneB (w : World) (n : Nat) (B : Nat → Bd) (e : Ending) (w' : World) : Prop :=
  ∃ g c, e = .returned (.slice (some ⟨g, 0, none⟩) n c) ∧ w.heap.size ≤ g ∧ Row w' g 0 n B ∧ Below w.heap.size w w'
set_option maxRecDepth 100000 in
set_option maxHeartbeats 8000000 in
theorem cloneB_walk (r : Option Addr) (n cap : Nat) (B : Nat → Bd) (w : World) (hn : 0 < n) (hl : n ≤ 1000000) (hr : BodsAt w r n B) :
    Calls Tryd.prog 68 #[.slice r n cap] w (CloneB w n B) := by
  obtain ⟨b, o, rfl, hb, hc⟩ := hr.resolve_left (by omega)
  obtain ⟨i0, hi, hz0, hz1, hz2⟩ := info_partsB infoB
  have HI := Lib.hid hi
  have HZ0 := Lib.hid hz0
  have HZ1 := Lib.hid hz1
  have HZ2 := Lib.hid hz2
  have HC := Lib.hid (bods_cells hc)
  have C3 := Lib.hid (show 0 + n ≤ maxLen by unfold maxLen; omega)
  have C4 := Lib.hid (show (0 + n) * 56 ≤ 140737488355328 by omega)
  have HM := Lib.hid (World.ownsRow_made (base := w.heap.size) (e := 35) (size := 7) w #[] 0 (Nat.le_refl _) (by unfold maxLen; omega) rfl)
  have HN := Lib.hid (show ∀ j u, (cellsB n B)[j]? = some u → (w.alloc (.cells #[] 35)).cell? ((⟨b, o, none⟩ : Addr).add j) = some u from fun j u hu => by
    have h := HC.out j u hu
    rw [addo] at h ⊢
    rw [World.cell?_alloc_old w _ ⟨b, o + j, none⟩ (by simp; omega)]
    exact h)
  have q33 : ∀ (w : World) (a : Option Addr) (n c n' c' : Nat), (binOp .eql 25 (.slice a n c) (.slice none n' c')).run Tryd.prog w = .ok (.bool a.isNone) w := fun w a n c n' c' => Lib.run_eql_slice_nil w _ _ a n c n' c' Tryd.underlying25
  clear hi hz0 hz1 hz2 hr hc HC
  go_enter Tryd.func68, Tryd.ntmps68
  go_wp2_with (at_builtin; refine wpList_append_own _ rfl _ _ 25 rfl w.heap.size 35 i0 (.agg #[.int .i64 0, .int .i64 0, .int .i64 0, .int .i64 0, .int .i64 0, .int .i64 0, .int .i64 0]) 7 56 Tryd.underlying25 HI.out HZ0.out HZ1.out HZ2.out rfl (by decide) _ _ _ rfl HM.out ⟨b, o, none⟩ n cap (cellsB n B) rfl (cellsB_length n B) HN.out (cellsB_one n B) C3.out C4.out (by simp) ?_)
  intro v' w1 hown hg' _
  have HO := Lib.hid hown
  have HG := Lib.hid hg'
  clear hown hg'
  go_wp2
  go_ret
  have h : w1.ownsRow w.heap.size 35 7 v' n (cellsB n B) := by simpa using HO.out
  obtain ⟨g, c, rfl, hg, _⟩ := h.form hn
  exact ⟨g, c, rfl, hg, row_of h, Below.grown (grow_alloc (grow_refl w) _) HG.out (by simp) (fun k hk => by simp [Value.ownBlock] at hk; omega)⟩

set_option maxRecDepth 100000 in
set_option maxHeartbeats 8000000 in
theorem cloneB_none (r : Option Addr) (cap : Nat) (w : World) (hcap : r = none → cap = 0) :
    Calls Tryd.prog 68 #[.slice r 0 cap] w fun e w' => (∃ r' c, e = .returned (.slice r' 0 c) ∧ (r' = none → c = 0)) ∧ Below w.heap.size w w' := by
  obtain ⟨i0, hi, hz0, hz1, hz2⟩ := info_partsB infoB
  have HI := Lib.hid hi
  have HZ0 := Lib.hid hz0
  have HZ1 := Lib.hid hz1
  have HZ2 := Lib.hid hz2
  have HM := Lib.hid (World.ownsRow_made (base := w.heap.size) (e := 35) (size := 7) w #[] 0 (Nat.le_refl _) (by unfold maxLen; omega) rfl)
  have q33 : ∀ (w : World) (a : Option Addr) (n c n' c' : Nat), (binOp .eql 25 (.slice a n c) (.slice none n' c')).run Tryd.prog w = .ok (.bool a.isNone) w := fun w a n c n' c' => Lib.run_eql_slice_nil w _ _ a n c n' c' Tryd.underlying25
  clear hi hz0 hz1 hz2
  cases r with
  | none =>
    go_enter Tryd.func68, Tryd.ntmps68
    go_wp2
    go_ret
    exact ⟨⟨_, _, rfl, fun _ => rfl⟩, grow_refl _⟩
  | some a =>
    go_enter Tryd.func68, Tryd.ntmps68
    go_wp2_with (at_builtin; refine wpList_append_own _ rfl _ _ 25 rfl w.heap.size 35 i0 (.agg #[.int .i64 0, .int .i64 0, .int .i64 0, .int .i64 0, .int .i64 0, .int .i64 0, .int .i64 0]) 7 56 Tryd.underlying25 HI.out HZ0.out HZ1.out HZ2.out rfl (by decide) _ _ _ rfl HM.out a 0 cap [] rfl rfl (fun j u h => by cases h) (fun u h => by cases h) (by unfold maxLen; omega) (by omega) (by simp) ?_)
    intro v' w1 hown hg' _
    have HO := Lib.hid hown
    have HG := Lib.hid hg'
    clear hown hg'
    go_wp2
    go_ret
    refine ⟨?_, Below.grown (grow_alloc (grow_refl w) _) HG.out (by simp) (fun k hk => by simp [Value.ownBlock] at hk; omega)⟩
    obtain ⟨_, ⟨hv, _⟩ | ⟨g', c', cur, hv, _⟩⟩ := HO.out
    · subst hv; exact ⟨_, _, rfl, fun _ => rfl⟩
    · subst hv; exact ⟨_, _, rfl, fun h => by cases h⟩
end Go.Proofs.YtlfpfeidaohjmaaDoor
