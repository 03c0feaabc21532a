/- The night's best plan: slots in a row that is free to be written; the row turned about. -/
import Derived.Test.YtjjjbkehmnfgbaaDoorNj9
set_option linter.unusedSimpArgs false
set_option linter.unusedVariables false
namespace Go.Proofs.YtjjjbkehmnfgbaaDoor
open Go.RowKit Go.Grow Go.Night

/-- Slots in block g, which is free to be written. -/
structure SlRow (w : World) (g n : Nat) (S : Nat → Sl) : Prop where
  lt : g < w.heap.size
  frozen : ∀ i, w.frozen? ⟨g, i, none⟩ = false
  cell : ∀ k, k < n → w.cell? ⟨g, k * 2, none⟩ = some (.string (S k).name) ∧ w.cell? ⟨g, k * 2 + 1, none⟩ = some (.int .i64 (S k).frm)
theorem SlRow.drewN {w : World} {g n : Nat} {S : Nat → Sl} (h : SlRow w g n S) (q : Nat) : SlRow (w.drewN q) g n S := ⟨h.lt, h.frozen, h.cell⟩
theorem SlRow.drew {w : World} {g n : Nat} {S : Nat → Sl} (h : SlRow w g n S) : SlRow w.drew g n S := ⟨h.lt, h.frozen, h.cell⟩
theorem SlRow.at {w : World} {g n : Nat} {S T : Nat → Sl} (h : SlRow w g n S) (e : ∀ k, k < n → S k = T k) : SlRow w g n T := ⟨h.lt, h.frozen, fun k hk => e k hk ▸ h.cell k hk⟩
def updS (S : Nat → Sl) (i : Nat) (x : Sl) : Nat → Sl := fun k => if k = i then x else S k
theorem SlRow.set {w : World} {g n : Nat} {S : Nat → Sl} (h : SlRow w g n S) {i : Nat} (hi : i < n) (x : Sl) : SlRow ((w.setCell ⟨g, i * 2, none⟩ (.string x.name)).setCell ⟨g, i * 2 + 1, none⟩ (.int .i64 x.frm)) g n (updS S i x) := by
  obtain ⟨h0, h1⟩ := h.cell i hi
  refine ⟨by simpa using h.lt, fun j => by rw [frozen?_setCell, frozen?_setCell]; exact h.frozen j, fun k hk => ?_⟩
  simp only [cell?_put]
  unfold updS
  by_cases e : k = i
  · subst e
    refine ⟨?_, ?_⟩
    · have n1 : ¬ (k * 2 + 1 = k * 2) := by omega
      simp [n1, h0]
    · have n1 : ¬ (k * 2 = k * 2 + 1) := by omega
      simp [n1, h1]
  · obtain ⟨g0, g1⟩ := h.cell k hk
    refine ⟨?_, ?_⟩
    · have n1 : ¬ (i * 2 + 1 = k * 2) := by omega
      have n2 : ¬ (i * 2 = k * 2) := by omega
      rw [if_neg (fun h => n1 h.2), if_neg (fun h => n2 h.2), if_neg e]; exact g0
    · have n1 : ¬ (i * 2 + 1 = k * 2 + 1) := by omega
      have n2 : ¬ (i * 2 = k * 2 + 1) := by omega
      rw [if_neg (fun h => n1 h.2), if_neg (fun h => n2 h.2), if_neg e]; exact g1
def flip (n k : Nat) (S : Nat → Sl) : Nat → Sl := fun x => if x < k ∨ (n - k ≤ x ∧ x < n) then S (n - 1 - x) else S x
set_option maxRecDepth 100000 in
set_option maxHeartbeats 8000000 in
theorem reverse_walk (g n cap : Nat) (S : Nat → Sl) (w : World) (hn : n ≤ 1000000) (hr : SlRow w g n S) :
    Calls Tryd.prog 40 #[.slice (some ⟨g, 0, none⟩) n cap] w fun e w' => e = .returned (.tuple #[]) ∧ SlRow w' g n (fun x => S (n - 1 - x)) ∧ But g w w' := by
  have HR := Lib.hid hr
  clear hr
  go_enter Tryd.func40, Tryd.ntmps40
  go_wp2
  go_loopw [2, 3] (fun v2 v3 wr => ∃ k : Nat, 2 * k ≤ n ∧ v2 = .int .i64 k ∧ v3 = .int .i64 ((n : Int) - 1 - k) ∧ SlRow wr g n (flip n k S) ∧ But g w wr) (fun i _ _ => n - (intOf i).toNat)
  case atStart => exact ⟨0, by omega, rfl, by simp, HR.out.at (fun k hk => by unfold flip; rw [if_neg (by omega)]), But.refl _ _⟩
  case round =>
    obtain ⟨k, hk, rfl, rfl, hrow, hbut⟩ := hrel
    have R := Lib.hid hrow
    have B := Lib.hid hbut
    clear hrow hbut
    by_cases hlt : 2 * k + 1 < n
    · have u : decide ((k : Int) < (n : Int) - 1 - k) = true := decide_eq_true (by omega)
      obtain ⟨j, hj⟩ : ∃ j : Nat, j + k + 1 = n := ⟨n - 1 - k, by omega⟩
      have ej : (n : Int) - 1 - k = (j : Int) := by omega
      rw [ej] at u ⊢
      obtain ⟨c0, c1⟩ := R.out.cell k (by omega)
      obtain ⟨c2, c3⟩ := R.out.cell j (by omega)
      have fk : flip n k S k = S k := by unfold flip; rw [if_neg (by omega)]
      have fj : flip n k S j = S j := by unfold flip; rw [if_neg (by omega)]
      rw [fk] at c0 c1
      rw [fj] at c2 c3
      have f0 := R.out.frozen (k * 2)
      have f1 := R.out.frozen (k * 2 + 1)
      have f2 := R.out.frozen (j * 2)
      have f3 := R.out.frozen (j * 2 + 1)
      have hk0 : (0 : Int) ≤ (k : Int) := by omega
      have hk1 : (k : Int) < (n : Int) := by omega
      have hj0 : (0 : Int) ≤ (j : Int) := by omega
      have hj1 : (j : Int) < (n : Int) := by omega
      have hl := R.out.lt
      have RS := Lib.hid (show SlRow ((((wr.drew.setCell ⟨g, k * 2, none⟩ (.string (S j).name)).setCell ⟨g, k * 2 + 1, none⟩ (.int .i64 (S j).frm)).setCell ⟨g, j * 2, none⟩ (.string (S k).name)).setCell ⟨g, j * 2 + 1, none⟩ (.int .i64 (S k).frm)) g n (flip n (k + 1) S) from
        ((R.out.drew.set (i := k) (by omega) (S j)).set (i := j) (by omega) (S k)).at (fun x hx => by
          unfold updS flip
          by_cases e1 : x = j
          · subst e1
            rw [if_pos rfl, if_pos (by omega)]
            congr 1; omega
          · rw [if_neg e1]
            by_cases e2 : x = k
            · subst e2
              rw [if_pos rfl, if_pos (by omega)]
              congr 1; omega
            · rw [if_neg e2]
              by_cases e3 : x < k ∨ (n - k ≤ x ∧ x < n)
              · rw [if_pos e3, if_pos (by omega)]
              · rw [if_neg e3, if_neg (by omega)]))
      have BS := Lib.hid (show But g w ((((wr.drew.setCell ⟨g, k * 2, none⟩ (.string (S j).name)).setCell ⟨g, k * 2 + 1, none⟩ (.int .i64 (S j).frm)).setCell ⟨g, j * 2, none⟩ (.string (S k).name)).setCell ⟨g, j * 2 + 1, none⟩ (.int .i64 (S k).frm)) from
        (((B.out.drew.setCell _ _).setCell _ _).setCell _ _).setCell _ _)
      clear R B fk fj
      generalize S k = sk at c0 c1 RS BS
      generalize S j = sj at c2 c3 RS BS
      obtain ⟨nk, fk⟩ := sk
      obtain ⟨nj, fj⟩ := sj
      simp only at c0 c1 c2 c3 RS BS
      have hne : ¬ (k = j) := by omega
      go_wp2
      refine Grow.wp_region_reads1 [0, 1, 2, 3, 4, 5, 6, 8, 9, 10] [7, 11] [12, 13, 14, 15] (by kernel_rfl) (by kernel_rfl) (by kernel_rfl) (by kernel_rfl) (by kernel_rfl) (by kernel_rfl) ?_ ?_
      · intro c aa d v ww h
        simp (config := {zetaDelta := true}) only [Exit.then, Exit.inBlock] at h ⊢
        exact Grow.bodyPost_blind h
      simp only [Grow.pick, List.getElem?_cons_zero, List.getElem?_cons_succ, List.cons_append, List.nil_append]
      repeat (go_big_quiet_step (fail))
      refine wpQuiet_nil ?_
      repeat (go_big_quiet_step (fail))
      refine wpQuiet_nil ?_
      go_wp2
      go_roundw
      case rel => exact ⟨k + 1, by omega, by go_num, by congr 1; omega, RS.out, BS.out⟩
      case measure => simp [intOf]; omega
    · have u : decide ((k : Int) < (n : Int) - 1 - k) = false := decide_eq_false (by omega)
      go_wp2
      go_end0
      refine ⟨rfl, R.out.at (fun x hx => ?_), B.out⟩
      unfold flip
      by_cases e : x < k ∨ (n - k ≤ x ∧ x < n)
      · rw [if_pos e]
      · rw [if_neg e]; congr 1; omega
end Go.Proofs.YtjjjbkehmnfgbaaDoor
