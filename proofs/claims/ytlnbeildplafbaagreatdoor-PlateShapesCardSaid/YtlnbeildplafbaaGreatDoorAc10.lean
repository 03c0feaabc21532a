/- Cells of directions: entries in memory; whether they are few. -/
import Derived.Test.YtlnbeildplafbaaGreatDoorAc9
set_option linter.unusedSimpArgs false
set_option linter.unusedVariables false
namespace Go.Atl
structure En where
  name : ByteArray
  at' : Dr
  light : Int
def de : En := ⟨.empty, ⟨0, 0, 0⟩, 0⟩
def en (l : List En) (k : Nat) : En := l.getD k de
theorem en_get {l : List En} {k : Nat} (h : k < l.length) : en l k = l[k] := by unfold en; simp [h]
end Go.Atl
namespace Go.Proofs.YtlnbeildplafbaaGreatDoor
open Go.RowKit Go.Grow Go.Atl

theorem lt_of_cellE {w : World} {p : Addr} {v : Value} (h : w.cell? p = some v) : p.block < w.heap.size := by
  unfold World.cell? at h
  by_cases hlt : p.block < w.heap.size
  · exact hlt
  · rw [Array.getElem?_eq_none (by omega)] at h
    simp at h
def EnAt (w : World) (b o : Nat) (e : En) : Prop := w.cell? ⟨b, o, none⟩ = some (.string e.name) ∧ w.cell? ⟨b, o + 1, none⟩ = some (.int .i64 e.at'.x) ∧ w.cell? ⟨b, o + 2, none⟩ = some (.int .i64 e.at'.y) ∧ w.cell? ⟨b, o + 3, none⟩ = some (.int .i64 e.at'.z) ∧ w.cell? ⟨b, o + 4, none⟩ = some (.int .i64 e.light)
def EnsAt (w : World) (r : Option Addr) (l : List En) : Prop := l = [] ∨ ∃ b o, r = some ⟨b, o, none⟩ ∧ ∀ k, k < l.length → EnAt w b (o + k * 5) (en l k)
theorem EnAt.below {w w' : World} {b o : Nat} {e : En} (h : EnAt w b o e) (hb : Below w.heap.size w w') : EnAt w' b o e := by
  obtain ⟨h0, h1, h2, h3, h4⟩ := h
  have hl := lt_of_cellE h0
  exact ⟨(hb.cell (p := ⟨b, _, none⟩) hl).trans h0, (hb.cell (p := ⟨b, o + 1, none⟩) hl).trans h1, (hb.cell (p := ⟨b, o + 2, none⟩) hl).trans h2, (hb.cell (p := ⟨b, o + 3, none⟩) hl).trans h3, (hb.cell (p := ⟨b, o + 4, none⟩) hl).trans h4⟩
theorem EnsAt.below {w w' : World} {r : Option Addr} {l : List En} (h : EnsAt w r l) (hb : Below w.heap.size w w') : EnsAt w' r l := by
  rcases h with h | ⟨b, o, hr, h⟩
  · exact .inl h
  · exact .inr ⟨b, o, hr, fun k hk => (h k hk).below hb⟩

def badE (e : En) : Bool := hugeB e.at'.x || hugeB e.at'.y || hugeB e.at'.z || decide (100 < e.name.size)
def fewUp (l : List En) : Nat → Bool
  | 0 => true
  | k + 1 => fewUp l k && !badE (en l k)
def fewB (l : List En) : Bool := fewUp l l.length && decide (l.length ≤ 200)
theorem few_false {l : List En} : ∀ {k n : Nat}, k < n → badE (en l k) = true → fewUp l n = false
  | k, n + 1, hk, hb => by
    by_cases e : k = n
    · subst e; simp [fewUp, hb]
    · simp [fewUp, few_false (show k < n by omega) hb]
set_option maxRecDepth 100000 in
set_option maxHeartbeats 16000000 in
theorem few_walk (r : Option Addr) (l : List En) (cap : Nat) (w : World) (hl : l.length ≤ 9223372036854775807) (hr : EnsAt w r l) (hn : ∀ k, k < l.length → (en l k).name.size ≤ maxLen) :
    Calls Tryz.prog 15 #[.slice r l.length cap] w fun e w' => e = .returned (.bool (fewB l)) ∧ Below w.heap.size w w' := by
  have HR := Lib.hid hr
  have HN := Lib.hid hn
  have HU := Lib.hid (fun n X => huge_walk n X)
  clear hr hn
  go_enter Tryz.func15, Tryz.ntmps15
  go_wp2
  go_loopw [3] (fun v3 wr => ∃ k : Nat, k ≤ l.length ∧ v3 = .int .i64 k ∧ Hid (fewUp l k = true) ∧ Below w.heap.size w wr) (fun i _ => l.length - (intOf i).toNat)
  case atStart => exact ⟨0, Nat.zero_le _, rfl, Lib.hid rfl, grow_refl _⟩
  case round =>
    obtain ⟨k, hk, rfl, HI, hg⟩ := hrel
    have G := Lib.hid hg
    clear hg
    have hz := G.out.size
    by_cases hlt : k < l.length
    · obtain ⟨b1, o1, rfl, hc⟩ := HR.out.resolve_left (by intro h; rw [h] at hlt; exact absurd hlt (by simp))
      obtain ⟨e0, e1, e2, e3, _⟩ := hc k hlt
      have hb1 : b1 < w.heap.size := lt_of_cellE e0
      have hmx := HN.out k hlt
      have hi0 : (0 : Int) ≤ (k : Int) := by omega
      have hi1 : (k : Int) < (l.length : Int) := by omega
      have HB := Lib.hid (fun (h : badE (en l k) = true) => show fewB l = false by unfold fewB; rw [few_false hlt h]; rfl)
      have HG := Lib.hid (fun (h : badE (en l k) = false) => show fewUp l (k + 1) = true by rw [fewUp, HI.out, h]; rfl)
      clear hc HN
      unfold badE at HB HG
      unfold maxLen at hmx
      generalize en l k = ee at *
      obtain ⟨nm, ⟨x, y, z⟩, lt⟩ := ee
      simp only at e0 e1 e2 e3 HB HG hmx
      have E0 := Lib.hid e0
      have E1 := Lib.hid e1
      have E2 := Lib.hid e2
      have E3 := Lib.hid e3
      clear e0 e1 e2 e3
      have c1 := (G.out.cell (p := ⟨b1, _, none⟩) hb1).trans E1.out
      have H1 := Lib.hid (fun X => HU.out x X)
      have H2 := Lib.hid (fun X => HU.out y X)
      have H3 := Lib.hid (fun X => HU.out z X)
      clear HU
      generalize hugeB x = bx at H1 HB HG
      generalize hugeB y = by' at H2 HB HG
      generalize hugeB z = bz at H3 HB HG
      have hsz : (100 < nm.size) ∨ nm.size ≤ 100 := by omega
      have s0 := trivial
      cases bx <;> cases by' <;> cases bz <;> rcases hsz with hs | hs
      · have us : decide (100 < nm.size) = true := decide_eq_true (by omega)
        have us' : decide ((100 : Int) < (nm.size : Int)) = true := decide_eq_true (by omega)
        have HZ := Lib.hid (HB.out (by rw [us]; rfl))
        clear HB HG
        clear s0; have s0 := trivial
        go_wp2_with (first
          | (clear s0; go_at_call 6; (with_reducible refine (H1.out _).mono ?_); rintro e wa ⟨rfl, hb⟩; have G1 := Lib.hid (grow_trans G.out hb); clear hb; have c2 := (G1.out.cell (p := ⟨b1, _, none⟩) hb1).trans E2.out; have s1 := trivial)
          | (clear s1; go_at_call 6; (with_reducible refine (H2.out _).mono ?_); rintro e wb ⟨rfl, hb⟩; have G2 := Lib.hid (grow_trans G1.out hb); clear hb; have c3 := (G2.out.cell (p := ⟨b1, _, none⟩) hb1).trans E3.out; have s2 := trivial)
          | (clear s2; go_at_call 6; (with_reducible refine (H3.out _).mono ?_); rintro e wc ⟨rfl, hb⟩; have G3 := Lib.hid (grow_trans G2.out hb); clear hb; have c0 := (G3.out.cell (p := ⟨b1, _, none⟩) hb1).trans E0.out))
        go_ret
        exact ⟨by rw [HZ.out]; rfl, (by (repeat (with_reducible first | exact G3.out | refine Grow.grow_drewN ?_ _ | refine Grow.grow_drew ?_)))⟩
      · have us : decide (100 < nm.size) = false := decide_eq_false (by omega)
        have us' : decide ((100 : Int) < (nm.size : Int)) = false := decide_eq_false (by omega)
        have HZ := Lib.hid (HG.out (by rw [us]; rfl))
        clear HB HG
        clear s0; have s0 := trivial
        go_wp2_with (first
          | (clear s0; go_at_call 6; (with_reducible refine (H1.out _).mono ?_); rintro e wa ⟨rfl, hb⟩; have G1 := Lib.hid (grow_trans G.out hb); clear hb; have c2 := (G1.out.cell (p := ⟨b1, _, none⟩) hb1).trans E2.out; have s1 := trivial)
          | (clear s1; go_at_call 6; (with_reducible refine (H2.out _).mono ?_); rintro e wb ⟨rfl, hb⟩; have G2 := Lib.hid (grow_trans G1.out hb); clear hb; have c3 := (G2.out.cell (p := ⟨b1, _, none⟩) hb1).trans E3.out; have s2 := trivial)
          | (clear s2; go_at_call 6; (with_reducible refine (H3.out _).mono ?_); rintro e wc ⟨rfl, hb⟩; have G3 := Lib.hid (grow_trans G2.out hb); clear hb; have c0 := (G3.out.cell (p := ⟨b1, _, none⟩) hb1).trans E0.out))
        go_roundw
        case rel => exact ⟨k + 1, by omega, by go_num, HZ, (by (repeat (with_reducible first | exact G3.out | refine Grow.grow_drewN ?_ _ | refine Grow.grow_drew ?_)))⟩
        case measure => simp [intOf]; omega
      · have us : decide (100 < nm.size) = true := decide_eq_true (by omega)
        have us' : decide ((100 : Int) < (nm.size : Int)) = true := decide_eq_true (by omega)
        have HZ := Lib.hid (HB.out (by rw [us]; rfl))
        clear HB HG
        clear s0; have s0 := trivial
        go_wp2_with (first
          | (clear s0; go_at_call 6; (with_reducible refine (H1.out _).mono ?_); rintro e wa ⟨rfl, hb⟩; have G1 := Lib.hid (grow_trans G.out hb); clear hb; have c2 := (G1.out.cell (p := ⟨b1, _, none⟩) hb1).trans E2.out; have s1 := trivial)
          | (clear s1; go_at_call 6; (with_reducible refine (H2.out _).mono ?_); rintro e wb ⟨rfl, hb⟩; have G2 := Lib.hid (grow_trans G1.out hb); clear hb; have c3 := (G2.out.cell (p := ⟨b1, _, none⟩) hb1).trans E3.out; have s2 := trivial)
          | (clear s2; go_at_call 6; (with_reducible refine (H3.out _).mono ?_); rintro e wc ⟨rfl, hb⟩; have G3 := Lib.hid (grow_trans G2.out hb); clear hb; have c0 := (G3.out.cell (p := ⟨b1, _, none⟩) hb1).trans E0.out))
        go_ret
        exact ⟨by rw [HZ.out]; rfl, (by (repeat (with_reducible first | exact G3.out | refine Grow.grow_drewN ?_ _ | refine Grow.grow_drew ?_)))⟩
      · have us : decide (100 < nm.size) = false := decide_eq_false (by omega)
        have us' : decide ((100 : Int) < (nm.size : Int)) = false := decide_eq_false (by omega)
        have HZ := Lib.hid (HB.out (by rw [us]; rfl))
        clear HB HG
        clear s0; have s0 := trivial
        go_wp2_with (first
          | (clear s0; go_at_call 6; (with_reducible refine (H1.out _).mono ?_); rintro e wa ⟨rfl, hb⟩; have G1 := Lib.hid (grow_trans G.out hb); clear hb; have c2 := (G1.out.cell (p := ⟨b1, _, none⟩) hb1).trans E2.out; have s1 := trivial)
          | (clear s1; go_at_call 6; (with_reducible refine (H2.out _).mono ?_); rintro e wb ⟨rfl, hb⟩; have G2 := Lib.hid (grow_trans G1.out hb); clear hb; have c3 := (G2.out.cell (p := ⟨b1, _, none⟩) hb1).trans E3.out; have s2 := trivial)
          | (clear s2; go_at_call 6; (with_reducible refine (H3.out _).mono ?_); rintro e wc ⟨rfl, hb⟩; have G3 := Lib.hid (grow_trans G2.out hb); clear hb; have c0 := (G3.out.cell (p := ⟨b1, _, none⟩) hb1).trans E0.out))
        go_ret
        exact ⟨by rw [HZ.out]; rfl, (by (repeat (with_reducible first | exact G3.out | refine Grow.grow_drewN ?_ _ | refine Grow.grow_drew ?_)))⟩
      · have us : decide (100 < nm.size) = true := decide_eq_true (by omega)
        have us' : decide ((100 : Int) < (nm.size : Int)) = true := decide_eq_true (by omega)
        have HZ := Lib.hid (HB.out (by rw [us]; rfl))
        clear HB HG
        clear s0; have s0 := trivial
        go_wp2_with (first
          | (clear s0; go_at_call 6; (with_reducible refine (H1.out _).mono ?_); rintro e wa ⟨rfl, hb⟩; have G1 := Lib.hid (grow_trans G.out hb); clear hb; have c2 := (G1.out.cell (p := ⟨b1, _, none⟩) hb1).trans E2.out; have s1 := trivial)
          | (clear s1; go_at_call 6; (with_reducible refine (H2.out _).mono ?_); rintro e wb ⟨rfl, hb⟩; have G2 := Lib.hid (grow_trans G1.out hb); clear hb; have c3 := (G2.out.cell (p := ⟨b1, _, none⟩) hb1).trans E3.out; have s2 := trivial)
          | (clear s2; go_at_call 6; (with_reducible refine (H3.out _).mono ?_); rintro e wc ⟨rfl, hb⟩; have G3 := Lib.hid (grow_trans G2.out hb); clear hb; have c0 := (G3.out.cell (p := ⟨b1, _, none⟩) hb1).trans E0.out))
        go_ret
        exact ⟨by rw [HZ.out]; rfl, (by (repeat (with_reducible first | exact G3.out | refine Grow.grow_drewN ?_ _ | refine Grow.grow_drew ?_)))⟩
      · have us : decide (100 < nm.size) = false := decide_eq_false (by omega)
        have us' : decide ((100 : Int) < (nm.size : Int)) = false := decide_eq_false (by omega)
        have HZ := Lib.hid (HB.out (by rw [us]; rfl))
        clear HB HG
        clear s0; have s0 := trivial
        go_wp2_with (first
          | (clear s0; go_at_call 6; (with_reducible refine (H1.out _).mono ?_); rintro e wa ⟨rfl, hb⟩; have G1 := Lib.hid (grow_trans G.out hb); clear hb; have c2 := (G1.out.cell (p := ⟨b1, _, none⟩) hb1).trans E2.out; have s1 := trivial)
          | (clear s1; go_at_call 6; (with_reducible refine (H2.out _).mono ?_); rintro e wb ⟨rfl, hb⟩; have G2 := Lib.hid (grow_trans G1.out hb); clear hb; have c3 := (G2.out.cell (p := ⟨b1, _, none⟩) hb1).trans E3.out; have s2 := trivial)
          | (clear s2; go_at_call 6; (with_reducible refine (H3.out _).mono ?_); rintro e wc ⟨rfl, hb⟩; have G3 := Lib.hid (grow_trans G2.out hb); clear hb; have c0 := (G3.out.cell (p := ⟨b1, _, none⟩) hb1).trans E0.out))
        go_ret
        exact ⟨by rw [HZ.out]; rfl, (by (repeat (with_reducible first | exact G3.out | refine Grow.grow_drewN ?_ _ | refine Grow.grow_drew ?_)))⟩
      · have us : decide (100 < nm.size) = true := decide_eq_true (by omega)
        have us' : decide ((100 : Int) < (nm.size : Int)) = true := decide_eq_true (by omega)
        have HZ := Lib.hid (HB.out (by rw [us]; rfl))
        clear HB HG
        clear s0; have s0 := trivial
        go_wp2_with (first
          | (clear s0; go_at_call 6; (with_reducible refine (H1.out _).mono ?_); rintro e wa ⟨rfl, hb⟩; have G1 := Lib.hid (grow_trans G.out hb); clear hb; have c2 := (G1.out.cell (p := ⟨b1, _, none⟩) hb1).trans E2.out; have s1 := trivial)
          | (clear s1; go_at_call 6; (with_reducible refine (H2.out _).mono ?_); rintro e wb ⟨rfl, hb⟩; have G2 := Lib.hid (grow_trans G1.out hb); clear hb; have c3 := (G2.out.cell (p := ⟨b1, _, none⟩) hb1).trans E3.out; have s2 := trivial)
          | (clear s2; go_at_call 6; (with_reducible refine (H3.out _).mono ?_); rintro e wc ⟨rfl, hb⟩; have G3 := Lib.hid (grow_trans G2.out hb); clear hb; have c0 := (G3.out.cell (p := ⟨b1, _, none⟩) hb1).trans E0.out))
        go_ret
        exact ⟨by rw [HZ.out]; rfl, (by (repeat (with_reducible first | exact G3.out | refine Grow.grow_drewN ?_ _ | refine Grow.grow_drew ?_)))⟩
      · have us : decide (100 < nm.size) = false := decide_eq_false (by omega)
        have us' : decide ((100 : Int) < (nm.size : Int)) = false := decide_eq_false (by omega)
        have HZ := Lib.hid (HB.out (by rw [us]; rfl))
        clear HB HG
        clear s0; have s0 := trivial
        go_wp2_with (first
          | (clear s0; go_at_call 6; (with_reducible refine (H1.out _).mono ?_); rintro e wa ⟨rfl, hb⟩; have G1 := Lib.hid (grow_trans G.out hb); clear hb; have c2 := (G1.out.cell (p := ⟨b1, _, none⟩) hb1).trans E2.out; have s1 := trivial)
          | (clear s1; go_at_call 6; (with_reducible refine (H2.out _).mono ?_); rintro e wb ⟨rfl, hb⟩; have G2 := Lib.hid (grow_trans G1.out hb); clear hb; have c3 := (G2.out.cell (p := ⟨b1, _, none⟩) hb1).trans E3.out; have s2 := trivial)
          | (clear s2; go_at_call 6; (with_reducible refine (H3.out _).mono ?_); rintro e wc ⟨rfl, hb⟩; have G3 := Lib.hid (grow_trans G2.out hb); clear hb; have c0 := (G3.out.cell (p := ⟨b1, _, none⟩) hb1).trans E0.out))
        go_ret
        exact ⟨by rw [HZ.out]; rfl, (by (repeat (with_reducible first | exact G3.out | refine Grow.grow_drewN ?_ _ | refine Grow.grow_drew ?_)))⟩
      · have us : decide (100 < nm.size) = true := decide_eq_true (by omega)
        have us' : decide ((100 : Int) < (nm.size : Int)) = true := decide_eq_true (by omega)
        have HZ := Lib.hid (HB.out (by rw [us]; rfl))
        clear HB HG
        clear s0; have s0 := trivial
        go_wp2_with (first
          | (clear s0; go_at_call 6; (with_reducible refine (H1.out _).mono ?_); rintro e wa ⟨rfl, hb⟩; have G1 := Lib.hid (grow_trans G.out hb); clear hb; have c2 := (G1.out.cell (p := ⟨b1, _, none⟩) hb1).trans E2.out; have s1 := trivial)
          | (clear s1; go_at_call 6; (with_reducible refine (H2.out _).mono ?_); rintro e wb ⟨rfl, hb⟩; have G2 := Lib.hid (grow_trans G1.out hb); clear hb; have c3 := (G2.out.cell (p := ⟨b1, _, none⟩) hb1).trans E3.out; have s2 := trivial)
          | (clear s2; go_at_call 6; (with_reducible refine (H3.out _).mono ?_); rintro e wc ⟨rfl, hb⟩; have G3 := Lib.hid (grow_trans G2.out hb); clear hb; have c0 := (G3.out.cell (p := ⟨b1, _, none⟩) hb1).trans E0.out))
        go_ret
        exact ⟨by rw [HZ.out]; rfl, (by (repeat (with_reducible first | exact G3.out | refine Grow.grow_drewN ?_ _ | refine Grow.grow_drew ?_)))⟩
      · have us : decide (100 < nm.size) = false := decide_eq_false (by omega)
        have us' : decide ((100 : Int) < (nm.size : Int)) = false := decide_eq_false (by omega)
        have HZ := Lib.hid (HB.out (by rw [us]; rfl))
        clear HB HG
        clear s0; have s0 := trivial
        go_wp2_with (first
          | (clear s0; go_at_call 6; (with_reducible refine (H1.out _).mono ?_); rintro e wa ⟨rfl, hb⟩; have G1 := Lib.hid (grow_trans G.out hb); clear hb; have c2 := (G1.out.cell (p := ⟨b1, _, none⟩) hb1).trans E2.out; have s1 := trivial)
          | (clear s1; go_at_call 6; (with_reducible refine (H2.out _).mono ?_); rintro e wb ⟨rfl, hb⟩; have G2 := Lib.hid (grow_trans G1.out hb); clear hb; have c3 := (G2.out.cell (p := ⟨b1, _, none⟩) hb1).trans E3.out; have s2 := trivial)
          | (clear s2; go_at_call 6; (with_reducible refine (H3.out _).mono ?_); rintro e wc ⟨rfl, hb⟩; have G3 := Lib.hid (grow_trans G2.out hb); clear hb; have c0 := (G3.out.cell (p := ⟨b1, _, none⟩) hb1).trans E0.out))
        go_ret
        exact ⟨by rw [HZ.out]; rfl, (by (repeat (with_reducible first | exact G3.out | refine Grow.grow_drewN ?_ _ | refine Grow.grow_drew ?_)))⟩
      · have us : decide (100 < nm.size) = true := decide_eq_true (by omega)
        have us' : decide ((100 : Int) < (nm.size : Int)) = true := decide_eq_true (by omega)
        have HZ := Lib.hid (HB.out (by rw [us]; rfl))
        clear HB HG
        clear s0; have s0 := trivial
        go_wp2_with (first
          | (clear s0; go_at_call 6; (with_reducible refine (H1.out _).mono ?_); rintro e wa ⟨rfl, hb⟩; have G1 := Lib.hid (grow_trans G.out hb); clear hb; have c2 := (G1.out.cell (p := ⟨b1, _, none⟩) hb1).trans E2.out; have s1 := trivial)
          | (clear s1; go_at_call 6; (with_reducible refine (H2.out _).mono ?_); rintro e wb ⟨rfl, hb⟩; have G2 := Lib.hid (grow_trans G1.out hb); clear hb; have c3 := (G2.out.cell (p := ⟨b1, _, none⟩) hb1).trans E3.out; have s2 := trivial)
          | (clear s2; go_at_call 6; (with_reducible refine (H3.out _).mono ?_); rintro e wc ⟨rfl, hb⟩; have G3 := Lib.hid (grow_trans G2.out hb); clear hb; have c0 := (G3.out.cell (p := ⟨b1, _, none⟩) hb1).trans E0.out))
        go_ret
        exact ⟨by rw [HZ.out]; rfl, (by (repeat (with_reducible first | exact G3.out | refine Grow.grow_drewN ?_ _ | refine Grow.grow_drew ?_)))⟩
      · have us : decide (100 < nm.size) = false := decide_eq_false (by omega)
        have us' : decide ((100 : Int) < (nm.size : Int)) = false := decide_eq_false (by omega)
        have HZ := Lib.hid (HB.out (by rw [us]; rfl))
        clear HB HG
        clear s0; have s0 := trivial
        go_wp2_with (first
          | (clear s0; go_at_call 6; (with_reducible refine (H1.out _).mono ?_); rintro e wa ⟨rfl, hb⟩; have G1 := Lib.hid (grow_trans G.out hb); clear hb; have c2 := (G1.out.cell (p := ⟨b1, _, none⟩) hb1).trans E2.out; have s1 := trivial)
          | (clear s1; go_at_call 6; (with_reducible refine (H2.out _).mono ?_); rintro e wb ⟨rfl, hb⟩; have G2 := Lib.hid (grow_trans G1.out hb); clear hb; have c3 := (G2.out.cell (p := ⟨b1, _, none⟩) hb1).trans E3.out; have s2 := trivial)
          | (clear s2; go_at_call 6; (with_reducible refine (H3.out _).mono ?_); rintro e wc ⟨rfl, hb⟩; have G3 := Lib.hid (grow_trans G2.out hb); clear hb; have c0 := (G3.out.cell (p := ⟨b1, _, none⟩) hb1).trans E0.out))
        go_ret
        exact ⟨by rw [HZ.out]; rfl, (by (repeat (with_reducible first | exact G3.out | refine Grow.grow_drewN ?_ _ | refine Grow.grow_drew ?_)))⟩
      · have us : decide (100 < nm.size) = true := decide_eq_true (by omega)
        have us' : decide ((100 : Int) < (nm.size : Int)) = true := decide_eq_true (by omega)
        have HZ := Lib.hid (HB.out (by rw [us]; rfl))
        clear HB HG
        clear s0; have s0 := trivial
        go_wp2_with (first
          | (clear s0; go_at_call 6; (with_reducible refine (H1.out _).mono ?_); rintro e wa ⟨rfl, hb⟩; have G1 := Lib.hid (grow_trans G.out hb); clear hb; have c2 := (G1.out.cell (p := ⟨b1, _, none⟩) hb1).trans E2.out; have s1 := trivial)
          | (clear s1; go_at_call 6; (with_reducible refine (H2.out _).mono ?_); rintro e wb ⟨rfl, hb⟩; have G2 := Lib.hid (grow_trans G1.out hb); clear hb; have c3 := (G2.out.cell (p := ⟨b1, _, none⟩) hb1).trans E3.out; have s2 := trivial)
          | (clear s2; go_at_call 6; (with_reducible refine (H3.out _).mono ?_); rintro e wc ⟨rfl, hb⟩; have G3 := Lib.hid (grow_trans G2.out hb); clear hb; have c0 := (G3.out.cell (p := ⟨b1, _, none⟩) hb1).trans E0.out))
        go_ret
        exact ⟨by rw [HZ.out]; rfl, (by (repeat (with_reducible first | exact G3.out | refine Grow.grow_drewN ?_ _ | refine Grow.grow_drew ?_)))⟩
      · have us : decide (100 < nm.size) = false := decide_eq_false (by omega)
        have us' : decide ((100 : Int) < (nm.size : Int)) = false := decide_eq_false (by omega)
        have HZ := Lib.hid (HB.out (by rw [us]; rfl))
        clear HB HG
        clear s0; have s0 := trivial
        go_wp2_with (first
          | (clear s0; go_at_call 6; (with_reducible refine (H1.out _).mono ?_); rintro e wa ⟨rfl, hb⟩; have G1 := Lib.hid (grow_trans G.out hb); clear hb; have c2 := (G1.out.cell (p := ⟨b1, _, none⟩) hb1).trans E2.out; have s1 := trivial)
          | (clear s1; go_at_call 6; (with_reducible refine (H2.out _).mono ?_); rintro e wb ⟨rfl, hb⟩; have G2 := Lib.hid (grow_trans G1.out hb); clear hb; have c3 := (G2.out.cell (p := ⟨b1, _, none⟩) hb1).trans E3.out; have s2 := trivial)
          | (clear s2; go_at_call 6; (with_reducible refine (H3.out _).mono ?_); rintro e wc ⟨rfl, hb⟩; have G3 := Lib.hid (grow_trans G2.out hb); clear hb; have c0 := (G3.out.cell (p := ⟨b1, _, none⟩) hb1).trans E0.out))
        go_ret
        exact ⟨by rw [HZ.out]; rfl, (by (repeat (with_reducible first | exact G3.out | refine Grow.grow_drewN ?_ _ | refine Grow.grow_drew ?_)))⟩
      · have us : decide (100 < nm.size) = true := decide_eq_true (by omega)
        have us' : decide ((100 : Int) < (nm.size : Int)) = true := decide_eq_true (by omega)
        have HZ := Lib.hid (HB.out (by rw [us]; rfl))
        clear HB HG
        clear s0; have s0 := trivial
        go_wp2_with (first
          | (clear s0; go_at_call 6; (with_reducible refine (H1.out _).mono ?_); rintro e wa ⟨rfl, hb⟩; have G1 := Lib.hid (grow_trans G.out hb); clear hb; have c2 := (G1.out.cell (p := ⟨b1, _, none⟩) hb1).trans E2.out; have s1 := trivial)
          | (clear s1; go_at_call 6; (with_reducible refine (H2.out _).mono ?_); rintro e wb ⟨rfl, hb⟩; have G2 := Lib.hid (grow_trans G1.out hb); clear hb; have c3 := (G2.out.cell (p := ⟨b1, _, none⟩) hb1).trans E3.out; have s2 := trivial)
          | (clear s2; go_at_call 6; (with_reducible refine (H3.out _).mono ?_); rintro e wc ⟨rfl, hb⟩; have G3 := Lib.hid (grow_trans G2.out hb); clear hb; have c0 := (G3.out.cell (p := ⟨b1, _, none⟩) hb1).trans E0.out))
        go_ret
        exact ⟨by rw [HZ.out]; rfl, (by (repeat (with_reducible first | exact G3.out | refine Grow.grow_drewN ?_ _ | refine Grow.grow_drew ?_)))⟩
      · have us : decide (100 < nm.size) = false := decide_eq_false (by omega)
        have us' : decide ((100 : Int) < (nm.size : Int)) = false := decide_eq_false (by omega)
        have HZ := Lib.hid (HB.out (by rw [us]; rfl))
        clear HB HG
        clear s0; have s0 := trivial
        go_wp2_with (first
          | (clear s0; go_at_call 6; (with_reducible refine (H1.out _).mono ?_); rintro e wa ⟨rfl, hb⟩; have G1 := Lib.hid (grow_trans G.out hb); clear hb; have c2 := (G1.out.cell (p := ⟨b1, _, none⟩) hb1).trans E2.out; have s1 := trivial)
          | (clear s1; go_at_call 6; (with_reducible refine (H2.out _).mono ?_); rintro e wb ⟨rfl, hb⟩; have G2 := Lib.hid (grow_trans G1.out hb); clear hb; have c3 := (G2.out.cell (p := ⟨b1, _, none⟩) hb1).trans E3.out; have s2 := trivial)
          | (clear s2; go_at_call 6; (with_reducible refine (H3.out _).mono ?_); rintro e wc ⟨rfl, hb⟩; have G3 := Lib.hid (grow_trans G2.out hb); clear hb; have c0 := (G3.out.cell (p := ⟨b1, _, none⟩) hb1).trans E0.out))
        go_ret
        exact ⟨by rw [HZ.out]; rfl, (by (repeat (with_reducible first | exact G3.out | refine Grow.grow_drewN ?_ _ | refine Grow.grow_drew ?_)))⟩
    · obtain rfl : k = l.length := by omega
      have HZ := Lib.hid (show fewB l = decide (l.length ≤ 200) by unfold fewB; rw [HI.out]; rfl)
      go_wp2
      go_ret
      exact ⟨by rw [HZ.out, show decide (l.length ≤ 200) = decide ((l.length : Int) ≤ 200) from decide_eq_decide.2 (by omega)]; rfl, G.out⟩
end Go.Proofs.YtlnbeildplafbaaGreatDoor
