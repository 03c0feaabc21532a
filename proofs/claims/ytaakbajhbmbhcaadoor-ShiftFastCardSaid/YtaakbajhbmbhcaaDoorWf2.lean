/- Waves by halves: plain; a copy of one; the parting of a row. -/
import Derived.Test.YtaakbajhbmbhcaaDoorWf1
import Derived.Test.YtaakbajhbmbhcaaDoorWv7
import Derived.Test.YtaakbajhbmbhcaaDoorOrd
import Derived.Maps.AppendAt
import Derived.Deep.DeepCutAuto
import Derived.Deep.CutBlock
set_option linter.unusedSimpArgs false
set_option linter.unusedVariables false
namespace Go.Proofs.YtaakbajhbmbhcaaDoor
open Go.RowKit Go.Fl Go.Grow Go.Tr

def angH (n k : Nat) : Nat := 1296000000000 * k / n
/-- Waves of a row of 2^m, by halves. -/
def fastZ (back : Bool) : Nat → (Nat → C2) → Nat → C2
  | 0, X => X
  | m + 1, X => fun k =>
    if k < 2 ^ m then cadd (fastZ back m (fun i => X (2 * i)) k) (cmul (fastZ back m (fun i => X (2 * i + 1)) k) (wav (angH (2 ^ (m + 1)) k : Nat) back))
    else csub (fastZ back m (fun i => X (2 * i)) (k - 2 ^ m)) (cmul (fastZ back m (fun i => X (2 * i + 1)) (k - 2 ^ m)) (wav (angH (2 ^ (m + 1)) (k - 2 ^ m) : Nat) back))
def HalvPost (n : Nat) (Y : Nat → C2) (w : World) (e : Ending) (w' : World) : Prop :=
  ∃ g c, e = .returned (.slice (some ⟨g, 0, none⟩) n c) ∧ w.heap.size ≤ g ∧ CRow w' g n Y ∧ Below w.heap.size w w'
theorem crow_of_owns {w : World} {base g cap n : Nat} {l : List (Nat × Nat)} {e : TypeId} {X : Nat → C2} (h : w.ownsRow base e 1 (.slice (some ⟨g, 0, none⟩) n cap) n (cvL l)) (hn : l.length = n) (hX : ∀ k (h : k < l.length), cb l[k] = X k) : base ≤ g ∧ CRow w g n X := by
  have hl := h.lt g rfl
  have hc := owns_cells h
  obtain ⟨_, ⟨hv, _⟩ | ⟨g', cap', cur, hv, hg⟩⟩ := h
  · cases hv
  · cases hv
    obtain ⟨hb, hh, _⟩ := hg
    refine ⟨hl.1, hl.2, fun i => ?_, fun k hk => ?_⟩
    · unfold World.frozen?
      rw [hh]
      simp
    · have h2 := hX k (by omega)
      exact ⟨l[k].1, l[k].2, hc k _ (by simp [cvL, hn, hk]), by rw [← h2]; rfl, by rw [← h2]; rfl⟩
set_option maxRecDepth 100000 in
set_option maxHeartbeats 4000000 in
theorem clone1_walk (r : Option Addr) (cap : Nat) (X : Nat → C2) (w : World) (hr : CIn w r 1 X) :
    Calls Tryd.prog 50 #[.slice r 1 cap] w (HalvPost 1 X w) := by
  obtain ⟨i0, hi, hz0, hz1, hz2⟩ := info_parts info_cx
  have HI := Lib.hid hi
  have HZ0 := Lib.hid hz0
  have HZ1 := Lib.hid hz1
  have HZ2 := Lib.hid hz2
  clear hi hz0 hz1 hz2
  obtain ⟨b, o, rfl, hc⟩ := hr.resolve_left (by omega)
  obtain ⟨p, q, c0, h1, h2⟩ := hc 0 (by omega)
  rw [Nat.add_zero] at c0
  have hb : b < w.heap.size := lt_of_cell c0
  have q33 : ∀ (w : World) (a : Option Addr) (n c n' c' : Nat), (binOp .eql 30 (.slice a n c) (.slice none n' c')).run Tryd.prog w = .ok (.bool a.isNone) w := fun w a n c n' c' => Lib.run_eql_slice_nil w _ _ a n c n' c' Tryd.underlying30
  have C3 := Lib.hid (show 0 + 1 ≤ maxLen by unfold maxLen; omega)
  have C4 := Lib.hid (show (0 + 1) * 16 ≤ 140737488355328 by omega)
  have HM := Lib.hid (World.ownsRow_made (base := w.heap.size) (e := 36) (size := 1) w #[] 0 (Nat.le_refl _) (by unfold maxLen; omega) rfl)
  have HN := Lib.hid (show ∀ j u, [Value.complex .f64 p q][j]? = some u → (w.alloc (.cells #[] 36)).cell? ((⟨b, o, none⟩ : Addr).add j) = some u from fun j u hu => by
    cases j with
    | zero =>
      simp at hu
      subst hu
      rw [show (⟨b, o, none⟩ : Addr).add 0 = ⟨b, o, none⟩ from rfl, World.cell?_alloc_old w _ ⟨b, o, none⟩ (by simp; omega)]
      exact c0
    | succ j => simp at hu)
  have H1 := Lib.hid h1
  have H2 := Lib.hid h2
  clear hr hc c0 h1 h2
  go_enter Tryd.func50, Tryd.ntmps50
  go_wp2_with (at_builtin; refine wpList_append_own _ rfl _ _ 30 rfl w.heap.size 36 i0 (.complex .f64 0 0) 1 16 Tryd.underlying30 HI.out HZ0.out HZ1.out HZ2.out rfl (by decide) _ _ _ rfl HM.out ⟨b, o, none⟩ 1 cap [.complex .f64 p q] rfl rfl HN.out (one_cx _ _) C3.out C4.out (by simp) ?_)
  intro v' w1 hown hg' _
  have hown2 : w1.ownsRow w.heap.size 36 1 v' [(p, q)].length (cvL [(p, q)]) := by simpa [cvL] using hown
  obtain ⟨r1, c1, hv, hx⟩ := cx_of_owns hown2
  subst hv
  have hr1 : ∃ g, r1 = some ⟨g, 0, none⟩ := by
    obtain ⟨_, ⟨hv, hn⟩ | ⟨g, c2, cur, hv, _⟩⟩ := hown2
    · simp at hn
    · exact ⟨g, by cases hv; rfl⟩
  obtain ⟨g, rfl⟩ := hr1
  obtain ⟨hbg, hcr⟩ := crow_of_owns (X := X) hown2 rfl (fun k hk => by
    have : k = 0 := by simpa using hk
    subst this
    show (⟨fl p, fl q⟩ : C2) = X 0
    rw [H1.out, H2.out])
  have HO := Lib.hid hcr
  have HG := Lib.hid hg'
  clear hown hg' hown2 hcr hx
  go_wp2
  go_ret
  exact ⟨g, c1, rfl, hbg, HO.out, Below.grown (grow_alloc (grow_refl w) _) HG.out (by simp) (fun k hk => by simp [Value.ownBlock] at hk; omega)⟩
end Go.Proofs.YtaakbajhbmbhcaaDoor
