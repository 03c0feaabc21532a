/- The night's laws: the one plan that is tried first; slots copied. -/
import Derived.Test.YtjjjbkehmnfgbaaDoorNj14
set_option linter.unusedSimpArgs false
set_option linter.unusedVariables false
namespace Go.Proofs.YtjjjbkehmnfgbaaDoor
open Go.RowKit Go.Grow Go.Night

def job1 : Jb := ⟨⟨#[97]⟩, [(0, 9)], 5, 3⟩
theorem job1_right : jobsE [job1] = 0 := by decide +kernel
theorem job1_most : mostF [job1] 2 0 t0 = 3 := by decide +kernel
theorem plan1 {X : Nat} {e : Int} {q : List (Nat × Int)} (h : IsPlan [job1] X e q) (hw : worthOf [job1] X = 3) : q.length = 1 := by
  have h1 := plan_len h
  have h2 := h.sum
  rw [hw] at h2
  cases q with
  | nil => simp at h2
  | cons x q => simp at h1 ⊢; exact h1
theorem spAt_one (w : World) (x : Int × Int) (t : TypeId) : SpAt (w.alloc (.cells #[.int .i64 x.1, .int .i64 x.2] t)) (some ⟨w.heap.size, 0, none⟩) [x] := by
  have K := Known.new w #[Value.int .i64 x.1, .int .i64 x.2] t
  refine .inr ⟨w.heap.size, 0, rfl, fun k hk => ?_⟩
  obtain rfl : k = 0 := by simpa using hk
  exact ⟨K.cell 0, K.cell 1⟩
set_option maxRecDepth 100000 in
set_option maxHeartbeats 8000000 in
theorem planned_walk (a : Nat → Addr) (w : World) (hs : Sen a [2, 5, 10] w) :
    Calls Tryd.prog 7 #[] w fun e w' => e = .returned (.bool true) ∧ Below w.heap.size w w' := by
  have HB := Lib.hid (show Calls Tryd.prog 9 #[.slice (some ⟨w.heap.size + 1, 0, none⟩) 1 1] ((w.alloc (.cells #[.int .i64 0, .int .i64 9] 92)).alloc (.cells #[.string ⟨#[97]⟩, .slice (some ⟨w.heap.size, 0, none⟩) 1 1, .int .i64 5, .int .i64 3] 95)) (fun e w' => (∃ r c, e = .returned (.tuple #[.slice r 1 c, .int .i64 3, .nilIface])) ∧ Below w.heap.size w w') from by
    have hb := grow_alloc (grow_alloc (grow_refl w) (.cells #[.int .i64 0, .int .i64 9] 92)) (.cells #[.string ⟨#[97]⟩, .slice (some ⟨w.heap.size, 0, none⟩) 1 1, .int .i64 5, .int .i64 3] 95)
    have K := Known.new (w.alloc (.cells #[.int .i64 0, .int .i64 9] 92)) #[.string ⟨#[97]⟩, .slice (some ⟨w.heap.size, 0, none⟩) 1 1, .int .i64 5, .int .i64 3] 95
    rw [World.size_alloc] at K
    have hS := (spAt_one w (0, 9) 92).below (grow_alloc (grow_refl _) (.cells #[.string ⟨#[97]⟩, .slice (some ⟨w.heap.size, 0, none⟩) 1 1, .int .i64 5, .int .i64 3] 95))
    have h := best_good a (some ⟨w.heap.size + 1, 0, none⟩) [job1] 1 _ (hs.below hb) (by simp) (by simp) (fun j hj => by
      simp at hj; subst hj; simp [job1]) (.inr ⟨w.heap.size + 1, 0, rfl, fun k hk => by
      obtain rfl : k = 0 := by simpa using hk
      exact ⟨_, 1, K.cell 0, K.cell 1, K.cell 2, K.cell 3, hS⟩⟩) job1_right
    refine h.mono fun e w' ⟨r, c, X, en, q, h1, _, h3, h4, h5⟩ => ⟨⟨r, c, ?_⟩, grow_trans hb h5⟩
    rw [h4, show [job1].length + 1 = 2 from rfl, job1_most] at h1
    rw [plan1 h3 (h4.trans job1_most)] at h1
    exact h1)
  clear hs
  go_enter Tryd.func7, Tryd.ntmps7
  go_wp2_with (go_at_call 9; (with_reducible refine HB.out.mono ?_); rintro e w5 ⟨⟨r, c, rfl⟩, hb5⟩; have B5 := Lib.hid hb5; clear hb5)
  go_ret
  exact ⟨rfl, B5.out⟩

/-! slots copied -/
def sL (p : List Sl) : List Value := p.flatMap fun x => [.string x.name, .int .i64 x.frm]
theorem sL_append (a b : List Sl) : sL (a ++ b) = sL a ++ sL b := by simp [sL]
theorem sL_length (p : List Sl) : (sL p).length = p.length * 2 := by
  induction p with
  | nil => rfl
  | cons x p ih =>
    rw [show sL (x :: p) = .string x.name :: .int .i64 x.frm :: sL p from rfl]
    simp only [List.length_cons, ih]; omega
theorem sL_get : ∀ (p : List Sl) (k : Nat) (h : k < p.length), (sL p)[k * 2]? = some (.string (sl p k).name) ∧ (sL p)[k * 2 + 1]? = some (.int .i64 (sl p k).frm)
  | [], k, h => absurd h (by simp)
  | x :: p, 0, h => ⟨rfl, rfl⟩
  | x :: p, k + 1, h => by
    have := sL_get p k (by simpa using h)
    rw [show sL (x :: p) = .string x.name :: .int .i64 x.frm :: sL p from rfl, show (k + 1) * 2 = k * 2 + 1 + 1 by omega, show sl (x :: p) (k + 1) = sl p k by unfold sl; simp]
    simpa using this
theorem slots_of_owns {w : World} {base n : Nat} {v : Value} {p : List Sl} {e : TypeId} (h : w.ownsRow base e 2 v n (sL p)) : ∃ r cap, v = .slice r p.length cap ∧ SlotsAt w r p := by
  have hlen : n = p.length := by have := h.1; rw [sL_length] at this; omega
  subst hlen
  obtain ⟨hl, ⟨hv, hn⟩ | ⟨g, cap, cur, hv, hg⟩⟩ := h
  · exact ⟨none, 0, by rw [hv, hn], .inl (List.length_eq_zero_iff.1 hn)⟩
  · subst hv
    have hc := owns_cellsS (w := w) (base := base) (e := e) (size := 2) (g := g) (n := p.length) (cap := cap) (xs := sL p) ⟨hl, .inr ⟨g, cap, cur, rfl, hg⟩⟩
    refine ⟨some ⟨g, 0, none⟩, cap, rfl, .inr ⟨g, 0, rfl, fun k hk => ?_⟩⟩
    obtain ⟨h0, h1⟩ := sL_get p k hk
    rw [Nat.zero_add]
    exact ⟨hc _ _ h0, hc _ _ h1⟩
def SlCopy (t : TypeId) (w : World) (p : List Sl) (v i : Value) (wr : World) : Prop :=
  ∃ k : Nat, k ≤ p.length ∧ i = .int .i64 k ∧ wr.ownsRow w.heap.size t 2 v k (sL (p.take k)) ∧ Below w.heap.size w wr
theorem take_snocL (p : List Sl) (k : Nat) (h : k < p.length) : p.take (k + 1) = p.take k ++ [sl p k] := by
  rw [List.take_succ_eq_append_getElem h]; unfold sl; simp [h]
theorem info_slot5 : (Tryd.prog.info? 38).map (fun i => (i.zero, i.size, i.bytes)) = some (some (.agg #[.string .empty, .int .i64 0]), 2, 24) := by kernel_rfl
end Go.Proofs.YtjjjbkehmnfgbaaDoor
