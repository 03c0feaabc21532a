/- The night's house: what the law's second half needs. -/
import Derived.Test.YtjjjbkehmnfgbaaDoorNh13
set_option linter.unusedSimpArgs false
set_option linter.unusedVariables false
namespace Go.Proofs.YtjjjbkehmnfgbaaDoor
open Go.RowKit Go.Grow Go.Hs Go.Maps

theorem nr_own {w : World} {B n c : Nat} {e : TypeId} {r : Option Addr} {l : List Int} (h : w.ownsRow B e 1 (.slice r l.length c) n (nrL l)) : NrAt w r l := by
  obtain ⟨r2, c2, h2, h3⟩ := nr_of_owns h
  cases h2
  exact h3
theorem pics_cells {w : World} {B : Nat} {v : Value} {ts : List Tl} {S : List (Option Addr × Nat)} (h : PicsAt w B v ts S) : ∃ r cap, v = .slice r ts.length cap ∧ (ts = [] ∨ ∃ b, r = some ⟨b, 0, none⟩ ∧ ∀ k, k < ts.length → ∃ rk ck, w.cell? ⟨b, k * 3, none⟩ = some (.int .i64 (tl ts k).wide) ∧ w.cell? ⟨b, k * 3 + 1, none⟩ = some (.int .i64 (tl ts k).high) ∧ w.cell? ⟨b, k * 3 + 2, none⟩ = some (.slice rk (tl ts k).counts.length ck) ∧ NrAt w rk (tl ts k).counts) := by
  have h0 := h.row
  obtain ⟨hl, ⟨hv, hn⟩ | ⟨g, cap, cur, hv, hg⟩⟩ := h.row
  · exact ⟨none, 0, by rw [hv, hn], .inl (List.length_eq_zero_iff.1 hn)⟩
  · subst hv
    have hc := owns_cellsS h0
    refine ⟨some ⟨g, 0, none⟩, cap, rfl, .inr ⟨g, rfl, fun k hk => ?_⟩⟩
    have hS : k < S.length := by rw [h.len]; exact hk
    obtain ⟨p0, p1, p2⟩ := picL_get ts S k hk h.len
    rw [tl_get hk]
    exact ⟨S[k].1, S[k].2, hc _ _ p0, hc _ _ p1, hc _ _ p2, nr_own (h.own k hk hS)⟩
/-- What the tools of a house are. -/
def Fits (w : World) (fs : List Tl) : Prop := ∀ j, j < fs.length → TlIn w (tl fs j) ∧ Small (tl fs j) ∧ 1 ≤ (tl fs j).kind ∧ (tl fs j).kind ≤ 4
theorem fits_up {w : World} {l : List Tl} (hs : ∀ j, j < l.length → Small (tl l j)) (hi : ∀ j, j < l.length → TlIn w (tl l j)) : Fits w (fitUp l l.length) := fun j hj => by
  have hm : tl (fitUp l l.length) j ∈ fitUp l l.length := by rw [tl_get hj]; exact List.getElem_mem hj
  obtain ⟨⟨i, h1, h2⟩, h3, h4⟩ := fitUp_mem l l.length (Nat.le_refl _) _ hm
  rw [h2] at h3 h4 ⊢
  exact ⟨hi i h1, hs i h1, h3, h4⟩
theorem fits_shoot {w : World} {fs : List Tl} (h : Fits w fs) : ∀ k, k < fs.length → (tl fs k).opens.length ≤ 1000000 ∧ (tl fs k).counts.length ≤ 1000000 ∧ (tl fs k).name.size ≤ maxLen ∧ 1 ≤ (tl fs k).kind ∧ (tl fs k).kind ≤ 4 := fun k hk => by
  obtain ⟨_, ⟨h1, h2, h3⟩, h4, h5⟩ := h k hk
  exact ⟨by omega, by omega, by unfold maxLen; omega, h4, h5⟩
theorem shoot_shut (a : Nat → Addr) (w0 w : World) (g m : Nat) (fs : List Tl) (V : List Value) (x : Int) (hs : Sen a [7] w) (h : HAt w g m fs V) (hl : fs.length ≤ 12) (hf : Fits w0 fs) (hS : shutUp fs x fs.length = true) :
    Calls Tryd.prog 36 #[.pointer (some ⟨g, 0, none⟩), .int .i64 x] w fun e w' => e = .returned (.tuple #[.slice none 0 0, errV a 7]) ∧ Below w.heap.size w w' := by
  refine (shootH_walk a w g m fs V x hs h hl (fits_shoot hf) sortsN).mono ?_
  rintro e w' ⟨ns, hnd, hns, hb, (⟨_, rfl⟩ | ⟨hno, _⟩)⟩
  · exact ⟨rfl, hb⟩
  · obtain ⟨k, hk, hk2⟩ := (shut_same h.apart hns x).2 hS
    rw [hno k hk] at hk2
    cases hk2
theorem shoot_open (a : Nat → Addr) (w0 w : World) (g m : Nat) (fs : List Tl) (V : List Value) (x : Int) (hs : Sen a [7] w) (h : HAt w g m fs V) (hl : fs.length ≤ 12) (hf : Fits w0 fs) (hS : shutUp fs x fs.length = false) :
    Calls Tryd.prog 36 #[.pointer (some ⟨g, 0, none⟩), .int .i64 x] w fun e w' => ∃ v S, e = .returned (.tuple #[v, .nilIface]) ∧ PicsAt w' w.heap.size v (shotsUp fs fs.length) S ∧ Below w.heap.size w w' := by
  refine (shootH_walk a w g m fs V x hs h hl (fits_shoot hf) sortsN).mono ?_
  rintro e w' ⟨ns, hnd, hns, hb, (⟨hsh, rfl⟩ | ⟨hno, v, S, rfl, hp⟩)⟩
  · have := (shut_same h.apart hns x).1 hsh
    rw [hS] at this
    cases this
  · refine ⟨v, S, rfl, ?_, hb⟩
    rw [cams_shots h.apart hnd hns] at hp
    exact hp
theorem shots_fits {w : World} {fs : List Tl} (h : Fits w fs) : ∀ k, k ≤ fs.length → ∀ j, j < (shotsUp fs k).length → TlIn w (tl (shotsUp fs k) j) ∧ Small (tl (shotsUp fs k) j) := fun k hk j hj => by
  have hm : tl (shotsUp fs k) j ∈ shotsUp fs k := by rw [tl_get hj]; exact List.getElem_mem hj
  have := (List.mem_filter.1 ((shots_perm fs k hk).mem_iff.1 hm)).1
  obtain ⟨i, hi, he⟩ := List.mem_iff_getElem.1 (List.mem_of_mem_take this)
  rw [← tl_get hi] at he
  rw [← he]
  exact ⟨(h i hi).1, (h i hi).2.1⟩
end Go.Proofs.YtjjjbkehmnfgbaaDoor
