/- Lists of tools that came in, opened. -/
import Derived.Test.YtjjjbkehmnfgbaaDoorNh10
import Derived.Test.YtjjjbkehmnfgbaaDoorChecked
import Derived.ProofKit
import Derived.OpenShut
import Derived.Deep.Slices
import Derived.Deep.Fields
import Derived.SizedLaws
set_option linter.unusedSimpArgs false
set_option linter.unusedVariables false
namespace Go.Proofs.YtjjjbkehmnfgbaaDoor
open Go.ChangeShapes Go.WideShapes Go.RowKit Go.Grow Go.Deep Go.Hs

theorem cellsSp : Tryd.prog.cellsOf 112 = 2 := by kernel_rfl
theorem cellsIn : Tryd.prog.cellsOf 3 = 1 := by kernel_rfl
theorem cellsSt : Tryd.prog.cellsOf 9 = 1 := by kernel_rfl
theorem cellsSps : Tryd.prog.cellsOf 78 = 1 := by kernel_rfl
theorem cellsIns : Tryd.prog.cellsOf 75 = 1 := by kernel_rfl
theorem cellsPic : Tryd.prog.cellsOf 77 = 3 := by kernel_rfl
theorem cellsTl : Tryd.prog.cellsOf 80 = 7 := by kernel_rfl
theorem addNs (b o k : Nat) : (⟨b, o, none⟩ : Addr).add k = ⟨b, o + k, none⟩ := by
  unfold Addr.add
  split <;> simp_all
set_option maxRecDepth 100000 in
theorem open_sp1 {H : Type} {enc : TypeId × Value → H} {W : World} {base : Nat} {spare : Nat → Bool} {held : Bool} {nn k : Nat} {a0 : Addr} {cs' : List Value} {x : DataW H × List MemPlace}
    (hc : W.cells? base (a0.add (k * 2)) 2 = some cs') (ht : DataW.trod enc Tryd.prog W base spare held nn 112 cs' = some x) :
    ∃ r : Int × Int, W.cell? (a0.add (k * 2)) = some (.int .i64 r.1) ∧ W.cell? ((a0.add (k * 2)).add 1) = some (.int .i64 r.2) := by
  obtain ⟨_, hcl, hat⟩ := World.cells?_some hc
  obtain ⟨xs, n1, _, _, _, hxl, hf⟩ := DataW.trod_struct Tryd.underlying112 ht
  match cs', hcl with
  | [c0, c1], _ =>
    match xs, hxl with
    | [y0, y1], _ =>
      have f0 := hf 0 _ rfl
      have f1 := hf 1 _ rfl
      obtain ⟨a, e0, _⟩ := DataW.trod_int Tryd.underlying3 (x := y0) f0
      obtain ⟨b, e1, _⟩ := DataW.trod_int Tryd.underlying3 (x := y1) f1
      simp [cellsIn] at e0 e1
      refine ⟨(a, b), ?_, ?_⟩
      · have := hat 0 (by decide)
        rw [show (a0.add (k * 2)).add 0 = a0.add (k * 2) from rfl] at this
        rw [this, e0]; rfl
      · rw [hat 1 (by decide), e1]; rfl
theorem open_spL {H : Type} {enc : TypeId × Value → H} {W : World} {base : Nat} {spare : Nat → Bool} {held : Bool} {fuel : Nat} {cs : List Value} {x : DataW H × List MemPlace}
    (h : DataW.trod enc Tryd.prog W base spare held fuel 78 cs = some x) : ∃ r cap l, cs = [.slice r (l : List (Int × Int)).length cap] ∧ SpAt W r l ∧ l.length ≤ maxLen := by
  rcases open_slice Tryd.underlying78 h with ⟨hcs, _⟩ | ⟨a0, len, cap, m, nn, D, Pl, hcs, _, hlc, hcm, hmm, _, hi⟩
  · exact ⟨none, 0, [], hcs, .inl rfl, by simp⟩
  · by_cases hz : len = 0
    · subst hz
      exact ⟨some a0, cap, [], hcs, .inl rfl, by simp⟩
    · have hm : len ≤ m := by rw [hmm]; split <;> omega
      have key : ∀ k, k < len → ∃ r : Int × Int, W.cell? (a0.add (k * 2)) = some (.int .i64 r.1) ∧ W.cell? ((a0.add (k * 2)).add 1) = some (.int .i64 r.2) := fun k hk => by
        obtain ⟨cs', hc, ht'⟩ := hi k (by omega)
        rw [cellsSp] at hc
        exact open_sp1 hc ht'
      obtain ⟨b0, o0, sp⟩ := a0
      have hsp : sp = none := by
        obtain ⟨r, h, _⟩ := key 0 (by omega)
        rw [Nat.zero_mul] at h
        simpa [Addr.add] using World.cell?_spot h
      subst hsp
      simp only [addNs] at key
      have hall : ∀ k, ∃ r : Int × Int, k < len → W.cell? ⟨b0, o0 + k * 2, none⟩ = some (.int .i64 r.1) ∧ W.cell? ⟨b0, o0 + k * 2 + 1, none⟩ = some (.int .i64 r.2) := fun k => by
        by_cases hk : k < len
        · obtain ⟨r, h⟩ := key k hk
          exact ⟨r, fun _ => h⟩
        · exact ⟨(0, 0), fun h => absurd h hk⟩
      refine ⟨some ⟨b0, o0, none⟩, cap, (List.range len).map fun k => Classical.choose (hall k), by simpa using hcs, .inr ⟨b0, o0, rfl, fun k hk => ?_⟩, by simp only [List.length_map, List.length_range]; omega⟩
      simp only [List.getElem_map, List.getElem_range]
      exact Classical.choose_spec (hall k) (by simpa using hk)
set_option maxRecDepth 100000 in
theorem open_nr1 {H : Type} {enc : TypeId × Value → H} {W : World} {base : Nat} {spare : Nat → Bool} {held : Bool} {nn k : Nat} {a0 : Addr} {cs' : List Value} {x : DataW H × List MemPlace}
    (hc : W.cells? base (a0.add (k * 1)) 1 = some cs') (ht : DataW.trod enc Tryd.prog W base spare held nn 3 cs' = some x) :
    ∃ r : Int, W.cell? (a0.add k) = some (.int .i64 r) := by
  obtain ⟨_, hcl, hat⟩ := World.cells?_some hc
  obtain ⟨a, e0, _⟩ := DataW.trod_int Tryd.underlying3 ht
  refine ⟨a, ?_⟩
  have := hat 0 (by decide)
  rw [show (a0.add (k * 1)).add 0 = a0.add (k * 1) from rfl, Nat.mul_one] at this
  rw [this]
  subst e0
  rfl
theorem open_nrL {H : Type} {enc : TypeId × Value → H} {W : World} {base : Nat} {spare : Nat → Bool} {held : Bool} {fuel : Nat} {cs : List Value} {x : DataW H × List MemPlace}
    (h : DataW.trod enc Tryd.prog W base spare held fuel 75 cs = some x) : ∃ r cap l, cs = [.slice r (l : List Int).length cap] ∧ NrAt W r l ∧ l.length ≤ maxLen := by
  rcases open_slice Tryd.underlying75 h with ⟨hcs, _⟩ | ⟨a0, len, cap, m, nn, D, Pl, hcs, _, hlc, hcm, hmm, _, hi⟩
  · exact ⟨none, 0, [], hcs, .inl rfl, by simp⟩
  · by_cases hz : len = 0
    · subst hz
      exact ⟨some a0, cap, [], hcs, .inl rfl, by simp⟩
    · have hm : len ≤ m := by rw [hmm]; split <;> omega
      have key : ∀ k, k < len → ∃ r : Int, W.cell? (a0.add k) = some (.int .i64 r) := fun k hk => by
        obtain ⟨cs', hc, ht'⟩ := hi k (by omega)
        rw [cellsIn] at hc
        exact open_nr1 hc ht'
      obtain ⟨b0, o0, sp⟩ := a0
      have hsp : sp = none := by
        obtain ⟨r, h⟩ := key 0 (by omega)
        simpa [Addr.add] using World.cell?_spot h
      subst hsp
      simp only [addNs] at key
      have hall : ∀ k, ∃ r : Int, k < len → W.cell? ⟨b0, o0 + k, none⟩ = some (.int .i64 r) := fun k => by
        by_cases hk : k < len
        · obtain ⟨r, h⟩ := key k hk
          exact ⟨r, fun _ => h⟩
        · exact ⟨0, fun h => absurd h hk⟩
      refine ⟨some ⟨b0, o0, none⟩, cap, (List.range len).map fun k => Classical.choose (hall k), by simpa using hcs, .inr ⟨b0, o0, rfl, fun k hk => ?_⟩, by simp only [List.length_map, List.length_range]; omega⟩
      simp only [List.getElem_map, List.getElem_range]
      exact Classical.choose_spec (hall k) (by simpa using hk)
def TlCells (W : World) (a : Addr) (t : Tl) : Prop := W.cell? a = some (.string t.name) ∧ W.cell? (a.add 1) = some (.int .i64 t.kind) ∧ W.cell? (a.add 2) = some (.int .i64 t.wide) ∧ W.cell? (a.add 3) = some (.int .i64 t.high) ∧ W.cell? (a.add 4) = some (.slice t.cr t.counts.length t.cc) ∧ W.cell? (a.add 5) = some (.slice t.sr t.opens.length t.sc) ∧ W.cell? (a.add 6) = some (.int .i64 t.alt)
def TlGood (W : World) (t : Tl) : Prop := TlIn W t ∧ t.name.size ≤ maxLen ∧ t.counts.length ≤ maxLen ∧ t.opens.length ≤ maxLen
set_option maxRecDepth 100000 in
theorem open_tl1 {H : Type} {enc : TypeId × Value → H} {W : World} {base : Nat} {spare : Nat → Bool} {held : Bool} {nn k : Nat} {a0 : Addr} {cs' : List Value} {x : DataW H × List MemPlace}
    (hc : W.cells? base (a0.add (k * 7)) 7 = some cs') (ht : DataW.trod enc Tryd.prog W base spare held nn 80 cs' = some x) :
    ∃ t : Tl, TlCells W (a0.add (k * 7)) t ∧ TlGood W t := by
  obtain ⟨_, hcl, hat⟩ := World.cells?_some hc
  obtain ⟨xs, n1, _, _, _, hxl, hf⟩ := DataW.trod_struct Tryd.underlying80 ht
  match cs', hcl with
  | [c0, c1, c2, c3, c4, c5, c6], _ =>
    match xs, hxl with
    | [y0, y1, y2, y3, y4], _ =>
      have f0 := hf 0 _ rfl
      have f1 := hf 1 _ rfl
      have f2 := hf 2 _ rfl
      have f3 := hf 3 _ rfl
      have f4 := hf 4 _ rfl
      obtain ⟨s, e0, _, hs⟩ := DataW.trod_string Tryd.underlying9 (x := y0) f0
      obtain ⟨kd, e1, _⟩ := DataW.trod_int Tryd.underlying3 (x := y1) f1
      obtain ⟨zs, n2, _, _, _, hzl, hg⟩ := DataW.trod_struct Tryd.underlying77 (x := y2) f2
      obtain ⟨sr, sc, ol, e5, hol, hom⟩ := open_spL (x := y3) f3
      obtain ⟨al, e6, _⟩ := DataW.trod_int Tryd.underlying3 (x := y4) f4
      match zs, hzl with
      | [z0, z1, z2], _ =>
        have g0 := hg 0 _ rfl
        have g1 := hg 1 _ rfl
        have g2 := hg 2 _ rfl
        obtain ⟨wi, e2, _⟩ := DataW.trod_int Tryd.underlying3 (x := z0) g0
        obtain ⟨hi, e3, _⟩ := DataW.trod_int Tryd.underlying3 (x := z1) g1
        obtain ⟨cr, cc, cl, e4, hcl', hcm⟩ := open_nrL (x := z2) g2
        simp [cellsIn, cellsSt, cellsSps, cellsIns, cellsPic] at e0 e1 e2 e3 e4 e5 e6
        refine ⟨⟨s, kd, wi, hi, cr, cc, cl, sr, sc, ol, al⟩, ⟨?_, ?_, ?_, ?_, ?_, ?_, ?_⟩, ⟨hcl', hol⟩, hs, hcm, hom⟩
        · have := hat 0 (by decide)
          rw [show (a0.add (k * 7)).add 0 = a0.add (k * 7) from rfl] at this
          rw [this, e0]; rfl
        · rw [hat 1 (by decide), e1]; rfl
        · rw [hat 2 (by decide), e2]; rfl
        · rw [hat 3 (by decide), e3]; rfl
        · rw [hat 4 (by decide), e4]; rfl
        · rw [hat 5 (by decide), e5]; rfl
        · rw [hat 6 (by decide), e6]; rfl
theorem tl_back {l : List Tl} {j : Nat} {u : Value} (h : (tlL l)[j]? = some u) : j / 7 < l.length ∧ (tlC (tl l (j / 7)))[j % 7]? = some u := by
  have hj : j < (tlL l).length := by
    obtain ⟨hj, _⟩ := List.getElem?_eq_some_iff.1 h
    exact hj
  rw [tlL_length] at hj
  have h1 : j / 7 < l.length := by omega
  refine ⟨h1, ?_⟩
  rw [← tlL_at l (j / 7) (j % 7) h1 (by omega), show j / 7 * 7 + j % 7 = j by omega]
  exact h
theorem open_tls {H : Type} {enc : TypeId × Value → H} {W : World} {fuel : Nat} {s : Option Addr} {len cap : Nat} {x : DataW H × List MemPlace}
    (hf : DataW.trod enc Tryd.prog W 0 (fun _ => true) true fuel 68 (Value.slice s len cap).cells.toList = some x) :
    ∃ l : List Tl, l.length = len ∧ TsAt W s l ∧ len ≤ 9223372036854775807 ∧ ∀ k, k < l.length → TlGood W (tl l k) := by
  rcases open_slice Tryd.underlying68 hf with ⟨hcs, _⟩ | ⟨a0, len', cap', m, nn, D, Pl, hcs, _, hlc, hcm, hmm, hx, hi⟩
  · have hcs' : (Value.slice s len cap) = .slice none 0 0 := by simpa [Value.cells] using hcs
    cases hcs'
    exact ⟨[], rfl, .inl rfl, by omega, fun k hk => absurd hk (by simp)⟩
  · have hcs' : (Value.slice s len cap) = .slice (some a0) len' cap' := by simpa [Value.cells] using hcs
    cases hcs'
    have hle : len ≤ 9223372036854775807 := by unfold maxLen at hcm; omega
    have hm : len ≤ m := by rw [hmm]; split <;> omega
    have key : ∀ k, k < len → ∃ t : Tl, TlCells W (a0.add (k * 7)) t ∧ TlGood W t := fun k hk => by
      obtain ⟨cs', hc, ht'⟩ := hi k (by omega)
      rw [cellsTl] at hc
      exact open_tl1 hc ht'
    by_cases hz : len = 0
    · subst hz
      exact ⟨[], rfl, .inl rfl, hle, fun k hk => absurd hk (by simp)⟩
    · obtain ⟨b0, o0, sp⟩ := a0
      have hsp : sp = none := by
        obtain ⟨e, ⟨h, _⟩, _⟩ := key 0 (by omega)
        rw [Nat.zero_mul] at h
        simpa [Addr.add] using World.cell?_spot h
      subst hsp
      have hall : ∀ k, ∃ t : Tl, k < len → (∀ i u, (tlC t)[i]? = some u → W.cell? ⟨b0, o0 + k * 7 + i, none⟩ = some u) ∧ TlGood W t := fun k => by
        by_cases hk : k < len
        · obtain ⟨t, ⟨h0, h1, h2, h3, h4, h5, h6⟩, hg⟩ := key k hk
          simp only [addNs] at h0 h1 h2 h3 h4 h5 h6
          refine ⟨t, fun _ => ⟨fun i u hu => ?_, hg⟩⟩
          match i, hu with
          | 0, hu => cases hu; exact h0
          | 1, hu => cases hu; exact h1
          | 2, hu => cases hu; exact h2
          | 3, hu => cases hu; exact h3
          | 4, hu => cases hu; exact h4
          | 5, hu => cases hu; exact h5
          | 6, hu => cases hu; exact h6
          | i + 7, hu => exact absurd hu (by simp [tlC])
        · exact ⟨dt, fun h => absurd h hk⟩
      have hget : ∀ k, k < len → tl ((List.range len).map fun k => Classical.choose (hall k)) k = Classical.choose (hall k) := fun k hk => by
        rw [tl_get (by simpa using hk)]
        simp only [List.getElem_map, List.getElem_range]
      refine ⟨(List.range len).map fun k => Classical.choose (hall k), by simp, .inr ⟨b0, o0, rfl, fun j u hu => ?_⟩, hle, fun k hk => ?_⟩
      · obtain ⟨h1, h2⟩ := tl_back hu
        have hk' : j / 7 < len := by simpa using h1
        rw [hget _ hk'] at h2
        have := (Classical.choose_spec (hall (j / 7)) hk').1 _ _ h2
        rw [show o0 + j / 7 * 7 + j % 7 = o0 + j by omega] at this
        exact this
      · have hk' : k < len := by simpa using hk
        rw [hget k hk']
        exact (Classical.choose_spec (hall k) hk').2
end Go.Proofs.YtjjjbkehmnfgbaaDoor
