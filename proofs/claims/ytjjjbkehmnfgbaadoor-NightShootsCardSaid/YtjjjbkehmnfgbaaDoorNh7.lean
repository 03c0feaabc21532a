/- The night's house: names and pictures, plain and in memory. -/
import Derived.Test.YtjjjbkehmnfgbaaDoorNh6
import Derived.Maps.RangeWalk
set_option linter.unusedSimpArgs false
set_option linter.unusedVariables false
namespace Go.Proofs.YtjjjbkehmnfgbaaDoor
open Go.RowKit Go.Grow Go.Hs Go.Maps

def snL (l : List ByteArray) : List Value := l.map Value.string
theorem info_sn : (Tryd.prog.info? 9).map (fun i => (i.zero, i.size, i.bytes)) = some (some (.string .empty), 1, 16) := by kernel_rfl
theorem info_pic : (Tryd.prog.info? 77).map (fun i => (i.zero, i.size, i.bytes)) = some (some (.agg #[.int .i64 0, .int .i64 0, .slice none 0 0]), 3, 40) := by kernel_rfl
theorem key_str {key : Value} {kl : Lit} (h : keyOf Tryd.prog 9 key = some kl) : ∃ x : ByteArray, key = .string x := by
  cases key <;> simp [keyOf, Tryd.underlying9, mapKey] at h
  exact ⟨_, rfl⟩
theorem key_strL {x : ByteArray} {kl : Lit} (h : keyOf Tryd.prog 9 (.string x) = some kl) : kl = nkL x ∧ x.size ≤ maxLen := by
  simp [keyOf, Tryd.underlying9, mapKey] at h
  exact ⟨h.2.symm, h.1⟩
/-- The names that have come out of the map so far. -/
def NI (D : DataW Value) (ns : List ByteArray) (left : Lit → Bool) : Prop := ns.Nodup ∧ ∀ s, s ∈ ns ↔ (Maps.has D (nkL s) = true ∧ left (nkL s) = false)
theorem NI.start (D : DataW Value) : NI D [] (Maps.has D) := ⟨.nil, fun s => by
  constructor
  · intro h; cases h
  · rintro ⟨h1, h2⟩; rw [h1] at h2; cases h2⟩
theorem NI.step {D : DataW Value} {ns : List ByteArray} {left : Lit → Bool} {x : ByteArray} (h : NI D ns left) (hl : left (nkL x) = true) (hx : Maps.has D (nkL x) = true) : NI D (ns ++ [x]) (fun z => left z && !z.sameKey (nkL x)) := by
  have hk : WideAt.IsKeyLit (nkL x) := by simp [WideAt.IsKeyLit, nkL]
  have hno : x ∉ ns := fun hm => by have := ((h.2 x).1 hm).2; rw [hl] at this; cases this
  refine ⟨?_, fun s => ?_⟩
  · rw [List.nodup_append]
    exact ⟨h.1, by simp, fun a ha b hb he => by
      obtain rfl : b = x := by simpa using hb
      exact hno (he ▸ ha)⟩
  · rw [List.mem_append, List.mem_singleton]
    by_cases he : s = x
    · subst he
      simp [hx, WideAt.sameKey_self hk]
    · have hs : (nkL s).sameKey (nkL x) = false := by
        cases hc : (nkL s).sameKey (nkL x)
        · rfl
        · exact absurd (nkL_inj (WideAt.sameKey_eq hc)) he
      rw [h.2 s]
      simp [he, hs]
theorem NI.done {D : DataW Value} {ns : List ByteArray} {left : Lit → Bool} {fs : List Tl} {V : List Value} (h : NI D ns left) (hl : ∀ kl, left kl = false) (hm : HMap D fs V) (s : ByteArray) : s ∈ ns ↔ namedT fs s = true := by
  rw [h.2 s, hl, hm.names s]
  simp
/-- The tool of a name. -/
def toolAt (fs : List Tl) (s : ByteArray) : Tl := (fs.find? fun t => decide (t.name = s)).getD dt
theorem toolAt_spec {fs : List Tl} (hp : fs.Pairwise (fun x y => x.name ≠ y.name)) {s : ByteArray} (hs : namedT fs s = true) : ∃ j, j < fs.length ∧ tl fs j = toolAt fs s ∧ (tl fs j).name = s := by
  unfold namedT at hs
  cases hf : fs.find? (fun t => decide (t.name = s)) with
  | none =>
    rw [List.find?_eq_none] at hf
    obtain ⟨t, ht, h⟩ := List.any_eq_true.1 hs
    exact absurd h (hf t ht)
  | some t =>
    obtain ⟨j, hj, he⟩ := List.mem_iff_getElem.1 (List.mem_of_find?_eq_some hf)
    refine ⟨j, hj, ?_, ?_⟩
    · rw [tl_get hj, he]; unfold toolAt; rw [hf]; rfl
    · rw [tl_get hj, he]
      have := List.find?_some hf
      simpa using this
def shutT (x : Int) (t : Tl) : Bool := (decide (t.kind = 2) && !(t.opens.any (inB1 x))) || (decide (t.kind = 3) && decide (t.alt ≤ 0)) || (decide (t.kind = 4) && (!(t.opens.any (inB1 x)) || decide (t.alt ≤ 0)))
def nm (m : List ByteArray) (k : Nat) : ByteArray := m.getD k .empty
theorem nm_get {m : List ByteArray} {k : Nat} (h : k < m.length) : nm m k = m[k] := by unfold nm; simp [h]
def camsUp (fs : List Tl) (m : List ByteArray) : Nat → List Tl
  | 0 => []
  | k + 1 => if (toolAt fs (nm m k)).kind = 1 then camsUp fs m k ++ [toolAt fs (nm m k)] else camsUp fs m k
theorem camsUp_len (fs : List Tl) (m : List ByteArray) : ∀ k, (camsUp fs m k).length ≤ k
  | 0 => Nat.le_refl _
  | k + 1 => by
    have := camsUp_len fs m k
    unfold camsUp
    split
    · rw [List.length_append, List.length_singleton]; omega
    · omega
def picC (t : Tl) (s : Option Addr × Nat) : List Value := [.int .i64 t.wide, .int .i64 t.high, .slice s.1 t.counts.length s.2]
def picL : List Tl → List (Option Addr × Nat) → List Value
  | t :: ts, s :: S => picC t s ++ picL ts S
  | _, _ => []
theorem picL_length : ∀ (ts : List Tl) (S : List (Option Addr × Nat)), S.length = ts.length → (picL ts S).length = ts.length * 3
  | [], [], _ => rfl
  | t :: ts, s :: S, h => by
    have := picL_length ts S (by simpa using h)
    rw [show picL (t :: ts) (s :: S) = picC t s ++ picL ts S from rfl, List.length_append, this]
    simp [picC]; omega
  | [], _ :: _, h => by simp at h
  | _ :: _, [], h => by simp at h
theorem picL_snoc : ∀ (ts : List Tl) (S : List (Option Addr × Nat)) (t : Tl) (s : Option Addr × Nat), S.length = ts.length → picL (ts ++ [t]) (S ++ [s]) = picL ts S ++ picC t s
  | [], [], t, s, _ => by simp [picL]
  | a :: ts, b :: S, t, s, h => by
    have := picL_snoc ts S t s (by simpa using h)
    simp only [List.cons_append, picL, this, List.append_assoc]
  | [], _ :: _, _, _, h => by simp at h
  | _ :: _, [], _, _, h => by simp at h
theorem picL_get : ∀ (ts : List Tl) (S : List (Option Addr × Nat)) (k : Nat) (h : k < ts.length) (hS : S.length = ts.length), (picL ts S)[k * 3]? = some (.int .i64 ts[k].wide) ∧ (picL ts S)[k * 3 + 1]? = some (.int .i64 ts[k].high) ∧ (picL ts S)[k * 3 + 2]? = some (.slice (S[k]'(by omega)).1 ts[k].counts.length (S[k]'(by omega)).2)
  | t :: ts, s :: S, 0, _, _ => ⟨rfl, rfl, rfl⟩
  | t :: ts, s :: S, k + 1, h, hS => by
    have := picL_get ts S k (by simpa using h) (by simpa using hS)
    rw [show picL (t :: ts) (s :: S) = .int .i64 t.wide :: .int .i64 t.high :: .slice s.1 t.counts.length s.2 :: picL ts S from rfl, show (k + 1) * 3 = k * 3 + 1 + 1 + 1 by omega]
    simpa using this
  | [], _, _, h, _ => by simp at h
  | _ :: _, [], _, _, hS => by simp at hS
theorem pic_cell (t : Tl) (s : Option Addr × Nat) : ∀ u ∈ picC t s, u.oneCell' = true := fun u h => by simp [picC] at h; rcases h with rfl | rfl | rfl <;> rfl
/-- Pictures in memory: the row, and each one's own numbers. -/
structure PicsAt (w : World) (B : Nat) (v : Value) (ts : List Tl) (S : List (Option Addr × Nat)) : Prop where
  len : S.length = ts.length
  row : w.ownsRow B 77 3 v ts.length (picL ts S)
  own : ∀ k (h : k < ts.length) (hS : k < S.length), w.ownsRow B 3 1 (.slice S[k].1 ts[k].counts.length S[k].2) ts[k].counts.length (nrL ts[k].counts)
theorem PicsAt.nil (w : World) (B : Nat) : PicsAt w B (.slice none 0 0) [] [] := ⟨rfl, World.ownsRow_nil _ _ _ _, fun k h => absurd h (by simp)⟩
theorem PicsAt.below {w w' : World} {B : Nat} {v : Value} {ts : List Tl} {S : List (Option Addr × Nat)} (h : PicsAt w B v ts S) (hb : Below w.heap.size w w') : PicsAt w' B v ts S :=
  ⟨h.len, ownsRow_belowS h.row hb, fun k hk hS => ownsRow_belowS (h.own k hk hS) hb⟩
theorem PicsAt.snoc {w w' : World} {B : Nat} {v v' : Value} {ts : List Tl} {S : List (Option Addr × Nat)} {t : Tl} {r : Option Addr} {c : Nat} (h : PicsAt w B v ts S) (ht : w.ownsRow B 3 1 (.slice r t.counts.length c) t.counts.length (nrL t.counts)) (hr : w'.ownsRow B 77 3 v' (ts.length + 1) (picL ts S ++ picC t (r, c))) (g : w.grownBy w' v.ownBlock) : PicsAt w' B v' (ts ++ [t]) (S ++ [(r, c)]) := by
  have hne : (77 : TypeId) ≠ 3 := by decide
  refine ⟨by simp [h.len], by rw [picL_snoc _ _ _ _ h.len, List.length_append]; exact hr, fun k hk hS => ?_⟩
  by_cases hlt : k < ts.length
  · have hlt2 : k < S.length := by rw [h.len]; exact hlt
    have := ownsRow_grown hne h.row (h.own k hlt hlt2) g
    simpa [List.getElem_append_left hlt, List.getElem_append_left hlt2] using this
  · obtain rfl : k = ts.length := by simp at hk; omega
    have := ownsRow_grown hne h.row ht g
    have e1 : (ts ++ [t])[ts.length] = t := by simp
    have e2 : (S ++ [(r, c)])[ts.length] = (r, c) := by simp [← h.len]
    rw [e1, e2]
    exact this
end Go.Proofs.YtjjjbkehmnfgbaaDoor
