/- What any bytes give back: the document's way. -/
import Derived.Test.YtjjjbkehmnfgbaaNl9
import Derived.Laws.AppendOwnNone
import Derived.Laws.BytesString
import Derived.Laws.BytesArg
import Derived.Deep.RegionWith
import Derived.Deep.Cut
set_option linter.unusedSimpArgs false
set_option linter.unusedVariables false
namespace Go.Proofs.Ytjjjbkehmnfgbaa
open Go.RowKit Go.Grow

/-- append(nil, xs...), xs a row of the call's own, nil or not. -/
theorem wpList_append_src {P : Program} {w : World} {ops : Array Oper} {rest : List Oper} {o : Oper} {a : Act} {Q : Exit → Act → World → Prop} (hgd : o.guard = none) (s x : Operand) (t : TypeId)
    (ho : o.op = .call { callee := .builtin .append, args := #[s, x], argTypes := #[t, t] })
    (e : TypeId) (i : TypeInfo) (z : Value) (size bytes : Nat) (ht : P.underlying t = some (.slice e)) (hi : P.info? e = some i) (hz : i.zero = some z)
    (hsize : i.size = size) (hby : i.bytes = bytes) (hzs : z.cells.size = size) (hsz : 0 < size)
    (hs : a.eval s = .slice none 0 0) (u : Value) (b0 m : Nat) (xs : List Value) (hx : a.eval x = u) (hown : w.ownsRow b0 e size u m xs) (h1 : ∀ u ∈ xs, u.oneCell' = true)
    (h63 : m ≤ maxLen) (hbytes : m * bytes ≤ 140737488355328)
    (h : ∀ v' w', w'.ownsRow w.heap.size e size v' m xs → Below w.heap.size w w' → (m = 0 → u = .slice none 0 0 → v' = .slice none 0 0) → wpList P ops Q rest (a.put o.dst v') w') : wpList P ops Q (o :: rest) a w := by
  obtain ⟨hl, hu | ⟨g, cap, cur, hu, hb, hh, hr⟩⟩ := hown
  · obtain ⟨hu, hm⟩ := hu
    subst hu
    subst hm
    have : xs = [] := List.length_eq_zero_iff.1 (by simpa using hl)
    subst this
    exact wpList_append_own_none hgd s x t ho w.heap.size e i size ht hi _ 0 [] hs (World.ownsRow_nil _ _ _ _) hx (h _ _ (World.ownsRow_nil _ _ _ _) (Below.refl _ _) (fun _ _ => rfl))
  · subst hu
    have ho' : w.ownsRow b0 e size (.slice (some ⟨g, 0, none⟩) m cap) m xs := ⟨hl, .inr ⟨g, cap, cur, rfl, hb, hh, hr⟩⟩
    refine wpList_append_own w hgd s x t ho w.heap.size e i z size bytes ht hi hz hsize hby hzs hsz _ 0 [] hs (World.ownsRow_nil _ _ _ _) ⟨g, 0, none⟩ m cap xs hx hl (ho'.cells (g := g) rfl) h1 (by omega) (by simpa using hbytes) (Nat.le_refl _) ?_
    intro v' w' h2 h3 _
    rw [Nat.zero_add, List.nil_append] at h2
    exact h v' w' h2 ((Below.refl _ w).grown h3 (Nat.le_refl _) (fun k hk => by cases hk)) (fun _ h => by cases h)

/-- A string of bytes. -/
def strOf (l : List Nat) : ByteArray := ⟨(l.map UInt8.ofNat).toArray⟩
theorem strOf_inj {l m : List Nat} (hl : small l) (hm : small m) (h : strOf l = strOf m) : l = m := by
  have h1 : l.map UInt8.ofNat = m.map UInt8.ofNat := by
    have := congrArg (fun b => b.data.toList) h
    simpa [strOf] using this
  have key : ∀ k : List Nat, small k → (k.map UInt8.ofNat).map UInt8.toNat = k := fun k hk => by
    rw [List.map_map]
    have : ∀ x ∈ k, (UInt8.toNat ∘ UInt8.ofNat) x = x := fun x hx => by
      have := hk x hx
      simp [Function.comp]
      omega
    rw [List.map_congr_left this]
    simp
  rw [← key l hl, ← key m hm, h1]
theorem strOf_list (l : List Nat) : (strOf l).toList = l.map UInt8.ofNat := ByteArray.toList_mk _
theorem strOf_ne {l m : List Nat} (hl : small l) (hm : small m) (h : l ≠ m) : ((strOf l).toList == (strOf m).toList) = false := by
  rw [beq_eq_false_iff_ne]
  intro e
  rw [strOf_list, strOf_list] at e
  exact h (strOf_inj hl hm (by unfold strOf; rw [e]))
theorem foldl_strOf (l : List Nat) (s : ByteArray) : (l.map (fun n : Nat => (n : Int))).foldl (fun r n => r.push (UInt8.ofNat n.toNat)) s = ⟨s.data ++ (l.map UInt8.ofNat).toArray⟩ := by
  induction l generalizing s with
  | nil => simp
  | cons c l ih =>
    simp only [List.map_cons, List.foldl_cons]
    rw [ih]
    congr 1
    simp [ByteArray.push]
theorem conv_row {w : World} {r : Option Addr} {l : List Nat} (hr : RowAt w r l) (hn : l = [] → r = none ∨ ∃ a, r = some a) (c : Nat) : (convert 23 9 (.slice r l.length c)).run Try.prog w = .ok (.string (strOf l)) w := by
  have hs := Try.underlying23
  have he := Try.underlying5
  have hd := Try.underlying9
  rw [run_convert_bytes_string w _ _ _ _ _ _ hs he hd]
  cases r with
  | none =>
    have : l = [] := hr.resolve_right (by rintro ⟨b, o, h, _⟩; cases h)
    subst this
    rfl
  | some a =>
    have hc : (loadCells a l.length).run Try.prog w = .ok ((l.map (fun n : Nat => (n : Int))).map (Value.int .u8)).toArray w := by
      have hlen : l.length = (bv l).length := (bv_length l).symm
      have e : (l.map (fun n : Nat => (n : Int))).map (Value.int .u8) = bv l := by rw [List.map_map]; rfl
      rw [hlen, e]
      refine run_loadCells_list w a (bv l) ?_
      rcases hr with h | ⟨b, o, h, hc⟩
      · subst h; intro j v hv; simp [bv] at hv
      · cases h; exact news_row hc
    rw [run_bytesToString w a _ _ _ hc, foldl_strOf, show ByteArray.empty.data = #[] from rfl, Array.empty_append]
    rfl
end Go.Proofs.Ytjjjbkehmnfgbaa
