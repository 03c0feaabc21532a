/- The night's house: instruments. -/
import Derived.Test.YtjjjbkehmnfgbaaDoorNh1
set_option linter.unusedSimpArgs false
set_option linter.unusedVariables false
namespace Go.Hs
structure Tl where
  name : ByteArray
  kind : Int
  wide : Int
  high : Int
  cr : Option Addr
  cc : Nat
  counts : List Int
  sr : Option Addr
  sc : Nat
  opens : List (Int × Int)
  alt : Int
def dt : Tl := ⟨.empty, 0, 0, 0, none, 0, [], none, 0, [], 0⟩
def tl (l : List Tl) (k : Nat) : Tl := l.getD k dt
theorem tl_get {l : List Tl} {k : Nat} (h : k < l.length) : tl l k = l[k] := by unfold tl; simp [h]
end Go.Hs
namespace Go.Proofs.YtjjjbkehmnfgbaaDoor
open Go.RowKit Go.Grow Go.Hs

def tlC (t : Tl) : List Value := [.string t.name, .int .i64 t.kind, .int .i64 t.wide, .int .i64 t.high, .slice t.cr t.counts.length t.cc, .slice t.sr t.opens.length t.sc, .int .i64 t.alt]
def tlV (t : Tl) : Value := .agg #[.string t.name, .int .i64 t.kind, .int .i64 t.wide, .int .i64 t.high, .slice t.cr t.counts.length t.cc, .slice t.sr t.opens.length t.sc, .int .i64 t.alt]
/-- What a tool's rows hold. -/
def TlIn (w : World) (t : Tl) : Prop := NrAt w t.cr t.counts ∧ SpAt w t.sr t.opens
theorem TlIn.below {w w' : World} {t : Tl} (h : TlIn w t) (hb : Below w.heap.size w w') : TlIn w' t := ⟨h.1.below hb, h.2.below hb⟩
def kCam : ByteArray := ⟨#[99, 97, 109, 101, 114, 97]⟩
def kDome : ByteArray := ⟨#[100, 111, 109, 101]⟩
def kPtr : ByteArray := ⟨#[112, 111, 105, 110, 116, 101, 114]⟩
def kRoof : ByteArray := ⟨#[100, 111, 109, 101, 32, 112, 111, 105, 110, 116, 101, 114]⟩
/-- Rows that are an instrument's own. -/
def NrO (w : World) (r : Option Addr) (c : Nat) (l : List Int) : Prop := w.ownsRow 0 3 1 (.slice r l.length c) l.length (nrL l)
def SpO (w : World) (r : Option Addr) (c : Nat) (l : List (Int × Int)) : Prop := w.ownsRow 0 92 2 (.slice r l.length c) l.length (spL l)
theorem NrO.at' {w : World} {r : Option Addr} {c : Nat} {l : List Int} (h : NrO w r c l) : NrAt w r l := by
  obtain ⟨r2, c2, h2, h3⟩ := nr_of_owns h
  cases h2
  exact h3
theorem SpO.at' {w : World} {r : Option Addr} {c : Nat} {l : List (Int × Int)} (h : SpO w r c l) : SpAt w r l := by
  obtain ⟨r2, c2, h2, h3⟩ := sp_of_owns h
  cases h2
  exact h3
/-- An instrument made of a tool. -/
inductive InsAt (w : World) (t : Tl) : Value → Prop
  | still (h : t.kind = 1) (r : Option Addr) (c : Nat) (hr : NrO w r c t.counts) : InsAt w t (.iface 180 (.agg #[.int .i64 t.wide, .int .i64 t.high, .slice r t.counts.length c]))
  | hours (h : t.kind = 2) (r : Option Addr) (c : Nat) (hr : SpO w r c t.opens) : InsAt w t (.iface 183 (.agg #[.slice r t.opens.length c]))
  | fixed (h : t.kind = 3) : InsAt w t (.iface 142 (.agg #[.int .i64 t.alt, .int .i64 0]))
  | roof (h : t.kind = 4) (r : Option Addr) (c : Nat) (hr : SpO w r c t.opens) : InsAt w t (.iface 185 (.agg #[.slice r t.opens.length c, .int .i64 t.alt, .int .i64 0]))
  | none (h : t.kind < 1 ∨ 4 < t.kind) : InsAt w t .nilIface
theorem InsAt.below {w w' : World} {t : Tl} {x : Value} (h : InsAt w t x) (hb : Below w.heap.size w w') : InsAt w' t x := by
  cases h with
  | still h r c hr => exact .still h r c (ownsRow_belowS hr hb)
  | hours h r c hr => exact .hours h r c (ownsRow_belowS hr hb)
  | fixed h => exact .fixed h
  | roof h r c hr => exact .roof h r c (ownsRow_belowS hr hb)
  | none h => exact .none h
theorem InsAt.grown {w w' : World} {t : Tl} {x : Value} {B e1 s1 n1 : Nat} {v1 : Value} {xs1 : List Value} (h : InsAt w t x) (h1 : w.ownsRow B e1 s1 v1 n1 xs1) (he1 : e1 ≠ 3) (he2 : e1 ≠ 92) (gr : w.grownBy w' v1.ownBlock) : InsAt w' t x := by
  cases h with
  | still h r c hr => exact .still h r c (ownsRow_grown he1 (ownsRow_base h1 (Nat.zero_le _)) hr gr)
  | hours h r c hr => exact .hours h r c (ownsRow_grown he2 (ownsRow_base h1 (Nat.zero_le _)) hr gr)
  | fixed h => exact .fixed h
  | roof h r c hr => exact .roof h r c (ownsRow_grown he2 (ownsRow_base h1 (Nat.zero_le _)) hr gr)
  | none h => exact .none h
def kindS (k : Int) : ByteArray := if k = 1 then kCam else if k = 2 then kDome else if k = 3 then kPtr else if k = 4 then kRoof else .empty
theorem fixed_walk (a b : Int) (w : World) :
    Calls Tryd.prog 30 #[.int .i64 a, .int .i64 b] w fun e w' => e = .returned (.iface 142 (.agg #[.int .i64 a, .int .i64 b])) ∧ w = w' := by
  go_enter Tryd.func30, Tryd.ntmps30
  go_wp2
  go_ret
  exact ⟨rfl, rfl⟩
set_option maxRecDepth 100000 in
set_option maxHeartbeats 8000000 in
theorem hours_walk (r : Option Addr) (l : List (Int × Int)) (cap : Nat) (w : World) (hl : l.length ≤ 1000000) (hr : SpAt w r l) :
    Calls Tryd.prog 65 #[.slice r l.length cap] w fun e w' => ∃ r' c', e = .returned (.iface 183 (.agg #[.slice r' l.length c'])) ∧ SpO w' r' c' l ∧ Below w.heap.size w w' := by
  have CL := Lib.hid (clone_sp r l cap w hl hr)
  clear hr
  go_enter Tryd.func65, Tryd.ntmps65
  go_wp2_with (go_at_call 81; (with_reducible refine (CL.out).mono ?_); rintro e w1 ⟨v1, rfl, ho, hb⟩; obtain ⟨r1, c1, rfl, hs⟩ := sp_of_owns ho; have HS := Lib.hid (ownsRow_base ho (Nat.zero_le _)); have HB := Lib.hid hb; clear ho hs hb)
  go_ret
  exact ⟨_, _, rfl, HS.out, HB.out⟩
set_option maxRecDepth 100000 in
set_option maxHeartbeats 8000000 in
theorem roof_walk (r : Option Addr) (l : List (Int × Int)) (cap : Nat) (a b : Int) (w : World) (hl : l.length ≤ 1000000) (hr : SpAt w r l) :
    Calls Tryd.prog 66 #[.slice r l.length cap, .int .i64 a, .int .i64 b] w fun e w' => ∃ r' c', e = .returned (.iface 185 (.agg #[.slice r' l.length c', .int .i64 a, .int .i64 b])) ∧ SpO w' r' c' l ∧ Below w.heap.size w w' := by
  have CL := Lib.hid (clone_sp r l cap w hl hr)
  clear hr
  go_enter Tryd.func66, Tryd.ntmps66
  go_wp2_with (go_at_call 81; (with_reducible refine (CL.out).mono ?_); rintro e w1 ⟨v1, rfl, ho, hb⟩; obtain ⟨r1, c1, rfl, hs⟩ := sp_of_owns ho; have HS := Lib.hid (ownsRow_base ho (Nat.zero_le _)); have HB := Lib.hid hb; clear ho hs hb)
  go_ret
  exact ⟨_, _, rfl, HS.out, HB.out⟩
theorem owns_setH {w : World} {base : Nat} {e : TypeId} {size : Nat} {v : Value} {n : Nat} {xs : List Value} (h : w.ownsRow base e size v n xs) {b : Nat} (hb : b < base) (i : Nat) (u : Value) : (w.setCell ⟨b, i, none⟩ u).ownsRow base e size v n xs := by
  obtain ⟨hl, ⟨hv, hn⟩ | ⟨g, cap, cur, rfl, hg, hh, hr⟩⟩ := h
  · exact ⟨hl, .inl ⟨hv, hn⟩⟩
  · refine ⟨hl, .inr ⟨g, cap, cur, rfl, hg, ?_, hr⟩⟩
    unfold World.setCell
    simp only [Array.getElem?_modify]
    rw [if_neg (show ¬ b = g by omega)]
    exact hh
set_option maxRecDepth 100000 in
set_option maxHeartbeats 8000000 in
theorem still_walk (a b : Int) (r : Option Addr) (l : List Int) (cap : Nat) (w : World) (hl : l.length ≤ 1000000) (hr : NrAt w r l) :
    Calls Tryd.prog 64 #[.agg #[.int .i64 a, .int .i64 b, .slice r l.length cap]] w fun e w' => ∃ r' c', e = .returned (.iface 180 (.agg #[.int .i64 a, .int .i64 b, .slice r' l.length c'])) ∧ NrO w' r' c' l ∧ Below w.heap.size w w' := by
  have CL := Lib.hid (fun X (hX : Below w.heap.size w X) => clone_nr r l cap X hl (hr.below hX))
  have KB := Lib.hid (Known.new w #[.int .i64 a, .int .i64 b, .slice r l.length cap] 77)
  clear hr
  go_enter Tryd.func64, Tryd.ntmps64
  go_wp2_with (go_at_call 80; (with_reducible refine (CL.out _ (grow_alloc (grow_refl w) _)).mono ?_); rintro e w1 ⟨v1, rfl, ho, hb⟩; obtain ⟨r1, c1, rfl, hs⟩ := nr_of_owns ho; have HS := Lib.hid hs; have HB := Lib.hid (grow_trans (grow_alloc (grow_refl w) _) hb); have KB1 := Lib.hid (KB.out.below hb); have HO := Lib.hid ho; clear ho hs hb; have k0 := KB1.out.cell 0; have k1 := KB1.out.cell 1; have k2 := KB1.out.cell 2; have f2 := KB1.out.frozen 2; have kl := KB1.out.lt; simp only [List.getElem?_toArray, List.getElem?_cons_zero, List.getElem?_cons_succ] at k0 k1 k2)
  go_ret
  refine ⟨_, _, rfl, ?_, grow_setCell HB.out (Nat.le_refl _) _⟩
  exact ownsRow_base (owns_setH (b := w.heap.size) HO.out (by simp) 2 (.slice r1 l.length c1)) (Nat.zero_le _)
end Go.Proofs.YtjjjbkehmnfgbaaDoor
