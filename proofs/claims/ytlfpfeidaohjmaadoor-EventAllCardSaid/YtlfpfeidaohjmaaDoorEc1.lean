/- The program's tracks: where a level is crossed. -/
import Derived.Test.YtlfpfeidaohjmaaDoorEb13
set_option linter.unusedSimpArgs false
set_option linter.unusedVariables false
namespace Go.Proofs.YtlfpfeidaohjmaaDoor
open Go.RowKit Go.Grow Go.Fl Go.Bg

/-- An event: its kind, its instant, its place. -/
structure Ev where
  k : Int
  at' : Int
  ix : Int
def evL (l : List Ev) : List Value := l.flatMap fun e => [.int .i64 e.k, .int .i64 e.at', .int .i64 e.ix]
theorem evL_append (a b : List Ev) : evL (a ++ b) = evL a ++ evL b := by simp [evL]
theorem evL_length (l : List Ev) : (evL l).length = l.length * 3 := by
  induction l with
  | nil => rfl
  | cons x l ih =>
    rw [show evL (x :: l) = .int .i64 x.k :: .int .i64 x.at' :: .int .i64 x.ix :: evL l from rfl]
    simp only [List.length_cons, ih]; omega
theorem news_ev (w : World) (c : List Value) (t : TypeId) : ∀ j u, c[j]? = some u → (w.alloc (.cells c.toArray t)).cell? ((⟨w.heap.size, 0, none⟩ : Addr).add j) = some u := news_sp w c t
theorem ev_cell (a b c : Int) : ∀ u ∈ [Value.int .i64 a, Value.int .i64 b, Value.int .i64 c], u.oneCell' = true := fun u h => by simp at h; rcases h with rfl | rfl | rfl <;> rfl
/-- Rounded up. -/
def upQ (p c : Nat) : Nat := if p % c = 0 then p / c else p / c + 1
/-- What happens in one segment. -/
def ev1 (F : Int) (S : Nat) (n a b : Int) (i : Nat) : List Ev :=
  if a ≤ n ∧ n < b then [⟨1, F + (i : Int) * S + ((S * (n - a).toNat / (b - a).toNat : Nat) : Int), i⟩]
  else if n < a ∧ b ≤ n then [⟨2, F + (i : Int) * S + ((upQ (S * (a - n).toNat) (a - b).toNat : Nat) : Int), if S * (a - n).toNat % (a - b).toNat = 0 ∧ S * (a - n).toNat / (a - b).toNat = S then (i : Int) + 1 else i⟩]
  else []
def evUp (F : Int) (S : Nat) (n : Int) (L : List Int) : Nat → List Ev
  | 0 => []
  | k + 1 => evUp F S n L k ++ ev1 F S n (L.getD k 0) (L.getD (k + 1) 0) k
theorem evUp_le (F : Int) (S : Nat) (n : Int) (L : List Int) : ∀ k, (evUp F S n L k).length ≤ k
  | 0 => Nat.le_refl _
  | k + 1 => by
    have h1 := evUp_le F S n L k
    unfold evUp
    rw [List.length_append]
    have h2 : (ev1 F S n (L.getD k 0) (L.getD (k + 1) 0) k).length ≤ 1 := by
      unfold ev1
      split
      · simp
      · split <;> simp
    omega
def CrRel (F : Int) (S : Nat) (n : Int) (L : List Int) (base : Nat) (W : World) (v5 v18 : Value) (wr : World) : Prop :=
  ∃ k : Nat, k ≤ L.length - 1 ∧ v18 = .int .i64 k ∧ wr.ownsRow base 115 3 v5 (evUp F S n L k).length (evL (evUp F S n L k)) ∧ Below W.heap.size W wr
def CrossPost (F : Int) (S : Nat) (n : Int) (L : List Int) (w : World) (e : Ending) (w' : World) : Prop :=
  ∃ v, e = .returned v ∧ w'.ownsRow w.heap.size 115 3 v (evUp F S n L (L.length - 1)).length (evL (evUp F S n L (L.length - 1))) ∧ Below w.heap.size w w'
end Go.Proofs.YtlfpfeidaohjmaaDoor
