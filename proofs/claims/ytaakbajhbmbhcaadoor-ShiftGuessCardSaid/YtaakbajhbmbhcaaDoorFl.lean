/- Numbers with a point, all NaNs being one; what an operation makes of them, as rules for the walk. Nothing of a program stands here. -/
import Derived.Test.YtaakbajhbmbhcaaDoorRel
import Derived.Laws.FloatArith
namespace Go.Fl
open Go Go.RowKit Go.Grow Go.Rel

/-- A number's bits; none: no number. -/
def fl (b : Nat) : Option Nat := if (Ieee.double.read b).isNaN then none else some b

theorem fl_some {b c : Nat} (h : fl b = some c) : b = c := by
  unfold fl at h
  split at h
  · cases h
  · cases h; rfl
theorem fl_eq_some {b : Nat} (h : (Ieee.double.read b).isNaN = false) : fl b = some b := by unfold fl; rw [h]; rfl
theorem fl_none {b : Nat} : fl b = none ↔ (Ieee.double.read b).isNaN = true := by
  unfold fl
  split <;> simp_all

theorem isNaN_of_rung {f : Ieee.Format} {neg : Bool} {r : Nat} (h : r ≤ f.infRung) : (f.read (f.word neg r)).isNaN = false := by
  have h1 : r < f.signWeight := Nat.lt_of_le_of_lt h f.infRung_lt
  have h0 : 0 < f.signWeight := Nat.lt_of_le_of_lt (Nat.zero_le _) h1
  have h2 : f.word neg r % f.signWeight = r := by
    unfold Ieee.Format.word
    split
    · rw [Nat.add_mod_left, Nat.mod_eq_of_lt h1]
    · exact Nat.mod_eq_of_lt h1
  unfold Ieee.Format.read
  dsimp only
  rw [h2]
  split
  · rfl
  · split
    · rfl
    · split
      · rfl
      · omega

theorem isNaN_nearest (f : Ieee.Format) (neg : Bool) (mag : Nat) (place : Int) : (f.read (f.nearest neg mag place)).isNaN = false := by
  unfold Ieee.Format.nearest
  dsimp only
  split
  · exact isNaN_of_rung (Nat.zero_le _)
  · exact isNaN_of_rung (Nat.min_le_right _ _)

theorem isNaN_write (f : Ieee.Format) {d : Ieee.Datum} (h : d.isNaN = false) : (f.read (f.write d)).isNaN = false := by
  cases d with
  | number s m e => exact isNaN_nearest f s m e
  | infinity s => exact isNaN_of_rung (Nat.le_refl _)
  | nan s t => cases h

theorem sum_nan {a b c : Ieee.Datum} (h : a.sum b = some c) : a.isNaN = false ∧ b.isNaN = false ∧ c.isNaN = false := by
  cases a <;> cases b <;> simp only [Ieee.Datum.sum] at h
  all_goals first | (split at h) | skip
  all_goals first | (cases h; done) | (cases h; exact ⟨rfl, rfl, rfl⟩)
theorem product_nan {a b c : Ieee.Datum} (h : a.product b = some c) : a.isNaN = false ∧ b.isNaN = false ∧ c.isNaN = false := by
  cases a <;> cases b <;> simp only [Ieee.Datum.product] at h
  all_goals first | (split at h) | skip
  all_goals first | (cases h; done) | (cases h; exact ⟨rfl, rfl, rfl⟩)
theorem quotient_nan {n : Nat} {a b c : Ieee.Datum} (h : a.quotient n b = some c) : a.isNaN = false ∧ b.isNaN = false ∧ c.isNaN = false := by
  cases a <;> cases b <;> simp only [Ieee.Datum.quotient] at h
  all_goals first | (split at h) | skip
  all_goals first | (split at h) | skip
  all_goals first | (cases h; done) | (cases h; exact ⟨rfl, rfl, rfl⟩)
theorem root_nan {n : Nat} {a c : Ieee.Datum} (h : a.root n = some c) : a.isNaN = false ∧ c.isNaN = false := by
  cases a <;> simp only [Ieee.Datum.root] at h
  all_goals first | (split at h) | skip
  all_goals first | (split at h) | skip
  all_goals first | (cases h; done) | (cases h; exact ⟨rfl, rfl⟩)
theorem opposite_nan (a : Ieee.Datum) : a.opposite.isNaN = a.isNaN := by cases a <;> rfl

/-- An operation on numbers of which none may be. -/
def op2 (f : Nat → Nat → Option Nat) (x y : Option Nat) : Option Nat := x.bind fun a => y.bind fun b => f a b
def fadd (x y : Option Nat) : Option Nat := op2 Ieee.double.add x y
def fsub (x y : Option Nat) : Option Nat := op2 Ieee.double.sub x y
def fmul (x y : Option Nat) : Option Nat := op2 Ieee.double.mul x y
def fdiv (x y : Option Nat) : Option Nat := op2 Ieee.double.div x y
def fsqrt (x : Option Nat) : Option Nat := x.bind fun a => Ieee.double.sqrt a
def fop : BinOp → Option Nat → Option Nat → Option Nat
  | .add => fadd | .sub => fsub | .mul => fmul | .quo => fdiv | _ => fun _ _ => none

theorem isNaN_iff (b : Nat) : (Ieee.double.read b).isNaN = decide (Ieee.double.infRung < b % 2 ^ 63) := by
  have hs : Ieee.double.signWeight = 2 ^ 63 := by decide +kernel
  unfold Ieee.Format.read
  dsimp only
  rw [hs]
  have hb : Ieee.double.binade ≤ Ieee.double.infRung := by decide +kernel
  split
  · simp [Ieee.Datum.isNaN]; omega
  · split
    · simp [Ieee.Datum.isNaN]; omega
    · split
      · simp [Ieee.Datum.isNaN]; omega
      · simp [Ieee.Datum.isNaN]; omega
def fneg (x : Option Nat) : Option Nat := x.map (Op.negFloat .f64)
theorem fl_neg (b : Nat) : fl (Op.negFloat .f64 b) = fneg (fl b) := by
  have h : (Ieee.double.read (Op.negFloat .f64 b)).isNaN = (Ieee.double.read b).isNaN := by
    rw [isNaN_iff, isNaN_iff]
    have : Op.negFloat .f64 b % 2 ^ 63 = b % 2 ^ 63 := by
      show (b ^^^ 2 ^ 63) % 2 ^ 63 = _
      rw [Nat.xor_mod_two_pow]; simp
    rw [this]
  unfold fl fneg
  rw [h]
  split <;> rfl

/-- How two numbers stand to each other. -/
def ford (x y : Option Nat) : Option Ordering := x.bind fun a => y.bind fun b => Ieee.double.order a b
def feq (x y : Option Nat) : Bool := ford x y == some .eq
def flt (x y : Option Nat) : Bool := ford x y == some .lt
def fle (x y : Option Nat) : Bool := ford x y == some .lt || ford x y == some .eq
theorem order_fl (x y : Nat) : Ieee.double.order x y = ford (fl x) (fl y) := by
  have hn : ∀ a b : Ieee.Datum, a.isNaN = true ∨ b.isNaN = true → a.order b = none := fun a b h => by
    cases a <;> cases b <;> first | rfl | (rcases h with h | h <;> cases h)
  unfold ford fl
  split
  · rename_i h; exact hn _ _ (.inl h)
  · split
    · rename_i h; exact hn _ _ (.inr h)
    · rfl

/-- What an operation on bits does, told of numbers. -/
theorem op2_of {f : Nat → Nat → Option Nat} (hn : ∀ x y r, f x y = some r → (Ieee.double.read x).isNaN = false ∧ (Ieee.double.read y).isNaN = false ∧ (Ieee.double.read r).isNaN = false) (x y : Nat) :
    (∀ r, f x y = some r → fl r = op2 f (fl x) (fl y)) ∧ (f x y = none → op2 f (fl x) (fl y) = none) := by
  refine ⟨fun r h => ?_, fun h => ?_⟩
  · obtain ⟨h1, h2, h3⟩ := hn x y r h
    rw [fl_eq_some h1, fl_eq_some h2, fl_eq_some h3]
    exact h.symm
  · unfold fl
    split
    · rfl
    · split
      · rfl
      · exact h

theorem add_nan (x y r : Nat) (h : Ieee.double.add x y = some r) : (Ieee.double.read x).isNaN = false ∧ (Ieee.double.read y).isNaN = false ∧ (Ieee.double.read r).isNaN = false := by
  obtain ⟨d, hd, rfl⟩ := Option.map_eq_some_iff.1 h
  obtain ⟨h1, h2, h3⟩ := sum_nan hd
  exact ⟨h1, h2, isNaN_write _ h3⟩
theorem sub_nan (x y r : Nat) (h : Ieee.double.sub x y = some r) : (Ieee.double.read x).isNaN = false ∧ (Ieee.double.read y).isNaN = false ∧ (Ieee.double.read r).isNaN = false := by
  obtain ⟨d, hd, rfl⟩ := Option.map_eq_some_iff.1 h
  obtain ⟨h1, h2, h3⟩ := sum_nan hd
  rw [opposite_nan] at h2
  exact ⟨h1, h2, isNaN_write _ h3⟩
theorem mul_nan (x y r : Nat) (h : Ieee.double.mul x y = some r) : (Ieee.double.read x).isNaN = false ∧ (Ieee.double.read y).isNaN = false ∧ (Ieee.double.read r).isNaN = false := by
  obtain ⟨d, hd, rfl⟩ := Option.map_eq_some_iff.1 h
  obtain ⟨h1, h2, h3⟩ := product_nan hd
  exact ⟨h1, h2, isNaN_write _ h3⟩
theorem div_nan (x y r : Nat) (h : Ieee.double.div x y = some r) : (Ieee.double.read x).isNaN = false ∧ (Ieee.double.read y).isNaN = false ∧ (Ieee.double.read r).isNaN = false := by
  obtain ⟨d, hd, rfl⟩ := Option.map_eq_some_iff.1 h
  obtain ⟨h1, h2, h3⟩ := quotient_nan hd
  exact ⟨h1, h2, isNaN_write _ h3⟩
theorem sqrt_nan (x r : Nat) (h : Ieee.double.sqrt x = some r) : (Ieee.double.read x).isNaN = false ∧ (Ieee.double.read r).isNaN = false := by
  obtain ⟨d, hd, rfl⟩ := Option.map_eq_some_iff.1 h
  obtain ⟨h1, h3⟩ := root_nan hd
  exact ⟨h1, isNaN_write _ h3⟩

/-- The bits that the tape gives for what is no number. -/
theorem fl_tape (x y t : Nat) : fl (Question.cut (.nanBits .f64 x y) t) = none := by
  rw [fl_none]
  have e : Question.cut (.nanBits .f64 x y) t = Ieee.double.word (t % 2 == 1) (Ieee.double.infRung + (1 + t / 2 % (2 ^ 52 - 1))) := by
    have h2 : t % 2 = 0 ∨ t % 2 = 1 := by omega
    have hi : Ieee.double.infRung = 0x7ff0000000000000 := by decide +kernel
    have hs : Ieee.double.signWeight = 2 ^ 63 := by decide +kernel
    unfold Ieee.Format.word
    rw [hi, hs]
    simp only [Question.cut]
    rcases h2 with h2 | h2 <;> rw [h2] <;> simp <;> omega
  rw [e]
  have hi := Ieee.double.infRung_add_binade
  have hb : Ieee.double.binade = 2 ^ 52 := by decide +kernel
  have hm : t / 2 % (2 ^ 52 - 1) < 2 ^ 52 - 1 := Nat.mod_lt _ (by decide)
  generalize hk : 1 + t / 2 % (2 ^ 52 - 1) = k
  have hk1 : 1 ≤ k := by omega
  have hk2 : k < Ieee.double.binade := by rw [hb]; omega
  generalize (t % 2 == 1) = s
  have hlt : Ieee.double.infRung + k < Ieee.double.signWeight := by omega
  have h2 : Ieee.double.word s (Ieee.double.infRung + k) % Ieee.double.signWeight = Ieee.double.infRung + k := by
    unfold Ieee.Format.word
    split
    · rw [Nat.add_mod_left, Nat.mod_eq_of_lt hlt]
    · exact Nat.mod_eq_of_lt hlt
  unfold Ieee.Format.read
  dsimp only
  rw [h2, if_neg, if_neg, if_neg]
  · rfl
  · omega
  · omega
  · have : Ieee.double.binade ≤ Ieee.double.infRung := by decide +kernel
    omega

/-- Three numbers, four numbers. -/
structure V3 where (x y z : Option Nat)
structure Q4 where (w x y z : Option Nat)
def IsV (X : V3) (v : Value) : Prop := ∃ a b c, v = .agg #[.float .f64 a, .float .f64 b, .float .f64 c] ∧ fl a = X.x ∧ fl b = X.y ∧ fl c = X.z
def IsQ (X : Q4) (v : Value) : Prop := ∃ a b c d, v = .agg #[.float .f64 a, .float .f64 b, .float .f64 c, .float .f64 d] ∧ fl a = X.w ∧ fl b = X.x ∧ fl c = X.y ∧ fl d = X.z

/-- A value that is such a number. -/
def IsF (X : Option Nat) (v : Value) : Prop := ∃ b, v = .float .f64 b ∧ fl b = X

section
variable {P : Program}

theorem run_nan (x y : Nat) (w : World) : ∃ b, fl b = none ∧ (choose (.nanBits .f64 x y)).run P w = .ok b (w.drewN 1) := by
  refine ⟨Question.cut (.nanBits .f64 x y) (w.tape w.drawn (.nanBits .f64 x y)), fl_tape _ _ _, ?_⟩
  simp [choose, Sem.run, Question.forced, World.drewN]

theorem run_arith {bop : BinOp} (hb : (bop == .add || bop == .sub || bop == .mul || bop == .quo) = true) (x y : Nat) (w : World) :
    ∃ b, fl b = fop bop (fl x) (fl y) ∧ ∃ n, (Op.floatArith bop .f64 x y).run P w = .ok (.float .f64 b) (w.drewN n) := by
  have main : ∀ (f : Nat → Nat → Option Nat), (∀ x y r, f x y = some r → (Ieee.double.read x).isNaN = false ∧ (Ieee.double.read y).isNaN = false ∧ (Ieee.double.read r).isNaN = false) →
      (Op.floatArith bop .f64 x y = (match f x y with | some r => pure (.float .f64 r) | none => do pure (.float .f64 (← choose (.nanBits .f64 x y))))) →
      ∃ b, fl b = op2 f (fl x) (fl y) ∧ ∃ n, (Op.floatArith bop .f64 x y).run P w = .ok (.float .f64 b) (w.drewN n) := fun f hn he => by
    obtain ⟨h1, h2⟩ := op2_of hn x y
    rw [he]
    cases hf : f x y with
    | some r => exact ⟨r, h1 r hf, 0, rfl⟩
    | none =>
      obtain ⟨b, hb, hr⟩ := run_nan (P := P) x y w
      refine ⟨b, by rw [hb, h2 hf], 1, ?_⟩
      simp only [Sem.run_bind, hr, Result.andThen_ok, Sem.run_pure]
  cases bop <;> first | (cases hb; done) | skip
  · exact main _ add_nan rfl
  · exact main _ sub_nan rfl
  · exact main _ mul_nan rfl
  · exact main _ div_nan rfl

theorem exec_arith {o : Oper} {a : Act} {bop : BinOp} {t t2 : TypeId} {x y : Operand} {b1 b2 : Nat} (hop : o.op = .binOp bop t x y t2) (hb : (bop == .add || bop == .sub || bop == .mul || bop == .quo) = true)
    (hx : a.eval x = .float .f64 b1) (hy : a.eval y = .float .f64 b2) (w : World) :
    ∃ b, fl b = fop bop (fl b1) (fl b2) ∧ ∃ n, (execOp a.eval o).run P w = .ok (.value (.float .f64 b)) (w.drewN n) := by
  obtain ⟨b, h1, n, h3⟩ := run_arith (P := P) hb b1 b2 w
  refine ⟨b, h1, n, ?_⟩
  unfold execOp
  simp only [hop, hx, hy]
  have hg : (eqGuard bop t x y (.float .f64 b1) (.float .f64 b2)).run P w = .ok () w := by
    cases bop <;> first | (cases hb; done) | rfl
  have hbin : binOp bop t (.float .f64 b1) (.float .f64 b2) = Op.floatArith bop .f64 b1 b2 := by
    cases bop <;> first | (cases hb; done) | rfl
  simp only [Sem.run_bind, hg, Result.andThen_ok, hbin, h3, Sem.run_pure]

/-- In a walk one behind the other: '+', '-', '*', '/' on two numbers. -/
theorem wpList_arith {ops : Array Oper} {rest : List Oper} {o : Oper} {a : Act} {w : World} {Q : Exit → Act → World → Prop} (hgd : o.guard = none)
    {bop : BinOp} {t t2 : TypeId} {x y : Operand} {b1 b2 : Nat} (hop : o.op = .binOp bop t x y t2) (hb : (bop == .add || bop == .sub || bop == .mul || bop == .quo) = true)
    (hx : a.eval x = .float .f64 b1) (hy : a.eval y = .float .f64 b2)
    (h : ∀ b n, Hid (fl b = fop bop (fl b1) (fl b2)) → wpList P ops Q rest (a.put o.dst (.float .f64 b)) (w.drewN n)) : wpList P ops Q (o :: rest) a w := by
  obtain ⟨b, h1, n, h3⟩ := exec_arith (P := P) hop hb hx hy w
  refine wpList_plain hgd fun K hK => ?_
  unfold Oper.wp
  rw [h3]
  exact hK _ _ (h b n h1)

theorem run_sqrt (x : Nat) (w : World) : ∃ b, fl b = fsqrt (fl x) ∧ ∃ n, (Extern.MathSqrt.sqrt #[.float .f64 x]).run P w = .ok (.float .f64 b) (w.drewN n) := by
  have he : Extern.MathSqrt.sqrt #[.float .f64 x] = (match Ieee.double.sqrt x with | some r => pure (.float .f64 r) | none => do pure (.float .f64 (← choose (.nanBits .f64 x x)))) := rfl
  rw [he]
  cases hf : Ieee.double.sqrt x with
  | some r =>
    obtain ⟨h1, h2⟩ := sqrt_nan x r hf
    refine ⟨r, ?_, 0, rfl⟩
    rw [fl_eq_some h1, fl_eq_some h2]
    exact hf.symm
  | none =>
    obtain ⟨b, hb, hr⟩ := run_nan (P := P) x x w
    refine ⟨b, ?_, 1, ?_⟩
    · rw [hb]
      unfold fl
      split
      · rfl
      · exact hf.symm
    · simp only [Sem.run_bind, hr, Result.andThen_ok, Sem.run_pure]

/-- math.sqrt, called where operations stand one behind the other. -/
theorem wpList_sqrt {ops : Array Oper} {rest : List Oper} {o : Oper} {a : Act} {w : World} {Q : Exit → Act → World → Prop} (hgd : o.guard = none)
    {f : FuncId} {x : Operand} {ats : Array TypeId} {b1 : Nat} (hop : o.op = .call { callee := .value (.func f), args := #[x], argTypes := ats })
    (hf : ∀ (args : Array Value) (w : World), (callFunc f args).run P w = ((Extern.MathSqrt.sqrt args).run P w).andThen fun v w' => .ok (.value v) w')
    (hx : a.eval x = .float .f64 b1)
    (h : ∀ b n, Hid (fl b = fsqrt (fl b1)) → wpList P ops Q rest (a.put o.dst (.float .f64 b)) (w.drewN n)) : wpList P ops Q (o :: rest) a w := by
  obtain ⟨b, h1, n, h3⟩ := run_sqrt (P := P) b1 w
  have e0 : execOp a.eval o = callFunc f (#[] ++ #[x].map a.eval ++ #[]) := by unfold execOp; rw [hop]; rfl
  have e : execOp a.eval o = callFunc f #[.float .f64 b1] := by rw [e0]; simp [hx]
  refine wpList_plain hgd fun K hK => ?_
  unfold Oper.wp
  rw [e, hf, h3]
  exact hK _ _ (h b n h1)

/-- In a region whose order is open. -/
theorem rel_arith {ops : Array Oper} {R : FuncId → Array Value → Value → Prop} {Q : Act → List (Nat × Obj) → Prop} {rest : List Oper} {o : Oper} {a : Act} {G : List (Nat × Obj)} {w : World}
    (hw : Region.wanted o (yielded ops a.tmps) = true)
    {bop : BinOp} {t t2 : TypeId} {x y : Operand} {b1 b2 : Nat} (hop : o.op = .binOp bop t x y t2) (hb : (bop == .add || bop == .sub || bop == .mul || bop == .quo) = true)
    (hx : a.eval x = .float .f64 b1) (hy : a.eval y = .float .f64 b2)
    (h : ∀ b, Hid (fl b = fop bop (fl b1) (fl b2)) → wpRel P ops w R Q rest (a.put o.dst (.float .f64 b)) G) :
    wpRel P ops w R Q (o :: rest) a G := by
  refine ⟨.val (IsF (fop bop (fl b1) (fl b2))), .inl ⟨hw, by rw [hop]; rfl, .inl fun w1 _ => ?_⟩, fun v ⟨b, hv, hb⟩ => by subst hv; exact h b hb⟩
  obtain ⟨b, h1, n, h3⟩ := exec_arith (P := P) hop hb hx hy w1
  rw [h3]
  exact ⟨grow_drewN (grow_refl _) n, b, rfl, h1⟩

@[go_sem] theorem unary_neg_float (k : FloatKind) (b : Nat) : Op.unary .neg (.float k b) = pure (.float k (Op.negFloat k b)) := rfl
@[go_sem] theorem unary_neg_complex (k : FloatKind) (b c : Nat) : Op.unary .neg (.complex k b c) = pure (.complex k (Op.negFloat k b) (Op.negFloat k c)) := rfl
@[go_sem] theorem run_store_float (w : World) (a : Addr) (m : Mode) (k : FloatKind) (b : Nat) : (store a (.float k b) m).run P w = stored P w a (.float k b) m := run_store P w a _ m rfl
@[go_sem] theorem run_store_complex (w : World) (a : Addr) (m : Mode) (k : FloatKind) (b c : Nat) : (store a (.complex k b c) m).run P w = stored P w a (.complex k b c) m := run_store P w a _ m rfl

/-! An operation passed over; one that has one value in every world of the class (and is no call); a call; a new variable. -/
theorem rel_skip {ops : Array Oper} {R : FuncId → Array Value → Value → Prop} {Q : Act → List (Nat × Obj) → Prop} {rest : List Oper} {o : Oper} {a : Act} {G : List (Nat × Obj)} {w : World}
    (hw : Region.wanted o (yielded ops a.tmps) = false) (h : wpRel P ops w R Q rest (a.put o.dst undef) G) : wpRel P ops w R Q (o :: rest) a G :=
  ⟨.val fun v => v = undef, .inr ⟨hw, rfl⟩, fun v hv => by rw [hv]; exact h⟩

/-- Operations that never enter a Go function. -/
def plainB : Op → Bool
  | .move _ | .assign _ | .pick .. | .load .. | .build .. | .fieldAddr .. | .field .. | .indexAddr .. | .index .. | .binOp .. | .unOp .. | .convert .. | .extract .. => true
  | _ => false

theorem plain_not_enter {o : Oper} (h : plainB o.op = true) (ρ : Operand → Value) (w w' : World) (f : FuncId) (args : Array Value) : (execOp ρ o).run P w ≠ .ok (.enter f args) w' := by
  have hv : ∀ (s : Sem Value), (Sem.run P (do pure (Next.value (← s))) w) ≠ .ok (.enter f args) w' := fun s h => by
    simp only [Sem.run_bind] at h
    cases hs : s.run P w with
    | ok v w1 => rw [hs] at h; simp only [Result.andThen_ok, Sem.run_pure] at h; cases h
    | halt x w1 => rw [hs] at h; simp only [Result.andThen] at h; cases h
  unfold execOp
  cases ho : o.op <;> rw [ho] at h <;> first | (cases h; done) | skip
  all_goals dsimp only
  all_goals first | exact hv _ | skip
  case pick c x y =>
    intro hh
    simp only [Sem.run_bind, Sem.run_pure] at hh
    revert hh
    cases (asBool (ρ c)).run P w with
    | ok b w1 => simp only [Result.andThen_ok]; intro hh; cases hh
    | halt x w1 => simp only [Result.andThen]; intro hh; cases hh
  all_goals (intro hh; cases hh)

theorem rel_plain {ops : Array Oper} {R : FuncId → Array Value → Value → Prop} {Q : Act → List (Nat × Obj) → Prop} {rest : List Oper} {o : Oper} {a : Act} {G : List (Nat × Obj)} {w : World}
    (hw : Region.wanted o (yielded ops a.tmps) = true) (hp : plainB o.op = true)
    (h : ∀ K : Act → Prop, (∀ a, wpRel P ops w R Q rest a G → K a) → o.quiet P a (fun w' => ∃ x, w' = over w x) K) : wpRel P ops w R Q (o :: rest) a G := by
  obtain ⟨v, h1, h2⟩ := h _ fun _ h => h
  refine ⟨.val fun u => u = v, .inl ⟨hw, ?_, .inl fun w1 hw1 => ?_⟩, fun u hu => by rw [hu]; exact h2⟩
  · revert hp
    cases o.op <;> intro hp <;> first | rfl | cases hp
  · have h3 := h1 w1 ((over_iff _ _).2 hw1)
    unfold Oper.quietAt at h3
    have hne := plain_not_enter (P := P) hp a.eval w1
    revert h3 hne
    cases (execOp a.eval o).run P w1 with
    | ok n w' =>
      cases n <;> intro h3 hne <;> simp only [Oper.quietUpon] at h3
      · exact ⟨h3.1 ▸ grow_refl _, h3.2⟩
      · exact ⟨h3.1 ▸ grow_refl _, h3.2.symm⟩
      · exact absurd rfl (hne _ _ _)
    | halt x w' => intro h3; simp only [Oper.quietUpon] at h3

theorem rel_call {ops : Array Oper} {R : FuncId → Array Value → Value → Prop} {Q : Act → List (Nat × Obj) → Prop} {rest : List Oper} {o : Oper} {a : Act} {G : List (Nat × Obj)} {w : World}
    {f : FuncId} {args : Array Value} (hw : Region.wanted o (yielded ops a.tmps) = true) (hn : isNew o.op = false) (hc : callAt P o a w f args) (hk : keeps P w R f args)
    (h : ∀ v, R f args v → wpRel P ops w R Q rest (a.put o.dst v) G) : wpRel P ops w R Q (o :: rest) a G :=
  ⟨.val (R f args), .inl ⟨hw, hn, .inr ⟨f, args, hc, hk, fun _ h => h⟩⟩, h⟩

theorem rel_alloc {ops : Array Oper} {R : FuncId → Array Value → Value → Prop} {Q : Act → List (Nat × Obj) → Prop} {rest : List Oper} {o : Oper} {a : Act} {G : List (Nat × Obj)} {w : World}
    {t : TypeId} {x : Obj} (hw : Region.wanted o (yielded ops a.tmps) = true) (hop : o.op = .alloc t)
    (hx : ∀ w : World, (Instr.alloc t true (.tuple #[])).run P w = .ok (.pointer (some ⟨w.heap.size, 0, none⟩)) (w.alloc x))
    (h : ∀ b, fresh w.heap.size b G → wpRel P ops w R Q rest (a.put o.dst (.pointer (some ⟨b, 0, none⟩))) ((b, x) :: G)) : wpRel P ops w R Q (o :: rest) a G := by
  refine ⟨.new x, ⟨hw, by rw [hop]; rfl, fun w1 _ => ?_⟩, h⟩
  unfold execOp
  rw [hop]
  simp only [Sem.run_bind, hx, Result.andThen_ok, Sem.run_pure]

theorem run_callFunc_go {f : FuncId} {fn : Func} (hf : P.funcs[f]? = some fn) (hn : (fn.name == "runtime.NumGoroutine") = false) (hb : fn.body.isNone = false) (args : Array Value) (w : World) :
    (callFunc f args).run P w = .ok (.enter f args) w := by
  unfold callFunc
  simp only [Sem.run_bind, run_program, Result.andThen_ok, hf, hn, hb, Bool.false_eq_true, if_false, Sem.run_pure]

/-- The call of a Go function that the source names. -/
theorem callAt_func {w0 : World} {o : Oper} {a : Act} {f : FuncId} {fn : Func} {xs : List Operand} {ats : Array TypeId} {args : List Value}
    (hop : o.op = .call { callee := .value (.func f), args := xs.toArray, argTypes := ats }) (hf : P.funcs[f]? = some fn) (hn : (fn.name == "runtime.NumGoroutine") = false) (hb : fn.body.isNone = false)
    (ha : xs.map a.eval = args) : callAt P o a w0 f args.toArray := fun w _ => by
  have e : execOp a.eval o = callFunc f (#[] ++ xs.toArray.map a.eval ++ #[]) := by unfold execOp; rw [hop]; rfl
  have e2 : (#[] ++ xs.toArray.map a.eval ++ #[] : Array Value) = args.toArray := by rw [← ha]; simp
  rw [e, e2]
  exact run_callFunc_go hf hn hb _ w

/-- The call of a function value that names a Go function. -/
theorem callAt_value {w0 : World} {o : Oper} {a : Act} {t : Operand} {f : FuncId} {fn : Func} {xs : List Operand} {ats : Array TypeId} {captured args : List Value}
    (hop : o.op = .call { callee := .value t, args := xs.toArray, argTypes := ats }) (ht : a.eval t = .func (.func f) #[] captured.toArray) (hf : P.funcs[f]? = some fn) (hn : (fn.name == "runtime.NumGoroutine") = false) (hb : fn.body.isNone = false)
    (ha : xs.map a.eval ++ captured = args) : callAt P o a w0 f args.toArray := fun w _ => by
  have e : execOp a.eval o = callFunc f (#[] ++ xs.toArray.map a.eval ++ captured.toArray) := by unfold execOp; rw [hop]; simp only [resolve, ht]; rfl
  have e2 : (#[] ++ xs.toArray.map a.eval ++ captured.toArray : Array Value) = args.toArray := by rw [← ha]; simp
  rw [e, e2]
  exact run_callFunc_go hf hn hb _ w

/-- What a callee's contract gives in the class of the worlds that lie over w. -/
def Post (T : Value → Prop) (w : World) (e : Ending) (w' : World) : Prop := ∃ v, e = .returned v ∧ T v ∧ Below w.heap.size w w'
theorem Post.mk {T : Value → Prop} {w w' : World} {v : Value} (h : T v) (hb : Below w.heap.size w w') : Post T w (.returned v) w' := ⟨v, rfl, h, hb⟩
/-- The same of a callee that only draws. -/
def PostD (T : Value → Prop) (w : World) (e : Ending) (w' : World) : Prop := ∃ v, e = .returned v ∧ T v ∧ ∃ n, w' = w.drewN n
theorem PostD.mk {T : Value → Prop} {w : World} {v : Value} {n : Nat} (h : T v) : PostD T w (.returned v) (w.drewN n) := ⟨v, rfl, h, n, rfl⟩
theorem PostD.mk0 {T : Value → Prop} {w : World} {v : Value} (h : T v) : PostD T w (.returned v) w := ⟨v, rfl, h, 0, rfl⟩
theorem PostD.post {T : Value → Prop} {w w' : World} {e : Ending} (h : PostD T w e w') : Post T w e w' := by
  obtain ⟨v, he, hv, n, rfl⟩ := h
  exact ⟨v, he, hv, grow_drewN (grow_refl _) _⟩
theorem keepsD_over {w : World} {R : FuncId → Array Value → Value → Prop} {f : FuncId} {args : Array Value} {T : Value → Prop} (hT : ∀ v, T v → R f args v) (h : ∀ x, Calls P f args x (PostD T x)) :
    keeps P w R f args := fun w1 _ => (h w1).mono fun _ _ ⟨v, he, hv, n, hn⟩ => ⟨v, he, hT v hv, hn ▸ grow_drewN (grow_refl _) n⟩
theorem keeps_over {w : World} {R : FuncId → Array Value → Value → Prop} {f : FuncId} {args : Array Value} {T : Value → Prop} (hT : ∀ v, T v → R f args v) (h : ∀ x, Calls P f args x (Post T x)) :
    keeps P w R f args := fun w1 _ => (h w1).mono fun _ _ ⟨v, he, hv, hb⟩ => ⟨v, he, hT v hv, hb⟩
/-- .. a callee of which more is asked: it may look at what was there. -/
theorem keeps_in {w : World} {R : FuncId → Array Value → Value → Prop} {f : FuncId} {args : Array Value} {T : Value → Prop} (hT : ∀ v, T v → R f args v) (h : ∀ x, Calls P f args (over w x) (Post T (over w x))) :
    keeps P w R f args := fun w1 hw => by
  obtain ⟨x, rfl⟩ := (over_iff _ _).2 hw
  exact (h x).mono fun _ _ ⟨v, he, hv, hb⟩ => ⟨v, he, hT v hv, hb⟩

/-- What was laid in a region, as cells. -/
theorem cell_of_held {w : World} {b : Nat} {c : Array Value} {t : TypeId} {f : Nat × Nat} (h : w.heap[b]? = some (.cells c t f)) (i : Nat) : w.cell? ⟨b, i, none⟩ = c[i]? := by
  simp [World.cell?, h]
theorem frozen_of_held {w : World} {b : Nat} {c : Array Value} {t : TypeId} (h : w.heap[b]? = some (.cells c t)) (i : Nat) : w.frozen? ⟨b, i, none⟩ = false := by
  simp [World.frozen?, h]
theorem lt_of_held {w : World} {b : Nat} {x : Obj} (h : w.heap[b]? = some x) : b < w.heap.size := (Array.getElem?_eq_some_iff.1 h).1
end
end Go.Fl
