/- The walks of rotations about an axis, of matrices, and what they do to a vector. -/
import Derived.Test.YtdnclgpjcgamgaaS14
import Derived.Test.YtdnclgpjcgamgaaS4
set_option linter.unusedSimpArgs false
set_option linter.unusedVariables false
namespace Go.Proofs.Ytdnclgpjcgamgaa
open Go.RowKit Go.Fl Go.Grow Go.Tr

/-- Three rows. -/
structure M3 where (a b c : V3)
def IsM (X : M3) (v : Value) : Prop := ∃ a1 a2 a3 b1 b2 b3 c1 c2 c3, v = .agg #[.float .f64 a1, .float .f64 a2, .float .f64 a3, .float .f64 b1, .float .f64 b2, .float .f64 b3, .float .f64 c1, .float .f64 c2, .float .f64 c3] ∧
  fl a1 = X.a.x ∧ fl a2 = X.a.y ∧ fl a3 = X.a.z ∧ fl b1 = X.b.x ∧ fl b2 = X.b.y ∧ fl b3 = X.b.z ∧ fl c1 = X.c.x ∧ fl c2 = X.c.y ∧ fl c3 = X.c.z
def sm2 (p q r s : Option Nat) : Option Nat := fmul (fl 4611686018427387904) (pls (fmul p q) r s)
def ls2 (p q r s : Option Nat) : Option Nat := fmul (fl 4611686018427387904) (mns (fmul p q) r s)
def mat (a : Q4) : M3 where
  a := ⟨fsub (fl 4607182418800017408) (sm2 a.y a.y a.z a.z), ls2 a.x a.y a.w a.z, sm2 a.x a.z a.w a.y⟩
  b := ⟨sm2 a.x a.y a.w a.z, fsub (fl 4607182418800017408) (sm2 a.x a.x a.z a.z), ls2 a.y a.z a.w a.x⟩
  c := ⟨ls2 a.x a.z a.w a.y, sm2 a.y a.z a.w a.x, fsub (fl 4607182418800017408) (sm2 a.x a.x a.y a.y)⟩
def app (m : M3) (v : V3) : V3 := ⟨dt m.a v, dt m.b v, dt m.c v⟩
def abt (v : V3) (h : Int) : Q4 × Bool := if feq (vlen v) (some 0) || !fin (vlen v) then (qone, false) else (⟨cosA h, fmul (sinA h) (fdiv v.x (vlen v)), fmul (sinA h) (fdiv v.y (vlen v)), fmul (sinA h) (fdiv v.z (vlen v))⟩, true)
theorem drewN2 (w : World) (n m : Nat) : (w.drewN n).drewN m = w.drewN (n + m) := by simp [World.drewN, Nat.add_assoc]
theorem sum1_walk (a b c d : Nat) (w : World) : Calls Try.prog 74 #[.float .f64 a, .float .f64 b, .float .f64 c, .float .f64 d] w (PostD (IsF (sm2 (fl a) (fl b) (fl c) (fl d))) w) := by
  go_enter Try.func74, Try.ntmps74
  go_wp2_with (first | (refine wpList_arith rfl rfl (by rfl) rfl rfl ?_; intro b1 n1 H1) | (go_at_call 55; refine (plus_walk _ _ _ _).mono ?_; rintro e w1 ⟨v, rfl, ⟨b, rfl, hb⟩, n, rfl⟩; have H := Lib.hid hb; clear hb; skip))
  go_ret
  simp only [drewN2]
  refine PostD.mk ⟨_, rfl, ?_⟩
  simp only [Hid, fop] at *
  simp only [sm2, *]
theorem less1_walk (a b c d : Nat) (w : World) : Calls Try.prog 75 #[.float .f64 a, .float .f64 b, .float .f64 c, .float .f64 d] w (PostD (IsF (ls2 (fl a) (fl b) (fl c) (fl d))) w) := by
  go_enter Try.func75, Try.ntmps75
  go_wp2_with (first | (refine wpList_arith rfl rfl (by rfl) rfl rfl ?_; intro b1 n1 H1) | (go_at_call 54; refine (minus_walk _ _ _ _).mono ?_; rintro e w1 ⟨v, rfl, ⟨b, rfl, hb⟩, n, rfl⟩; have H := Lib.hid hb; clear hb; skip))
  go_ret
  simp only [drewN2]
  refine PostD.mk ⟨_, rfl, ?_⟩
  simp only [Hid, fop] at *
  simp only [ls2, *]

/-- What the callees give. -/
def SpecM : FuncId → Array Value → Value → Prop
  | 74, ⟨[.float .f64 a, .float .f64 b, .float .f64 c, .float .f64 d]⟩, v => IsF (sm2 (fl a) (fl b) (fl c) (fl d)) v
  | 75, ⟨[.float .f64 a, .float .f64 b, .float .f64 c, .float .f64 d]⟩, v => IsF (ls2 (fl a) (fl b) (fl c) (fl d)) v
  | 55, ⟨[.float .f64 s, .float .f64 a, .float .f64 b]⟩, v => IsF (pls (fl s) (fl a) (fl b)) v
  | 42, ⟨[.agg ⟨[.float .f64 a, .float .f64 b, .float .f64 c]⟩, .agg ⟨[.float .f64 d, .float .f64 e, .float .f64 f]⟩]⟩, v => IsF (dt ⟨fl a, fl b, fl c⟩ ⟨fl d, fl e, fl f⟩) v
  | 72, ⟨[.int .i64 a]⟩, v => IsF (cosA a) v
  | _, _, _ => False

set_option maxRecDepth 100000 in
set_option maxHeartbeats 4000000 in
theorem matrix_walk (a b c d : Nat) (w : World) : Calls Try.prog 30 #[.agg #[.float .f64 a, .float .f64 b, .float .f64 c, .float .f64 d]] w (Post (IsM (mat ⟨fl a, fl b, fl c, fl d⟩)) w) := by
  go_enter Try.func30, Try.ntmps30
  go_wp2
  refine Rel.wp_region_rel_tail SpecM 96 (by kernel_rfl) (lexTailB_of_fast (by kernel_rfl) (by kernel_rfl) (by kernel_rfl)) ?_
  simp only [List.append_eq, List.cons_append, List.nil_append, List.take_succ_cons, List.take_zero, List.drop_succ_cons, List.drop_zero]
  repeat (first
    | (refine rel_arith (by rfl) rfl (by rfl) rfl rfl ?_; intro b1 H1; simp only [Act.put, List.setIfInBounds_toArray, List.set_cons_zero, List.set_cons_succ])
    | (refine rel_call (f := 74) (args := #[.float .f64 _, .float .f64 _, .float .f64 _, .float .f64 _]) (by rfl) rfl (callAt_value (captured := []) rfl rfl Try.func74 (by kernel_rfl) (by kernel_rfl) rfl) (keepsD_over (fun v h => h) fun x => sum1_walk _ _ _ _ _) ?_; rintro _ ⟨b, rfl, hb⟩; have H := Lib.hid hb; clear hb; simp only [Act.put, List.setIfInBounds_toArray, List.set_cons_zero, List.set_cons_succ])
    | (refine rel_call (f := 75) (args := #[.float .f64 _, .float .f64 _, .float .f64 _, .float .f64 _]) (by rfl) rfl (callAt_value (captured := []) rfl rfl Try.func75 (by kernel_rfl) (by kernel_rfl) rfl) (keepsD_over (fun v h => h) fun x => less1_walk _ _ _ _ _) ?_; rintro _ ⟨b, rfl, hb⟩; have H := Lib.hid hb; clear hb; simp only [Act.put, List.setIfInBounds_toArray, List.set_cons_zero, List.set_cons_succ])
    | (refine rel_plain (by rfl) rfl ?_; intro K hK; go_big_quiet_op; go_big_quiet_on)
    | (refine rel_skip (by rfl) ?_; simp only [Act.put, List.setIfInBounds_toArray, List.set_cons_zero, List.set_cons_succ]))
  refine Rel.wpRel_nil ?_
  intro w9 hB9 hG9
  obtain ⟨hc9, hf9, hz9⟩ := facts hB9
  have HB9 := Lib.hid hB9
  clear hB9
  (try simp only [World.size_alloc, World.size_setCell, World.heap_drewN] at hc9 hf9 hz9)
  clear hG9
  go_wp2
  apply bodyPost_ret
  · simp [results, Try.results30, go_sem, *]; rfl
  · rfl
  · refine Post.mk ⟨_, _, _, _, _, _, _, _, _, rfl, ?_⟩ ?_
    · simp only [Hid, fop] at *
      simp only [mat, *]
      exact ⟨trivial, trivial, trivial, trivial, trivial, trivial, trivial, trivial, trivial⟩
    · (repeat (with_reducible first
        | exact Grow.grow_refl _
        | refine Grow.grow_setCell ?_ ?_ _
        | refine Grow.grow_alloc ?_ _
        | refine Grow.grow_drewN ?_ _
        | refine Grow.grow_over ?_ _
        | refine Grow.grow_via (by assumption) ?_)) <;> omega

set_option maxRecDepth 100000 in
set_option maxHeartbeats 8000000 in
theorem matrixOf_walk (a b c d : Nat) (w : World) : Calls Try.prog 31 #[.agg #[.float .f64 a, .float .f64 b, .float .f64 c, .float .f64 d]] w (Post (IsM (mat ⟨fl a, fl b, fl c, fl d⟩)) w) := by
  go_enter Try.func31, Try.ntmps31
  go_wp2_with (first | (refine wpList_arith rfl rfl (by rfl) rfl rfl ?_; intro b1 n1 H1))
  apply bodyPost_ret
  · simp [results, Try.results31, go_sem, *]; rfl
  · rfl
  · refine Post.mk ⟨_, _, _, _, _, _, _, _, _, rfl, ?_⟩ ?_
    · simp only [Hid, fop] at *
      simp only [mat, sm2, ls2, pls, mns, *]
      exact ⟨trivial, trivial, trivial, trivial, trivial, trivial, trivial, trivial, trivial⟩
    · (repeat (with_reducible first
        | exact Grow.grow_refl _
        | refine Grow.grow_setCell ?_ ?_ _
        | refine Grow.grow_alloc ?_ _
        | refine Grow.grow_drewN ?_ _
        | refine Grow.grow_over ?_ _
        | refine Grow.grow_via (by assumption) ?_)) <;> omega

end Go.Proofs.Ytdnclgpjcgamgaa
