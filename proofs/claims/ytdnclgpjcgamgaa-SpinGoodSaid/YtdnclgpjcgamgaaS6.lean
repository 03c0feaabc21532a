/- The walks of the vectors: lengths, cross products, sums, multiples. -/
import Derived.Test.YtdnclgpjcgamgaaS1
set_option linter.unusedSimpArgs false
set_option linter.unusedVariables false
namespace Go.Proofs.Ytdnclgpjcgamgaa
open Go.RowKit Go.Fl Go.Grow

def vlen (a : V3) : Option Nat := fsqrt (pls (pls (fmul a.x a.x) a.y a.y) a.z a.z)
def vcross (a b : V3) : V3 := ⟨mns (fmul a.y b.z) a.z b.y, mns (fmul a.z b.x) a.x b.z, mns (fmul a.x b.y) a.y b.x⟩
def vsum (a b : V3) : V3 := ⟨fadd a.x b.x, fadd a.y b.y, fadd a.z b.z⟩
def vmul (k : Option Nat) (a : V3) : V3 := ⟨fmul k a.x, fmul k a.y, fmul k a.z⟩

/-- What the callees give. -/
def SpecV : FuncId → Array Value → Value → Prop
  | 56, ⟨[.float .f64 s, .float .f64 a, .float .f64 b]⟩, v => IsF (mns (fl s) (fl a) (fl b)) v
  | 57, ⟨[.float .f64 s, .float .f64 a, .float .f64 b]⟩, v => IsF (pls (fl s) (fl a) (fl b)) v
  | 60, ⟨[.float .f64 s]⟩, v => IsF (fsqrt (fl s)) v
  | _, _, _ => False

set_option maxHeartbeats 4000000 in
theorem length_walk (a b c : Nat) (w : World) :
    Calls Try.prog 63 #[.agg #[.float .f64 a, .float .f64 b, .float .f64 c]] w (Post (IsF (vlen ⟨fl a, fl b, fl c⟩)) w) := by
  go_enter Try.func63, Try.ntmps63
  go_wp2_with (first
    | (refine wpList_arith rfl rfl (by rfl) rfl rfl ?_; intro b1 n1 H1)
    | (go_at_call 59; refine (root_walk _ _).mono ?_; rintro e w1 ⟨v, rfl, ⟨b, rfl, hb⟩, n, rfl⟩; have H := Lib.hid hb; clear hb; skip))
  go_ret
  refine Post.mk ⟨_, rfl, ?_⟩ ?_
  · simp only [Hid, fop] at *
    simp only [vlen, pls, *]
  · (repeat (with_reducible first
      | exact Grow.grow_refl _
      | refine Grow.grow_setCell ?_ ?_ _
      | refine Grow.grow_alloc ?_ _
      | refine Grow.grow_drewN ?_ _
      | refine Grow.grow_over ?_ _
      | refine Grow.grow_via (by assumption) ?_)) <;> omega

set_option maxHeartbeats 4000000 in
theorem lengthOf_walk (a b c : Nat) (w : World) :
    Calls Try.prog 44 #[.agg #[.float .f64 a, .float .f64 b, .float .f64 c]] w (Post (IsF (vlen ⟨fl a, fl b, fl c⟩)) w) := by
  go_enter Try.func44, Try.ntmps44
  go_wp2_with (first
    | (refine wpList_arith rfl rfl (by rfl) rfl rfl ?_; intro b1 n1 H1))
  refine Rel.wp_region_rel SpecV (by kernel_rfl) (lexB_of_fast (by kernel_rfl) (by kernel_rfl)) ?_
  repeat (first
    | (refine rel_arith (by rfl) rfl (by rfl) rfl rfl ?_; intro b1 H1; simp only [Act.put, List.setIfInBounds_toArray, List.set_cons_zero, List.set_cons_succ])
    | (refine rel_call (f := 57) (args := #[.float .f64 _, .float .f64 _, .float .f64 _]) (by rfl) rfl (callAt_func rfl Try.func57 (by kernel_rfl) (by kernel_rfl) rfl) (keepsD_over (fun v h => h) fun x => plusRef_walk _ _ _ _) ?_; rintro _ ⟨b, rfl, hb⟩; have H := Lib.hid hb; clear hb; simp only [Act.put, List.setIfInBounds_toArray, List.set_cons_zero, List.set_cons_succ])
    | (refine rel_call (f := 60) (args := #[.float .f64 _]) (by rfl) rfl (callAt_func rfl Try.func60 (by kernel_rfl) (by kernel_rfl) rfl) (keepsD_over (fun v h => h) fun x => sqrt_walk _ _) ?_; rintro _ ⟨b, rfl, hb⟩; have H := Lib.hid hb; clear hb; simp only [Act.put, List.setIfInBounds_toArray, List.set_cons_zero, List.set_cons_succ])
    | (refine rel_plain (by rfl) rfl ?_; intro K hK; go_big_quiet_op; go_big_quiet_on)
    | (refine rel_skip (by rfl) ?_; simp only [Act.put, List.setIfInBounds_toArray, List.set_cons_zero, List.set_cons_succ]))
  refine Rel.wpRel_nil ?_
  intro w9 hB9 hG9
  obtain ⟨hc9, hf9, hz9⟩ := facts hB9
  have HB9 := Lib.hid hB9
  clear hB9
  (try simp only [World.size_alloc, World.size_setCell, World.heap_drewN] at hc9 hf9 hz9)
  clear hG9
  go_wp2
  go_ret
  refine Post.mk ⟨_, rfl, ?_⟩ ?_
  · simp only [Hid, fop] at *
    simp only [vlen, *]
  · (repeat (with_reducible first
      | exact Grow.grow_refl _
      | refine Grow.grow_setCell ?_ ?_ _
      | refine Grow.grow_alloc ?_ _
      | refine Grow.grow_drewN ?_ _
      | refine Grow.grow_over ?_ _
      | refine Grow.grow_via (by assumption) ?_)) <;> omega

set_option maxHeartbeats 4000000 in
theorem cross_walk (a b c d e f : Nat) (w : World) :
    Calls Try.prog 64 #[.agg #[.float .f64 a, .float .f64 b, .float .f64 c], .agg #[.float .f64 d, .float .f64 e, .float .f64 f]] w (Post (IsV (vcross ⟨fl a, fl b, fl c⟩ ⟨fl d, fl e, fl f⟩)) w) := by
  go_enter Try.func64, Try.ntmps64
  go_wp2_with (first
    | (refine wpList_arith rfl rfl (by rfl) rfl rfl ?_; intro b1 n1 H1))
  apply bodyPost_ret
  · simp [results, Try.results64, go_sem, *]; rfl
  · rfl
  · refine Post.mk ⟨_, _, _, rfl, ?_⟩ ?_
    · simp only [Hid, fop] at *
      simp only [vcross, mns, *]
      exact ⟨trivial, trivial, trivial⟩
    · (repeat (with_reducible first
        | exact Grow.grow_refl _
        | refine Grow.grow_setCell ?_ ?_ _
        | refine Grow.grow_alloc ?_ _
        | refine Grow.grow_drewN ?_ _
        | refine Grow.grow_over ?_ _
        | refine Grow.grow_via (by assumption) ?_)) <;> omega

set_option maxHeartbeats 4000000 in
theorem crossOf_walk (a b c d e f : Nat) (w : World) :
    Calls Try.prog 68 #[.agg #[.float .f64 a, .float .f64 b, .float .f64 c], .agg #[.float .f64 d, .float .f64 e, .float .f64 f]] w (Post (IsV (vcross ⟨fl a, fl b, fl c⟩ ⟨fl d, fl e, fl f⟩)) w) := by
  go_enter Try.func68, Try.ntmps68
  go_wp2_with (first
    | (refine wpList_arith rfl rfl (by rfl) rfl rfl ?_; intro b1 n1 H1))
  refine Rel.wp_region_rel_tail SpecV 19 (by kernel_rfl) (lexTailB_of_fast (by kernel_rfl) (by kernel_rfl) (by kernel_rfl)) ?_
  simp only [List.append_eq, List.cons_append, List.nil_append, List.take_succ_cons, List.take_zero, List.drop_succ_cons, List.drop_zero]
  repeat (first
    | (refine rel_arith (by rfl) rfl (by rfl) rfl rfl ?_; intro b1 H1; simp only [Act.put, List.setIfInBounds_toArray, List.set_cons_zero, List.set_cons_succ])
    | (refine rel_call (f := 56) (args := #[.float .f64 _, .float .f64 _, .float .f64 _]) (by rfl) rfl (callAt_func rfl Try.func56 (by kernel_rfl) (by kernel_rfl) rfl) (keepsD_over (fun v h => h) fun x => less_walk _ _ _ _) ?_; rintro _ ⟨b, rfl, hb⟩; have H := Lib.hid hb; clear hb; simp only [Act.put, List.setIfInBounds_toArray, List.set_cons_zero, List.set_cons_succ])
    | (refine rel_plain (by rfl) rfl ?_; intro K hK; go_big_quiet_op; go_big_quiet_on)
    | (refine rel_skip (by rfl) ?_; simp only [Act.put, List.setIfInBounds_toArray, List.set_cons_zero, List.set_cons_succ]))
  refine Rel.wpRel_nil ?_
  intro w9 hB9 hG9
  obtain ⟨hc9, hf9, hz9⟩ := facts hB9
  have HB9 := Lib.hid hB9
  clear hB9
  (try simp only [World.size_alloc, World.size_setCell, World.heap_drewN] at hc9 hf9 hz9)
  clear hG9
  go_wp2
  apply bodyPost_ret
  · simp [results, Try.results68, go_sem, *]; rfl
  · rfl
  · refine Post.mk ⟨_, _, _, rfl, ?_⟩ ?_
    · simp only [Hid, fop] at *
      simp only [vcross, *]
      exact ⟨trivial, trivial, trivial⟩
    · (repeat (with_reducible first
        | exact Grow.grow_refl _
        | refine Grow.grow_setCell ?_ ?_ _
        | refine Grow.grow_alloc ?_ _
        | refine Grow.grow_drewN ?_ _
        | refine Grow.grow_over ?_ _
        | refine Grow.grow_via (by assumption) ?_)) <;> omega

set_option maxHeartbeats 4000000 in
theorem sum_walk (a b c d e f : Nat) (w : World) :
    Calls Try.prog 65 #[.agg #[.float .f64 a, .float .f64 b, .float .f64 c], .agg #[.float .f64 d, .float .f64 e, .float .f64 f]] w (Post (IsV (vsum ⟨fl a, fl b, fl c⟩ ⟨fl d, fl e, fl f⟩)) w) := by
  go_enter Try.func65, Try.ntmps65
  go_wp2_with (first
    | (refine wpList_arith rfl rfl (by rfl) rfl rfl ?_; intro b1 n1 H1))
  apply bodyPost_ret
  · simp [results, Try.results65, go_sem, *]; rfl
  · rfl
  · refine Post.mk ⟨_, _, _, rfl, ?_⟩ ?_
    · simp only [Hid, fop] at *
      simp only [vsum, *]
      exact ⟨trivial, trivial, trivial⟩
    · (repeat (with_reducible first
        | exact Grow.grow_refl _
        | refine Grow.grow_setCell ?_ ?_ _
        | refine Grow.grow_alloc ?_ _
        | refine Grow.grow_drewN ?_ _
        | refine Grow.grow_over ?_ _
        | refine Grow.grow_via (by assumption) ?_)) <;> omega

set_option maxHeartbeats 4000000 in
theorem both_walk (a b c d e f : Nat) (w : World) :
    Calls Try.prog 69 #[.agg #[.float .f64 a, .float .f64 b, .float .f64 c], .agg #[.float .f64 d, .float .f64 e, .float .f64 f]] w (Post (IsV (vsum ⟨fl a, fl b, fl c⟩ ⟨fl d, fl e, fl f⟩)) w) := by
  go_enter Try.func69, Try.ntmps69
  go_wp2_with (first
    | (refine wpList_arith rfl rfl (by rfl) rfl rfl ?_; intro b1 n1 H1))
  apply bodyPost_ret
  · simp [results, Try.results69, go_sem, *]; rfl
  · rfl
  · refine Post.mk ⟨_, _, _, rfl, ?_⟩ ?_
    · simp only [Hid, fop] at *
      simp only [vsum, *]
      exact ⟨trivial, trivial, trivial⟩
    · (repeat (with_reducible first
        | exact Grow.grow_refl _
        | refine Grow.grow_setCell ?_ ?_ _
        | refine Grow.grow_alloc ?_ _
        | refine Grow.grow_drewN ?_ _
        | refine Grow.grow_over ?_ _
        | refine Grow.grow_via (by assumption) ?_)) <;> omega

set_option maxHeartbeats 4000000 in
theorem rounded_walk (k a b c : Nat) (w : World) :
    Calls Try.prog 66 #[.float .f64 k, .agg #[.float .f64 a, .float .f64 b, .float .f64 c]] w (Post (IsV (vmul (fl k) ⟨fl a, fl b, fl c⟩)) w) := by
  go_enter Try.func66, Try.ntmps66
  go_wp2_with (first
    | (refine wpList_arith rfl rfl (by rfl) rfl rfl ?_; intro b1 n1 H1))
  apply bodyPost_ret
  · simp [results, Try.results66, go_sem, *]; rfl
  · rfl
  · refine Post.mk ⟨_, _, _, rfl, ?_⟩ ?_
    · simp only [Hid, fop] at *
      simp only [vmul, *]
      exact ⟨trivial, trivial, trivial⟩
    · (repeat (with_reducible first
        | exact Grow.grow_refl _
        | refine Grow.grow_setCell ?_ ?_ _
        | refine Grow.grow_alloc ?_ _
        | refine Grow.grow_drewN ?_ _
        | refine Grow.grow_over ?_ _
        | refine Grow.grow_via (by assumption) ?_)) <;> omega

set_option maxHeartbeats 4000000 in
theorem scaled_walk (k a b c : Nat) (w : World) :
    Calls Try.prog 70 #[.float .f64 k, .agg #[.float .f64 a, .float .f64 b, .float .f64 c]] w (Post (IsV (vmul (fl k) ⟨fl a, fl b, fl c⟩)) w) := by
  go_enter Try.func70, Try.ntmps70
  go_wp2_with (first
    | (refine wpList_arith rfl rfl (by rfl) rfl rfl ?_; intro b1 n1 H1))
  apply bodyPost_ret
  · simp [results, Try.results70, go_sem, *]; rfl
  · rfl
  · refine Post.mk ⟨_, _, _, rfl, ?_⟩ ?_
    · simp only [Hid, fop] at *
      simp only [vmul, *]
      exact ⟨trivial, trivial, trivial⟩
    · (repeat (with_reducible first
        | exact Grow.grow_refl _
        | refine Grow.grow_setCell ?_ ?_ _
        | refine Grow.grow_alloc ?_ _
        | refine Grow.grow_drewN ?_ _
        | refine Grow.grow_over ?_ _
        | refine Grow.grow_via (by assumption) ?_)) <;> omega

set_option maxHeartbeats 4000000 in
theorem mtimes_walk (k a b c : Nat) (w : World) :
    Calls Try.prog 67 #[.float .f64 k, .agg #[.float .f64 a, .float .f64 b, .float .f64 c]] w (Post (IsV (vmul (fl k) ⟨fl a, fl b, fl c⟩)) w) := by
  go_enter Try.func67, Try.ntmps67
  go_wp2_with (first
    | (refine wpList_arith rfl rfl (by rfl) rfl rfl ?_; intro b1 n1 H1))
  apply bodyPost_ret
  · simp [results, Try.results67, go_sem, *]; rfl
  · rfl
  · refine Post.mk ⟨_, _, _, rfl, ?_⟩ ?_
    · simp only [Hid, fop] at *
      simp only [vmul, *]
      exact ⟨trivial, trivial, trivial⟩
    · (repeat (with_reducible first
        | exact Grow.grow_refl _
        | refine Grow.grow_setCell ?_ ?_ _
        | refine Grow.grow_alloc ?_ _
        | refine Grow.grow_drewN ?_ _
        | refine Grow.grow_over ?_ _
        | refine Grow.grow_via (by assumption) ?_)) <;> omega

end Go.Proofs.Ytdnclgpjcgamgaa
