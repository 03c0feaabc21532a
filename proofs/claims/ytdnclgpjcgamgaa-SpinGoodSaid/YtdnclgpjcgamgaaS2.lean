/- The walks of the quaternions: products, sizes, units, the way back. -/
import Derived.Test.YtdnclgpjcgamgaaS1
set_option linter.unusedSimpArgs false
set_option linter.unusedVariables false
namespace Go.Proofs.Ytdnclgpjcgamgaa
open Go.RowKit Go.Fl Go.Grow

def qtimes (a b : Q4) : Q4 where
  w := mns (mns (mns (fmul a.w b.w) a.x b.x) a.y b.y) a.z b.z
  x := mns (pls (pls (fmul a.w b.x) a.x b.w) a.y b.z) a.z b.y
  y := pls (pls (mns (fmul a.w b.y) a.x b.z) a.y b.w) a.z b.x
  z := pls (mns (pls (fmul a.w b.z) a.x b.y) a.y b.x) a.z b.w
def qsize (a : Q4) : Option Nat := fsqrt (pls (pls (pls (fmul a.w a.w) a.x a.x) a.y a.y) a.z a.z)

/-- What the callees give. -/
def SpecR : FuncId → Array Value → Value → Prop
  | 54, ⟨[.float .f64 s, .float .f64 a, .float .f64 b]⟩, v => IsF (mns (fl s) (fl a) (fl b)) v
  | 55, ⟨[.float .f64 s, .float .f64 a, .float .f64 b]⟩, v => IsF (pls (fl s) (fl a) (fl b)) v
  | 59, ⟨[.float .f64 s]⟩, v => IsF (fsqrt (fl s)) v
  | _, _, _ => False

set_option maxHeartbeats 4000000 in
theorem times_walk (a b c d e f g h : Nat) (w : World) :
    Calls Try.prog 15 #[.agg #[.float .f64 a, .float .f64 b, .float .f64 c, .float .f64 d], .agg #[.float .f64 e, .float .f64 f, .float .f64 g, .float .f64 h]] w (Post (IsQ (qtimes ⟨fl a, fl b, fl c, fl d⟩ ⟨fl e, fl f, fl g, fl h⟩)) w) := by
  go_enter Try.func15, Try.ntmps15
  go_wp2
  refine Rel.wp_region_rel_tail SpecR 81 (by kernel_rfl) (lexTailB_of_fast (by kernel_rfl) (by kernel_rfl) (by kernel_rfl)) ?_
  simp only [List.append_eq, List.cons_append, List.nil_append, List.take_succ_cons, List.take_zero, List.drop_succ_cons, List.drop_zero]
  repeat (first
    | (refine rel_arith (by rfl) rfl (by rfl) rfl rfl ?_; intro b1 H1; simp only [Act.put, List.setIfInBounds_toArray, List.set_cons_zero, List.set_cons_succ])
    | (refine rel_call (f := 54) (args := #[.float .f64 _, .float .f64 _, .float .f64 _]) (by rfl) rfl (callAt_func rfl Try.func54 (by kernel_rfl) (by kernel_rfl) rfl) (keepsD_over (fun v h => h) fun x => minus_walk _ _ _ _) ?_; rintro _ ⟨b, rfl, hb⟩; have H := Lib.hid hb; clear hb; simp only [Act.put, List.setIfInBounds_toArray, List.set_cons_zero, List.set_cons_succ])
    | (refine rel_call (f := 55) (args := #[.float .f64 _, .float .f64 _, .float .f64 _]) (by rfl) rfl (callAt_func rfl Try.func55 (by kernel_rfl) (by kernel_rfl) rfl) (keepsD_over (fun v h => h) fun x => plus_walk _ _ _ _) ?_; rintro _ ⟨b, rfl, hb⟩; have H := Lib.hid hb; clear hb; simp only [Act.put, List.setIfInBounds_toArray, List.set_cons_zero, List.set_cons_succ])
    | (refine rel_plain (by rfl) rfl ?_; intro K hK; go_big_quiet_op; go_big_quiet_on)
    | (refine rel_skip (by rfl) ?_; simp only [Act.put, List.setIfInBounds_toArray, List.set_cons_zero, List.set_cons_succ]))
  refine Rel.wpRel_nil ?_
  intro w9 hB9 hG9
  obtain ⟨hc9, hf9, hz9⟩ := facts hB9
  have HB9 := Lib.hid hB9
  clear hB9
  (try simp only [World.size_alloc, World.size_setCell, World.heap_drewN] at hc9 hf9 hz9)
  clear hG9
  go_wp2
  apply bodyPost_ret
  · simp [results, Try.results15, go_sem, *]; rfl
  · rfl
  · refine Post.mk ⟨_, _, _, _, rfl, ?_⟩ ?_
    · simp only [Hid, fop] at *
      simp only [qtimes, *]
      exact ⟨trivial, trivial, trivial, trivial⟩
    · (repeat (with_reducible first
        | exact Grow.grow_refl _
        | refine Grow.grow_setCell ?_ ?_ _
        | refine Grow.grow_alloc ?_ _
        | refine Grow.grow_drewN ?_ _
        | refine Grow.grow_over ?_ _
        | refine Grow.grow_via (by assumption) ?_)) <;> omega

set_option maxHeartbeats 4000000 in
theorem timesOf_walk (a b c d e f g h : Nat) (w : World) :
    Calls Try.prog 16 #[.agg #[.float .f64 a, .float .f64 b, .float .f64 c, .float .f64 d], .agg #[.float .f64 e, .float .f64 f, .float .f64 g, .float .f64 h]] w (Post (IsQ (qtimes ⟨fl a, fl b, fl c, fl d⟩ ⟨fl e, fl f, fl g, fl h⟩)) w) := by
  go_enter Try.func16, Try.ntmps16
  go_wp2_with (first
    | (refine wpList_arith rfl rfl (by rfl) rfl rfl ?_; intro b1 n1 H1)
    | (go_at_call 56; refine (less_walk _ _ _ _).mono ?_; rintro e w1 ⟨v, rfl, ⟨b, rfl, hb⟩, n, rfl⟩; have H := Lib.hid hb; clear hb; skip)
    | (go_at_call 57; refine (plusRef_walk _ _ _ _).mono ?_; rintro e w1 ⟨v, rfl, ⟨b, rfl, hb⟩, n, rfl⟩; have H := Lib.hid hb; clear hb; skip))
  apply bodyPost_ret
  · simp [results, Try.results16, go_sem, *]; rfl
  · rfl
  · refine Post.mk ⟨_, _, _, _, rfl, ?_⟩ ?_
    · simp only [Hid, fop] at *
      simp only [qtimes, *]
      exact ⟨trivial, trivial, trivial, trivial⟩
    · (repeat (with_reducible first
        | exact Grow.grow_refl _
        | refine Grow.grow_setCell ?_ ?_ _
        | refine Grow.grow_alloc ?_ _
        | refine Grow.grow_drewN ?_ _
        | refine Grow.grow_over ?_ _
        | refine Grow.grow_via (by assumption) ?_)) <;> omega

set_option maxHeartbeats 4000000 in
theorem size_walk (a b c d : Nat) (w : World) :
    Calls Try.prog 18 #[.agg #[.float .f64 a, .float .f64 b, .float .f64 c, .float .f64 d]] w (Post (IsF (qsize ⟨fl a, fl b, fl c, fl d⟩)) w) := by
  go_enter Try.func18, Try.ntmps18
  go_wp2
  refine Rel.wp_region_rel SpecR (by kernel_rfl) (lexB_of_fast (by kernel_rfl) (by kernel_rfl)) ?_
  repeat (first
    | (refine rel_arith (by rfl) rfl (by rfl) rfl rfl ?_; intro b1 H1; simp only [Act.put, List.setIfInBounds_toArray, List.set_cons_zero, List.set_cons_succ])
    | (refine rel_call (f := 55) (args := #[.float .f64 _, .float .f64 _, .float .f64 _]) (by rfl) rfl (callAt_func rfl Try.func55 (by kernel_rfl) (by kernel_rfl) rfl) (keepsD_over (fun v h => h) fun x => plus_walk _ _ _ _) ?_; rintro _ ⟨b, rfl, hb⟩; have H := Lib.hid hb; clear hb; simp only [Act.put, List.setIfInBounds_toArray, List.set_cons_zero, List.set_cons_succ])
    | (refine rel_call (f := 59) (args := #[.float .f64 _]) (by rfl) rfl (callAt_func rfl Try.func59 (by kernel_rfl) (by kernel_rfl) rfl) (keepsD_over (fun v h => h) fun x => root_walk _ _) ?_; rintro _ ⟨b, rfl, hb⟩; have H := Lib.hid hb; clear hb; simp only [Act.put, List.setIfInBounds_toArray, List.set_cons_zero, List.set_cons_succ])
    | (refine rel_plain (by rfl) rfl ?_; intro K hK; go_big_quiet_op; go_big_quiet_on)
    | (refine rel_skip (by rfl) ?_; simp only [Act.put, List.setIfInBounds_toArray, List.set_cons_zero, List.set_cons_succ]))
  refine Rel.wpRel_nil ?_
  intro w9 hB9 hG9
  obtain ⟨hc9, hf9, hz9⟩ := facts hB9
  have HB9 := Lib.hid hB9
  clear hB9
  (try simp only [World.size_alloc, World.size_setCell, World.heap_drewN] at hc9 hf9 hz9)
  clear hG9
  go_wp2
  go_ret
  refine Post.mk ⟨_, rfl, ?_⟩ ?_
  · simp only [Hid, fop] at *
    simp only [qsize, *]
  · (repeat (with_reducible first
      | exact Grow.grow_refl _
      | refine Grow.grow_setCell ?_ ?_ _
      | refine Grow.grow_alloc ?_ _
      | refine Grow.grow_drewN ?_ _
      | refine Grow.grow_over ?_ _
      | refine Grow.grow_via (by assumption) ?_)) <;> omega

set_option maxHeartbeats 4000000 in
theorem sizeOf_walk (a b c d : Nat) (w : World) :
    Calls Try.prog 19 #[.agg #[.float .f64 a, .float .f64 b, .float .f64 c, .float .f64 d]] w (Post (IsF (qsize ⟨fl a, fl b, fl c, fl d⟩)) w) := by
  go_enter Try.func19, Try.ntmps19
  go_wp2_with (first
    | (refine wpList_arith rfl rfl (by rfl) rfl rfl ?_; intro b1 n1 H1)
    | (go_at_call 57; refine (plusRef_walk _ _ _ _).mono ?_; rintro e w1 ⟨v, rfl, ⟨b, rfl, hb⟩, n, rfl⟩; have H := Lib.hid hb; clear hb; skip)
    | (go_at_call 60; refine (sqrt_walk _ _).mono ?_; rintro e w1 ⟨v, rfl, ⟨b, rfl, hb⟩, n, rfl⟩; have H := Lib.hid hb; clear hb; skip))
  go_ret
  refine Post.mk ⟨_, rfl, ?_⟩ ?_
  · simp only [Hid, fop] at *
    simp only [qsize, *]
  · (repeat (with_reducible first
      | exact Grow.grow_refl _
      | refine Grow.grow_setCell ?_ ?_ _
      | refine Grow.grow_alloc ?_ _
      | refine Grow.grow_drewN ?_ _
      | refine Grow.grow_over ?_ _
      | refine Grow.grow_via (by assumption) ?_)) <;> omega

end Go.Proofs.Ytdnclgpjcgamgaa
