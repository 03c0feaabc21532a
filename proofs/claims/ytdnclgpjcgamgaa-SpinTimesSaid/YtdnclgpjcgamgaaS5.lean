/- SpinTimes: the law's walk. -/
import Derived.Test.YtdnclgpjcgamgaaS4
namespace Go.Proofs.Ytdnclgpjcgamgaa
open Go.RowKit Go.Fl Go.Grow

/-- What the callees give. -/
def SpecL : FuncId → Array Value → Value → Prop
  | 14, ⟨[q]⟩, v => v = q
  | 15, ⟨[.agg ⟨[.float .f64 a, .float .f64 b, .float .f64 c, .float .f64 d]⟩, .agg ⟨[.float .f64 e, .float .f64 f, .float .f64 g, .float .f64 h]⟩]⟩, v => IsQ (qtimes ⟨fl a, fl b, fl c, fl d⟩ ⟨fl e, fl f, fl g, fl h⟩) v
  | 16, ⟨[.agg ⟨[.float .f64 a, .float .f64 b, .float .f64 c, .float .f64 d]⟩, .agg ⟨[.float .f64 e, .float .f64 f, .float .f64 g, .float .f64 h]⟩]⟩, v => IsQ (qtimes ⟨fl a, fl b, fl c, fl d⟩ ⟨fl e, fl f, fl g, fl h⟩) v
  | 13, _, v => v = .bool true
  | 17, _, v => v = .bool true
  | 18, ⟨[.agg ⟨[.float .f64 a, .float .f64 b, .float .f64 c, .float .f64 d]⟩]⟩, v => IsF (qsize ⟨fl a, fl b, fl c, fl d⟩) v
  | 19, ⟨[.agg ⟨[.float .f64 a, .float .f64 b, .float .f64 c, .float .f64 d]⟩]⟩, v => IsF (qsize ⟨fl a, fl b, fl c, fl d⟩) v
  | 20, ⟨[.agg ⟨[.float .f64 a, .float .f64 b, .float .f64 c, .float .f64 d]⟩]⟩, v => v = .agg #[.float .f64 a, .float .f64 (Op.negFloat .f64 b), .float .f64 (Op.negFloat .f64 c), .float .f64 (Op.negFloat .f64 d)]
  | _, _, _ => False

set_option maxRecDepth 100000 in
set_option maxHeartbeats 4000000 in
theorem spinTimes_walk (a b c d e f g h : Nat) (w : World) :
    Calls Try.prog 3 #[.agg #[.float .f64 a, .float .f64 b, .float .f64 c, .float .f64 d], .agg #[.float .f64 e, .float .f64 f, .float .f64 g, .float .f64 h]] w (Post (fun v => v = .bool true) w) := by
  go_enter Try.func3, Try.ntmps3
  go_wp2_with (go_at_call 12; refine (turns_walk _).mono ?_; rintro e w1 ⟨v, rfl, rfl, hB⟩; obtain ⟨hc1, hf1, hz1⟩ := facts hB; have HB1 := Lib.hid hB; clear hB; (try simp only [World.size_alloc, World.size_setCell, World.heap_drewN] at hc1 hf1 hz1))
  refine Rel.wp_region_rel SpecL (by kernel_rfl) (lexB_of_fast (by kernel_rfl) (by kernel_rfl)) ?_
  repeat (first
    | (refine rel_arith (by rfl) rfl (by rfl) rfl rfl ?_; intro b1 H1; simp only [Act.put, List.setIfInBounds_toArray, List.set_cons_zero, List.set_cons_succ])
    | (refine rel_call (f := 14) (args := #[.agg #[.float .f64 _, .float .f64 _, .float .f64 _, .float .f64 _]]) (by rfl) (callAt_func rfl Try.func14 (by kernel_rfl) (by kernel_rfl) rfl) (keeps_over (fun v h => h) fun x => q_walk _ _ _ _ _) ?_; rintro _ rfl; skip; simp only [Act.put, List.setIfInBounds_toArray, List.set_cons_zero, List.set_cons_succ])
    | (refine rel_call (f := 15) (args := #[.agg #[.float .f64 _, .float .f64 _, .float .f64 _, .float .f64 _], .agg #[.float .f64 _, .float .f64 _, .float .f64 _, .float .f64 _]]) (by rfl) (callAt_func rfl Try.func15 (by kernel_rfl) (by kernel_rfl) rfl) (keeps_over (fun v h => h) fun x => times_walk _ _ _ _ _ _ _ _ _) ?_; rintro _ ⟨b1, b2, b3, b4, rfl, g1, g2, g3, g4⟩; have G1 := Lib.hid g1; have G2 := Lib.hid g2; have G3 := Lib.hid g3; have G4 := Lib.hid g4; clear g1 g2 g3 g4; simp only [Act.put, List.setIfInBounds_toArray, List.set_cons_zero, List.set_cons_succ])
    | (refine rel_call (f := 16) (args := #[.agg #[.float .f64 _, .float .f64 _, .float .f64 _, .float .f64 _], .agg #[.float .f64 _, .float .f64 _, .float .f64 _, .float .f64 _]]) (by rfl) (callAt_func rfl Try.func16 (by kernel_rfl) (by kernel_rfl) rfl) (keeps_over (fun v h => h) fun x => timesOf_walk _ _ _ _ _ _ _ _ _) ?_; rintro _ ⟨c1, c2, c3, c4, rfl, k1, k2, k3, k4⟩; have K1 := Lib.hid k1; have K2 := Lib.hid k2; have K3 := Lib.hid k3; have K4 := Lib.hid k4; clear k1 k2 k3 k4; simp only [Act.put, List.setIfInBounds_toArray, List.set_cons_zero, List.set_cons_succ])
    | (refine rel_call (f := 13) (args := #[.agg #[.float .f64 _, .float .f64 _, .float .f64 _, .float .f64 _], .agg #[.float .f64 _, .float .f64 _, .float .f64 _, .float .f64 _]]) (by rfl) (callAt_func rfl Try.func13 (by kernel_rfl) (by kernel_rfl) rfl) (keeps_over (fun v h => h) fun x => sameQ_walk _ _ _ _ _ _ _ _ (G1.out.trans K1.out.symm) (G2.out.trans K2.out.symm) (G3.out.trans K3.out.symm) (G4.out.trans K4.out.symm) _) ?_; rintro _ rfl; skip; simp only [Act.put, List.setIfInBounds_toArray, List.set_cons_zero, List.set_cons_succ])
    | (refine rel_plain (by rfl) rfl ?_; intro K hK; go_big_quiet_op; go_big_quiet_on)
    | (refine rel_skip (by rfl) ?_; simp only [Act.put, List.setIfInBounds_toArray, List.set_cons_zero, List.set_cons_succ]))
  refine Rel.wpRel_nil ?_
  intro x hz
  (try simp only [World.size_alloc, World.size_setCell, World.heap_drewN] at hz)
  go_wp2
  refine Rel.wp_region_rel SpecL (by kernel_rfl) (lexB_of_fast (by kernel_rfl) (by kernel_rfl)) ?_
  repeat (first
    | (refine rel_arith (by rfl) rfl (by rfl) rfl rfl ?_; intro b1 H1; simp only [Act.put, List.setIfInBounds_toArray, List.set_cons_zero, List.set_cons_succ])
    | (refine rel_call (f := 14) (args := #[.agg #[.float .f64 _, .float .f64 _, .float .f64 _, .float .f64 _]]) (by rfl) (callAt_func rfl Try.func14 (by kernel_rfl) (by kernel_rfl) rfl) (keeps_over (fun v h => h) fun x => q_walk _ _ _ _ _) ?_; rintro _ rfl; skip; simp only [Act.put, List.setIfInBounds_toArray, List.set_cons_zero, List.set_cons_succ])
    | (refine rel_call (f := 18) (args := #[.agg #[.float .f64 _, .float .f64 _, .float .f64 _, .float .f64 _]]) (by rfl) (callAt_func rfl Try.func18 (by kernel_rfl) (by kernel_rfl) rfl) (keeps_over (fun v h => h) fun x => size_walk _ _ _ _ _) ?_; rintro _ ⟨b, rfl, hb⟩; have H := Lib.hid hb; clear hb; simp only [Act.put, List.setIfInBounds_toArray, List.set_cons_zero, List.set_cons_succ])
    | (refine rel_call (f := 19) (args := #[.agg #[.float .f64 _, .float .f64 _, .float .f64 _, .float .f64 _]]) (by rfl) (callAt_func rfl Try.func19 (by kernel_rfl) (by kernel_rfl) rfl) (keeps_over (fun v h => h) fun x => sizeOf_walk _ _ _ _ _) ?_; rintro _ ⟨b, rfl, hb⟩; have J := Lib.hid hb; clear hb; simp only [Act.put, List.setIfInBounds_toArray, List.set_cons_zero, List.set_cons_succ])
    | (refine rel_call (f := 17) (args := #[.float .f64 _, .float .f64 _]) (by rfl) (callAt_func rfl Try.func17 (by kernel_rfl) (by kernel_rfl) rfl) (keepsD_over (fun v h => h) fun x => sameBits_walk _ _ (H.out.trans J.out.symm) _) ?_; rintro _ rfl; simp only [Act.put, List.setIfInBounds_toArray, List.set_cons_zero, List.set_cons_succ])
    | (refine rel_plain (by rfl) rfl ?_; intro K hK; go_big_quiet_op; go_big_quiet_on)
    | (refine rel_skip (by rfl) ?_; simp only [Act.put, List.setIfInBounds_toArray, List.set_cons_zero, List.set_cons_succ]))
  refine Rel.wpRel_nil ?_
  intro x hz
  (try simp only [World.size_alloc, World.size_setCell, World.heap_drewN] at hz)
  go_wp2
  refine Rel.wp_region_rel SpecL (by kernel_rfl) (lexB_of_fast (by kernel_rfl) (by kernel_rfl)) ?_
  repeat (first
    | (refine rel_arith (by rfl) rfl (by rfl) rfl rfl ?_; intro b1 H1; simp only [Act.put, List.setIfInBounds_toArray, List.set_cons_zero, List.set_cons_succ])
    | (refine rel_call (f := 14) (args := #[.agg #[.float .f64 _, .float .f64 _, .float .f64 _, .float .f64 _]]) (by rfl) (callAt_func rfl Try.func14 (by kernel_rfl) (by kernel_rfl) rfl) (keeps_over (fun v h => h) fun x => q_walk _ _ _ _ _) ?_; rintro _ rfl; skip; simp only [Act.put, List.setIfInBounds_toArray, List.set_cons_zero, List.set_cons_succ])
    | (refine rel_call (f := 20) (args := #[.agg #[.float .f64 _, .float .f64 _, .float .f64 _, .float .f64 _]]) (by rfl) (callAt_func rfl Try.func20 (by kernel_rfl) (by kernel_rfl) rfl) (keeps_over (fun v h => h) fun x => back_walk _ _ _ _ _) ?_; rintro _ rfl; skip; simp only [Act.put, List.setIfInBounds_toArray, List.set_cons_zero, List.set_cons_succ])
    | (refine rel_call (f := 13) (args := #[.agg #[.float .f64 _, .float .f64 _, .float .f64 _, .float .f64 _], .agg #[.float .f64 _, .float .f64 _, .float .f64 _, .float .f64 _]]) (by rfl) (callAt_func rfl Try.func13 (by kernel_rfl) (by kernel_rfl) rfl) (keeps_over (fun v h => h) fun x => sameQ_walk _ _ _ _ _ _ _ _ rfl rfl rfl rfl _) ?_; rintro _ rfl; skip; simp only [Act.put, List.setIfInBounds_toArray, List.set_cons_zero, List.set_cons_succ])
    | (refine rel_plain (by rfl) rfl ?_; intro K hK; go_big_quiet_op; go_big_quiet_on)
    | (refine rel_skip (by rfl) ?_; simp only [Act.put, List.setIfInBounds_toArray, List.set_cons_zero, List.set_cons_succ]))
  refine Rel.wpRel_nil ?_
  intro x hz
  (try simp only [World.size_alloc, World.size_setCell, World.heap_drewN] at hz)
  go_wp2_with (first
    | (go_at_call 14; refine (q_walk _ _ _ _ _).mono ?_; rintro e w1 ⟨v, rfl, rfl, hB⟩; obtain ⟨hc1, hf1, hz1⟩ := facts hB; have HB1 := Lib.hid hB; clear hB; (try simp only [World.size_alloc, World.size_setCell, World.heap_drewN] at hc1 hf1 hz1))
    | (go_at_call 21; refine (unit_walk _ _ _ _ _).mono ?_; rintro e w1 ⟨v, rfl, ⟨q, ⟨b1, b2, b3, b4, rfl, g1, g2, g3, g4⟩, rfl⟩, hB⟩; have G1 := Lib.hid g1; have G2 := Lib.hid g2; have G3 := Lib.hid g3; have G4 := Lib.hid g4; clear g1 g2 g3 g4; obtain ⟨hc1, hf1, hz1⟩ := facts hB; have HB1 := Lib.hid hB; clear hB; (try simp only [World.size_alloc, World.size_setCell, World.heap_drewN] at hc1 hf1 hz1))
    | (go_at_call 22; refine (unitOf_walk _ _ _ _ _).mono ?_; rintro e w1 ⟨v, rfl, ⟨q, ⟨c1, c2, c3, c4, rfl, k1, k2, k3, k4⟩, rfl⟩, hB⟩; have K1 := Lib.hid k1; have K2 := Lib.hid k2; have K3 := Lib.hid k3; have K4 := Lib.hid k4; clear k1 k2 k3 k4; obtain ⟨hc1, hf1, hz1⟩ := facts hB; have HB1 := Lib.hid hB; clear hB; (try simp only [World.size_alloc, World.size_setCell, World.heap_drewN] at hc1 hf1 hz1))
    | (go_at_call 13; refine (sameQ_walk _ _ _ _ _ _ _ _ (G1.out.trans K1.out.symm) (G2.out.trans K2.out.symm) (G3.out.trans K3.out.symm) (G4.out.trans K4.out.symm) _).mono ?_; rintro e w1 ⟨v, rfl, rfl, hB⟩; obtain ⟨hc1, hf1, hz1⟩ := facts hB; have HB1 := Lib.hid hB; clear hB; (try simp only [World.size_alloc, World.size_setCell, World.heap_drewN] at hc1 hf1 hz1)))
  go_ret
  refine Post.mk (T := fun v => v = _) (by simp) ?_
  repeat first
        | exact Grow.grow_refl _
        | refine Grow.grow_drewN ?_ _
        | refine Grow.grow_alloc ?_ _
        | refine Grow.grow_over ?_ _
        | refine Grow.grow_via (by assumption) ?_
        | refine Grow.grow_setCell ?_ (by omega) _
end Go.Proofs.Ytdnclgpjcgamgaa
