/- Lists of spans in memory; the night's copies of them; jobs in memory. -/
import Derived.Test.YtjjjbkehmnfgbaaDoorSen
import Derived.Test.YtjjjbkehmnfgbaaDoorNp3
import Derived.Test.YtjjjbkehmnfgbaaDoorRdc
import Derived.Test.YtjjjbkehmnfgbaaDoorKno
import Derived.OwnWalk
import Derived.LoopTactic
import Derived.Deep.LoopGhost
import Derived.Outline
import Derived.Test.YtjjjbkehmnfgbaaDoorOne
import Derived.Maps.AppendAt
import Derived.Laws.AppendOwn
import Derived.Laws.OwnMore
import Derived.StillTail
set_option linter.unusedSimpArgs false
set_option linter.unusedVariables false
namespace Go.Proofs.YtjjjbkehmnfgbaaDoor
open Go.RowKit Go.Grow

/-- Spans lie in w. -/
def SpAt (w : World) (r : Option Addr) (l : List (Int × Int)) : Prop := l = [] ∨ ∃ b o, r = some ⟨b, o, none⟩ ∧ ∀ k (h : k < l.length), w.cell? ⟨b, o + k * 2, none⟩ = some (.int .i64 l[k].1) ∧ w.cell? ⟨b, o + k * 2 + 1, none⟩ = some (.int .i64 l[k].2)
theorem lt_of_cellS {w : World} {p : Addr} {v : Value} (h : w.cell? p = some v) : p.block < w.heap.size := by
  rcases Nat.lt_or_ge p.block w.heap.size with h1 | h1
  · exact h1
  · unfold World.cell? at h
    rw [Array.getElem?_eq_none h1] at h
    simp at h
theorem SpAt.below {w w' : World} {r : Option Addr} {l : List (Int × Int)} (h : SpAt w r l) (hb : Below w.heap.size w w') : SpAt w' r l := by
  rcases h with h | ⟨b, o, rfl, hc⟩
  · exact .inl h
  · refine .inr ⟨b, o, rfl, fun k hk => ?_⟩
    obtain ⟨c0, c1⟩ := hc k hk
    have hl : b < w.heap.size := lt_of_cellS c0
    exact ⟨(hb.cell (p := ⟨b, o + k * 2, none⟩) hl).trans c0, (hb.cell (p := ⟨b, o + k * 2 + 1, none⟩) hl).trans c1⟩
theorem ownsRow_belowS {w w' : World} {base : Nat} {e : TypeId} {size : Nat} {v : Value} {n : Nat} {xs : List Value} (h : w.ownsRow base e size v n xs) (hb : Below w.heap.size w w') : w'.ownsRow base e size v n xs :=
  h.kept (row := none) ⟨hb.os, hb.tape, hb.output, hb.size, fun k hk _ => hb.block k hk⟩ (by
    cases hv : v.ownBlock with
    | none => exact .inl rfl
    | some k => exact .inr (by simp))
theorem below_grownS {base : Nat} {w w1 w2 : World} {row : Option Nat} (h : Below base w w1) (hb : base ≤ w1.heap.size) (g : w1.grownBy w2 row) (hr : ∀ k, row = some k → base ≤ k) : Below base w w2 :=
  h.trans ⟨g.os, g.tape, g.output, g.size, fun k hk => g.block k (Nat.lt_of_lt_of_le hk hb) (fun e => by have := hr k e.symm; omega)⟩
theorem owns_cellsS {w : World} {base : Nat} {e : TypeId} {size : Nat} {g n cap : Nat} {xs : List Value} (h : w.ownsRow base e size (.slice (some ⟨g, 0, none⟩) n cap) n xs) : ∀ j u, xs[j]? = some u → w.cell? ⟨g, j, none⟩ = some u := fun j u hu => by
  have := h.cells (g := g) rfl j u hu
  rwa [show (⟨g, 0, none⟩ : Addr).add j = ⟨g, j, none⟩ by unfold Addr.add; split <;> simp_all] at this
def spL (l : List (Int × Int)) : List Value := l.flatMap fun p => [.int .i64 p.1, .int .i64 p.2]
theorem spL_append (a b : List (Int × Int)) : spL (a ++ b) = spL a ++ spL b := by simp [spL]
theorem spL_length (l : List (Int × Int)) : (spL l).length = l.length * 2 := by
  induction l with
  | nil => rfl
  | cons x l ih =>
    rw [show spL (x :: l) = .int .i64 x.1 :: .int .i64 x.2 :: spL l from rfl]
    simp only [List.length_cons, ih]; omega
theorem spL_get : ∀ (l : List (Int × Int)) (k : Nat) (h : k < l.length), (spL l)[k * 2]? = some (.int .i64 l[k].1) ∧ (spL l)[k * 2 + 1]? = some (.int .i64 l[k].2)
  | [], k, h => absurd h (by simp)
  | x :: l, 0, h => ⟨rfl, rfl⟩
  | x :: l, k + 1, h => by
    have := spL_get l k (by simpa using h)
    rw [show spL (x :: l) = .int .i64 x.1 :: .int .i64 x.2 :: spL l from rfl, show (k + 1) * 2 = k * 2 + 1 + 1 by omega]
    simpa using this
theorem sp_cell (a b : Int) : ∀ u ∈ [Value.int .i64 a, Value.int .i64 b], u.oneCell' = true := fun u h => by simp at h; rcases h with rfl | rfl <;> rfl
theorem news_sp (w : World) (c : List Value) (t : TypeId) : ∀ j u, c[j]? = some u → (w.alloc (.cells c.toArray t)).cell? ((⟨w.heap.size, 0, none⟩ : Addr).add j) = some u := fun j u h => by
  have K := Known.new w c.toArray t
  rw [show (⟨w.heap.size, 0, none⟩ : Addr).add j = ⟨w.heap.size, j, none⟩ by unfold Addr.add; split <;> simp_all, K.cell j]
  simpa using h
/-- A row of spans of the call's own, read. -/
theorem sp_of_owns {w : World} {base n : Nat} {v : Value} {l : List (Int × Int)} {e : TypeId} (h : w.ownsRow base e 2 v n (spL l)) : ∃ r cap, v = .slice r l.length cap ∧ SpAt w r l := by
  have hlen : n = l.length := by have := h.1; rw [spL_length] at this; omega
  subst hlen
  obtain ⟨hl, ⟨hv, hn⟩ | ⟨g, cap, cur, hv, hg⟩⟩ := h
  · exact ⟨none, 0, by rw [hv, hn], .inl (List.length_eq_zero_iff.1 hn)⟩
  · subst hv
    have hc := owns_cellsS (w := w) (base := base) (e := e) (size := 2) (g := g) (n := l.length) (cap := cap) (xs := spL l) ⟨hl, .inr ⟨g, cap, cur, rfl, hg⟩⟩
    refine ⟨some ⟨g, 0, none⟩, cap, rfl, .inr ⟨g, 0, rfl, fun k hk => ?_⟩⟩
    obtain ⟨h0, h1⟩ := spL_get l k hk
    rw [Nat.zero_add]
    exact ⟨hc _ _ h0, hc _ _ h1⟩
def SpPost (w : World) (l : List (Int × Int)) (e : Ending) (w' : World) : Prop := ∃ r c, e = .returned (.slice r l.length c) ∧ SpAt w' r l ∧ Below w.heap.size w w'
def CopyRel (t : TypeId) (w : World) (l : List (Int × Int)) (v3 v4 : Value) (wr : World) : Prop :=
  ∃ k : Nat, k ≤ l.length ∧ v4 = .int .i64 k ∧ wr.ownsRow w.heap.size t 2 v3 k (spL (l.take k)) ∧ Below w.heap.size w wr
theorem take_snocS (l : List (Int × Int)) (k : Nat) (h : k < l.length) : l.take (k + 1) = l.take k ++ [l[k]] := by
  rw [List.take_succ_eq_append_getElem h]
theorem info_spans : (Tryd.prog.info? 92).map (fun i => (i.zero, i.size, i.bytes)) = some (some (.agg #[.int .i64 0, .int .i64 0]), 2, 16) := by kernel_rfl
set_option maxRecDepth 100000 in
set_option maxHeartbeats 8000000 in
theorem spans_walk (r : Option Addr) (l : List (Int × Int)) (cap : Nat) (w : World) (hl : l.length * 16 ≤ 140737488355328) (hr : SpAt w r l) :
    Calls Tryd.prog 41 #[.slice r l.length cap] w fun e w' => ∃ v, e = .returned v ∧ w'.ownsRow w.heap.size 92 2 v l.length (spL l) ∧ Below w.heap.size w w' := by
  obtain ⟨i0, hi, hz0, hz1, hz2⟩ := info_parts info_spans
  have HI := Lib.hid hi
  have HZ0 := Lib.hid hz0
  have HZ1 := Lib.hid hz1
  have HZ2 := Lib.hid hz2
  have HR := Lib.hid hr
  clear hr hi hz0 hz1 hz2
  go_enter Tryd.func41, Tryd.ntmps41
  go_wp2
  go_loopw [3, 4] (fun v3 v4 wr => CopyRel 92 w l v3 v4 wr) (fun _ i _ => l.length - (intOf i).toNat)
  case atStart => exact ⟨0, Nat.zero_le _, rfl, World.ownsRow_nil _ _ _ _, Below.refl _ _⟩
  case round =>
    obtain ⟨k, hk, rfl, hown, hg⟩ := hrel
    have O := Lib.hid hown
    have G := Lib.hid hg
    clear hown hg
    have hz := G.out.size
    by_cases hlt : k < l.length
    · obtain ⟨b1, o1, rfl, hc⟩ := HR.out.resolve_left (by intro h; rw [h] at hlt; exact absurd hlt (by simp))
      obtain ⟨e0, e1⟩ := hc k hlt
      have hb1 : b1 < w.heap.size := lt_of_cellS e0
      rw [← G.out.cell (p := ⟨b1, _, none⟩) hb1] at e0 e1
      have TS := Lib.hid (take_snocS l k hlt)
      clear hc
      generalize l[k] = x at e0 e1 TS
      obtain ⟨xa, xb⟩ := x
      simp only at e0 e1
      have hb1' : b1 < wr.heap.size := Nat.lt_of_lt_of_le hb1 hz
      have hi0 : (0 : Int) ≤ (k : Int) := by omega
      have hi1 : (k : Int) < (l.length : Int) := by omega
      go_wp2
      refine Grow.wp_region_reads1 [0, 1, 2, 3, 4, 6, 7, 8, 9] [5, 10] [11, 12, 13, 14] (by kernel_rfl) (by kernel_rfl) (by kernel_rfl) (by kernel_rfl) (by kernel_rfl) (by kernel_rfl) ?_ ?_
      · intro c aa d v ww h
        simp (config := {zetaDelta := true}) only [Exit.then, Exit.inBlock] at h ⊢
        exact Grow.bodyPost_blind h
      simp only [Grow.pick, List.getElem?_cons_zero, List.getElem?_cons_succ, List.cons_append, List.nil_append]
      repeat (go_big_quiet_step (fail))
      refine wpQuiet_nil ?_
      repeat (go_big_quiet_step (fail))
      refine wpQuiet_nil ?_
      have OX := Lib.hid (ownsRow_belowS O.out (grow_drew (grow_refl wr)))
      have GX := Lib.hid (Below.drew G.out)
      clear O G e0 e1
      generalize wr.drew = w4 at OX GX ⊢
      have hz4 := GX.out.size
      have C3 := Lib.hid (show k + 1 ≤ maxLen by unfold maxLen; omega)
      have C4 := Lib.hid (show (k + 1) * 16 ≤ 140737488355328 by omega)
      have C5 := Lib.hid (show w.heap.size ≤ (w4.alloc (.cells #[Value.int .i64 xa, Value.int .i64 xb] 92)).heap.size by simp; omega)
      go_wp2_with (at_builtin; refine wpList_append_own _ rfl _ _ 93 rfl w.heap.size 92 i0 (.agg #[.int .i64 0, .int .i64 0]) 2 16 Tryd.underlying93 HI.out HZ0.out HZ1.out HZ2.out rfl (by decide) _ _ _ rfl (OX.out.alloc _) ⟨w4.heap.size, 0, none⟩ 1 1 [.int .i64 xa, .int .i64 xb] rfl rfl (news_sp _ _ _) (sp_cell _ _) C3.out C4.out C5.out ?_)
      intro v' w1 hown' hg' _
      have HO2 := Lib.hid hown'
      have HG2 := Lib.hid hg'
      clear hown' hg'
      go_wp2
      go_roundw
      case rel =>
        refine ⟨k + 1, by omega, by go_num, ?_, below_grownS (GX.out.alloc hz4 _) (by simp; omega) HG2.out (fun k hk => (OX.out.lt k hk).1)⟩
        rw [TS.out, spL_append]
        exact HO2.out
      case measure => simp [intOf]; omega
    · obtain rfl : k = l.length := by omega
      rw [List.take_length] at O
      obtain ⟨r', c', hv, hx⟩ := sp_of_owns O.out
      subst hv
      go_wp2
      go_ret
      exact ⟨_, rfl, O.out, G.out⟩
theorem ownsRow_grown {w w' : World} {base e1 e2 s1 s2 n1 n2 : Nat} {v1 v2 : Value} {xs1 xs2 : List Value} (he : e1 ≠ e2) (h1 : w.ownsRow base e1 s1 v1 n1 xs1) (h2 : w.ownsRow base e2 s2 v2 n2 xs2) (g : w.grownBy w' v1.ownBlock) : w'.ownsRow base e2 s2 v2 n2 xs2 := by
  obtain ⟨hl, ⟨hv, hn⟩ | ⟨g2, cap, cur, hv, hb, hh, hr⟩⟩ := h2
  · exact ⟨hl, .inl ⟨hv, hn⟩⟩
  · refine ⟨hl, .inr ⟨g2, cap, cur, hv, hb, ?_, hr⟩⟩
    rw [g.block g2 (Array.getElem?_eq_some_iff.1 hh).1, hh]
    obtain ⟨_, ⟨hv1, _⟩ | ⟨g1, cap1, cur1, hv1, _, hh1, _⟩⟩ := h1
    · rw [hv1]; simp [Value.ownBlock]
    · rw [hv1]
      simp only [Value.ownBlock, ne_eq, Option.some.injEq]
      intro e
      rw [e, hh1] at hh
      injection hh with hh
      injection hh with _ hh
      exact he hh

open Go.Night
/-- A job lies at o. -/
def JobAt (w : World) (b o : Nat) (j : Jb) : Prop := ∃ r cap, w.cell? ⟨b, o, none⟩ = some (.string j.name) ∧ w.cell? ⟨b, o + 1, none⟩ = some (.slice r j.win.length cap) ∧ w.cell? ⟨b, o + 2, none⟩ = some (.int .i64 j.long) ∧ w.cell? ⟨b, o + 3, none⟩ = some (.int .i64 j.worth) ∧ SpAt w r j.win
def JobsAt (w : World) (r : Option Addr) (l : List Jb) : Prop := l = [] ∨ ∃ b o, r = some ⟨b, o, none⟩ ∧ ∀ k, k < l.length → JobAt w b (o + k * 4) (at_ l k)
theorem JobAt.below {w w' : World} {b o : Nat} {j : Jb} (h : JobAt w b o j) (hb : Below w.heap.size w w') : JobAt w' b o j := by
  obtain ⟨r, cap, h0, h1, h2, h3, h4⟩ := h
  have hl : b < w.heap.size := lt_of_cellS h0
  exact ⟨r, cap, (hb.cell (p := ⟨b, _, none⟩) hl).trans h0, (hb.cell (p := ⟨b, _, none⟩) hl).trans h1, (hb.cell (p := ⟨b, _, none⟩) hl).trans h2, (hb.cell (p := ⟨b, _, none⟩) hl).trans h3, h4.below hb⟩
theorem JobsAt.below {w w' : World} {r : Option Addr} {l : List Jb} (h : JobsAt w r l) (hb : Below w.heap.size w w') : JobsAt w' r l := by
  rcases h with h | ⟨b, o, rfl, hc⟩
  · exact .inl h
  · exact .inr ⟨b, o, rfl, fun k hk => (hc k hk).below hb⟩
theorem at_get {l : List Jb} {k : Nat} (h : k < l.length) : at_ l k = l[k] := by unfold at_; simp [h]
def jbC (j : Jb) (v : Value) : List Value := [.string j.name, v, .int .i64 j.long, .int .i64 j.worth]
def jbL : List Jb → List Value → List Value
  | j :: l, v :: V => jbC j v ++ jbL l V
  | _, _ => []
theorem jbL_length : ∀ (l : List Jb) (V : List Value), V.length = l.length → (jbL l V).length = l.length * 4
  | [], _, _ => by simp [jbL]
  | j :: l, [], h => by simp at h
  | j :: l, v :: V, h => by
    have := jbL_length l V (by simpa using h)
    simp only [jbL, jbC, List.length_append, List.length_cons, List.length_nil, this]; omega
theorem jbL_snoc : ∀ (l : List Jb) (V : List Value) (j : Jb) (v : Value), V.length = l.length → jbL (l ++ [j]) (V ++ [v]) = jbL l V ++ jbC j v
  | [], [], j, v, _ => by simp [jbL]
  | [], v :: V, _, _, h => by simp at h
  | _ :: _, [], _, _, h => by simp at h
  | a :: l, u :: V, j, v, h => by
    simp only [List.cons_append, jbL]
    rw [jbL_snoc l V j v (by simpa using h), List.append_assoc]
theorem jbL_get : ∀ (l : List Jb) (V : List Value) (k : Nat) (h : k < l.length) (hV : V.length = l.length), (jbL l V)[k * 4]? = some (.string (at_ l k).name) ∧ (jbL l V)[k * 4 + 1]? = some (V[k]'(by omega)) ∧ (jbL l V)[k * 4 + 2]? = some (.int .i64 (at_ l k).long) ∧ (jbL l V)[k * 4 + 3]? = some (.int .i64 (at_ l k).worth)
  | [], _, k, h, _ => absurd h (by simp)
  | _ :: _, [], _, _, h => by simp at h
  | j :: l, v :: V, 0, h, _ => ⟨rfl, rfl, rfl, rfl⟩
  | j :: l, v :: V, k + 1, h, hV => by
    have := jbL_get l V k (by simpa using h) (by simpa using hV)
    rw [show jbL (j :: l) (v :: V) = jbC j v ++ jbL l V from rfl, show (k + 1) * 4 = 4 + k * 4 by omega]
    rw [show at_ (j :: l) (k + 1) = at_ l k by unfold at_; simp]
    have e : ∀ i, (jbC j v ++ jbL l V)[4 + i]? = (jbL l V)[i]? := fun i => by
      rw [List.getElem?_append_right (by simp [jbC])]; simp [jbC]
    simp only [List.getElem_cons_succ]
    rw [Nat.add_assoc, Nat.add_assoc, Nat.add_assoc, e, e, e, e]
    exact this
/-- The own rows of spans of the jobs so far. -/
def Wins (w : World) (base : Nat) (t : TypeId) (l : List Jb) (V : List Value) : Prop := V.length = l.length ∧ ∀ k (h : k < l.length) (hV : k < V.length), w.ownsRow base t 2 V[k] l[k].win.length (spL l[k].win)
theorem Wins.below {w w' : World} {base : Nat} {t : TypeId} {l : List Jb} {V : List Value} (h : Wins w base t l V) (hb : Below w.heap.size w w') : Wins w' base t l V :=
  ⟨h.1, fun k hk hV => ownsRow_belowS (h.2 k hk hV) hb⟩
theorem Wins.snoc {w : World} {base : Nat} {t : TypeId} {l : List Jb} {V : List Value} {j : Jb} {v : Value} (h : Wins w base t l V) (hv : w.ownsRow base t 2 v j.win.length (spL j.win)) : Wins w base t (l ++ [j]) (V ++ [v]) := by
  refine ⟨by simp [h.1], fun k hk hV => ?_⟩
  rcases Nat.lt_or_ge k l.length with c | c
  · have hV2 : k < V.length := by rw [h.1]; exact c
    have e1 : (V ++ [v])[k] = V[k] := by simp [hV2]
    have e2 : (l ++ [j])[k] = l[k] := by simp [c]
    rw [e1, e2]; exact h.2 k c hV2
  · obtain rfl : k = l.length := by simp at hk; omega
    have e1 : (V ++ [v])[l.length] = v := by simp [← h.1]
    have e2 : (l ++ [j])[l.length] = j := by simp
    rw [e1, e2]; exact hv
theorem Wins.grown {w w' : World} {base e1 t s1 n1 : Nat} {v1 : Value} {xs1 : List Value} {l : List Jb} {V : List Value} (he : e1 ≠ t) (h1 : w.ownsRow base e1 s1 v1 n1 xs1) (h2 : Wins w base t l V) (g : w.grownBy w' v1.ownBlock) : Wins w' base t l V :=
  ⟨h2.1, fun k hk hV => ownsRow_grown he h1 (h2.2 k hk hV) g⟩
theorem ownsRow_base {w : World} {b0 base : Nat} {e : TypeId} {size : Nat} {v : Value} {n : Nat} {xs : List Value} (h : w.ownsRow base e size v n xs) (hb : b0 ≤ base) : w.ownsRow b0 e size v n xs := by
  obtain ⟨hl, ⟨hv, hn⟩ | ⟨g2, cap, cur, hv, hb2, hh, hr⟩⟩ := h
  · exact ⟨hl, .inl ⟨hv, hn⟩⟩
  · exact ⟨hl, .inr ⟨g2, cap, cur, hv, Nat.le_trans hb hb2, hh, hr⟩⟩
theorem jobs_of_owns {w : World} {base n : Nat} {v : Value} {l : List Jb} {V : List Value} {e t : TypeId} (h : w.ownsRow base e 4 v n (jbL l V)) (hw : Wins w base t l V) : ∃ r cap, v = .slice r l.length cap ∧ l.length ≤ cap ∧ JobsAt w r l := by
  have hlen : n = l.length := by have := h.1; rw [jbL_length l V hw.1] at this; omega
  subst hlen
  obtain ⟨hl, ⟨hv, hn⟩ | ⟨g, cap, cur, hv, hg⟩⟩ := h
  · exact ⟨none, 0, by rw [hv, hn], Nat.le_of_eq hn, .inl (List.length_eq_zero_iff.1 hn)⟩
  · subst hv
    have hc := owns_cellsS (w := w) (base := base) (e := e) (size := 4) (g := g) (n := l.length) (cap := cap) (xs := jbL l V) ⟨hl, .inr ⟨g, cap, cur, rfl, hg⟩⟩
    refine ⟨some ⟨g, 0, none⟩, cap, rfl, hg.2.2.1, .inr ⟨g, 0, rfl, fun k hk => ?_⟩⟩
    obtain ⟨h0, h1, h2, h3⟩ := jbL_get l V k hk hw.1
    rw [Nat.zero_add]
    have hwk := hw.2 k hk (by rw [hw.1]; exact hk)
    have eg : l[k] = at_ l k := (at_get hk).symm
    rw [eg] at hwk
    obtain ⟨r, c, hv, hs⟩ := sp_of_owns hwk
    rw [hv] at h1
    exact ⟨r, c, hc _ _ h0, hc _ _ h1, hc _ _ h2, hc _ _ h3, hs⟩

def JobsPost (w : World) (l : List Jb) (e : Ending) (w' : World) : Prop := ∃ r c, e = .returned (.slice r l.length c) ∧ l.length ≤ c ∧ JobsAt w' r l ∧ Below w.heap.size w w'
def JobsRel (w : World) (l : List Jb) (v3 v4 : Value) (wr : World) : Prop :=
  ∃ (k : Nat) (V : List Value), k ≤ l.length ∧ v4 = .int .i64 k ∧ wr.ownsRow w.heap.size 95 4 v3 k (jbL (l.take k) V) ∧ Wins wr w.heap.size 92 (l.take k) V ∧ Below w.heap.size w wr
theorem info_job : (Tryd.prog.info? 95).map (fun i => (i.zero, i.size, i.bytes)) = some (some (.agg #[.string .empty, .slice none 0 0, .int .i64 0, .int .i64 0]), 4, 56) := by kernel_rfl
theorem take_snocJ (l : List Jb) (k : Nat) (h : k < l.length) : l.take (k + 1) = l.take k ++ [at_ l k] := by
  rw [List.take_succ_eq_append_getElem h, at_get h]
theorem jb_cell (j : Jb) (r : Option Addr) (n c : Nat) : ∀ u ∈ [Value.string j.name, .slice r n c, .int .i64 j.long, .int .i64 j.worth], u.oneCell' = true := fun u h => by simp at h; rcases h with rfl | rfl | rfl | rfl <;> rfl
set_option maxRecDepth 100000 in
set_option maxHeartbeats 8000000 in
theorem jobs_walk (r : Option Addr) (l : List Jb) (cap : Nat) (w : World) (hl : l.length ≤ 1000000) (hw : ∀ j ∈ l, j.win.length ≤ 1000000) (hr : JobsAt w r l) :
    Calls Tryd.prog 10 #[.slice r l.length cap] w (JobsPost w l) := by
  obtain ⟨i0, hi, hz0, hz1, hz2⟩ := info_parts info_job
  have HI := Lib.hid hi
  have HZ0 := Lib.hid hz0
  have HZ1 := Lib.hid hz1
  have HZ2 := Lib.hid hz2
  have HR := Lib.hid hr
  have HW := Lib.hid hw
  clear hr hi hz0 hz1 hz2 hw
  go_enter Tryd.func10, Tryd.ntmps10
  go_wp2
  go_loopw [3, 4] (fun v3 v4 wr => JobsRel w l v3 v4 wr) (fun _ i _ => l.length - (intOf i).toNat)
  case atStart => exact ⟨0, [], Nat.zero_le _, rfl, World.ownsRow_nil _ _ _ _, ⟨rfl, fun k hk => absurd hk (by simp)⟩, Below.refl _ _⟩
  case round =>
    obtain ⟨k, V, hk, rfl, hown, hwin, hg⟩ := hrel
    have O := Lib.hid hown
    have VW := Lib.hid hwin
    have G := Lib.hid hg
    clear hown hg hwin
    have hz := G.out.size
    by_cases hlt : k < l.length
    · obtain ⟨b1, o1, rfl, hc⟩ := HR.out.resolve_left (by intro h; rw [h] at hlt; exact absurd hlt (by simp))
      obtain ⟨rs, cs, e0, e1, e2, e3, hsp⟩ := hc k hlt
      have hb1 : b1 < w.heap.size := lt_of_cellS e0
      have TS := Lib.hid (take_snocJ l k hlt)
      have hwk := HW.out _ (at_mem hlt)
      have SPW := Lib.hid (fun X (hX : Below w.heap.size w X) => spans_walk rs (at_ l k).win cs X (by omega) (hsp.below hX))
      clear hc hsp
      generalize at_ l k = x at e0 e1 e2 e3 TS hwk SPW
      obtain ⟨nm, wn, lg, wt⟩ := x
      simp only at e0 e1 e2 e3 hwk SPW
      have hb1' : b1 < wr.heap.size := Nat.lt_of_lt_of_le hb1 hz
      have hi0 : (0 : Int) ≤ (k : Int) := by omega
      have hi1 : (k : Int) < (l.length : Int) := by omega
      go_wp2
      refine Grow.wp_region_calls G.out [0, 1, 2, 3, 4, 6, 7, 8, 9, 12, 13, 14, 15, 17, 18, 19, 20] [5, 10, 16, 21] [11, 22, 23, 24, 25] (by kernel_rfl) (by kernel_rfl) (by kernel_rfl) (by kernel_rfl) (by kernel_rfl) (by kernel_rfl) ?_ ?_
      · intro c aa d v ww h
        simp (config := {zetaDelta := true}) only [Exit.then, Exit.inBlock] at h ⊢
        exact Grow.bodyPost_blind h
      simp only [Grow.pick, List.getElem?_cons_zero, List.getElem?_cons_succ, List.cons_append, List.nil_append]
      repeat (go_big_quiet_step (fail))
      refine wpQuiet_nil ?_
      repeat (go_big_quiet_step (fail))
      refine wpQuiet_nil ?_
      have OX := Lib.hid (ownsRow_belowS O.out (grow_drew (grow_refl wr)))
      have VW2 := Lib.hid VW.out.1
      have WX := Lib.hid (VW.out.below (grow_drew (grow_refl wr)))
      have GX := Lib.hid (Below.drew G.out)
      clear O VW G e0 e1 e2 e3
      generalize wr.drew = w4 at OX WX GX ⊢
      have hz4 := GX.out.size
      unfold seqC
      go_wp2_with (go_at_call 41; (with_reducible refine (SPW.out _ GX.out).mono ?_); rintro e w5 ⟨v5, rfl, hv5, hB5⟩; have HV5 := Lib.hid hv5; have HB5 := Lib.hid hB5; clear hv5 hB5)
      obtain ⟨r5, c5, hv5, _⟩ := sp_of_owns HV5.out
      subst hv5
      have G5 := Lib.hid (GX.out.trans (HB5.out.mono hz4))
      have O5 := Lib.hid (ownsRow_belowS OX.out HB5.out)
      have W5 := Lib.hid (WX.out.below HB5.out)
      have S5 := Lib.hid (ownsRow_base HV5.out hz4)
      clear OX WX GX HV5 HB5 hz4
      refine ⟨G5.out, ?_⟩
      unfold seqC
      go_wp2
      refine ⟨G5.out, ?_⟩
      unfold seqC
      go_wp2
      have hz5 := G5.out.size
      refine ⟨G5.out.alloc hz5 _, ?_⟩
      unfold seqC
      have C3 := Lib.hid (show k + 1 ≤ maxLen by unfold maxLen; omega)
      have C4 := Lib.hid (show (k + 1) * 56 ≤ 140737488355328 by omega)
      have C5 := Lib.hid (show w.heap.size ≤ (w5.alloc (.cells #[Value.string nm, .slice r5 wn.length c5, .int .i64 lg, .int .i64 wt] 95)).heap.size by simp; omega)
      go_wp2_with (at_builtin; refine wpList_append_own _ rfl _ _ 30 rfl w.heap.size 95 i0 (.agg #[.string .empty, .slice none 0 0, .int .i64 0, .int .i64 0]) 4 56 Tryd.underlying30 HI.out HZ0.out HZ1.out HZ2.out rfl (by decide) _ _ _ rfl (O5.out.alloc _) ⟨w5.heap.size, 0, none⟩ 1 1 [.string nm, .slice r5 wn.length c5, .int .i64 lg, .int .i64 wt] rfl rfl (news_sp _ _ _) (jb_cell ⟨nm, wn, lg, wt⟩ r5 wn.length c5) C3.out C4.out C5.out ?_)
      intro v' w1 hown' hg' _
      have HO2 := Lib.hid hown'
      have HG2 := Lib.hid hg'
      have G6 := Lib.hid (below_grownS (G5.out.alloc hz5 _) (by simp; omega) HG2.out (fun k hk => (O5.out.lt k hk).1))
      have W6 := Lib.hid ((W5.out.below (grow_alloc (grow_refl w5) _)).grown (by decide) (ownsRow_belowS O5.out (grow_alloc (grow_refl w5) _)) HG2.out)
      clear hown' hg'
      go_wp2
      refine ⟨G6.out, ?_⟩
      unfold seqC
      go_wp2
      refine ⟨G6.out, ?_⟩
      unfold seqC
      go_wp2
      go_roundw
      case rel =>
        refine ⟨k + 1, V ++ [.slice r5 wn.length c5], by omega, by go_num, ?_, ?_, G6.out⟩
        · rw [TS.out, jbL_snoc _ _ _ _ VW2.out]
          exact HO2.out
        · rw [TS.out]
          exact W6.out.snoc (ownsRow_grown (by decide) (ownsRow_belowS O5.out (grow_alloc (grow_refl w5) _)) (ownsRow_belowS S5.out (grow_alloc (grow_refl w5) _)) HG2.out)
      case measure => simp [intOf]; omega
    · obtain rfl : k = l.length := by omega
      rw [List.take_length] at O VW
      obtain ⟨r', c', hv, hcap, hx⟩ := jobs_of_owns O.out VW.out
      subst hv
      go_wp2
      go_ret
      exact ⟨r', c', rfl, hcap, hx, G.out⟩
end Go.Proofs.YtjjjbkehmnfgbaaDoor
