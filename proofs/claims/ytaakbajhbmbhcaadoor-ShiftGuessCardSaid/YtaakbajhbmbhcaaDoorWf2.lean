/- A region whose order is open: what looks at no world first, then each order of the rest. Nothing of a program stands here. -/
import Derived.Test.YtaakbajhbmbhcaaDoorOne
import Derived.Test.YtaakbajhbmbhcaaDoorWf1
import Derived.Test.YtaakbajhbmbhcaaDoorWv8
import Derived.Maps.AppendAt
import Derived.Deep.DeepCutAuto
import Derived.Deep.CutBlock
set_option linter.unusedSimpArgs false
set_option linter.unusedVariables false
namespace Go.Grow
open Go Go.RowKit
section
variable {P : Program} {ops : Array Oper} {md : Region.Mode} {Q : Exit → Act → World → Prop}
/-- Operations that yield a value, if anything. -/
def valB : Op → Bool
  | .load _ _ => true
  | o => pureB o
theorem val_exec {o : Oper} (hk : valB o.op = true) (ρ : Operand → Value) {w w' : World} {n : Next} (h : (execOp ρ o).run P w = .ok n w') : ∃ u, n = .value u := by
  cases ho : o.op with
  | load t x => exact (keep_exec (o := o) (by rw [ho]; rfl) ρ h).1
  | _ => exact pure_value (o := o) (by rw [ho] at hk ⊢; exact hk) h
theorem wpOp_and {i : Nat} {oi : Oper} (hi : ops[i]? = some oi) (hv : valB oi.op = true) {K1 K2 : Act → World → Prop} {a : Act} {w : World} (h1 : wpOp P ops Q i K1 a w) (h2 : wpOp P ops Q i K2 a w) :
    wpOp P ops Q i (fun a' w' => K1 a' w' ∧ K2 a' w') a w := by
  unfold wpOp at *
  simp only [hi] at *
  split
  · rename_i hw
    rw [if_pos hw] at h1 h2
    rcases h1 with h1 | h1
    · rcases h2 with h2 | h2
      · refine .inl ?_
        unfold Oper.wp at *
        cases hr : (execOp a.eval oi).run P w with
        | ok n w' =>
          obtain ⟨u, rfl⟩ := val_exec hv _ hr
          rw [hr] at h1 h2
          exact ⟨h1, h2⟩
        | halt x w' =>
          rw [hr] at h1 h2
          cases x <;> first | exact h1 | exact h1.elim
      · exact .inr h2
    · exact .inr h1
  · rename_i hw
    rw [if_neg hw] at h1 h2
    exact ⟨h1, h2⟩
theorem wpOp_list {i : Nat} {oi : Oper} {α : Type} (hi : ops[i]? = some oi) (hv : valB oi.op = true) {a : Act} {w : World} {K : α → Act → World → Prop} : ∀ (x : α) (L : List α), (∀ t ∈ x :: L, wpOp P ops Q i (K t) a w) →
    wpOp P ops Q i (fun a' w' => ∀ t ∈ x :: L, K t a' w') a w
  | x, [], h => wpOp_mono (fun a' w' hh t ht => by rw [List.mem_singleton] at ht; exact ht ▸ hh) (h x (List.mem_singleton.2 rfl))
  | x, y :: L, h => wpOp_mono (fun a' w' hh t ht => by
      rcases List.mem_cons.1 ht with e | ht
      · exact e ▸ hh.1
      · exact hh.2 t ht) (wpOp_and hi hv (h x (List.mem_cons_self ..)) (wpOp_list hi hv y L fun t ht => h t (List.mem_cons_of_mem _ ht)))
/-- All orders. -/
def orders (md : Region.Mode) (ops : Array Oper) : Nat → Array Bool → List (List Nat)
  | 0, _ => [[]]
  | n + 1, listed => (Region.ready md ops listed).flatMap fun i => (orders md ops n (listed.setIfInBounds i true)).map (i :: ·)
def fullB (md : Region.Mode) (ops : Array Oper) : Nat → Array Bool → Bool
  | 0, listed => (Region.ready md ops listed).isEmpty
  | n + 1, listed => !(Region.ready md ops listed).isEmpty && (Region.ready md ops listed).all fun i => (match ops[i]? with | some o => valB o.op || decide ((orders md ops n (listed.setIfInBounds i true)).length = 1) | none => false) && fullB md ops n (listed.setIfInBounds i true)
theorem orders_ne : ∀ (n : Nat) (listed : Array Bool), fullB md ops n listed = true → orders md ops n listed ≠ []
  | 0, _, _ => by simp [orders]
  | n + 1, listed, h => by
    simp only [fullB, Bool.and_eq_true, List.all_eq_true] at h
    obtain ⟨h1, h2⟩ := h
    cases hr : Region.ready md ops listed with
    | nil => rw [hr] at h1; simp at h1
    | cons i L =>
      have h3 := h2 i (by rw [hr]; exact List.mem_cons_self ..)
      have h4 := orders_ne n _ h3.2
      simp only [orders, hr, List.flatMap_cons, ne_eq, List.append_eq_nil_iff, List.map_eq_nil_iff]
      exact fun e => h4 e.1
theorem wpAny_orders {l : List Oper} (hl : ∀ i : Nat, l[i]? = ops[i]?) : ∀ (n : Nat) (listed : Array Bool) (a : Act) (w : World), fullB md ops n listed = true → (∀ t ∈ orders md ops n listed, wpList P ops Q (pick l t) a w) → wpAny P md ops Q n listed a w
  | 0, listed, a, w, hB, h => ⟨by simpa [fullB] using hB, h [] (by simp [orders])⟩
  | n + 1, listed, a, w, hB, h => by
    have hB0 := hB
    simp only [fullB, Bool.and_eq_true, List.all_eq_true] at hB
    obtain ⟨h1, h2⟩ := hB
    refine ⟨fun e => by rw [e] at h1; simp at h1, fun j hj => ?_⟩
    obtain ⟨h3, h4⟩ := h2 j hj
    cases ho : ops[j]? with
    | none => rw [ho] at h3; cases h3
    | some o =>
      rw [ho] at h3
      have each : ∀ t ∈ orders md ops n (listed.setIfInBounds j true), wpOp P ops Q j (wpList P ops Q (pick l t)) a w := fun t ht => by
        have := h (j :: t) (List.mem_flatMap.2 ⟨j, hj, List.mem_map.2 ⟨t, ht, rfl⟩⟩)
        rw [show pick l (j :: t) = o :: pick l t by simp [pick, hl j, ho]] at this
        unfold wpOp
        simp only [ho]
        exact this
      have hne := orders_ne n _ h4
      refine wpOp_mono (fun a' w' hh => wpAny_orders hl n _ a' w' h4 hh) ?_
      cases hL : orders md ops n (listed.setIfInBounds j true) with
      | nil => exact absurd hL hne
      | cons x L =>
        rw [hL] at each h3
        simp only [Bool.or_eq_true, decide_eq_true_eq, List.length_cons] at h3
        rcases h3 with h3 | h3
        · exact wpOp_list (K := fun t => wpList P ops Q (pick l t)) ho h3 x L each
        · have hn : L = [] := List.length_eq_zero_iff.1 (by omega)
          subst hn
          exact wpOp_mono (fun a' w' hh t ht => by rw [List.mem_singleton] at ht; exact ht ▸ hh) (each x (List.mem_singleton.2 rfl))
theorem wp_region_orders {id : Nat} {a : Act} {w : World} {l : List Oper} (head : List Nat) (n : Nat) (T : List (List Nat)) (hm : P.follows .mixedOrders = true)
    (hsel : Region.noSelect l.toArray = true) (hlen : (Nat.beq (head.length + n) l.length) = true)
    (hB : headB .any l.toArray head (Array.replicate l.length false) = true) (hF : fullB .any l.toArray n (marked (Array.replicate l.length false) head) = true)
    (hT : decide (orders .any l.toArray n (marked (Array.replicate l.length false) head) = T) = true)
    (hQ : ∀ c a d v w, Q (.panic c) (Act.put a d v) w → Q (.panic c) a w)
    (h : wpQuiet P l.toArray (fun _ => True) (fun a' => ∀ t ∈ T, wpList P l.toArray Q (pick l t) a' w.drew) (pick l head) a) : (Code.region id l.toArray true).wp P Q a w := by
  refine wp_region_any hm ?_
  have hl : ∀ i : Nat, l[i]? = l.toArray[i]? := fun i => by simp
  have e : l.toArray.size = head.length + n := by have := Nat.eq_of_beq_eq_true hlen; simp; omega
  rw [show Array.replicate l.toArray.size false = Array.replicate l.length false by rw [List.size_toArray], e]
  exact wpAny_head hl hsel hQ head _ a hB h fun a' ha => wpAny_orders hl n _ a' _ hF (by rw [of_decide_eq_true hT]; exact ha)
end
end Go.Grow
/- Waves by halves: plain; a copy of one; the parting of a row. -/
set_option linter.unusedSimpArgs false
set_option linter.unusedVariables false
namespace Go.Proofs.YtaakbajhbmbhcaaDoor
open Go.RowKit Go.Fl Go.Grow Go.Tr

def angH (n k : Nat) : Nat := 1296000000000 * k / n
/-- Waves of a row of 2^m, by halves. -/
def fastZ (back : Bool) : Nat → (Nat → C2) → Nat → C2
  | 0, X => X
  | m + 1, X => fun k =>
    if k < 2 ^ m then cadd (fastZ back m (fun i => X (2 * i)) k) (cmul (fastZ back m (fun i => X (2 * i + 1)) k) (wav (angH (2 ^ (m + 1)) k : Nat) back))
    else csub (fastZ back m (fun i => X (2 * i)) (k - 2 ^ m)) (cmul (fastZ back m (fun i => X (2 * i + 1)) (k - 2 ^ m)) (wav (angH (2 ^ (m + 1)) (k - 2 ^ m) : Nat) back))
def HalvPost (n : Nat) (Y : Nat → C2) (w : World) (e : Ending) (w' : World) : Prop :=
  ∃ g c, e = .returned (.slice (some ⟨g, 0, none⟩) n c) ∧ w.heap.size ≤ g ∧ CRow w' g n Y ∧ Below w.heap.size w w'
theorem crow_of_owns {w : World} {base g cap n : Nat} {l : List (Nat × Nat)} {e : TypeId} {X : Nat → C2} (h : w.ownsRow base e 1 (.slice (some ⟨g, 0, none⟩) n cap) n (cvL l)) (hn : l.length = n) (hX : ∀ k (h : k < l.length), cb l[k] = X k) : base ≤ g ∧ CRow w g n X := by
  have hl := h.lt g rfl
  have hc := owns_cells h
  obtain ⟨_, ⟨hv, _⟩ | ⟨g', cap', cur, hv, hg⟩⟩ := h
  · cases hv
  · cases hv
    obtain ⟨hb, hh, _⟩ := hg
    refine ⟨hl.1, hl.2, fun i => ?_, fun k hk => ?_⟩
    · unfold World.frozen?
      rw [hh]
      simp
    · have h2 := hX k (by omega)
      exact ⟨l[k].1, l[k].2, hc k _ (by simp [cvL, hn, hk]), by rw [← h2]; rfl, by rw [← h2]; rfl⟩
set_option maxRecDepth 100000 in
set_option maxHeartbeats 4000000 in
theorem clone1_walk (r : Option Addr) (cap : Nat) (X : Nat → C2) (w : World) (hr : CIn w r 1 X) :
    Calls Tryd.prog 50 #[.slice r 1 cap] w (HalvPost 1 X w) := by
  obtain ⟨i0, hi, hz0, hz1, hz2⟩ := info_parts info_cx
  have HI := Lib.hid hi
  have HZ0 := Lib.hid hz0
  have HZ1 := Lib.hid hz1
  have HZ2 := Lib.hid hz2
  clear hi hz0 hz1 hz2
  obtain ⟨b, o, rfl, hc⟩ := hr.resolve_left (by omega)
  obtain ⟨p, q, c0, h1, h2⟩ := hc 0 (by omega)
  rw [Nat.add_zero] at c0
  have hb : b < w.heap.size := lt_of_cell c0
  have q33 : ∀ (w : World) (a : Option Addr) (n c n' c' : Nat), (binOp .eql 30 (.slice a n c) (.slice none n' c')).run Tryd.prog w = .ok (.bool a.isNone) w := fun w a n c n' c' => Lib.run_eql_slice_nil w _ _ a n c n' c' Tryd.underlying30
  have C3 := Lib.hid (show 0 + 1 ≤ maxLen by unfold maxLen; omega)
  have C4 := Lib.hid (show (0 + 1) * 16 ≤ 140737488355328 by omega)
  have HM := Lib.hid (World.ownsRow_made (base := w.heap.size) (e := 36) (size := 1) w #[] 0 (Nat.le_refl _) (by unfold maxLen; omega) rfl)
  have HN := Lib.hid (show ∀ j u, [Value.complex .f64 p q][j]? = some u → (w.alloc (.cells #[] 36)).cell? ((⟨b, o, none⟩ : Addr).add j) = some u from fun j u hu => by
    cases j with
    | zero =>
      simp at hu
      subst hu
      rw [show (⟨b, o, none⟩ : Addr).add 0 = ⟨b, o, none⟩ from rfl, World.cell?_alloc_old w _ ⟨b, o, none⟩ (by simp; omega)]
      exact c0
    | succ j => simp at hu)
  have H1 := Lib.hid h1
  have H2 := Lib.hid h2
  clear hr hc c0 h1 h2
  go_enter Tryd.func50, Tryd.ntmps50
  go_wp2_with (at_builtin; refine wpList_append_own _ rfl _ _ 30 rfl w.heap.size 36 i0 (.complex .f64 0 0) 1 16 Tryd.underlying30 HI.out HZ0.out HZ1.out HZ2.out rfl (by decide) _ _ _ rfl HM.out ⟨b, o, none⟩ 1 cap [.complex .f64 p q] rfl rfl HN.out (one_cx _ _) C3.out C4.out (by simp) ?_)
  intro v' w1 hown hg' _
  have hown2 : w1.ownsRow w.heap.size 36 1 v' [(p, q)].length (cvL [(p, q)]) := by simpa [cvL] using hown
  obtain ⟨r1, c1, hv, hx⟩ := cx_of_owns hown2
  subst hv
  have hr1 : ∃ g, r1 = some ⟨g, 0, none⟩ := by
    obtain ⟨_, ⟨hv, hn⟩ | ⟨g, c2, cur, hv, _⟩⟩ := hown2
    · simp at hn
    · exact ⟨g, by cases hv; rfl⟩
  obtain ⟨g, rfl⟩ := hr1
  obtain ⟨hbg, hcr⟩ := crow_of_owns (X := X) hown2 rfl (fun k hk => by
    have : k = 0 := by simpa using hk
    subst this
    show (⟨fl p, fl q⟩ : C2) = X 0
    rw [H1.out, H2.out])
  have HO := Lib.hid hcr
  have HG := Lib.hid hg'
  clear hown hg' hown2 hcr hx
  go_wp2
  go_ret
  exact ⟨g, c1, rfl, hbg, HO.out, Below.grown (grow_alloc (grow_refl w) _) HG.out (by simp) (fun k hk => by simp [Value.ownBlock] at hk; omega)⟩
end Go.Proofs.YtaakbajhbmbhcaaDoor
