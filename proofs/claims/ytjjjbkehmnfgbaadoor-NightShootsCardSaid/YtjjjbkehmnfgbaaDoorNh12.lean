/- The night's house: the pictures in the names' order are the shots put in one by one (plain). -/
import Derived.Test.YtjjjbkehmnfgbaaDoorNh11
set_option linter.unusedSimpArgs false
set_option linter.unusedVariables false
namespace Go.Proofs.YtjjjbkehmnfgbaaDoor
open Go.RowKit Go.Grow Go.Hs

def fitUp (l : List Tl) : Nat → List Tl
  | 0 => []
  | k + 1 => fitL (fitUp l k) (tl l k)
theorem fitE_zero {fs : List Tl} {t : Tl} (h : fitE fs t = 0) : namedT fs t.name = false ∧ ¬ t.name = .empty ∧ 1 ≤ t.kind ∧ t.kind ≤ 4 ∧ fs.length ≠ 12 := by
  unfold fitE at h
  split at h
  · omega
  · rename_i h1
    split at h
    · omega
    · rename_i h2
      split at h
      · omega
      · rename_i h3
        refine ⟨?_, fun he => h1 (.inr he), by omega, by omega, h3⟩
        cases hn : namedT fs t.name
        · rfl
        · exact absurd (.inl hn) h1
theorem fitE_le (fs : List Tl) (t : Tl) : fitE fs t ≤ 10 := by unfold fitE; split <;> (try split) <;> (try split) <;> omega
theorem fitUp_len (l : List Tl) : ∀ k, (fitUp l k).length ≤ 12 ∧ (fitUp l k).length ≤ k
  | 0 => ⟨by simp [fitUp], Nat.le_refl _⟩
  | k + 1 => by
    obtain ⟨h1, h2⟩ := fitUp_len l k
    unfold fitUp fitL
    split
    · rename_i h
      have := (fitE_zero h).2.2.2.2
      rw [List.length_append, List.length_singleton]
      omega
    · omega
theorem fitUp_mem (l : List Tl) : ∀ k, k ≤ l.length → ∀ t ∈ fitUp l k, (∃ j, j < l.length ∧ t = tl l j) ∧ 1 ≤ t.kind ∧ t.kind ≤ 4
  | 0, _, t, h => by cases h
  | k + 1, hk, t, h => by
    unfold fitUp fitL at h
    split at h
    · rename_i hz
      rcases List.mem_append.1 h with h | h
      · exact fitUp_mem l k (by omega) t h
      · obtain rfl : t = tl l k := by simpa using h
        obtain ⟨_, _, h1, h2, _⟩ := fitE_zero hz
        exact ⟨⟨k, by omega, rfl⟩, h1, h2⟩
    · exact fitUp_mem l k (by omega) t h
def shutUp (fs : List Tl) (x : Int) : Nat → Bool
  | 0 => false
  | k + 1 => shutUp fs x k || shutT x (tl fs k)
def shotsUp (fs : List Tl) : Nat → List Tl
  | 0 => []
  | k + 1 => if (tl fs k).kind = 1 then insT (shotsUp fs k) (tl fs k) else shotsUp fs k
theorem shotsUp_len (fs : List Tl) : ∀ k, (shotsUp fs k).length ≤ k
  | 0 => Nat.le_refl _
  | k + 1 => by
    have := shotsUp_len fs k
    unfold shotsUp
    split
    · rw [insT_length]; omega
    · omega
theorem same_name : ∀ {fs : List Tl}, fs.Pairwise (fun x y => x.name ≠ y.name) → ∀ {a b : Tl}, a ∈ fs → b ∈ fs → a.name = b.name → a = b
  | [], _, _, _, h, _, _ => by cases h
  | t :: fs, hp, a, b, ha, hb, he => by
    obtain ⟨h1, h2⟩ := List.pairwise_cons.1 hp
    rcases List.mem_cons.1 ha with e1 | ha
    · rcases List.mem_cons.1 hb with e2 | hb
      · rw [e1, e2]
      · exact absurd (e1 ▸ he) (h1 b hb)
    · rcases List.mem_cons.1 hb with e2 | hb
      · exact absurd (e2 ▸ he.symm) (h1 a ha)
      · exact same_name h2 ha hb he
theorem named_mem {fs : List Tl} {t : Tl} (h : t ∈ fs) : namedT fs t.name = true := List.any_eq_true.2 ⟨t, h, decide_eq_true rfl⟩
theorem toolAt_mem {fs : List Tl} (hp : fs.Pairwise (fun x y => x.name ≠ y.name)) {s : ByteArray} (hs : namedT fs s = true) : toolAt fs s ∈ fs ∧ (toolAt fs s).name = s := by
  obtain ⟨j, hj, h1, h2⟩ := toolAt_spec hp hs
  rw [← h1]
  exact ⟨by rw [tl_get hj]; exact List.getElem_mem hj, h2⟩
theorem toolAt_of {fs : List Tl} (hp : fs.Pairwise (fun x y => x.name ≠ y.name)) {t : Tl} (h : t ∈ fs) : toolAt fs t.name = t := by
  obtain ⟨h1, h2⟩ := toolAt_mem hp (named_mem h)
  exact same_name hp h1 h h2
theorem shutUp_iff (fs : List Tl) (x : Int) : ∀ k, k ≤ fs.length → (shutUp fs x k = true ↔ ∃ j, j < k ∧ shutT x (tl fs j) = true)
  | 0, _ => by simp [shutUp]
  | k + 1, hk => by
    rw [shutUp, Bool.or_eq_true, shutUp_iff fs x k (by omega)]
    constructor
    · rintro (⟨j, h1, h2⟩ | h)
      · exact ⟨j, by omega, h2⟩
      · exact ⟨k, by omega, h⟩
    · rintro ⟨j, h1, h2⟩
      by_cases e : j = k
      · subst e; exact .inr h2
      · exact .inl ⟨j, by omega, h2⟩
section
variable {fs : List Tl} {ns : List ByteArray} (hp : fs.Pairwise (fun x y => x.name ≠ y.name)) (hnd : ns.Nodup) (hns : ∀ s, s ∈ ns ↔ namedT fs s = true) (x : Int)
include hp hns
theorem shut_same : (∃ k, k < (sortB ns).length ∧ shutT x (toolAt fs (nm (sortB ns) k)) = true) ↔ shutUp fs x fs.length = true := by
  rw [shutUp_iff fs x _ (Nat.le_refl _)]
  constructor
  · rintro ⟨k, hk, h⟩
    have hm : namedT fs (nm (sortB ns) k) = true := (hns _).1 ((sortB_mem ns _).1 (by rw [nm_get hk]; exact List.getElem_mem hk))
    obtain ⟨j, hj, h1, _⟩ := toolAt_spec hp hm
    exact ⟨j, hj, by rw [h1]; exact h⟩
  · rintro ⟨j, hj, h⟩
    have hmem : tl fs j ∈ fs := by rw [tl_get hj]; exact List.getElem_mem hj
    obtain ⟨k, hk, he⟩ := List.mem_iff_getElem.1 ((sortB_mem ns _).2 ((hns _).2 (named_mem hmem)))
    exact ⟨k, hk, by rw [nm_get hk, he, toolAt_of hp hmem]; exact h⟩
end
theorem perm_nodup : ∀ {l m : List ByteArray}, l.Nodup → m.Nodup → (∀ s, s ∈ l ↔ s ∈ m) → l.Perm m
  | [], m, _, _, h => by
    have : m = [] := List.eq_nil_iff_forall_not_mem.2 fun s hs => by have := (h s).2 hs; cases this
    rw [this]
  | a :: l, m, h1, h2, h => by
    obtain ⟨ha, hl⟩ := List.nodup_cons.1 h1
    have hm : a ∈ m := (h a).1 (List.mem_cons_self ..)
    obtain ⟨m1, m2, rfl⟩ := List.append_of_mem hm
    have hpm : (m1 ++ a :: m2).Perm (a :: (m1 ++ m2)) := List.perm_middle
    have h3 : (a :: (m1 ++ m2)).Nodup := (hpm.nodup_iff).1 h2
    obtain ⟨hna, he⟩ := List.nodup_cons.1 h3
    refine (List.Perm.cons a (perm_nodup hl he fun s => ?_)).trans hpm.symm
    constructor
    · intro hs
      have hne : s ≠ a := fun e => ha (e ▸ hs)
      have := hpm.mem_iff.1 ((h s).1 (List.mem_cons_of_mem _ hs))
      rcases List.mem_cons.1 this with e | this
      · exact absurd e hne
      · exact this
    · intro hs
      have hne : s ≠ a := fun e => hna (e ▸ hs)
      have := (h s).2 (hpm.mem_iff.2 (List.mem_cons_of_mem _ hs))
      rcases List.mem_cons.1 this with e | this
      · exact absurd e hne
      · exact this
def camB (t : Tl) : Bool := decide (t.kind = 1)
theorem cams_filter (fs : List Tl) (ms : List ByteArray) : ∀ k, k ≤ ms.length → camsUp fs ms k = ((ms.take k).map (toolAt fs)).filter camB
  | 0, _ => rfl
  | k + 1, hk => by
    rw [camsUp, cams_filter fs ms k (by omega), List.take_succ_eq_append_getElem (show k < ms.length by omega), List.map_append, List.filter_append, nm_get (show k < ms.length by omega)]
    by_cases h : (toolAt fs ms[k]).kind = 1
    · rw [if_pos h]; simp [camB, h]
    · rw [if_neg h]; simp [camB, h]
theorem insT_perm (l : List Tl) (t : Tl) : (insT l t).Perm (l ++ [t]) := by
  have h : (l.takeWhile (fun y => lessN y.name t.name) ++ l.dropWhile (fun y => lessN y.name t.name)) = l := List.takeWhile_append_dropWhile
  unfold insT
  refine List.perm_middle.trans ?_
  rw [h]
  exact (List.perm_append_singleton t l).symm
theorem lessN_eq (a b : ByteArray) : lessN a b = decide (a.toList < b.toList) := bytesLess_eq _ _
def NLe (a b : Tl) : Prop := a.name.toList ≤ b.name.toList
theorem insT_rises : ∀ (l : List Tl) (t : Tl), l.Pairwise NLe → (insT l t).Pairwise NLe
  | [], t, _ => by simp [insT]
  | y :: l, t, h => by
    obtain ⟨h1, h2⟩ := List.pairwise_cons.1 h
    cases hx : lessN y.name t.name
    · have e : insT (y :: l) t = t :: y :: l := by simp [insT, List.takeWhile, List.dropWhile, hx]
      have hsx : NLe t y := by
        rw [lessN_eq] at hx
        exact List.not_lt.1 (by simpa using hx)
      rw [e]
      refine List.pairwise_cons.2 ⟨fun z hz => ?_, h⟩
      rcases List.mem_cons.1 hz with rfl | hz
      · exact hsx
      · exact List.le_trans hsx (h1 z hz)
    · have e : insT (y :: l) t = y :: insT l t := by simp [insT, List.takeWhile, List.dropWhile, hx]
      have hxs : NLe y t := by
        rw [lessN_eq] at hx
        exact List.le_of_lt (by simpa using hx)
      rw [e]
      refine List.pairwise_cons.2 ⟨fun z hz => ?_, insT_rises l t h2⟩
      rcases List.mem_append.1 ((insT_perm l t).mem_iff.1 hz) with hz | hz
      · exact h1 z hz
      · obtain rfl : z = t := by simpa using hz
        exact hxs
theorem shots_rises (fs : List Tl) : ∀ k, (shotsUp fs k).Pairwise NLe
  | 0 => .nil
  | k + 1 => by
    unfold shotsUp
    split
    · exact insT_rises _ _ (shots_rises fs k)
    · exact shots_rises fs k
theorem shots_perm (fs : List Tl) : ∀ k, k ≤ fs.length → (shotsUp fs k).Perm ((fs.take k).filter camB)
  | 0, _ => .refl _
  | k + 1, hk => by
    rw [shotsUp, List.take_succ_eq_append_getElem (show k < fs.length by omega), List.filter_append, ← tl_get (show k < fs.length by omega)]
    by_cases h : (tl fs k).kind = 1
    · rw [if_pos h]
      refine (insT_perm _ _).trans ?_
      have : [tl fs k].filter camB = [tl fs k] := by simp [camB, h]
      rw [this]
      exact (shots_perm fs k (by omega)).append_right _
    · rw [if_neg h]
      have : [tl fs k].filter camB = [] := by simp [camB, h]
      rw [this, List.append_nil]
      exact shots_perm fs k (by omega)
theorem cams_shots {fs : List Tl} {ns : List ByteArray} (hp : fs.Pairwise (fun x y => x.name ≠ y.name)) (hnd : ns.Nodup) (hns : ∀ s, s ∈ ns ↔ namedT fs s = true) : camsUp fs (sortB ns) (sortB ns).length = shotsUp fs fs.length := by
  have hmm : ∀ s, s ∈ sortB ns → namedT fs s = true := fun s hs => (hns s).1 ((sortB_mem ns s).1 hs)
  have hinj : ∀ a b : ByteArray, a.toList = b.toList → a = b := fun a b h => by
    rw [ByteArray.toList_eq, ByteArray.toList_eq] at h
    obtain ⟨⟨x⟩⟩ := a
    obtain ⟨⟨y⟩⟩ := b
    simpa using h
  have e1 := cams_filter fs (sortB ns) (sortB ns).length (Nat.le_refl _)
  rw [List.take_length] at e1
  have p0 : ns.Perm (fs.map Tl.name) := perm_nodup hnd (List.pairwise_map.2 (hp.imp fun h => h)) fun s => by
    rw [hns s]
    constructor
    · intro h
      obtain ⟨t, ht, he⟩ := List.any_eq_true.1 h
      exact List.mem_map.2 ⟨t, ht, by simpa using he⟩
    · intro h
      obtain ⟨t, ht, he⟩ := List.mem_map.1 h
      rw [← he]; exact named_mem ht
  have p1 : (sortB ns).Perm ns := by
    have hl : ((sortB ns).map ByteArray.toList).Perm (ns.map ByteArray.toList) := by rw [sortB_map]; exact List.mergeSort_perm _ _
    have := hl.map (fun l : List UInt8 => ByteArray.mk l.toArray)
    rw [List.map_map, List.map_map] at this
    have e : ∀ l : List ByteArray, l.map ((fun l : List UInt8 => ByteArray.mk l.toArray) ∘ ByteArray.toList) = l := fun l => by
      conv => rhs; rw [← List.map_id l]
      exact List.map_congr_left fun b _ => hinj _ _ (by simp [toList_mk])
    rwa [e, e] at this
  have p2 : ((sortB ns).map (toolAt fs)).Perm fs := by
    refine ((p1.trans p0).map (toolAt fs)).trans ?_
    rw [List.map_map]
    have : fs.map (toolAt fs ∘ Tl.name) = fs := by
      conv => rhs; rw [← List.map_id fs]
      exact List.map_congr_left fun t ht => toolAt_of hp ht
    rw [this]
  have p3 : (camsUp fs (sortB ns) (sortB ns).length).Perm (shotsUp fs fs.length) := by
    rw [e1]
    refine (p2.filter camB).trans ?_
    have := shots_perm fs fs.length (Nat.le_refl _)
    rw [List.take_length] at this
    exact this.symm
  have s0 : (sortB ns).Pairwise (fun x y => x.toList ≤ y.toList) := by
    have h := List.pairwise_mergeSort (le := fun (x y : List UInt8) => decide (x ≤ y)) (fun a b c h1 h2 => by simp at h1 h2 ⊢; exact List.le_trans h1 h2) (fun a b => by simp; exact List.le_total a b) (ns.map ByteArray.toList)
    rw [← sortB_map] at h
    have := List.pairwise_map.1 h
    exact this.imp fun h => by simpa using h
  have s1 : (camsUp fs (sortB ns) (sortB ns).length).Pairwise NLe := by
    rw [e1]
    refine List.Pairwise.filter _ (List.pairwise_map.2 ?_)
    refine List.Pairwise.imp_of_mem ?_ s0
    intro a b ha hb h
    unfold NLe
    rw [(toolAt_mem hp (hmm a ha)).2, (toolAt_mem hp (hmm b hb)).2]
    exact h
  refine p3.eq_of_pairwise (fun a b ha hb h1 h2 => ?_) s1 (shots_rises fs fs.length)
  have m1 : a ∈ fs := by
    rw [e1] at ha
    exact p2.mem_iff.1 ((List.mem_filter.1 ha).1)
  have m2 : b ∈ fs := by
    have := (shots_perm fs fs.length (Nat.le_refl _)).mem_iff.1 hb
    rw [List.take_length] at this
    exact (List.mem_filter.1 this).1
  exact same_name hp m1 m2 (hinj _ _ (List.le_antisymm h1 h2))
end Go.Proofs.YtjjjbkehmnfgbaaDoor
