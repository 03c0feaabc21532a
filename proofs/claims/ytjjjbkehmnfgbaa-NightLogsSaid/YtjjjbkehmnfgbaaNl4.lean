/- A log as a plain list of numbers: what its bytes are, and what any bytes give back. No program stands here. -/
import Derived.Test.YtjjjbkehmnfgbaaNl3
set_option linter.unusedSimpArgs false
set_option linter.unusedVariables false
namespace Go.Proofs.Ytjjjbkehmnfgbaa
open Go.RowKit Go.Grow

structure Res where
  i : Int
  s : Int
  l : Int
def in64 (x : Int) : Prop := -9223372036854775808 ≤ x ∧ x ≤ 9223372036854775807
def Res.ok (r : Res) : Prop := in64 r.i ∧ in64 r.s ∧ in64 r.l
def u64 (x : Int) : Nat := (x % 18446744073709551616).toNat
theorem u64_lt (x : Int) : u64 x < 18446744073709551616 := by unfold u64; omega
theorem u64_cast (x : Int) : ((u64 x : Nat) : Int) = x % 18446744073709551616 := by unfold u64; omega
theorem u64_wrap (n : Nat) (h : n < 18446744073709551616) : u64 (wrap64 n) = n := by unfold u64 wrap64; omega
theorem wrap_u64 (x : Int) (h : in64 x) : wrap64 (u64 x : Nat) = x := by rw [u64_cast]; unfold in64 at h; unfold wrap64; omega
theorem in64_wrap (n : Int) : in64 (wrap64 n) := by unfold in64 wrap64; omega
def enc (r : Res) : List Nat := le 8 (u64 r.i) ++ (le 8 (u64 r.s) ++ le 8 (u64 r.l))
theorem enc_length (r : Res) : (enc r).length = 24 := by simp [enc, le_length]
def next (s : Nat) (b : List Nat) : Nat := sumF 0 (le 4 s ++ b)
theorem next_lt (s : Nat) (b : List Nat) : next s b < 4294967296 := sumF_lt _ _ (by decide)
def entryF (s : Nat) (r : Res) : List Nat := enc r ++ le 4 (next s (enc r))
theorem entryF_length (s : Nat) (r : Res) : (entryF s r).length = 28 := by simp [entryF, enc_length, le_length]
def logF (s : Nat) : List Res → List Nat
  | [] => []
  | r :: t => entryF s r ++ logF (next s (enc r)) t
def sumR (s : Nat) : List Res → Nat
  | [] => s
  | r :: t => sumR (next s (enc r)) t
theorem sumR_lt (s : Nat) (l : List Res) (h : s < 4294967296) : sumR s l < 4294967296 := by
  induction l generalizing s with
  | nil => exact h
  | cons r t ih => exact ih _ (next_lt _ _)
theorem sumR_snoc (s : Nat) (l : List Res) (r : Res) : sumR s (l ++ [r]) = next (sumR s l) (enc r) := by
  induction l generalizing s with
  | nil => rfl
  | cons a t ih => exact ih _
theorem logF_append (s : Nat) (l m : List Res) : logF s (l ++ m) = logF s l ++ logF (sumR s l) m := by
  induction l generalizing s with
  | nil => rfl
  | cons a t ih => rw [List.cons_append, logF, logF, ih, sumR, List.append_assoc]
theorem logF_snoc (s : Nat) (l : List Res) (r : Res) : logF s (l ++ [r]) = logF s l ++ entryF (sumR s l) r := by
  rw [logF_append]; simp [logF]
theorem logF_length (s : Nat) (l : List Res) : (logF s l).length = 28 * l.length := by
  induction l generalizing s with
  | nil => rfl
  | cons a t ih => rw [logF, List.length_append, ih, entryF_length, List.length_cons]; omega
theorem small_append {a b : List Nat} (ha : small a) (hb : small b) : small (a ++ b) := fun x hx => (List.mem_append.1 hx).elim (ha x) (hb x)
theorem small_take {a : List Nat} (h : small a) (n : Nat) : small (a.take n) := fun x hx => h x (List.mem_of_mem_take hx)
theorem small_drop {a : List Nat} (h : small a) (n : Nat) : small (a.drop n) := fun x hx => h x (List.mem_of_mem_drop hx)
theorem small_enc (r : Res) : small (enc r) := small_append (small_le _ _) (small_append (small_le _ _) (small_le _ _))
theorem small_entryF (s : Nat) (r : Res) : small (entryF s r) := small_append (small_enc _) (small_le _ _)
theorem small_logF (s : Nat) (l : List Res) : small (logF s l) := by
  induction l generalizing s with
  | nil => intro x hx; cases hx
  | cons a t ih => exact small_append (small_entryF _ _) (ih _)

theorem le_val (l : List Nat) (h : small l) : le l.length (val l) = l := by
  induction l with
  | nil => rfl
  | cons c l ih =>
    have hc := h c (List.mem_cons_self ..)
    show (val l * 256 + c) % 256 :: le l.length ((val l * 256 + c) / 256) = c :: l
    rw [show (val l * 256 + c) % 256 = c by omega, show (val l * 256 + c) / 256 = val l by omega, ih (fun x hx => h x (List.mem_cons_of_mem _ hx))]
theorem val_le (k n : Nat) (h : n < 256 ^ k) : val (le k n) = n := by
  induction k generalizing n with
  | zero => simp at h; subst h; rfl
  | succ k ih =>
    show val (le k (n / 256)) * 256 + n % 256 = n
    rw [ih (n / 256) (by rw [Nat.pow_succ] at h; omega)]; omega

def dec (b : List Nat) : Res := ⟨wrap64 (val (b.take 8) : Nat), wrap64 (val ((b.drop 8).take 8) : Nat), wrap64 (val (b.drop 16) : Nat)⟩
theorem dec_ok (b : List Nat) : (dec b).ok := ⟨in64_wrap _, in64_wrap _, in64_wrap _⟩
theorem val8_lt (l : List Nat) (h : small l) (hl : l.length = 8) : val l < 18446744073709551616 := by
  have := val_lt l h
  rw [hl] at this
  exact this
theorem enc_dec (b : List Nat) (h : small b) (hl : b.length = 24) : enc (dec b) = b := by
  have l1 : (b.take 8).length = 8 := by rw [List.length_take, hl]; rfl
  have l2 : ((b.drop 8).take 8).length = 8 := by rw [List.length_take, List.length_drop, hl]; rfl
  have l3 : (b.drop 16).length = 8 := by rw [List.length_drop, hl]
  have s1 := small_take h 8
  have s2 := small_take (small_drop h 8) 8
  have s3 := small_drop h 16
  have e1 := le_val _ s1
  have e2 := le_val _ s2
  have e3 := le_val _ s3
  rw [l1] at e1
  rw [l2] at e2
  rw [l3] at e3
  simp only [enc, dec]
  rw [u64_wrap _ (val8_lt _ s1 l1), u64_wrap _ (val8_lt _ s2 l2), u64_wrap _ (val8_lt _ s3 l3), e1, e2, e3]
  rw [show b.drop 16 = (b.drop 8).drop 8 by rw [List.drop_drop], List.take_append_drop, List.take_append_drop]
theorem dec_enc (r : Res) (h : r.ok) : dec (enc r) = r := by
  have p : (256 : Nat) ^ 8 = 18446744073709551616 := by decide
  have t1 : (enc r).take 8 = le 8 (u64 r.i) := by
    unfold enc; exact List.take_left' (le_length 8 _)
  have d1 : (enc r).drop 8 = le 8 (u64 r.s) ++ le 8 (u64 r.l) := by
    unfold enc; exact List.drop_left' (le_length 8 _)
  have t2 : ((enc r).drop 8).take 8 = le 8 (u64 r.s) := by
    rw [d1]; exact List.take_left' (le_length 8 _)
  have d2 : (enc r).drop 16 = le 8 (u64 r.l) := by
    rw [show (16 : Nat) = 8 + 8 by rfl, ← List.drop_drop, d1]; exact List.drop_left' (le_length 8 _)
  unfold dec
  rw [t1, t2, d2, val_le 8 _ (by rw [p]; exact u64_lt _), val_le 8 _ (by rw [p]; exact u64_lt _), val_le 8 _ (by rw [p]; exact u64_lt _), wrap_u64 _ h.1, wrap_u64 _ h.2.1, wrap_u64 _ h.2.2]

/-- What any bytes give back, behind a sum. -/
def recF : Nat → Nat → List Nat → List Res
  | 0, _, _ => []
  | f + 1, s, b => if b.length < 28 then [] else if next s (b.take 24) = val ((b.drop 24).take 4) then dec (b.take 24) :: recF f (next s (b.take 24)) (b.drop 28) else []
theorem recF_ok (f s : Nat) (b : List Nat) : ∀ r ∈ recF f s b, r.ok := by
  induction f generalizing s b with
  | zero => intro r h; cases h
  | succ f ih =>
    intro r h
    unfold recF at h
    split at h
    · cases h
    · split at h
      · rcases List.mem_cons.1 h with rfl | h
        · exact dec_ok _
        · exact ih _ _ r h
      · cases h
/-- More rounds than bytes change nothing. -/
theorem recF_more (f s : Nat) (b : List Nat) (h : b.length ≤ f) : recF (f + 1) s b = recF f s b := by
  induction f generalizing s b with
  | zero =>
    have : b = [] := List.length_eq_zero_iff.1 (by omega)
    subst this; rfl
  | succ f ih =>
    unfold recF
    split
    · rfl
    · split
      · rename_i h1 _
        rw [ih _ _ (by rw [List.length_drop]; omega)]
      · rfl
theorem recF_len (f s : Nat) (b : List Nat) : 28 * (recF f s b).length ≤ b.length := by
  induction f generalizing s b with
  | zero => simp [recF]
  | succ f ih =>
    unfold recF
    split
    · simp
    · split
      · rename_i h1 _
        have := ih (next s (b.take 24)) (b.drop 28)
        rw [List.length_drop] at this
        rw [List.length_cons]; omega
      · simp
/-- What a log that was cut gives back. -/
theorem recF_log (l : List Res) (hl : ∀ r ∈ l, r.ok) (s cut : Nat) (h : cut ≤ 28 * l.length) (f : Nat) (hf : cut ≤ f) : recF f s ((logF s l).take cut) = l.take (cut / 28) := by
  induction l generalizing s cut f with
  | nil => 
    have : cut = 0 := by simpa using h
    subst this
    cases f <;> simp [recF, logF]
  | cons r t ih =>
    have hlen : ((logF s (r :: t)).take cut).length = cut := by rw [List.length_take, logF_length]; omega
    by_cases hc : cut < 28
    · rw [show cut / 28 = 0 by omega]
      cases f with
      | zero => rfl
      | succ f => unfold recF; rw [if_pos (by rw [hlen]; exact hc)]; rfl
    · cases f with
      | zero => omega
      | succ f =>
        have e24 : ((logF s (r :: t)).take cut).take 24 = enc r := by
          rw [List.take_take, show min 24 cut = 24 by omega, logF, entryF, List.append_assoc]
          exact List.take_left' (enc_length r)
        have e28 : ((logF s (r :: t)).take cut).drop 28 = (logF (next s (enc r)) t).take (cut - 28) := by
          rw [List.drop_take, logF, List.drop_left' (entryF_length s r)]
        have e4 : (((logF s (r :: t)).take cut).drop 24).take 4 = le 4 (next s (enc r)) := by
          rw [List.drop_take, List.take_take, show min 4 (cut - 24) = 4 by omega, logF, entryF, List.append_assoc, List.drop_left' (enc_length r)]
          exact List.take_left' (le_length 4 _)
        unfold recF
        rw [if_neg (by rw [hlen]; exact hc), e24, e4, if_pos (val_le 4 _ (next_lt _ _)).symm, e28, dec_enc r (hl r (List.mem_cons_self ..)),
          ih (fun x hx => hl x (List.mem_cons_of_mem _ hx)) _ _ (by rw [List.length_cons] at h; omega) _ (by omega)]
        rw [show cut / 28 = (cut - 28) / 28 + 1 by omega, List.take_succ_cons]

/-- A round of the two readers: the same is asked by both. -/
theorem entry_iff (s : Nat) (b : List Nat) (hb : small b) (hl : b.length = 28) : entryF s (dec (b.take 24)) = b ↔ next s (b.take 24) = val ((b.drop 24).take 4) := by
  have l24 : (b.take 24).length = 24 := by rw [List.length_take, hl]; rfl
  have l4 : (b.drop 24).length = 4 := by rw [List.length_drop, hl]
  have e : (b.drop 24).take 4 = b.drop 24 := List.take_of_length_le (by omega)
  unfold entryF
  rw [enc_dec _ (small_take hb _) l24, e]
  constructor
  · intro h
    have h2 : le 4 (next s (b.take 24)) = b.drop 24 := by
      have := congrArg (List.drop 24) h
      rwa [List.drop_left' l24] at this
    rw [← h2, val_le 4 _ (next_lt _ _)]
  · intro h
    have h3 := le_val (b.drop 24) (small_drop hb _)
    rw [l4, ← h] at h3
    rw [h3, List.take_append_drop]
end Go.Proofs.Ytjjjbkehmnfgbaa
