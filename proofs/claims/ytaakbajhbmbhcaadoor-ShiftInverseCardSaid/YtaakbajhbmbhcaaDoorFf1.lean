/- The sixty-four waves that rows of up to 64 lean on: a table, by whole numbers. Nothing of a program stands here. -/
import Derived.Test.YtaakbajhbmbhcaaDoorFe41
set_option linter.unusedSimpArgs false
set_option linter.unusedVariables false
namespace Go.Fe
open Ieee Fl

/-! Sixty-four waves. -/
def tcN : Nat := 195508601644683417638001348857603108400569287739121397456261500584682431934639626634061207767701419384624595599753670611720773855545714870766843952832521062656838720645094673932530379600671296740026056232155794413891871540410651563560863384378480709238803998453937129685613485170808980677833352662986505591315379356933276669172158595893107994017228117068984351117647799790192947860095818103706973436752036713301063598938457776912709063991475507261046633873323564346186185205147842433561985026067512407055301764720911924223241281662959727284694522502709218424968872127303178956456232756816492872708670233077741462983782189469672829743592874535422456253464812058029002485561431885026853939889913538163103254912593586453543995655643074903494743710629843177315818714662538033648207629883944165777814671189986345952059058405531975648821997025319592153221422442708558536111577921050996048696593620806676644420450145451963268007252802914673538310786326911767261615805458934056405303074440524425573050701914101499371767430035396470905266432074815909672508451430216781017104351237959215743349696257838925370900051459434981243535813779443380391367899411752551756755801104665101538076015933407882748126905041902135562010711189102102843456749568
def tsN : Nat := 124150609454887451013389612681897352386628981059670766194262987220244848639361896879087673842009699885117743274544136304905009923679516527221843627043111429867751847185304710062216666537979850159206529370843928430766914131394099063225247581815241772075716060850939636253243509512482562100600950812132099994899027314614842295882406486996073548255671517802926240587173465335176292853172393246076993196930250768322675250966245371385463167532620303573453349183119209704954288040785656038897833430023900826508805750874362093626708597386041928316252178482694026204684039366901124834530502530378422583831772919456815478571020416038593758602905234889310753675726357614016723097458911786608105921598414151504680790906130382034833762073853098490836415319304768390145066984794802954230761928122057323517680044206809078842966070524565695764869913782484712982924883969471110835007544302010192373965305755811857585371935499263495760673325530412508302039318703982605375651907077717954870490884575808242505754533175189879801029604736701282132759266554255885758461535400323071215989908123161868594758811958066814944189192152314097656534328366155533989680701230506790817987915255020921098899845297700262851856735257542391455808700100130698936983748608
def cI (m : Nat) : Int := ((tcN / 2 ^ (64 * (m % 64)) % 2 ^ 64 : Nat) : Int) - 2305843009213693952
def sI (m : Nat) : Int := ((tsN / 2 ^ (64 * (m % 64)) % 2 ^ 64 : Nat) : Int) - 2305843009213693952
def allB (f : Nat → Bool) : Nat → Bool
  | 0 => true
  | n + 1 => f n && allB f n
theorem allB_all {f : Nat → Bool} : ∀ {n : Nat}, allB f n = true → ∀ k, k < n → f k = true
  | n + 1, h, k, hk => by
    unfold allB at h
    rw [Bool.and_eq_true] at h
    rcases Nat.lt_succ_iff_lt_or_eq.1 hk with h1 | h1
    · exact allB_all h.2 k h1
    · rw [h1]; exact h.1
def tC (m : Nat) : Rat := (cI m : Rat) * two (-60)
def tS (m : Nat) : Rat := (sI m : Rat) * two (-60)
def wordB (X Y : Option Nat) (C S : Rat) : Bool := match X, Y with
  | some c, some s => fnB c && fnB s && decide (V c = C) && decide (V s = S)
  | _, _ => false
theorem wordB_get {X Y : Option Nat} {C S : Rat} (h : wordB X Y C S = true) : ∃ c s, X = some c ∧ Y = some s ∧ Fn c ∧ Fn s ∧ V c = C ∧ V s = S := by
  cases X with
  | none => cases h
  | some c => cases Y with
    | none => cases h
    | some s =>
      unfold wordB at h
      simp only [Bool.and_eq_true, decide_eq_true_eq] at h
      exact ⟨c, s, rfl, rfl, fn_of h.1.1.1, fn_of h.1.1.2, h.1.2, h.2⟩
def waveB (m : Nat) : Bool := wordB (Tr.cosA ((20250000000 * m : Nat) : Int)) (Tr.sinA ((20250000000 * m : Nat) : Int)) (tC m) (tS m)
theorem wave_0 : waveB 0 = true := by decide +kernel
theorem wave_1 : waveB 1 = true := by decide +kernel
theorem wave_2 : waveB 2 = true := by decide +kernel
theorem wave_3 : waveB 3 = true := by decide +kernel
theorem wave_4 : waveB 4 = true := by decide +kernel
theorem wave_5 : waveB 5 = true := by decide +kernel
theorem wave_6 : waveB 6 = true := by decide +kernel
theorem wave_7 : waveB 7 = true := by decide +kernel
theorem wave_8 : waveB 8 = true := by decide +kernel
theorem wave_9 : waveB 9 = true := by decide +kernel
theorem wave_10 : waveB 10 = true := by decide +kernel
theorem wave_11 : waveB 11 = true := by decide +kernel
theorem wave_12 : waveB 12 = true := by decide +kernel
theorem wave_13 : waveB 13 = true := by decide +kernel
theorem wave_14 : waveB 14 = true := by decide +kernel
theorem wave_15 : waveB 15 = true := by decide +kernel
theorem wave_16 : waveB 16 = true := by decide +kernel
theorem wave_17 : waveB 17 = true := by decide +kernel
theorem wave_18 : waveB 18 = true := by decide +kernel
theorem wave_19 : waveB 19 = true := by decide +kernel
theorem wave_20 : waveB 20 = true := by decide +kernel
theorem wave_21 : waveB 21 = true := by decide +kernel
theorem wave_22 : waveB 22 = true := by decide +kernel
theorem wave_23 : waveB 23 = true := by decide +kernel
theorem wave_24 : waveB 24 = true := by decide +kernel
theorem wave_25 : waveB 25 = true := by decide +kernel
theorem wave_26 : waveB 26 = true := by decide +kernel
theorem wave_27 : waveB 27 = true := by decide +kernel
theorem wave_28 : waveB 28 = true := by decide +kernel
theorem wave_29 : waveB 29 = true := by decide +kernel
theorem wave_30 : waveB 30 = true := by decide +kernel
theorem wave_31 : waveB 31 = true := by decide +kernel
theorem wave_32 : waveB 32 = true := by decide +kernel
theorem wave_33 : waveB 33 = true := by decide +kernel
theorem wave_34 : waveB 34 = true := by decide +kernel
theorem wave_35 : waveB 35 = true := by decide +kernel
theorem wave_36 : waveB 36 = true := by decide +kernel
theorem wave_37 : waveB 37 = true := by decide +kernel
theorem wave_38 : waveB 38 = true := by decide +kernel
theorem wave_39 : waveB 39 = true := by decide +kernel
theorem wave_40 : waveB 40 = true := by decide +kernel
theorem wave_41 : waveB 41 = true := by decide +kernel
theorem wave_42 : waveB 42 = true := by decide +kernel
theorem wave_43 : waveB 43 = true := by decide +kernel
theorem wave_44 : waveB 44 = true := by decide +kernel
theorem wave_45 : waveB 45 = true := by decide +kernel
theorem wave_46 : waveB 46 = true := by decide +kernel
theorem wave_47 : waveB 47 = true := by decide +kernel
theorem wave_48 : waveB 48 = true := by decide +kernel
theorem wave_49 : waveB 49 = true := by decide +kernel
theorem wave_50 : waveB 50 = true := by decide +kernel
theorem wave_51 : waveB 51 = true := by decide +kernel
theorem wave_52 : waveB 52 = true := by decide +kernel
theorem wave_53 : waveB 53 = true := by decide +kernel
theorem wave_54 : waveB 54 = true := by decide +kernel
theorem wave_55 : waveB 55 = true := by decide +kernel
theorem wave_56 : waveB 56 = true := by decide +kernel
theorem wave_57 : waveB 57 = true := by decide +kernel
theorem wave_58 : waveB 58 = true := by decide +kernel
theorem wave_59 : waveB 59 = true := by decide +kernel
theorem wave_60 : waveB 60 = true := by decide +kernel
theorem wave_61 : waveB 61 = true := by decide +kernel
theorem wave_62 : waveB 62 = true := by decide +kernel
theorem wave_63 : waveB 63 = true := by decide +kernel
theorem waves_all : ∀ m : Nat, m < 64 → waveB m = true
  | 0, _ => wave_0
  | 1, _ => wave_1
  | 2, _ => wave_2
  | 3, _ => wave_3
  | 4, _ => wave_4
  | 5, _ => wave_5
  | 6, _ => wave_6
  | 7, _ => wave_7
  | 8, _ => wave_8
  | 9, _ => wave_9
  | 10, _ => wave_10
  | 11, _ => wave_11
  | 12, _ => wave_12
  | 13, _ => wave_13
  | 14, _ => wave_14
  | 15, _ => wave_15
  | 16, _ => wave_16
  | 17, _ => wave_17
  | 18, _ => wave_18
  | 19, _ => wave_19
  | 20, _ => wave_20
  | 21, _ => wave_21
  | 22, _ => wave_22
  | 23, _ => wave_23
  | 24, _ => wave_24
  | 25, _ => wave_25
  | 26, _ => wave_26
  | 27, _ => wave_27
  | 28, _ => wave_28
  | 29, _ => wave_29
  | 30, _ => wave_30
  | 31, _ => wave_31
  | 32, _ => wave_32
  | 33, _ => wave_33
  | 34, _ => wave_34
  | 35, _ => wave_35
  | 36, _ => wave_36
  | 37, _ => wave_37
  | 38, _ => wave_38
  | 39, _ => wave_39
  | 40, _ => wave_40
  | 41, _ => wave_41
  | 42, _ => wave_42
  | 43, _ => wave_43
  | 44, _ => wave_44
  | 45, _ => wave_45
  | 46, _ => wave_46
  | 47, _ => wave_47
  | 48, _ => wave_48
  | 49, _ => wave_49
  | 50, _ => wave_50
  | 51, _ => wave_51
  | 52, _ => wave_52
  | 53, _ => wave_53
  | 54, _ => wave_54
  | 55, _ => wave_55
  | 56, _ => wave_56
  | 57, _ => wave_57
  | 58, _ => wave_58
  | 59, _ => wave_59
  | 60, _ => wave_60
  | 61, _ => wave_61
  | 62, _ => wave_62
  | 63, _ => wave_63
  | n + 64, h => absurd h (by omega)
theorem wave_word {m : Nat} (h : m < 64) : ∃ c s, Tr.cosA ((20250000000 * m : Nat) : Int) = some c ∧ Tr.sinA ((20250000000 * m : Nat) : Int) = some s ∧ Fn c ∧ Fn s ∧ V c = tC m ∧ V s = tS m :=
  wordB_get (waves_all m h)
theorem cI_mod (m : Nat) : cI (m % 64) = cI m := by unfold cI; rw [Nat.mod_mod]
theorem sI_mod (m : Nat) : sI (m % 64) = sI m := by unfold sI; rw [Nat.mod_mod]
/-- Products of two waves: as whole numbers. -/
def mulB (a b : Nat) : Bool :=
  decide ((cI a * cI b - sI a * sI b - 1152921504606846976 * cI (a + b)) * (cI a * cI b - sI a * sI b - 1152921504606846976 * cI (a + b)) + (cI a * sI b + sI a * cI b - 1152921504606846976 * sI (a + b)) * (cI a * sI b + sI a * cI b - 1152921504606846976 * sI (a + b)) ≤ 49000660836615138738725943470174622449664)
theorem mul_0 : allB (fun a => allB (mulB (8 * 0 + a)) 64) 8 = true := by decide +kernel
theorem mul_1 : allB (fun a => allB (mulB (8 * 1 + a)) 64) 8 = true := by decide +kernel
theorem mul_2 : allB (fun a => allB (mulB (8 * 2 + a)) 64) 8 = true := by decide +kernel
theorem mul_3 : allB (fun a => allB (mulB (8 * 3 + a)) 64) 8 = true := by decide +kernel
theorem mul_4 : allB (fun a => allB (mulB (8 * 4 + a)) 64) 8 = true := by decide +kernel
theorem mul_5 : allB (fun a => allB (mulB (8 * 5 + a)) 64) 8 = true := by decide +kernel
theorem mul_6 : allB (fun a => allB (mulB (8 * 6 + a)) 64) 8 = true := by decide +kernel
theorem mul_7 : allB (fun a => allB (mulB (8 * 7 + a)) 64) 8 = true := by decide +kernel
theorem mul_all (a : Nat) (ha : a < 64) (b : Nat) (hb : b < 64) : mulB a b = true := by
  obtain ⟨i, j, hi, hj, rfl⟩ : ∃ i j, i < 8 ∧ j < 8 ∧ 8 * i + j = a := ⟨a / 8, a % 8, by omega, by omega, by omega⟩
  have hi' : i = 0 ∨ i = 1 ∨ i = 2 ∨ i = 3 ∨ i = 4 ∨ i = 5 ∨ i = 6 ∨ i = 7 := by omega
  rcases hi' with rfl | rfl | rfl | rfl | rfl | rfl | rfl | rfl
  · exact allB_all (allB_all mul_0 j hj) b hb
  · exact allB_all (allB_all mul_1 j hj) b hb
  · exact allB_all (allB_all mul_2 j hj) b hb
  · exact allB_all (allB_all mul_3 j hj) b hb
  · exact allB_all (allB_all mul_4 j hj) b hb
  · exact allB_all (allB_all mul_5 j hj) b hb
  · exact allB_all (allB_all mul_6 j hj) b hb
  · exact allB_all (allB_all mul_7 j hj) b hb
def conB (a b : Nat) : Bool :=
  decide ((cI a * cI b + sI a * sI b - 1152921504606846976 * cI (b + (64 - a))) * (cI a * cI b + sI a * sI b - 1152921504606846976 * cI (b + (64 - a))) + (cI a * sI b - sI a * cI b - 1152921504606846976 * sI (b + (64 - a))) * (cI a * sI b - sI a * cI b - 1152921504606846976 * sI (b + (64 - a))) ≤ 49000660836615138738725943470174622449664)
theorem con_0 : allB (fun a => allB (conB (8 * 0 + a)) 64) 8 = true := by decide +kernel
theorem con_1 : allB (fun a => allB (conB (8 * 1 + a)) 64) 8 = true := by decide +kernel
theorem con_2 : allB (fun a => allB (conB (8 * 2 + a)) 64) 8 = true := by decide +kernel
theorem con_3 : allB (fun a => allB (conB (8 * 3 + a)) 64) 8 = true := by decide +kernel
theorem con_4 : allB (fun a => allB (conB (8 * 4 + a)) 64) 8 = true := by decide +kernel
theorem con_5 : allB (fun a => allB (conB (8 * 5 + a)) 64) 8 = true := by decide +kernel
theorem con_6 : allB (fun a => allB (conB (8 * 6 + a)) 64) 8 = true := by decide +kernel
theorem con_7 : allB (fun a => allB (conB (8 * 7 + a)) 64) 8 = true := by decide +kernel
theorem con_all (a : Nat) (ha : a < 64) (b : Nat) (hb : b < 64) : conB a b = true := by
  obtain ⟨i, j, hi, hj, rfl⟩ : ∃ i j, i < 8 ∧ j < 8 ∧ 8 * i + j = a := ⟨a / 8, a % 8, by omega, by omega, by omega⟩
  have hi' : i = 0 ∨ i = 1 ∨ i = 2 ∨ i = 3 ∨ i = 4 ∨ i = 5 ∨ i = 6 ∨ i = 7 := by omega
  rcases hi' with rfl | rfl | rfl | rfl | rfl | rfl | rfl | rfl
  · exact allB_all (allB_all con_0 j hj) b hb
  · exact allB_all (allB_all con_1 j hj) b hb
  · exact allB_all (allB_all con_2 j hj) b hb
  · exact allB_all (allB_all con_3 j hj) b hb
  · exact allB_all (allB_all con_4 j hj) b hb
  · exact allB_all (allB_all con_5 j hj) b hb
  · exact allB_all (allB_all con_6 j hj) b hb
  · exact allB_all (allB_all con_7 j hj) b hb
theorem half_all : ∀ a : Nat, a < 64 → cI (a + 32) = -cI a ∧ sI (a + 32) = -sI a := by decide +kernel
def sumI (f : Nat → Int) : Nat → Int
  | 0 => 0
  | n + 1 => sumI f n + f n
def zeroB (p : Nat) : Bool := (List.range (2 ^ p)).all fun d => d == 0 || (sumI (fun k => cI (2 ^ (6 - p) * (d * k))) (2 ^ p) == 0 && sumI (fun k => sI (2 ^ (6 - p) * (d * k))) (2 ^ p) == 0)
theorem zero_all : ∀ p : Nat, p < 7 → zeroB p = true := by decide +kernel
theorem size_all : ∀ a : Nat, a < 64 → cI a * cI a + sI a * sI a ≤ 1329227995784916020477759649956757504 := by decide +kernel
end Go.Fe
