/- SpinGood: what the law gives, for every input. -/
import Derived.Test.YtdnclgpjcgamgaaS24
set_option linter.unusedSimpArgs false
set_option linter.unusedVariables false
namespace Go.Proofs.Ytdnclgpjcgamgaa
open Go.RowKit Go.Fl Go.Grow Go.Tr

/-- A rotation near the unit sphere. -/
def NearQ (R : Q4) : Prop := ∃ w x y z, R = ⟨some w, some x, some y, some z⟩ ∧ Fe.RotOk w x y z
theorem goods_of {R : Q4} {X Y Z : Option Nat} (h : NearQ R) (hx : Fe.mildF X = true) (hy : Fe.mildF Y = true) (hz : Fe.mildF Z = true) : Goods R ⟨X, Y, Z⟩ := by
  obtain ⟨w, x, y, z, rfl, hr⟩ := h
  obtain ⟨p, rfl, fp, mp⟩ := Fe.mild_of hx
  obtain ⟨q, rfl, fq, mq⟩ := Fe.mild_of hy
  obtain ⟨r, rfl, fr, mr⟩ := Fe.mild_of hz
  obtain ⟨n, hn, hl⟩ := Fe.len_ok fp fq fr mp mq mr
  obtain ⟨d1, d2, d3, l1, l2, l3⟩ := Fe.mat_good hr
  obtain ⟨g1, g2, g3, g4⟩ := Fe.turn_good hr hl
  have hn' : vlen ⟨some p, some q, some r⟩ = some n := hn
  refine ⟨d1, d2, d3, l1, l2, l3, ?_, ?_, ?_, ?_⟩
  · rw [hn']; exact g1
  · rw [hn']; exact g2
  · rw [hn']; exact g3
  · rw [hn']; exact g4
theorem unit_near {X : Q4} {R : Q4} (h : qunit X = (R, true)) (hw : Fe.mildF X.w = true) (hx : Fe.mildF X.x = true) (hy : Fe.mildF X.y = true) (hz : Fe.mildF X.z = true) : NearQ R := by
  obtain ⟨w, x, y, z⟩ := X
  obtain ⟨w, rfl, fw, mw⟩ := Fe.mild_of hw
  obtain ⟨x, rfl, fx, mx⟩ := Fe.mild_of hx
  obtain ⟨y, rfl, fy, my⟩ := Fe.mild_of hy
  obtain ⟨z, rfl, fz, mz⟩ := Fe.mild_of hz
  obtain ⟨n, hn, fn, _, _⟩ := Fe.len4_err fw fx fy fz mw mx my mz
  have hq : qsize ⟨some w, some x, some y, some z⟩ = some n := hn
  unfold qunit at h
  rw [hq, Fe.feq_val fn] at h
  by_cases h0 : Fe.V n = 0
  · rw [if_pos (by simp [h0])] at h
    injection h with _ h
    cases h
  · obtain ⟨a, b, c, d, ha, hb, hc, hd, ho⟩ := Fe.unit_rot fw fx fy fz mw mx my mz hn h0
    split at h
    · injection h with _ h
      cases h
    · injection h with h _
      refine ⟨a, b, c, d, ?_, ho⟩
      rw [← h]
      show Q4.mk (fdiv (some w) (some n)) (fdiv (some x) (some n)) (fdiv (some y) (some n)) (fdiv (some z) (some n)) = _
      rw [ha, hb, hc, hd]
theorem about_near {X : V3} {k : Int} {R : Q4} (h : abt X k = (R, true)) (hx : Fe.mildF X.x = true) (hy : Fe.mildF X.y = true) (hz : Fe.mildF X.z = true) : NearQ R := by
  obtain ⟨x, y, z⟩ := X
  obtain ⟨x, rfl, fx, mx⟩ := Fe.mild_of hx
  obtain ⟨y, rfl, fy, my⟩ := Fe.mild_of hy
  obtain ⟨z, rfl, fz, mz⟩ := Fe.mild_of hz
  obtain ⟨n, hn, fn, _, _⟩ := Fe.len_err fx fy fz mx my mz
  have hq : vlen ⟨some x, some y, some z⟩ = some n := hn
  unfold abt at h
  rw [hq, Fe.feq_val fn] at h
  by_cases h0 : Fe.V n = 0
  · rw [if_pos (by simp [h0])] at h
    injection h with _ h
    cases h
  · obtain ⟨a, b, c, d, ha, hb, hc, hd, ho⟩ := Fe.about_rot (k := k) fx fy fz mx my mz hn h0
    split at h
    · injection h with _ h
      cases h
    · injection h with h _
      refine ⟨a, b, c, d, ?_, ho⟩
      rw [← h, ha]
      show Q4.mk _ (fmul (sinA k) (fdiv (some x) (some n))) (fmul (sinA k) (fdiv (some y) (some n))) (fmul (sinA k) (fdiv (some z) (some n))) = _
      rw [hb, hc, hd]
/-- The law's walk: SpinGood. -/
theorem spinGood_walk (a1 a2 a3 : Nat) (half : Int) (qa qb qc qd : Nat) (about : Bool) (v1 v2 v3 : Nat) (w : World) :
    Calls Try.prog 8 #[.agg #[.float .f64 a1, .float .f64 a2, .float .f64 a3], .int .i64 half, .agg #[.float .f64 qa, .float .f64 qb, .float .f64 qc, .float .f64 qd], .bool about, .agg #[.float .f64 v1, .float .f64 v2, .float .f64 v3]] w (Post (fun v => v = .bool true) w) := by
  cases about with
  | false =>
    obtain ⟨⟨R, b⟩, hX⟩ : ∃ X, qunit ⟨fl qa, fl qb, fl qc, fl qd⟩ = X := ⟨_, rfl⟩
    cases b with
    | false => exact spinGood_unit_no a1 a2 a3 half qa qb qc qd v1 v2 v3 R hX w
    | true => exact spinGood_unit a1 a2 a3 half qa qb qc qd v1 v2 v3 R hX (fun _ hv hq hw => goods_of (unit_near hX hw hq.1 hq.2.1 hq.2.2) hv.1 hv.2.1 hv.2.2) w
  | true =>
    obtain ⟨⟨R, b⟩, hX⟩ : ∃ X, abt ⟨fl a1, fl a2, fl a3⟩ half = X := ⟨_, rfl⟩
    cases b with
    | false => exact spinGood_about_no a1 a2 a3 half qa qb qc qd v1 v2 v3 R hX w
    | true => exact spinGood_about a1 a2 a3 half qa qb qc qd v1 v2 v3 R hX (fun ha hv _ _ => goods_of (about_near hX ha.1 ha.2.1 ha.2.2) hv.1 hv.2.1 hv.2.2) w
end Go.Proofs.Ytdnclgpjcgamgaa
