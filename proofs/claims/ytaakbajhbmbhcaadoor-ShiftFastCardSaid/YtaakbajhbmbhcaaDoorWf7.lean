/- Waves by halves: the document's FastOf; the law's walk. -/
import Derived.Test.YtaakbajhbmbhcaaDoorWf6
import Derived.Test.YtaakbajhbmbhcaaDoorWv8
set_option linter.unusedSimpArgs false
set_option linter.unusedVariables false
namespace Go.Proofs.YtaakbajhbmbhcaaDoor
open Go.RowKit Go.Fl Go.Grow Go.Tr

theorem halvD_walk (back : Bool) (N : Nat) (hN : N ≤ 256) (cap : Nat) (r : Option Addr) (X : Nat → C2) : ∀ (m h : Nat), 2 ^ m = h → h ≤ 256 → ∀ (f s : Nat) (w : World), s * h = N → f < s → PIn w r N X →
    Calls Tryd.prog 47 #[.slice r N cap, .int .i64 f, .int .i64 s, .bool back] w (HalvD h (fastZ back m (fun i => X (f + i * s))) w)
  | 0, h, hh, _, f, s, w, hs, hf, hr => by
    obtain rfl : h = 1 := by rw [← hh]
    rw [Nat.mul_one] at hs
    subst hs
    refine (halvD_one back r s f s cap X w hN (Nat.div_self (by omega)) hN hf hr).mono fun e w' ⟨g, c, he, h1, h2, h3⟩ => ⟨g, c, he, h1, h2.at fun k hk => ?_, h3⟩
    obtain rfl : k = 0 := by omega
    show X f = X (f + 0 * s)
    rw [Nat.zero_mul, Nat.add_zero]
  | m + 1, h, hh, hl, f, s, w, hs, hf, hr => by
    obtain ⟨q, hq⟩ : ∃ q, 2 ^ m = q := ⟨_, rfl⟩
    have e : 2 * q = h := by rw [← hh, Nat.pow_succ, hq]; omega
    subst e
    exact halvD_more back m q N hq (by omega) hN cap r X (fun f s w hs hf hr => halvD_walk back N hN cap r X m q hq (by omega) f s w hs hf hr) f s w hs hf hr
theorem PRow.list {w : World} {g n : Nat} {Y : Nat → C2} (h : PRow w g n Y) : ∃ L : List (Nat × Nat), L.length = n ∧ PrAt w (some ⟨g, 0, none⟩) L ∧ L.map cb = (List.range n).map Y := by
  have h1 : ∀ k : Fin n, ∃ x : Nat × Nat, w.cell? ⟨g, k.1 * 2, none⟩ = some (.float .f64 x.1) ∧ w.cell? ⟨g, k.1 * 2 + 1, none⟩ = some (.float .f64 x.2) ∧ cb x = Y k.1 := fun k => by
    obtain ⟨a, b, c0, c1, e0, e1⟩ := h.cell k.1 k.2
    exact ⟨(a, b), c0, c1, by show (⟨fl a, fl b⟩ : C2) = Y k.1; rw [e0, e1]⟩
  refine ⟨List.ofFn fun k => Classical.choose (h1 k), by simp, .inr ⟨g, 0, rfl, fun k hk => ?_⟩, ?_⟩
  · have hk2 : k < n := by simpa using hk
    have h2 := Classical.choose_spec (h1 ⟨k, hk2⟩)
    rw [List.getElem_ofFn, Nat.zero_add]
    exact ⟨h2.1, h2.2.1⟩
  · refine List.ext_getElem (by simp) fun k h3 h4 => ?_
    have hk2 : k < n := by simpa using h4
    have h2 := Classical.choose_spec (h1 ⟨k, hk2⟩)
    simp only [List.getElem_map, List.getElem_ofFn, List.getElem_range]
    exact h2.2.2
theorem PrAt.in {w : World} {r : Option Addr} {l : List (Nat × Nat)} {n : Nat} (h : PrAt w r l) (hn : l.length = n) : PIn w r n (fun k => cb (l.getD k (0, 0))) := by
  rcases h with h | ⟨b, o, rfl, hc⟩
  · exact .inl (by rw [← hn, h]; rfl)
  · refine .inr ⟨b, o, rfl, fun k hk => ?_⟩
    obtain ⟨c0, c1⟩ := hc k (by omega)
    exact ⟨_, _, c0, c1, by simp [hn, hk, cb], by simp [hn, hk, cb]⟩
set_option maxRecDepth 100000 in
set_option maxHeartbeats 8000000 in
theorem fastOf_walk (r : Option Addr) (m n cap : Nat) (back : Bool) (X : Nat → C2) (w : World) (hr : PIn w r n X) (hn : n ≤ 256) (h0 : 0 < n) (hm : 2 ^ m = n) :
    Calls Tryd.prog 28 #[.slice r n cap, .bool back] w (PrPost w ((List.range n).map (fstZ n m back X))) := by
  have HW := Lib.hid (show Calls Tryd.prog 47 #[.slice r n cap, .int .i64 0, .int .i64 1, .bool back] w (HalvD n (fastZ back m X) w) by
    have h := halvD_walk back n hn cap r X m n hm hn 0 1 w (by omega) (by omega) hr
    rwa [show (fun i => X (0 + i * 1)) = X from funext fun i => by rw [Nat.mul_one, Nat.zero_add]] at h)
  clear hr
  cases back with
  | true =>
    go_enter Tryd.func28, Tryd.ntmps28
    go_wp2_with (first
      | (go_at_call 47; (with_reducible refine HW.out.mono ?_); rintro e w1 ⟨g, c, rfl, hg, hr1, hb⟩; obtain ⟨L, hL, hp, hmap⟩ := hr1.list; have G1 := Lib.hid hb; have M1 := Lib.hid hmap; have HL := Lib.hid hL; have OW := Lib.hid (show Calls Tryd.prog 46 #[.slice (some ⟨g, 0, none⟩) n c] w1 (PrPost w1 ((List.range n).map (fstZ n m true X))) by
          have h := over_walk _ L c w1 (by omega) hp
          rw [hL, show (L.map fun p => shr n (cb p)) = (L.map cb).map (shr n) by rw [List.map_map]; rfl, hmap, List.map_map] at h
          exact h); clear hg hr1 hp hmap hb hL)
      | (go_at_call 46; (with_reducible refine OW.out.mono ?_); rintro e w2 ⟨r2, c2, L2, rfl, hp2, hm2, hb2⟩; have P2 := Lib.hid hp2; have M2 := Lib.hid hm2; have G2 := Lib.hid (grow_trans G1.out hb2); clear hp2 hm2 hb2))
    go_ret
    exact ⟨r2, c2, L2, rfl, P2.out, M2.out, G2.out⟩
  | false =>
    go_enter Tryd.func28, Tryd.ntmps28
    go_wp2_with (go_at_call 47; (with_reducible refine HW.out.mono ?_); rintro e w1 ⟨g, c, rfl, hg, hr1, hb⟩; obtain ⟨L, hL, hp, hmap⟩ := hr1.list; have G1 := Lib.hid hb; have M1 := Lib.hid hmap; have HL := Lib.hid hL; have P1 := Lib.hid hp; clear hg hr1 hp hmap hb hL)
    go_ret
    exact ⟨some ⟨g, 0, none⟩, c, L, by rw [HL.out]; rfl, P1.out, M1.out, G1.out⟩
set_option maxRecDepth 100000 in
set_option maxHeartbeats 8000000 in
theorem fast_skip (a : Nat → Addr) (r : Option Addr) (n cap : Nat) (back : Bool) (w : World) (hs : Sen a [2, 5] w) (hn : n ≤ 9223372036854775807) (h : 300 < n) :
    Calls Tryd.prog 7 #[.slice r n cap, .bool back] w fun e w' => e = .returned (.bool true) ∧ Below w.heap.size w w' := by
  have WD := Lib.hid (waved_walk a w hs)
  clear hs
  go_enter Tryd.func7, Tryd.ntmps7
  go_wp2_with (go_at_call 9; (with_reducible refine WD.out.mono ?_); rintro e w1 ⟨rfl, hb⟩; have HB := Lib.hid hb; clear hb)
  all_goals
    go_ret
    exact ⟨rfl, HB.out⟩
end Go.Proofs.YtaakbajhbmbhcaaDoor
