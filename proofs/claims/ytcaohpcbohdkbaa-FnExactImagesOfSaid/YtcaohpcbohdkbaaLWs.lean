/-
  The plain law of WhenSteady over the printed functions. No conditions.
-/
import Derived.Test.YtcaohpcbohdkbaaLMn
import Derived.Test.YtcaohpcbohdkbaaCWs
namespace Go.Proofs.YtcaohpcbohdkbaaC
open Go.RowKit Go.Proofs.YtcaohpcbohdkbaaW.PrintWords Go.Proofs.YtcaohpcbohdkbaaW.PrintMore
set_option linter.unusedSimpArgs false
set_option linter.unusedVariables false

theorem gcd_step (a b : Nat) : Nat.gcd a b = Nat.gcd b (a % b) := by rw [Nat.gcd_comm a b, Nat.gcd_rec, Nat.gcd_comm]
theorem gcd_pos {a b : Nat} (h : 0 < a) : 0 < Nat.gcd a b := Nat.gcd_pos_of_pos_left _ h
theorem over_iff {q n : Nat} (hn : 0 < n) : q * n > 1000000000000000 ↔ q > 1000000000000000 / n := by
  have := Nat.le_div_iff_mul_le (x := q) (y := 1000000000000000) hn
  omega
theorem gcd_spec : ∀ (k a b : Nat), b < k → spec_mpGcd.f k (a : Int) (b : Int) = some ((Nat.gcd a b : Nat) : Int)
  | 0, a, b, h => absurd h (by omega)
  | k + 1, a, b, h => by
    rw [spec_mpGcd.f]
    by_cases hb : b = 0
    · rw [if_pos (by omega), hb, Nat.gcd_zero_right]
    · have e : Int.tmod (a : Int) (b : Int) = ((a % b : Nat) : Int) := rfl
      have := Nat.mod_lt a (show 0 < b by omega)
      rw [if_neg (by omega), e, gcd_spec k b (a % b) (by omega), Option.bind_some, ← gcd_step]
theorem gcd_impl : ∀ (k a b : Nat), b < k → impl_gcd.l0 k (a : Int) (b : Int) = some ((Nat.gcd a b : Nat) : Int)
  | 0, a, b, h => absurd h (by omega)
  | k + 1, a, b, h => by
    rw [impl_gcd.l0]
    by_cases hb : b = 0
    · rw [if_pos (by omega), hb, Nat.gcd_zero_right]
    · have e : Int.tmod (a : Int) (b : Int) = ((a % b : Nat) : Int) := rfl
      have := Nat.mod_lt a (show 0 < b by omega)
      rw [if_neg (by omega), e, gcd_impl k b (a % b) (by omega), ← gcd_step]
theorem deep_loop {xs : List Int} (hx : xs.length ≤ 1000) : ∀ (d j : Nat) (m : Int), j + d = xs.length → ∃ r, ∀ k, d < k → spec_mpDeepest.l0 k m xs (xs.length : Int) (j : Int) = some r ∧ slices_Max_int_int.l0 k xs m (j : Int) = some r
  | 0, j, m, hj => ⟨m, fun k hk => by
    obtain ⟨k, rfl⟩ : ∃ q, k = q + 1 := ⟨k - 1, by omega⟩
    exact ⟨by rw [spec_mpDeepest.l0, if_neg (by omega)], by rw [slices_Max_int_int.l0, if_neg (by omega)]⟩⟩
  | d + 1, j, m, hj => by
    obtain ⟨r, hr⟩ := deep_loop hx d (j + 1) (mx m (rd xs (j : Int))) (by omega)
    refine ⟨r, fun k hk => ?_⟩
    obtain ⟨k, rfl⟩ : ∃ q, k = q + 1 := ⟨k - 1, by omega⟩
    have e : spec_l1Most.f m (rd xs (j : Int)) = some (mx m (rd xs (j : Int))) := by
      unfold spec_l1Most.f mx
      by_cases h1 : m < rd xs (j : Int)
      · rw [if_neg (by omega), if_pos h1]
      · rw [if_neg h1]
        by_cases h2 : m > rd xs (j : Int)
        · rw [if_pos h2]
        · rw [if_neg h2]; congr 1; omega
    refine ⟨?_, ?_⟩
    · rw [spec_mpDeepest.l0, if_pos (by omega), if_pos (by omega), if_pos (by omega), e, Option.bind_some, w64s (by omega)]
      exact (hr k (by omega)).1
    · rw [slices_Max_int_int.l0, if_pos (by omega), if_pos (by omega), w64s (by omega)]
      exact (hr k (by omega)).2
theorem deep_both {l : List Int} (h : MapL l) (h1 : 0 < l.length) (h60 : l.length ≤ 60) : ∃ (K : Nat) (r : Int), ∀ k, K ≤ k → spec_mpDeepest.f k l = some r ∧ ((impl_depths.f k l).bind fun t234 => slices_Max_int_int.f k t234) = some r := by
  obtain ⟨K1, hK1⟩ := mpDepths_eq h h60
  obtain ⟨xs, hxs⟩ : ∃ xs, xs = upTo (dep l) l.length := ⟨_, rfl⟩
  have hxl : xs.length = l.length := by rw [hxs, upTo_length]
  obtain ⟨r, hr⟩ := deep_loop (xs := xs) (by omega) (l.length - 1) 1 (rd xs 0) (by omega)
  have h0 : 0 ≤ rd xs 0 := by
    rw [hxs, show (0 : Int) = ((0 : Nat) : Int) from rfl, upTo_at _ h1]
    exact Int.natCast_nonneg _
  refine ⟨K1 + 200, r, fun k hk => ⟨?_, ?_⟩⟩
  · rw [spec_mpDeepest.f, (hK1 k (by omega)).1, Option.bind_some, ← hxs]
    obtain ⟨k, rfl⟩ : ∃ q, k = q + 1 := ⟨k - 1, by omega⟩
    have e : spec_l1Most.f 0 (rd xs 0) = some (rd xs 0) := by
      unfold spec_l1Most.f
      rw [if_neg (by omega)]
    rw [spec_mpDeepest.l0, if_pos (by omega), if_pos (by omega), if_pos (by omega), e, Option.bind_some, show wrap64 (0 + 1) = ((1 : Nat) : Int) from by rw [w64 (by omega) (by omega)]; rfl]
    exact (hr k (by omega)).1
  · rw [depths_eq h h60 (by omega), Option.bind_some, ← hxs, slices_Max_int_int.f, if_neg (by omega), if_pos (by omega)]
    exact (hr k (by omega)).2
theorem w64q {q : Nat} (h : q ≤ 60000000000000000) : wrap64 (q : Int) = (q : Int) := w64 (by omega) (by omega)
theorem ndiv_le {a g c : Nat} (h : a ≤ c) : a / g ≤ c := Nat.le_trans (Nat.div_le_self _ _) h
theorem tdiv_w {a g : Nat} (h : a ≤ 1000000000000000) : wrap64 (Int.tdiv (a : Int) (g : Int)) = ((a / g : Nat) : Int) := by
  rw [← Int.ofNat_tdiv]
  exact w64q (Nat.le_trans (ndiv_le h) (by decide))
theorem tdiv_c (n : Nat) : wrap64 (Int.tdiv (1000000000000000 : Int) (n : Int)) = ((1000000000000000 / n : Nat) : Int) :=
  tdiv_w (a := 1000000000000000) (Nat.le_refl _)
theorem gt_cast {p c : Nat} (h : p > c) : (p : Int) > (c : Int) := Int.ofNat_lt.2 h
theorem ngt_cast {p c : Nat} (h : ¬ p > c) : ¬ (p : Int) > (c : Int) := fun h2 => h (Int.ofNat_lt.1 h2)
theorem nz_cast {g : Nat} (h : 0 < g) : ¬ (g : Int) = 0 := by omega
theorem steady_num {a n : Nat} (h0 : 0 < a) (h1 : a ≤ 1000000000000000) (n0 : 0 < n) (n1 : n ≤ 60) : ∃ g q z p : Nat, Nat.gcd a n = g ∧ ¬ (g : Int) = 0 ∧ wrap64 (Int.tdiv (a : Int) (g : Int)) = (q : Int) ∧ wrap64 (Int.tdiv (1000000000000000 : Int) (n : Int)) = (z : Int) ∧ wrap64 ((q : Int) * (n : Int)) = (p : Int) ∧
    (((q : Int) > (z : Int) ∧ (p : Int) > 1000000000000000) ∨ (¬ (q : Int) > (z : Int) ∧ ¬ (p : Int) > 1000000000000000 ∧ 0 < p ∧ p ≤ 1000000000000000)) := by
  have hgp : 0 < Nat.gcd a n := gcd_pos h0
  have hgl : Nat.gcd a n ≤ a := Nat.le_of_dvd h0 (Nat.gcd_dvd_left _ _)
  have hqp : 0 < a / Nat.gcd a n := Nat.div_pos hgl hgp
  have hpl : (a / Nat.gcd a n) * n ≤ 1000000000000000 * 60 := Nat.mul_le_mul (ndiv_le h1) n1
  refine ⟨_, _, _, a / Nat.gcd a n * n, rfl, nz_cast hgp, tdiv_w h1, tdiv_c n, ?_, ?_⟩
  · rw [← Int.natCast_mul]
    exact w64q (Nat.le_trans hpl (by decide))
  · by_cases ho : a / Nat.gcd a n * n > 1000000000000000
    · exact Or.inl ⟨gt_cast ((over_iff n0).1 ho), gt_cast ho⟩
    · exact Or.inr ⟨ngt_cast (fun h => ho ((over_iff n0).2 h)), ngt_cast ho, Nat.mul_pos hqp n0, Nat.le_of_not_gt ho⟩
theorem steady_loop {l : List Int} {cs : List (List Int)} (hcs : cs.length ≤ 60) (hc : ∀ c ∈ cs, 0 < c.length ∧ c.length ≤ 60) {K0 : Nat} {m : Int} (hm : ∀ k, K0 ≤ k → spec_mpDeepest.f k l = some m ∧ ((impl_depths.f k l).bind fun t234 => slices_Max_int_int.f k t234) = some m) : ∀ (d j a : Nat), j + d = cs.length → 0 < a → a ≤ 1000000000000000 → ∃ (K : Nat) (v : Int × Int × Bool), ∀ k, K ≤ k → spec_WhenSteady.l0 k l (a : Int) cs (cs.length : Int) (j : Int) = some v ∧ impl_WhenSteady.l0 k l (a : Int) cs (cs.length : Int) (j : Int) = some v
  | 0, j, a, hj, h0, h1 => ⟨K0 + 1, (m, (a : Int), true), fun k hk => by
    obtain ⟨k, rfl⟩ : ∃ q, k = q + 1 := ⟨k - 1, by omega⟩
    obtain ⟨m1, m2⟩ := hm k (by omega)
    obtain ⟨ds, hds, hmx⟩ := Option.bind_eq_some_iff.1 m2
    exact ⟨by rw [spec_WhenSteady.l0, if_neg (by omega), m1, Option.bind_some], by rw [impl_WhenSteady.l0, if_neg (by omega), hds, Option.bind_some, hmx, Option.bind_some]⟩⟩
  | d + 1, j, a, hj, h0, h1 => by
    have hjl : j < cs.length := by omega
    have c1 : (j : Int) < (cs.length : Int) := by omega
    have c2 : 0 ≤ (j : Int) := by omega
    have wj : wrap64 ((j : Int) + 1) = ((j + 1 : Nat) : Int) := w64s (by omega)
    have hj2 : j + 1 + d = cs.length := by omega
    obtain ⟨n0, n1⟩ := hc cs[j] (List.getElem_mem hjl)
    have e : rd_L2 cs (j : Int) = cs[j] := by simp [rd_L2, List.getD_eq_getElem?_getD, List.getElem?_eq_getElem hjl]
    obtain ⟨n, hn⟩ : ∃ n, n = cs[j].length := ⟨_, rfl⟩
    rw [← hn] at n0 n1
    have cn := nz_cast n0
    obtain ⟨g, q, z, p, hg, cg, t1, t2, t3, ov⟩ := steady_num h0 h1 n0 n1
    have sg : ∀ k, 100 ≤ k → spec_mpGcd.f k (a : Int) (n : Int) = some (g : Int) := fun k hk => by rw [gcd_spec k a n (by clear ov t1 t2 t3; omega), hg]
    have ig : ∀ k, 100 ≤ k → impl_gcd.l0 k (a : Int) (n : Int) = some (g : Int) := fun k hk => by rw [gcd_impl k a n (by clear ov t1 t2 t3; omega), hg]
    rcases ov with ⟨o1, o2⟩ | ⟨o1, o2, o3, o4⟩
    · refine ⟨101, (0, 0, false), fun k hk => ?_⟩
      obtain ⟨k, rfl⟩ : ∃ q, k = q + 100 + 1 := ⟨k - 101, by clear t1 t2 t3; omega⟩
      refine ⟨?_, ?_⟩
      · rw [spec_WhenSteady.l0, if_pos c1, if_pos c2, if_pos c1, e, ← hn, sg _ (Nat.le_add_left _ _), Option.bind_some, if_neg cg, if_neg cn, t1, t2, if_pos o1]
      · rw [impl_WhenSteady.l0, if_pos c1, if_pos c2, if_pos c1, e, ← hn, impl_gcd.f, ig _ (Nat.le_add_left _ _), Option.bind_some, if_neg cg, t1, t3, if_pos o2]
    · obtain ⟨K, v, hv⟩ := steady_loop hcs hc hm d (j + 1) p hj2 o3 o4
      refine ⟨K + 101, v, fun k hk => ?_⟩
      obtain ⟨k, rfl, hkK⟩ : ∃ q, k = q + 100 + 1 ∧ K ≤ q + 100 := ⟨k - 101, by clear t1 t2 t3; omega, by clear t1 t2 t3; omega⟩
      obtain ⟨v1, v2⟩ := hv (k + 100) hkK
      refine ⟨?_, ?_⟩
      · rw [spec_WhenSteady.l0, if_pos c1, if_pos c2, if_pos c1, e, ← hn, sg _ (Nat.le_add_left _ _), Option.bind_some, if_neg cg, if_neg cn, t1, t2, if_neg o1, Option.bind_some, if_neg cg, t1, t3, wj]
        exact v1
      · rw [impl_WhenSteady.l0, if_pos c1, if_pos c2, if_pos c1, e, ← hn, impl_gcd.f, ig _ (Nat.le_add_left _ _), Option.bind_some, if_neg cg, t1, t3, if_neg o2, wj]
        exact v2
theorem WhenSteady_both (l : List Int) (hl : l.length ≤ 1048576) : ∃ (K : Nat) (v : Int × Int × Bool), ∀ k, K ≤ k → spec_WhenSteady.f k l = some v ∧ impl_WhenSteady.f k l = some v := by
  cases hm : isMapB l with
  | false => exact ⟨l.length + 1, (0, 0, false), fun k hk => ⟨by rw [spec_WhenSteady.f, mpGood_eq l hl (by omega), hm, Option.bind_some, if_neg (by decide)], by rw [impl_WhenSteady.f, IsMap_eq l hl, hm, Option.bind_some, if_neg (by decide)]⟩⟩
  | true =>
    obtain ⟨g1, g2, g3⟩ := isMap_range hm
    obtain ⟨K1, h1⟩ := mpCycles_eq (l := l) g3 g2
    obtain ⟨K2, m, h2⟩ := deep_both (l := l) g3 (by omega) g2
    have hcl := cycs_length l l.length
    have hall : ∀ c ∈ cycs l l.length, 0 < c.length ∧ c.length ≤ 60 := fun c hc => by
      obtain ⟨i, hi, _, rfl⟩ := mem_cycs.1 hc
      have hx : Has l (i : Int) := ⟨by omega, by omega⟩
      have := rA_lt g3 hx
      rw [cyL_length]
      exact ⟨per_pos g3 hx, by omega⟩
    obtain ⟨K3, v, h3⟩ := steady_loop (l := l) (cs := cycs l l.length) (by omega) hall h2 (cycs l l.length).length 0 1 (by omega) (by omega) (by omega)
    refine ⟨K1 + K3 + 2 * l.length + 10, v, fun k hk => ?_⟩
    obtain ⟨a1, a2⟩ := h3 k (by omega)
    refine ⟨?_, ?_⟩
    · rw [spec_WhenSteady.f, mpGood_eq l hl (by omega), hm, Option.bind_some, if_pos rfl, h1 k (by omega), Option.bind_some]
      exact a1
    · rw [impl_WhenSteady.f, IsMap_eq l hl, hm, Option.bind_some, if_pos rfl, cycles_eq g3 g2 (by omega), Option.bind_some]
      exact a2
theorem WhenSteady_law : laws_FnExactWhenSteady.Pure := by
  intro l _ _ _
  by_cases hl : (l.length : Int) > 1048576
  · exact ⟨0, by rw [laws_FnExactWhenSteady.f, if_pos hl]⟩
  obtain ⟨K0, v, h0⟩ := WhenSteady_both l (by omega)
  obtain ⟨K, hK⟩ : ∃ K, K = K0 + l.length + 1 := ⟨_, rfl⟩
  have hTl : ∀ k, K ≤ k → laws_toIntS.f k l = some l := fun k h => (law_facts l [] (by omega) (by simp) (show _ < k by simp; omega)).1
  have hEl : ∀ k, K ≤ k → laws_eqIntS.f k l l = some true := fun k h => (law_facts l [] (by omega) (by simp) (show _ < k by simp; omega)).2.1
  have e1 : ∀ k, K ≤ k → spec_WhenSteady.f k l = some v := fun k h => (h0 k (by omega)).1
  have e2 : ∀ k, K ≤ k → impl_WhenSteady.f k l = some v := fun k h => (h0 k (by omega)).2
  refine ⟨K + 9, ?_⟩
  simp [laws_FnExactWhenSteady.f, laws_FnExactWhenSteady.j0, e1, e2, hl, hTl, hEl]

end Go.Proofs.YtcaohpcbohdkbaaC
