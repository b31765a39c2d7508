/-
  The plain laws of PowerOfMap, RenameMap and CountFixedBy over the printed functions. No conditions.
-/
import Derived.Test.YtcaohpcbohdkbaaLMq
namespace Go.Proofs.YtcaohpcbohdkbaaC
open Go.RowKit Go.Proofs.YtcaohpcbohdkbaaW.PrintWords Go.Proofs.YtcaohpcbohdkbaaW.PrintMore
set_option linter.unusedSimpArgs false
set_option linter.unusedVariables false

/-! ### many steps at once -/
def pw (l : List Int) (t : Nat) (i : Nat) : Int := it (rd l) (i : Int) t
theorem pw_mapL {l : List Int} (h : MapL l) (t : Nat) : ∀ x ∈ upTo (pw l t) l.length, 0 ≤ x ∧ x < (l.length : Int) := by
  intro x hx
  simp only [upTo, List.mem_map, List.mem_range] at hx
  obtain ⟨i, hi, rfl⟩ := hx
  exact it_has h ⟨by omega, by omega⟩ t
theorem pw_one (l : List Int) : upTo (pw l 1) l.length = l := by
  apply List.ext_getElem
  · simp [upTo]
  · intro i h1 h2
    simp only [upTo, List.getElem_map, List.getElem_range, pw]
    show rd l (i : Int) = _
    exact rd_get h2
theorem pw_comp {l : List Int} (h : MapL l) (s t : Nat) : (upTo (pw l t) l.length).map (rd (upTo (pw l s) l.length)) = upTo (pw l (t + s)) l.length := by
  apply List.ext_getElem
  · simp [upTo]
  · intro i h1 h2
    rw [upTo_length] at h2
    have hy := it_has h (x := (i : Int)) ⟨by omega, by omega⟩ t
    obtain ⟨y, hy2⟩ := Int.eq_ofNat_of_zero_le hy.1
    have e : rd (upTo (pw l s) l.length) (it (rd l) (i : Int) t) = it (rd l) (it (rd l) (i : Int) t) s := by
      rw [hy2]
      exact upTo_at _ (by have := hy.2; omega)
    rw [List.getElem_map]
    simp only [upTo, List.getElem_map, List.getElem_range, pw] at e ⊢
    rw [e, it_add]
theorem composed_eq {f g : List Int} (hf : ∀ x ∈ f, 0 ≤ x ∧ x < (g.length : Int)) (hl : f.length ≤ 1048576) {k : Nat} (hk : f.length < k) : impl_composed.f k f g = some (f.map (rd g)) := (composed_loops hf hl k hk).1
theorem pw_composed {l : List Int} (h : MapL l) (hl : l.length ≤ 60) (s t : Nat) {k : Nat} (hk : l.length < k) : impl_composed.f k (upTo (pw l t) l.length) (upTo (pw l s) l.length) = some (upTo (pw l (t + s)) l.length) := by
  rw [composed_eq (fun x hx => by rw [upTo_length]; exact pw_mapL h t x hx) (by rw [upTo_length]; omega) (by rw [upTo_length]; exact hk), pw_comp h]
theorem power_l1 {l : List Int} (h : MapL l) (hl : l.length ≤ 60) : ∀ (n : Nat), n ≤ 1000000000 → ∀ (s t k : Nat), l.length + n + 1 < k → impl_power.l1 k (upTo (pw l s) l.length) (n : Int) (upTo (pw l t) l.length) = some (upTo (pw l (t + n * s)) l.length) := by
  intro n
  induction n using Nat.strongRecOn with
  | ind n ih =>
    intro hn s t k hk
    obtain ⟨k, rfl⟩ : ∃ q, k = q + 1 := ⟨k - 1, by omega⟩
    rcases Nat.eq_zero_or_pos n with rfl | hpos
    · rw [impl_power.l1, if_neg (by omega), Nat.zero_mul]; rfl
    · have hlt : n / 2 < n := Nat.div_lt_self hpos (by omega)
      have e2 : Int.tmod (n : Int) 2 = ((n % 2 : Nat) : Int) := tmod_nat n 2
      have e3 : Int.tdiv (n : Int) 2 = ((n / 2 : Nat) : Int) := tdiv_nat n 2
      rw [impl_power.l1, if_pos (by omega), e2, e3, w64n (by omega), pw_composed h hl s s (by omega)]
      by_cases ho : n % 2 = 1
      · rw [if_pos (by omega), pw_composed h hl s t (by omega), Option.bind_some, Option.bind_some, ih (n / 2) hlt (by omega) (s + s) (t + s) k (by omega)]
        congr 3
        have := Nat.mod_add_div n 2
        rw [ho] at this
        conv => rhs; rw [← this]
        rw [Nat.add_mul, Nat.mul_comm 2, Nat.mul_assoc, Nat.two_mul]
        omega
      · rw [if_neg (by omega), Option.bind_some, ih (n / 2) hlt (by omega) (s + s) t k (by omega)]
        congr 3
        have := Nat.mod_add_div n 2
        rw [show n % 2 = 0 by omega] at this
        conv => rhs; rw [← this]
        rw [Nat.add_mul, Nat.mul_comm 2, Nat.mul_assoc, Nat.two_mul]
        omega
theorem power_l0 {l : List Int} (h : MapL l) (hl : l.length ≤ 60) (n : Nat) (hn : n ≤ 1000000000) : ∀ (d i k : Nat), i + d = l.length → 2 * l.length + n + d + 2 < k → impl_power.l0 k l (n : Int) (upTo (pw l 0) i) (l.length : Int) (i : Int) = some (upTo (pw l n) l.length)
  | 0, i, k, hi, hk => by
    obtain ⟨k, rfl⟩ : ∃ q, k = q + 1 := ⟨k - 1, by omega⟩
    obtain rfl : i = l.length := by omega
    rw [impl_power.l0, if_neg (by omega)]
    have := power_l1 h hl n hn 1 0 k (by omega)
    rw [pw_one, Nat.mul_one, Nat.zero_add] at this
    exact this
  | d + 1, i, k, hi, hk => by
    obtain ⟨k, rfl⟩ : ∃ q, k = q + 1 := ⟨k - 1, by omega⟩
    rw [impl_power.l0, if_pos (by omega), if_pos (by rw [upTo_length]; omega), w64s (by omega)]
    have := power_l0 h hl n hn d (i + 1) k (by omega) (by omega)
    rw [upTo_succ] at this
    exact this
theorem power_eq {l : List Int} (h : MapL l) (hl : l.length ≤ 60) (n : Nat) (hn : n ≤ 1000000000) {k : Nat} (hk : 3 * l.length + n + 2 < k) : impl_power.f k l (n : Int) = some (upTo (pw l n) l.length) :=
  power_l0 h hl n hn l.length 0 k (by omega) (by omega)
theorem mpSteps_eq (n : Int) : spec_mpSteps.f n = some (decide (0 ≤ n ∧ n ≤ 1000000)) := by rw [spec_mpSteps.f, l1In_eq, Option.bind_some]
theorem steps_le {n a p : Nat} (hp : 0 < p) : a + (n - a) % p < a + p := by
  have := Nat.mod_lt (n - a) hp
  omega
theorem steps_eq {n a p : Nat} (hn : n ≤ 1000000) (ha : a < n) (hp : 0 < p) (hp2 : p ≤ 1000) : wrap64 ((a : Int) + Int.tmod (wrap64 ((n : Int) - (a : Int))) (p : Int)) = ((a + (n - a) % p : Nat) : Int) := by
  have e1 : wrap64 ((n : Int) - (a : Int)) = ((n - a : Nat) : Int) := by rw [w64 (by omega) (by omega)]; omega
  rw [e1, tmod_nat]
  have h1 := Nat.mod_lt (n - a) hp
  generalize (n - a) % p = q at h1 ⊢
  clear e1
  rw [w64 (by omega) (by omega)]
  omega
theorem PowerOfMap_loop {l : List Int} (h : MapL l) (hl : l.length ≤ 60) (n : Nat) (hn : n ≤ 1000000) : ∀ (d i k : Nat), i + d = l.length → n + 200 + d < k → spec_PowerOfMap.l0 k l (n : Int) (upTo (dep l) l.length) (cycL l) (upTo (pw l n) i) (l.length : Int) (i : Int) = some (upTo (pw l n) l.length, true)
  | 0, i, k, hi, hk => by
    obtain ⟨k, rfl⟩ : ∃ q, k = q + 1 := ⟨k - 1, by omega⟩
    obtain rfl : i = l.length := by omega
    rw [spec_PowerOfMap.l0, if_neg (by omega)]
  | d + 1, i, k, hi, hk => by
    obtain ⟨k, rfl⟩ : ∃ q, k = q + 1 := ⟨k - 1, by omega⟩
    have hx : Has l (i : Int) := ⟨by omega, by omega⟩
    have hlt := rA_lt h hx
    have hp := per_pos h hx
    have hy := it_has h hx (rA l (i : Int))
    have hyc : cyc l (it (rd l) (i : Int) (rA l (i : Int))) = true := by rw [cyc_it h hx]; simp
    have ih := PowerOfMap_loop h hl n hn d (i + 1) k (by omega) (by omega)
    rw [upTo_succ] at ih
    rw [spec_PowerOfMap.l0, if_pos (by omega), if_pos (by omega), if_pos (by rw [upTo_length]; omega), upTo_at _ (show i < l.length by omega), show dep l i = (rA l (i : Int) : Int) from rfl]
    by_cases hd : (n : Int) > (rA l (i : Int) : Int)
    · rw [if_pos hd, at_eq h hx _ (by omega) (by omega), Option.bind_some, if_pos hy.1, if_pos (by rw [cycL_length]; exact hy.2), cycL_at hy, hyc, if_pos rfl, mpRound_eq h hl hy hyc (by omega), Option.bind_some, cyL_length, (rA_it h hx _).2, if_neg (by omega)]
      have e2 := steps_eq (n := n) (a := rA l (i : Int)) (p := per l (i : Int)) hn (by omega) hp (by omega)
      obtain ⟨hr, _⟩ := rho_map h hx
      have e3 := hr.mod n (by omega)
      have e4 : rM l (i : Int) - rA l (i : Int) = per l (i : Int) := rfl
      rw [e4] at e3
      have e5 := steps_le (n := n) (a := rA l (i : Int)) (p := per l (i : Int)) hp
      rw [e2, at_eq h hx _ (by omega) (by omega), Option.bind_some, if_pos (by rw [upTo_length]; omega), w64s (by omega), ← e3]
      exact ih
    · rw [if_neg hd, at_eq h hx _ (by omega) (by omega), Option.bind_some, if_pos (by rw [upTo_length]; omega), w64s (by omega)]
      exact ih
theorem PowerOfMap_both (l : List Int) (n : Int) (hl : l.length ≤ 1048576) : ∃ (K : Nat) (r : List Int) (ok : Bool), r.length ≤ 1000 ∧ ∀ k, K ≤ k → spec_PowerOfMap.f k l n = some (r, ok) ∧ impl_PowerOfMap.f k l n = some (r, ok) := by
  cases hm : isMapB l with
  | false =>
    refine ⟨l.length + 2, [], false, by simp, fun k hk => ⟨?_, ?_⟩⟩
    · obtain ⟨k, rfl⟩ : ∃ q, k = q + 1 := ⟨k - 1, by omega⟩
      rw [spec_PowerOfMap.f, mpGood_eq l hl (by omega), hm, Option.bind_some, if_neg (by decide), spec_PowerOfMap.j0, if_pos rfl]
    · rw [impl_PowerOfMap.f, asks_eq l 0 n hl, asksB, hm, Bool.false_and, Bool.false_and, Option.bind_some, if_neg (by decide)]
  | true =>
    obtain ⟨g1, g2, g3⟩ := isMap_range hm
    have ha : asksB l 0 = true := by rw [asksB, hm, Bool.true_and, decide_eq_true_eq]; omega
    by_cases hn : 0 ≤ n ∧ n ≤ 1000000
    · obtain ⟨n, rfl⟩ := Int.eq_ofNat_of_zero_le hn.1
      obtain ⟨K, hK⟩ := mpDepths_eq (l := l) g3 g2
      refine ⟨K + n + 1000, upTo (pw l n) l.length, true, by rw [upTo_length]; omega, fun k hk => ⟨?_, ?_⟩⟩
      · obtain ⟨k, rfl⟩ : ∃ q, k = q + 1 := ⟨k - 1, by omega⟩
        rw [spec_PowerOfMap.f, mpGood_eq l hl (by omega), hm, Option.bind_some, if_pos rfl, mpSteps_eq, decide_eq_true hn, Option.bind_some, spec_PowerOfMap.j0, if_neg (by decide), (hK k (by omega)).1, Option.bind_some, (hK k (by omega)).2, Option.bind_some]
        exact PowerOfMap_loop g3 g2 n (by omega) l.length 0 k (by omega) (by omega)
      · rw [impl_PowerOfMap.f, asks_eq l 0 n hl, ha, decide_eq_true hn, Bool.true_and, Option.bind_some, if_pos rfl, power_eq g3 g2 n (by omega) (by omega), Option.bind_some]
    · refine ⟨l.length + 2, [], false, by simp, fun k hk => ⟨?_, ?_⟩⟩
      · obtain ⟨k, rfl⟩ : ∃ q, k = q + 1 := ⟨k - 1, by omega⟩
        rw [spec_PowerOfMap.f, mpGood_eq l hl (by omega), hm, Option.bind_some, if_pos rfl, mpSteps_eq, decide_eq_false hn, Option.bind_some, spec_PowerOfMap.j0, if_pos (by decide)]
      · rw [impl_PowerOfMap.f, asks_eq l 0 n hl, decide_eq_false hn, Bool.and_false, Option.bind_some, if_neg (by decide)]
theorem PowerOfMap_law : laws_FnExactPowerOfMap.Pure := by
  intro l n _ _ _ _
  by_cases hl : (l.length : Int) > 1048576
  · exact ⟨0, by rw [laws_FnExactPowerOfMap.f, if_pos hl]⟩
  obtain ⟨K0, r, ok, hr, h0⟩ := PowerOfMap_both l n (by omega)
  obtain ⟨K, hK⟩ : ∃ K, K = K0 + l.length + r.length + 1 := ⟨_, rfl⟩
  have hTl : ∀ k, K ≤ k → laws_toIntS.f k l = some l := fun k h => (law_facts l r (by omega) (by omega) (show _ < k by omega)).1
  have hEl : ∀ k, K ≤ k → laws_eqIntS.f k l l = some true := fun k h => (law_facts l r (by omega) (by omega) (show _ < k by omega)).2.1
  have hMl : ∀ k, K ≤ k → laws_markIntS.f k l 1 = some (1 + (l.length : Int), marks 1 l.length) := fun k h => (law_facts l r (by omega) (by omega) (show _ < k by omega)).2.2.2.1
  have hNl := neg_no l
  have hE : ∀ k, K ≤ k → laws_eqIntS.f k r r = some true := fun k h => (law_facts [] r (by simp) (by omega) (show _ < k by simp; omega)).2.2.1
  have hM : ∀ k, K ≤ k → laws_markIntS.f k r 1 = some (1 + (r.length : Int), marks 1 r.length) := fun k h => (law_facts [] r (by simp) (by omega) (show _ < k by simp; omega)).2.2.2.2.1
  have hH : ∀ k, K ≤ k → laws_heldIntS.f k (marks 1 r.length) 1 = some (1 + (r.length : Int)) := fun k h => (law_facts [] r (by simp) (by omega) (show _ < k by simp; omega)).2.2.2.2.2
  have hN := neg_no r
  have e1 : ∀ k, K ≤ k → spec_PowerOfMap.f k l n = some (r, ok) := fun k h => (h0 k (by omega)).1
  have e2 : ∀ k, K ≤ k → impl_PowerOfMap.f k l n = some (r, ok) := fun k h => (h0 k (by omega)).2
  refine ⟨K + 9, ?_⟩
  simp [laws_FnExactPowerOfMap.f, laws_FnExactPowerOfMap.j0, laws_FnExactPowerOfMap.j1, laws_FnExactPowerOfMap.j2, hE, hM, hH, hN, e1, e2, hl, hTl, hEl, hMl, hNl]

end Go.Proofs.YtcaohpcbohdkbaaC
