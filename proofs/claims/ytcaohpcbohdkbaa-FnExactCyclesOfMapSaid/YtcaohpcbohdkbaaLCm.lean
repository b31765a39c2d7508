/-
  The plain law of CyclesOfMap: rows of rows are compared, marked and looked at again. No conditions.
-/
import Derived.Test.YtcaohpcbohdkbaaLMn
import Derived.Test.YtcaohpcbohdkbaaCCm
namespace Go.Proofs.YtcaohpcbohdkbaaC
open Go.RowKit Go.Proofs.YtcaohpcbohdkbaaW.PrintWords Go.Proofs.YtcaohpcbohdkbaaW.PrintMore
set_option linter.unusedSimpArgs false
set_option linter.unusedVariables false

theorem rdL_mid (a c : List (List Int)) (x : List Int) : rd_L2 (a ++ x :: c) (a.length : Int) = x := by
  simp [rd_L2, List.getD_eq_getElem?_getD]
/-- How many numbers rows have. -/
def tot : List (List Int) → Nat
  | [] => 0
  | r :: rs => r.length + tot rs
/-- Rows marked from s on. -/
def marksS (s : Int) : List (List Int) → List (List Int)
  | [] => []
  | r :: rs => marks s r.length :: marksS (s + (r.length : Int)) rs
theorem marksS_length : ∀ (rs : List (List Int)) (s : Int), (marksS s rs).length = rs.length
  | [], _ => rfl
  | r :: rs, s => by simp [marksS, marksS_length rs]
theorem eqIntSS_loop (xs : List (List Int)) (hx : xs.length ≤ 1000000) (hr : ∀ r ∈ xs, r.length ≤ 1000000) : ∀ (suf pre : List (List Int)) (k : Nat), xs = pre ++ suf → suf.length + 1000000 < k → laws_eqIntSS.l0 k xs xs (pre.length : Int) = some true
  | [], pre, k, h, hk => by
    obtain ⟨k, rfl⟩ : ∃ q, k = q + 1 := ⟨k - 1, by omega⟩
    subst h
    rw [laws_eqIntSS.l0, if_neg (by simp)]
  | r :: suf, pre, k, h, hk => by
    simp only [List.length_cons] at hk
    obtain ⟨k, rfl⟩ : ∃ q, k = q + 1 := ⟨k - 1, by omega⟩
    have hl : xs.length = pre.length + suf.length + 1 := by subst h; simp; omega
    have e : rd_L2 xs (pre.length : Int) = r := by subst h; exact rdL_mid _ _ _
    have hrl := hr r (by subst h; simp)
    rw [laws_eqIntSS.l0, if_pos (by omega), if_pos (by omega), if_pos (by omega), e, eqIntS_same r (by omega) (by omega), Option.bind_some, if_pos rfl, w64s (by omega)]
    have := eqIntSS_loop xs hx hr suf (pre ++ [r]) k (by simp [h]) (by omega)
    simpa using this
theorem eqIntSS_same (xs : List (List Int)) (hx : xs.length ≤ 1000000) (hr : ∀ r ∈ xs, r.length ≤ 1000000) {k : Nat} (hk : xs.length + 1000000 < k) : laws_eqIntSS.f k xs xs = some true := by
  rw [laws_eqIntSS.f, if_pos rfl]
  exact eqIntSS_loop xs hx hr xs [] k rfl hk
theorem markIntSS_loop : ∀ (suf pre : List (List Int)) (s : Int) (k : Nat), pre.length + suf.length ≤ 1000000 → (∀ r ∈ suf, r.length ≤ 1000000) → 0 ≤ s → s + (tot suf : Int) ≤ 1000000000000000 → suf.length + 1000000 < k →
    laws_markIntSS.l0 k (pre ++ suf) s (pre.length : Int) = some (s + (tot suf : Int), pre ++ marksS s suf)
  | [], pre, s, k, hl, hr, h0, hs, hk => by
    obtain ⟨k, rfl⟩ : ∃ q, k = q + 1 := ⟨k - 1, by omega⟩
    rw [laws_markIntSS.l0, if_neg (by simp)]
    simp [tot, marksS]
  | r :: suf, pre, s, k, hl, hr, h0, hs, hk => by
    simp only [List.length_cons] at hk hl
    obtain ⟨k, rfl⟩ : ∃ q, k = q + 1 := ⟨k - 1, by omega⟩
    have hrl := hr r (by simp)
    have ht : (tot (r :: suf) : Int) = (r.length : Int) + (tot suf : Int) := by simp [tot]
    rw [ht] at hs
    rw [laws_markIntSS.l0, if_pos (by simp; omega), if_pos (by omega), rdL_mid, markIntS_eq r s (by omega) (by omega) h0 (by omega), Option.bind_some]
    simp only [Int.toNat_natCast]
    rw [set_mid, w64s (by omega)]
    have := markIntSS_loop suf (pre ++ [marks s r.length]) (s + (r.length : Int)) k (by simp; omega) (fun r' h => hr r' (by simp [h])) (by omega) (by omega) (by omega)
    simp only [List.append_assoc, List.singleton_append, List.length_append, List.length_singleton] at this
    rw [this, ht]
    simp only [marksS]
    congr 2
    omega
theorem heldIntSS_loop : ∀ (suf : List (List Int)) (pre : List (List Int)) (s : Int) (k : Nat), pre.length + suf.length ≤ 1000000 → (∀ r ∈ suf, r.length ≤ 1000000) → 0 ≤ s → s + (tot suf : Int) ≤ 1000000000000000 → suf.length + 1000000 < k →
    laws_heldIntSS.l0 k (pre ++ marksS s suf) s (pre.length : Int) = some (s + (tot suf : Int))
  | [], pre, s, k, hl, hr, h0, hs, hk => by
    obtain ⟨k, rfl⟩ : ∃ q, k = q + 1 := ⟨k - 1, by omega⟩
    rw [laws_heldIntSS.l0, if_neg (by simp [marksS])]
    simp [tot]
  | r :: suf, pre, s, k, hl, hr, h0, hs, hk => by
    simp only [List.length_cons] at hk hl
    obtain ⟨k, rfl⟩ : ∃ q, k = q + 1 := ⟨k - 1, by omega⟩
    have hrl := hr r (by simp)
    have ht : (tot (r :: suf) : Int) = (r.length : Int) + (tot suf : Int) := by simp [tot]
    rw [ht] at hs
    simp only [marksS]
    rw [laws_heldIntSS.l0, if_pos (by simp; omega), if_pos (by omega), rdL_mid, heldIntS_eq r.length s (by omega) (by omega) h0 (by omega), Option.bind_some, if_neg (by omega), w64s (by omega)]
    have := heldIntSS_loop suf (pre ++ [marks s r.length]) (s + (r.length : Int)) k (by simp; omega) (fun r' h => hr r' (by simp [h])) (by omega) (by omega) (by omega)
    simp only [List.append_assoc, List.singleton_append, List.length_append, List.length_singleton] at this
    rw [show ((pre.length + 1 : Nat) : Int) = ((pre.length + 1 : Nat) : Int) from rfl, this, ht]
    congr 1
    omega
theorem tot_le : ∀ (rs : List (List Int)) (b : Nat), (∀ r ∈ rs, r.length ≤ b) → tot rs ≤ rs.length * b
  | [], _, _ => by simp [tot]
  | r :: rs, b, h => by
    have h1 := tot_le rs b (fun r' h' => h r' (by simp [h']))
    have h2 := h r (by simp)
    simp only [tot, List.length_cons, Nat.succ_mul]
    omega
/-- What every statement over rows of rows knows. -/
theorem rows_facts (xs : List (List Int)) (hx : xs.length ≤ 1000000) (hr : ∀ r ∈ xs, r.length ≤ 1000000) {k : Nat} (hk : xs.length + 1000000 < k) :
    laws_eqIntSS.f k xs xs = some true ∧ laws_markIntSS.f k xs 1 = some (1 + (tot xs : Int), marksS 1 xs) ∧ laws_heldIntSS.f k (marksS 1 xs) 1 = some (1 + (tot xs : Int)) := by
  have ht := tot_le xs 1000000 hr
  have h1 : xs.length * 1000000 ≤ 1000000 * 1000000 := Nat.mul_le_mul_right _ hx
  have hb : (1 : Int) + (tot xs : Int) ≤ 1000000000000000 := by omega
  refine ⟨eqIntSS_same xs hx hr hk, ?_, ?_⟩
  · have := markIntSS_loop xs [] 1 k (by simpa using hx) hr (by omega) hb hk
    rw [laws_markIntSS.f]
    simpa using this
  · have := heldIntSS_loop xs [] 1 k (by simpa using hx) hr (by omega) hb hk
    rw [laws_heldIntSS.f]
    simpa using this
theorem CyclesOfMap_both (l : List Int) (hl : l.length ≤ 1048576) : ∃ (K : Nat) (r : List (List Int)) (ok : Bool), r.length ≤ 1000 ∧ (∀ c ∈ r, c.length ≤ 1000) ∧ ∀ k, K ≤ k → spec_CyclesOfMap.f k l = some (r, ok) ∧ impl_CyclesOfMap.f k l = some (r, ok) := by
  cases hm : isMapB l with
  | false => exact ⟨l.length + 1, [], false, by simp, by simp, fun k hk => ⟨by rw [spec_CyclesOfMap.f, mpGood_eq l hl (by omega), hm, Option.bind_some, if_neg (by decide)], by rw [impl_CyclesOfMap.f, IsMap_eq l hl, hm, Option.bind_some, if_neg (by decide)]⟩⟩
  | true =>
    obtain ⟨g1, g2, g3⟩ := isMap_range hm
    obtain ⟨K, hK⟩ := mpCycles_eq (l := l) g3 g2
    have hcl := cycs_length l l.length
    refine ⟨K + 2 * l.length + 10, cycs l l.length, true, by omega, fun c hc => ?_, fun k hk => ⟨?_, ?_⟩⟩
    · obtain ⟨i, hi, _, rfl⟩ := mem_cycs.1 hc
      rw [cyL_length]
      have := rA_lt (l := l) g3 (x := (i : Int)) ⟨by omega, by omega⟩
      omega
    · rw [spec_CyclesOfMap.f, mpGood_eq l hl (by omega), hm, Option.bind_some, if_pos rfl, hK k (by omega), Option.bind_some]
    · rw [impl_CyclesOfMap.f, IsMap_eq l hl, hm, Option.bind_some, if_pos rfl, cycles_eq g3 g2 (by omega), Option.bind_some]
theorem CyclesOfMap_law : laws_FnExactCyclesOfMap.Pure := by
  intro l _ _ _
  by_cases hl : (l.length : Int) > 1048576
  · exact ⟨0, by rw [laws_FnExactCyclesOfMap.f, if_pos hl]⟩
  obtain ⟨K0, r, ok, hr, hr2, h0⟩ := CyclesOfMap_both l (by omega)
  obtain ⟨K, hK⟩ : ∃ K, K = K0 + l.length + r.length + 2000000 := ⟨_, rfl⟩
  obtain ⟨f1, f2, f3⟩ := rows_facts r (by omega) (fun c hc => by have := hr2 c hc; omega) (k := K) (by omega)
  obtain ⟨g1, g2, _, g4, _⟩ := law_facts l [] (by omega) (by simp) (k := K) (by simp; omega)
  obtain ⟨e1, e2⟩ := h0 K (by omega)
  refine ⟨K, ?_⟩
  rw [laws_FnExactCyclesOfMap.f, if_neg hl, g1, Option.bind_some, e1, Option.bind_some, e2, Option.bind_some, f1, Option.bind_some, g2, Option.bind_some, g4, Option.bind_some, f2, Option.bind_some, f3, Option.bind_some, if_pos ⟨rfl, rfl, rfl, by omega, by omega, rfl⟩]

end Go.Proofs.YtcaohpcbohdkbaaC
