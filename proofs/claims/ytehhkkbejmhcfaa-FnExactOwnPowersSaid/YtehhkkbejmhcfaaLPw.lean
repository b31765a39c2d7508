/-
  Plain laws on powers: PowerSum, FallsFrom and GreatestSum over the printed functions. No conditions.
-/
import Derived.Test.YtehhkkbejmhcfaaLB
import Derived.Test.YtehhkkbejmhcfaaCPw
namespace Go.Proofs.YtehhkkbejmhcfaaC
open Go.RowKit Go.Proofs.YtehhkkbejmhcfaaW.PrintWords
set_option linter.unusedSimpArgs false
set_option linter.unusedVariables false

theorem pow_bound {x : Int} (h0 : 0 ≤ x) (h1 : x ≤ 16) : ∀ (n : Nat), 0 ≤ x ^ n ∧ x ^ n ≤ 16 ^ n
  | 0 => by simp
  | n + 1 => by
    have ih := pow_bound h0 h1 n
    rw [Int.pow_succ, Int.pow_succ]
    exact ⟨Int.mul_nonneg ih.1 h0, Int.le_trans (Int.mul_le_mul_of_nonneg_left h1 ih.1) (Int.mul_le_mul_of_nonneg_right ih.2 (by omega))⟩
theorem pow16 {n : Nat} (h : n ≤ 15) : (16 : Int) ^ n ≤ 1152921504606846976 := by
  have : n = 0 ∨ n = 1 ∨ n = 2 ∨ n = 3 ∨ n = 4 ∨ n = 5 ∨ n = 6 ∨ n = 7 ∨ n = 8 ∨ n = 9 ∨ n = 10 ∨ n = 11 ∨ n = 12 ∨ n = 13 ∨ n = 14 ∨ n = 15 := by omega
  rcases this with rfl | rfl | rfl | rfl | rfl | rfl | rfl | rfl | rfl | rfl | rfl | rfl | rfl | rfl | rfl | rfl <;> decide
theorem pow_small {x : Int} (h0 : 0 ≤ x) (h1 : x ≤ 16) {n : Nat} (h : n ≤ 15) : 0 ≤ x ^ n ∧ x ^ n ≤ 1152921504606846976 :=
  ⟨(pow_bound h0 h1 n).1, Int.le_trans (pow_bound h0 h1 n).2 (pow16 h)⟩
theorem toPower_eq {x : Int} (h0 : 0 ≤ x) (h1 : x ≤ 16) (n : Nat) (h : n ≤ 15) : ∀ k, n < k → impl_toPower.f k x (n : Int) = some (x ^ n) := by
  intro k hk
  have := run0 (fun k (s : Int × Int) => impl_toPower.l0 k x s.1 (n : Int) s.2) n 0 (fun j => (x ^ j, (j : Int))) (x ^ n)
    (fun j hj k _ => by
      show impl_toPower.l0 (k + 1) x (x ^ j) (n : Int) (j : Int) = impl_toPower.l0 k x (x ^ (j + 1)) (n : Int) ((j + 1 : Nat) : Int)
      have hb := pow_small h0 h1 (n := j + 1) (by omega)
      have e : x ^ j * x = x ^ (j + 1) := (Int.pow_succ x j).symm
      rw [impl_toPower.l0, if_pos (by omega), w64s (by omega), e, w64 (by omega) (by omega)])
    (fun k _ => by
      show impl_toPower.l0 (k + 1) x (x ^ n) (n : Int) (n : Int) = _
      rw [impl_toPower.l0, if_neg (by omega)])
    k (by omega)
  simpa [impl_toPower.f] using this
theorem pwOf_eq {x : Int} (h0 : 0 ≤ x) (h1 : x ≤ 16) (n : Nat) (h : n ≤ 15) : ∀ k, n < k → spec_pwOf.f k x (n : Int) = some (x ^ n) := by
  intro k hk
  have := run0 (fun k (s : Int × Int) => spec_pwOf.l0 k x s.1 s.2) n 0 (fun j => ((n : Int) - (j : Int), x ^ j)) (x ^ n)
    (fun j hj k _ => by
      show spec_pwOf.l0 (k + 1) x ((n : Int) - (j : Int)) (x ^ j) = spec_pwOf.l0 k x ((n : Int) - ((j + 1 : Nat) : Int)) (x ^ (j + 1))
      have hb := pow_small h0 h1 (n := j + 1) (by omega)
      have e : x ^ j * x = x ^ (j + 1) := (Int.pow_succ x j).symm
      rw [spec_pwOf.l0, if_pos (by omega), e, w64 (by omega) (by omega), w64 (by omega) (by omega)]
      congr 1; omega)
    (fun k _ => by
      show spec_pwOf.l0 (k + 1) x ((n : Int) - (n : Int)) (x ^ n) = _
      rw [spec_pwOf.l0, if_neg (by omega)])
    k (by omega)
  simpa [spec_pwOf.f] using this
/-- The power sum of digits. -/
def psum (p : Nat) (l : List Int) : Int := (l.map fun d => d ^ p).sum
theorem pow8 {d : Int} (h0 : 0 ≤ d) (h1 : d ≤ 16) {p : Nat} (h : p ≤ 8) : 0 ≤ d ^ p ∧ d ^ p ≤ 4294967296 := by
  refine ⟨(pow_bound h0 h1 p).1, Int.le_trans (pow_bound h0 h1 p).2 ?_⟩
  have : p = 0 ∨ p = 1 ∨ p = 2 ∨ p = 3 ∨ p = 4 ∨ p = 5 ∨ p = 6 ∨ p = 7 ∨ p = 8 := by omega
  rcases this with rfl | rfl | rfl | rfl | rfl | rfl | rfl | rfl | rfl <;> decide
theorem psum_bound {p : Nat} (hp : p ≤ 8) : ∀ (l : List Int), (∀ x ∈ l, 0 ≤ x ∧ x ≤ 16) → 0 ≤ psum p l ∧ psum p l ≤ 4294967296 * (l.length : Int)
  | [], _ => by simp [psum]
  | d :: l, h => by
    have ih := psum_bound hp l (fun x hx => h x (by simp [hx]))
    have hd := pow8 (h d (by simp)).1 (h d (by simp)).2 hp
    simp only [psum, List.map_cons, List.sum_cons, List.length_cons] at ih ⊢
    omega
theorem psum_append (p : Nat) (a b : List Int) : psum p (a ++ b) = psum p a + psum p b := by simp [psum]
theorem psum_rev (p : Nat) (l : List Int) : psum p l.reverse = psum p l := by
  induction l with
  | nil => rfl
  | cons x l ih => rw [List.reverse_cons, psum_append, ih]; simp [psum]; omega
theorem powerSum_loop {p : Nat} (hp : p ≤ 8) (l : List Int) (hl : l.length ≤ 1000) (hr : ∀ x ∈ l, 0 ≤ x ∧ x ≤ 16) : ∀ k, l.length + 9 < k → impl_powerSum.l0 k (p : Int) 0 l (l.length : Int) 0 = some (psum p l) := by
  intro k hk
  have := run0 (fun k (s : Int × Int) => impl_powerSum.l0 k (p : Int) s.1 l (l.length : Int) s.2) l.length 9 (fun j => (psum p (l.take j), (j : Int))) (psum p l)
    (fun j hj k hk => by
      show impl_powerSum.l0 (k + 1) (p : Int) (psum p (l.take j)) l (l.length : Int) (j : Int) = impl_powerSum.l0 k (p : Int) (psum p (l.take (j + 1))) l (l.length : Int) ((j + 1 : Nat) : Int)
      have hx := hr l[j] (List.getElem_mem hj)
      have hb := psum_bound hp (l.take (j + 1)) (fun x hx => hr x (List.mem_of_mem_take hx))
      have hlen : (l.take (j + 1)).length ≤ 1000 := by simp; omega
      have e : psum p (l.take (j + 1)) = psum p (l.take j) + l[j] ^ p := by rw [take_s hj, psum_append]; simp [psum]
      rw [impl_powerSum.l0, if_pos (by omega), if_pos (by omega), if_pos (by omega), rd_get hj, toPower_eq hx.1 hx.2 p (by omega) k (by omega), w64s (by omega)]
      simp only [Option.bind_some]
      rw [← e, w64 (by omega) (by omega)])
    (fun k _ => by
      show impl_powerSum.l0 (k + 1) (p : Int) (psum p (l.take l.length)) l (l.length : Int) (l.length : Int) = _
      rw [impl_powerSum.l0, if_neg (by omega), List.take_length])
    k (by omega)
  simpa [psum] using this
theorem pwSum_loop {b p : Nat} (hb : 2 ≤ b) (hb2 : b ≤ 16) (hp : p ≤ 8) : ∀ (n : Nat), n ≤ 9223372036854775807 → ∀ (s : Int) (k : Nat), 0 ≤ s → s + 4294967296 * ((lsd b n).length : Int) ≤ 4611686018427387904 → n + 9 < k →
    spec_pwSum.l0 k (n : Int) (b : Int) (p : Int) s = some (s + psum p (lsd b n)) := by
  intro n
  induction n using Nat.strongRecOn with
  | ind n ih =>
    intro hn s k h0 hs hk
    obtain ⟨k, rfl⟩ : ∃ m, k = m + 1 := ⟨k - 1, by omega⟩
    rcases Nat.eq_zero_or_pos n with rfl | hpos
    · rw [spec_pwSum.l0, if_neg (by omega), lsd_zero]; simp [psum]
    · have hlt := Nat.div_lt_self hpos hb
      have e := lsd_pos hb hpos
      have hm := Nat.mod_lt n (show b > 0 by omega)
      rw [e] at hs
      simp only [List.length_cons] at hs
      rw [spec_pwSum.l0, if_pos (by omega), if_neg (by omega), tmod_nat, tdiv_nat, w64n (Nat.le_trans (Nat.div_le_self _ _) hn)]
      generalize n % b = r at *
      generalize hq : n / b = q at *
      have hd := pow8 (d := (r : Int)) (by omega) (by omega) hp
      rw [pwOf_eq (x := (r : Int)) (by omega) (by omega) p (by omega) k (by omega)]
      simp only [Option.bind_some]
      rw [w64 (by omega) (by omega), ih q hlt (by omega) _ k (by omega) (by omega) (by omega), e]
      simp [psum]
      omega
theorem psum_dg {b n p : Nat} (hb : 2 ≤ b) (hp : 1 ≤ p) : psum p (dg b n) = psum p (lsd b n) := by
  unfold dg
  split
  · rename_i h; subst h; rw [lsd_zero]
    obtain ⟨q, rfl⟩ : ∃ q, p = q + 1 := ⟨p - 1, by omega⟩
    simp [psum, Int.pow_succ]
  · exact psum_rev p _
/-- The power sum of a number. -/
def pws (b p n : Nat) : Int := psum p (lsd b n)
theorem pwSum_eq {b p n : Nat} (hb : 2 ≤ b) (hb2 : b ≤ 16) (hp : p ≤ 8) (hn : n ≤ 9223372036854775807) : ∀ k, n + 9 < k → spec_pwSum.f k (n : Int) (b : Int) (p : Int) = some (pws b p n) := by
  intro k hk
  have hl := lsd_length hb 63 n (by omega)
  have := pwSum_loop hb hb2 hp n hn 0 k (by omega) (by omega) hk
  simpa [spec_pwSum.f, pws] using this
theorem powerSum_eq {b p n : Nat} (hb : 2 ≤ b) (hb2 : b ≤ 16) (hp1 : 1 ≤ p) (hp : p ≤ 8) (hn : n ≤ 9223372036854775807) : ∀ k, n + 200 < k → impl_powerSum.f k (n : Int) (b : Int) (p : Int) = some (pws b p n) := by
  intro k hk
  have hs := dg_short (c := b) (m := n) hb hn
  have hr : ∀ x ∈ dg b n, 0 ≤ x ∧ x ≤ 16 := fun x hx => by have := dg_range hb n x hx; omega
  have := powerSum_loop hp (dg b n) (by omega) hr k (by omega)
  unfold impl_powerSum.f
  rw [digitsOf_now hb (by omega) hn (by omega)]
  simp only [Option.bind_some]
  rw [this, psum_dg hb hp1]; rfl
theorem isPower_eq (p : Int) : impl_isPower.f p = some (decide (1 ≤ p ∧ p ≤ 8)) := by simp [impl_isPower.f, in_eq]
theorem pwPower_eq (p q : Int) : spec_pwPower.f p q = some (decide (1 ≤ p ∧ p ≤ q)) := by simp [spec_pwPower.f, l1In_eq]
theorem PowerSum_both (n b p : Int) : ∃ (K : Nat) (v : Int × Bool), ∀ k, K ≤ k → spec_PowerSum.f k n b p = some v ∧ impl_PowerSum.f k n b p = some v := by
  cases h : asked n b with
  | false => exact ⟨0, (0, false), fun k _ => ⟨by simp [spec_PowerSum.f, dgAsked_eq, h], by simp [impl_PowerSum.f, isNumber_eq, h]⟩⟩
  | true =>
    obtain ⟨m, c, rfl, rfl, hm, hc, hc2⟩ := asked_nat h
    by_cases hp : 1 ≤ p ∧ p ≤ 8
    · obtain ⟨q, rfl⟩ := Int.eq_ofNat_of_zero_le (show 0 ≤ p by omega)
      exact ⟨m + 201, (pws c q m, true), fun k hk => ⟨by simp [spec_PowerSum.f, dgAsked_eq, h, pwPower_eq, hp, pwSum_eq hc hc2 (show q ≤ 8 by omega) (show m ≤ 9223372036854775807 by omega) k (by omega)],
        by simp [impl_PowerSum.f, isNumber_eq, h, isPower_eq, hp, powerSum_eq hc hc2 (show 1 ≤ q by omega) (show q ≤ 8 by omega) (show m ≤ 9223372036854775807 by omega) k (by omega)]⟩⟩
    · exact ⟨0, (0, false), fun k _ => ⟨by simp [spec_PowerSum.f, dgAsked_eq, h, pwPower_eq, hp], by simp [impl_PowerSum.f, isNumber_eq, h, isPower_eq, hp]⟩⟩
theorem PowerSum_law : laws_FnExactPowerSum.Pure := by
  intro n b p _ _ _
  obtain ⟨K, v, h⟩ := PowerSum_both n b p
  exact ⟨K, by simp [laws_FnExactPowerSum.f, (h K (by omega)).1, (h K (by omega)).2]⟩

/-! ### where numbers begin to fall: looked at base by base -/
def fallsAll : Bool := (List.range 15).all fun b => (List.range 8).all fun p => laws_FnExactFallsFrom.f 90 ((b : Int) + 2) ((p : Int) + 1) == some true && laws_FnExactGreatestSum.f 90 ((b : Int) + 2) ((p : Int) + 1) == some true
theorem falls_all : fallsAll = true := by decide +kernel
theorem falls_at {b p : Int} (hb : 2 ≤ b ∧ b ≤ 16) (hp : 1 ≤ p ∧ p ≤ 8) : laws_FnExactFallsFrom.f 90 b p = some true ∧ laws_FnExactGreatestSum.f 90 b p = some true := by
  have h := falls_all
  unfold fallsAll at h
  rw [List.all_eq_true] at h
  have h1 := h (b - 2).toNat (by simp; omega)
  rw [List.all_eq_true] at h1
  have h2 := h1 (p - 1).toNat (by simp; omega)
  rw [show (((b - 2).toNat : Nat) : Int) + 2 = b by omega, show (((p - 1).toNat : Nat) : Int) + 1 = p by omega] at h2
  simpa using h2
theorem FallsFrom_law : laws_FnExactFallsFrom.Pure := by
  intro b p _ _
  by_cases hb : 2 ≤ b ∧ b ≤ 16
  · by_cases hp : 1 ≤ p ∧ p ≤ 8
    · exact ⟨90, (falls_at hb hp).1⟩
    · exact ⟨0, by simp [laws_FnExactFallsFrom.f, spec_FallsFrom.f, impl_FallsFrom.f, dgBase_eq, isBase_eq, isPower_eq, pwPower_eq, hb, hp]⟩
  · exact ⟨0, by simp [laws_FnExactFallsFrom.f, spec_FallsFrom.f, impl_FallsFrom.f, dgBase_eq, isBase_eq, hb]⟩
theorem GreatestSum_law : laws_FnExactGreatestSum.Pure := by
  intro b p _ _
  by_cases hb : 2 ≤ b ∧ b ≤ 16
  · by_cases hp : 1 ≤ p ∧ p ≤ 8
    · exact ⟨90, (falls_at hb hp).2⟩
    · exact ⟨0, by simp [laws_FnExactGreatestSum.f, spec_GreatestSum.f, impl_GreatestSum.f, dgBase_eq, isBase_eq, isPower_eq, pwPower_eq, hb, hp]⟩
  · exact ⟨0, by simp [laws_FnExactGreatestSum.f, spec_GreatestSum.f, impl_GreatestSum.f, dgBase_eq, isBase_eq, hb]⟩
end Go.Proofs.YtehhkkbejmhcfaaC
