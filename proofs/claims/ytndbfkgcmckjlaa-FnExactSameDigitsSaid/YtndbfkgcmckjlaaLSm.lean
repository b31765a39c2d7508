/-
  The plain law of SameDigits over the printed functions. No conditions.
-/
import Derived.Test.YtndbfkgcmckjlaaLSo
import Derived.Test.YtndbfkgcmckjlaaLCr
namespace Go.Proofs.YtndbfkgcmckjlaaC
open Go.RowKit Go.Proofs.YtndbfkgcmckjlaaW.PrintWords Go.Proofs.YtndbfkgcmckjlaaW.PrintMore
set_option linter.unusedSimpArgs false
set_option linter.unusedVariables false

def cfold (l s : List Int) : List Int := l.foldl (fun a d => a.set d.toNat (wrap64 (rd a d + 1))) s
theorem cfold_length : ∀ (l s : List Int), (cfold l s).length = s.length
  | [], s => rfl
  | x :: l, s => by
    show (cfold l (s.set x.toNat (wrap64 (rd s x + 1)))).length = s.length
    rw [cfold_length l]; simp
theorem cfold_at (b : Nat) : ∀ (l s : List Int), (∀ x ∈ l, 0 ≤ x ∧ x < b) → s.length = b → (∀ i (h : i < s.length), 0 ≤ s[i] ∧ s[i] + (l.length : Int) ≤ 100000) → ∀ i (h : i < s.length) (h2 : i < (cfold l s).length), (cfold l s)[i] = s[i] + (l.count (i : Int) : Int)
  | [], s, _, _, _, i, h, h2 => by simp [cfold]
  | x :: l, s, hr, hs, hb, i, h, h2 => by
    have hx := hr x (by simp)
    obtain ⟨j, rfl⟩ := Int.eq_ofNat_of_zero_le hx.1
    have hj : j < s.length := by omega
    have hbj := hb j hj
    simp only [List.length_cons] at hb hbj
    have e1 : wrap64 (rd s (j : Int) + 1) = s[j] + 1 := by rw [rd_get hj, w64 (by omega) (by omega)]
    have e2 : cfold ((j : Int) :: l) s = cfold l (s.set j (s[j] + 1)) := by
      show cfold l (s.set (j : Int).toNat (wrap64 (rd s (j : Int) + 1))) = _
      rw [e1, Int.toNat_natCast]
    have hlen : (s.set j (s[j] + 1)).length = s.length := by simp
    have ih := cfold_at b l (s.set j (s[j] + 1)) (fun y hy => hr y (by simp [hy])) (by omega) (fun q hq => by
      have hq2 : q < s.length := by omega
      have := hb q hq2
      rw [List.getElem_set]
      split
      · omega
      · omega) i (by omega) (by rw [cfold_length]; omega)
    rw [List.getElem_set] at ih
    have e3 : (cfold ((j : Int) :: l) s)[i] = (cfold l (s.set j (s[j] + 1)))[i]'(by rw [cfold_length]; omega) := by
      congr 1
    rw [e3, ih, List.count_cons]
    by_cases hij : j = i
    · subst hij
      rw [if_pos rfl, if_pos (by simp)]; omega
    · rw [if_neg hij, if_neg (by simp; omega)]; omega
theorem countL_at {b : Nat} {l : List Int} (hr : ∀ x ∈ l, 0 ≤ x ∧ x < b) (hl : l.length ≤ 1000) {i : Nat} (h : i < b) : rd (countL b l) (i : Int) = (l.count (i : Int) : Int) := by
  have hlen : (countL b l).length = b := countL_length b l
  rw [rd_get (show i < (countL b l).length by omega)]
  have := cfold_at b l (List.replicate b 0) hr (by simp) (fun q hq => by simp; omega) i (by simp; omega) (by rw [cfold_length]; simp; omega)
  have e : (countL b l)[i] = (cfold l (List.replicate b 0))[i]'(by rw [cfold_length]; simp; omega) := rfl
  rw [e, this]; simp
theorem same_counts {b : Nat} {l m : List Int} (hl : ∀ x ∈ l, 0 ≤ x ∧ x < b) (hm : ∀ x ∈ m, 0 ≤ x ∧ x < b) (h1 : l.length ≤ 1000) (h2 : m.length ≤ 1000) : countL b l = countL b m ↔ srt l = srt m := by
  constructor
  · intro h
    have hp : l.Perm m := by
      rw [List.perm_iff_count]
      intro x
      by_cases hx : 0 ≤ x ∧ x < (b : Int)
      · obtain ⟨j, rfl⟩ := Int.eq_ofNat_of_zero_le hx.1
        have a1 := countL_at hl h1 (i := j) (by omega)
        have a2 := countL_at hm h2 (i := j) (by omega)
        rw [h, a2] at a1
        omega
      · rw [List.count_eq_zero.2 (fun hmem => hx (hl x hmem)), List.count_eq_zero.2 (fun hmem => hx (hm x hmem))]
    exact srt_unique (srt_sorted m) ((srt_perm m).trans hp.symm)
  · intro h
    have hp : l.Perm m := (srt_perm l).symm.trans (by rw [h]; exact srt_perm m)
    refine List.ext_getElem (by rw [countL_length, countL_length]) (fun i hi hi2 => ?_)
    have hib : i < b := by rw [countL_length] at hi; exact hi
    have a1 := countL_at hl h1 hib
    have a2 := countL_at hm h2 hib
    rw [rd_get hi] at a1
    rw [rd_get hi2] at a2
    rw [a1, a2, hp.count_eq]
theorem dgNumber_eq (n : Int) : spec_dgNumber.f n = some (decide (0 ≤ n ∧ n ≤ 1000000000000)) := by simp [spec_dgNumber.f, l1In_eq]
theorem SameDigits_both (n m b : Int) : ∃ (K : Nat) (v : Bool × Bool), ∀ k, K ≤ k → spec_SameDigits.f k n m b = some v ∧ impl_SameDigits.f k n m b = some v := by
  cases hask : asked n b with
  | false =>
    refine ⟨1, (false, false), fun k hk => ?_⟩
    obtain ⟨k, rfl⟩ : ∃ q, k = q + 1 := ⟨k - 1, by omega⟩
    exact ⟨by rw [spec_SameDigits.f, dgAsked_eq, hask, Option.bind_some, if_neg (by simp), spec_SameDigits.j0, if_pos rfl], by rw [impl_SameDigits.f, isNumber_eq, hask, Option.bind_some, if_neg (by simp), impl_SameDigits.j0, if_pos rfl]⟩
  | true =>
    obtain ⟨x, c, rfl, rfl, hx, hc, hc2⟩ := asked_nat hask
    by_cases hm : 0 ≤ m ∧ m ≤ 1000000000000
    · have hask2 : asked m (c : Int) = true := by
        simp only [asked, decide_eq_true_eq]; omega
      obtain ⟨y, rfl⟩ := Int.eq_ofNat_of_zero_le hm.1
      obtain ⟨K1, _, k1⟩ := digits_both (c := c) (m := x) hc hc2 (by omega)
      obtain ⟨K2, _, k2⟩ := digits_both (c := c) (m := y) hc hc2 (by omega)
      have s1 := dg_short (c := c) (m := x) hc (by omega)
      have s2 := dg_short (c := c) (m := y) hc (by omega)
      have r1 := dg_range hc x
      have r2 := dg_range hc y
      have hsame := same_counts r1 r2 (by omega) (by omega)
      have l1 := srt_length (dg c x)
      have l2 := countL_length c (dg c x)
      refine ⟨K1 + K2 + 500, (decide (srt (dg c x) = srt (dg c y)), true), fun k hk => ?_⟩
      obtain ⟨k, rfl⟩ : ∃ q, k = q + 1 := ⟨k - 1, by omega⟩
      obtain ⟨a1, a2⟩ := k1 k (by omega)
      obtain ⟨b1, b2⟩ := k2 k (by omega)
      refine ⟨?_, ?_⟩
      · rw [spec_SameDigits.f, dgAsked_eq, hask, Option.bind_some, if_pos rfl, dgNumber_eq, decide_eq_true hm, Option.bind_some, spec_SameDigits.j0, if_neg (by simp), a1, Option.bind_some,
          dgCounts_eq c (dg c x) (by omega) (by omega) (by omega) r1, Option.bind_some, b1, Option.bind_some, dgCounts_eq c (dg c y) (by omega) (by omega) (by omega) r2, Option.bind_some, l1Same_eq _ _ (by omega) (by omega), Option.bind_some]
        congr 2
        exact decide_eq_decide.2 hsame
      · rw [impl_SameDigits.f, isNumber_eq, hask, Option.bind_some, if_pos rfl, isNumber_eq, hask2, Option.bind_some, impl_SameDigits.j0, if_neg (by simp), impl_sorted.f, a2, Option.bind_some, Sort_eq _ (by omega), Option.bind_some, Option.bind_some,
          impl_sorted.f, b2, Option.bind_some, Sort_eq _ (by omega), Option.bind_some, Option.bind_some, Equal_eq _ _ (by omega) (by omega), Option.bind_some]
    · have hask2 : asked m (c : Int) = false := by
        simp only [asked, decide_eq_false_iff_not]; omega
      refine ⟨1, (false, false), fun k hk => ?_⟩
      obtain ⟨k, rfl⟩ : ∃ q, k = q + 1 := ⟨k - 1, by omega⟩
      exact ⟨by rw [spec_SameDigits.f, dgAsked_eq, hask, Option.bind_some, if_pos rfl, dgNumber_eq, decide_eq_false hm, Option.bind_some, spec_SameDigits.j0, if_pos (by rfl)], by rw [impl_SameDigits.f, isNumber_eq, hask, Option.bind_some, if_pos rfl, isNumber_eq, hask2, Option.bind_some, impl_SameDigits.j0, if_pos (by rfl)]⟩
theorem SameDigits_law : laws_FnExactSameDigits.Pure := by
  intro n m b _ _ _
  obtain ⟨K, v, h⟩ := SameDigits_both n m b
  exact ⟨K, by simp [laws_FnExactSameDigits.f, (h K (by omega)).1, (h K (by omega)).2]⟩
end Go.Proofs.YtndbfkgcmckjlaaC
