/-
  The plain law of SortedDown over the printed functions. No conditions.
-/
import Derived.Test.YtndbfkgcmckjlaaLSo
namespace Go.Proofs.YtndbfkgcmckjlaaC
open Go.RowKit Go.Proofs.YtndbfkgcmckjlaaW.PrintWords Go.Proofs.YtndbfkgcmckjlaaW.PrintMore
set_option linter.unusedSimpArgs false
set_option linter.unusedVariables false

theorem SortedDown_both (n b : Int) : ∃ (K : Nat) (v : Int × Bool), ∀ k, K ≤ k → spec_SortedDown.f k n b = some v ∧ impl_SortedDown.f k n b = some v := by
  cases hask : asked n b with
  | false => exact ⟨0, (0, false), fun k _ => ⟨by rw [spec_SortedDown.f, dgAsked_eq, hask, Option.bind_some, if_neg (by simp)], by rw [impl_SortedDown.f, isNumber_eq, hask, Option.bind_some, if_neg (by simp)]⟩⟩
  | true =>
    obtain ⟨n, c, rfl, rfl, hm, hc, hc2⟩ := asked_nat hask
    have b2 : (2 : Int) ≤ (c : Int) := by omega
    have b16 : (c : Int) ≤ 16 := by omega
    obtain ⟨K, hK, hk⟩ := digits_both (c := c) (m := n) hc hc2 (by omega)
    have hs := dg_short (c := c) (m := n) hc (by omega)
    have hd := Dg_dg hc n
    obtain ⟨q, hq⟩ := dgSorted_eq (dg c n) (by omega)
    have hsl := srt_length (dg c n)
    have hrl : (srt (dg c n)).reverse.length = (dg c n).length := by rw [List.length_reverse, hsl]
    refine ⟨K + q + 500, tell (hv (c : Int) (srt (dg c n)).reverse 0), fun k hk' => ?_⟩
    obtain ⟨e1, e2⟩ := hk k (by omega)
    have e3 := hq (k - q)
    rw [show k - q + q = k by omega] at e3
    obtain ⟨v, a1, a2, a3⟩ := impl_tell b2 b16 hd.srt.rev (by omega) (k := k) (by omega)
    refine ⟨?_, ?_⟩
    · rw [spec_SortedDown.f, dgAsked_eq, hask, Option.bind_some, if_pos rfl, e1, Option.bind_some, e3, Option.bind_some, dgBack_eq _ (by omega) (by omega), Option.bind_some, spec_tell b2 b16 hd.srt.rev (by omega) (by omega)]; rfl
    · rw [impl_SortedDown.f, isNumber_eq, hask, Option.bind_some, if_pos rfl, impl_sorted.f, e2, Option.bind_some, Sort_eq _ (by omega), Option.bind_some, Option.bind_some, reversed_eq _ (by omega) (by omega), Option.bind_some, a1, Option.bind_some, a2]; rfl
theorem SortedDown_law : laws_FnExactSortedDown.Pure := by
  intro n b _ _
  obtain ⟨K, v, h⟩ := SortedDown_both n b
  exact ⟨K, by simp [laws_FnExactSortedDown.f, (h K (by omega)).1, (h K (by omega)).2]⟩
end Go.Proofs.YtndbfkgcmckjlaaC
