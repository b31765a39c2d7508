/-
  The plain laws of SortedUp and SortedDown. No conditions.
-/
import Derived.Test.YtndbfkgcmckjlaaLNp
import Derived.Test.YtndbfkgcmckjlaaCSo
namespace Go.Proofs.YtndbfkgcmckjlaaC
open Go.RowKit Go.Proofs.YtndbfkgcmckjlaaW.PrintWords Go.Proofs.YtndbfkgcmckjlaaW.PrintMore
set_option linter.unusedSimpArgs false
set_option linter.unusedVariables false

theorem Sort_eq (l : List Int) (hl : l.length ≤ 1000000) : slices_Sort_int_int.f l = some (srt l) := by
  unfold slices_Sort_int_int.f
  rw [if_pos (by omega)]; rfl
theorem Dg.srt {b : Int} {l : List Int} (h : Dg b l) : Dg b (srt l) := fun x hx => h x ((srt_perm l).mem_iff.1 hx)
/-- Sorted digits make the least number. -/
theorem sorted_least {b : Int} (hb : 2 ≤ b) : ∀ (s l : List Int), s.Perm l → s.Pairwise (fun a b => le a b = true) → Dg b l → hv b s 0 ≤ hv b l 0
  | [], l, hp, _, _ => by rw [List.nil_perm.1 hp]; exact Int.le_refl _
  | m :: s, [], hp, _, _ => by have := hp.length_eq; simp at this
  | m :: s, x :: l, hp, hs, hd => by
    rw [List.pairwise_cons] at hs
    have dl : Dg b l := fun z hz => hd z (by simp [hz])
    have ds : Dg b s := fun z hz => hd z (hp.mem_iff.1 (by simp [hz]))
    have hlen : s.length = l.length := by simpa using hp.length_eq
    have b1 := hv_lt hb ds
    have b2 := hv_lt hb dl
    rw [hv_cons, hv_cons, hlen]
    rw [hlen] at b1
    by_cases hx : m = x
    · subst hx
      have := sorted_least hb s l (List.Perm.cons_inv hp) hs.2 dl
      omega
    · have hmem : x ∈ m :: s := hp.mem_iff.2 (by simp)
      rcases List.mem_cons.1 hmem with h | h
      · exact absurd h.symm hx
      · have := hs.1 x h
        simp only [le, decide_eq_true_eq] at this
        have := (uniq b1 b2).2 (show m < x by omega)
        omega
theorem SortedUp_both (n b : Int) : ∃ (K : Nat) (v : Int × Bool), ∀ k, K ≤ k → spec_SortedUp.f k n b = some v ∧ impl_SortedUp.f k n b = some v := by
  cases hask : asked n b with
  | false => exact ⟨0, (0, false), fun k _ => ⟨by rw [spec_SortedUp.f, dgAsked_eq, hask, Option.bind_some, if_neg (by simp)], by rw [impl_SortedUp.f, isNumber_eq, hask, Option.bind_some, if_neg (by simp)]⟩⟩
  | true =>
    obtain ⟨n, c, rfl, rfl, hm, hc, hc2⟩ := asked_nat hask
    have b2 : (2 : Int) ≤ (c : Int) := by omega
    have b16 : (c : Int) ≤ 16 := by omega
    obtain ⟨K, hK, hk⟩ := digits_both (c := c) (m := n) hc hc2 (by omega)
    have hs := dg_short (c := c) (m := n) hc (by omega)
    have hd := Dg_dg hc n
    obtain ⟨q, hq⟩ := dgSorted_eq (dg c n) (by omega)
    have hle := sorted_least b2 (srt (dg c n)) (dg c n) (srt_perm _) (srt_sorted _) hd
    rw [hv_dg hc] at hle
    have hsl := srt_length (dg c n)
    refine ⟨K + q + 500, (hv (c : Int) (srt (dg c n)) 0, true), fun k hk' => ?_⟩
    obtain ⟨e1, e2⟩ := hk k (by omega)
    have e3 := hq (k - q)
    rw [show k - q + q = k by omega] at e3
    obtain ⟨v, a1, a2, a3⟩ := impl_tell b2 b16 hd.srt (by omega) (k := k) (by omega)
    refine ⟨?_, ?_⟩
    · rw [spec_SortedUp.f, dgAsked_eq, hask, Option.bind_some, if_pos rfl, e1, Option.bind_some, e3, Option.bind_some, spec_tell b2 b16 hd.srt (by omega) (by omega), tell, if_pos (by omega)]; rfl
    · rw [impl_SortedUp.f, isNumber_eq, hask, Option.bind_some, if_pos rfl, impl_sorted.f, e2, Option.bind_some, Sort_eq _ (by omega), Option.bind_some, Option.bind_some, a1, Option.bind_some, a3 (by omega)]
theorem SortedUp_law : laws_FnExactSortedUp.Pure := by
  intro n b _ _
  obtain ⟨K, v, h⟩ := SortedUp_both n b
  exact ⟨K, by simp [laws_FnExactSortedUp.f, (h K (by omega)).1, (h K (by omega)).2]⟩
end Go.Proofs.YtndbfkgcmckjlaaC
