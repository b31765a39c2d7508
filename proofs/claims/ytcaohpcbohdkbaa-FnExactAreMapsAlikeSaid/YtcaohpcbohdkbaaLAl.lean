/-
  AreMapsAlike: the printed functions (written by a program) and the plain law. No conditions.
-/
import Derived.Test.YtcaohpcbohdkbaaWMore
import Derived.Test.YtcaohpcbohdkbaaCNa
import Derived.Test.YtcaohpcbohdkbaaLNa
namespace Go.Proofs.YtcaohpcbohdkbaaC
open Go.RowKit Go.Proofs.YtcaohpcbohdkbaaW.PrintWords Go.Proofs.YtcaohpcbohdkbaaW.PrintMore
set_option linter.unusedSimpArgs false
set_option linter.unusedVariables false
def spec_AreMapsAlike.j0 : Nat → List Int → List Int → Bool → Option (Bool × Bool)
  | 0, _, _, _ => none
  | k + 1, x0, x1, x13 => if x13 = true then (some (false, false)) else ((spec_mpName.f k x0).bind fun t226 => ((spec_mpName.f k x1).bind fun t227 => (some ((t226.toList == t227.toList), true))))
def spec_AreMapsAlike.f (k : Nat) (l0 : List Int) (l1 : List Int) : Option (Bool × Bool) := (spec_mpGood.f k l0).bind fun t224 => (if t224 = true then ((spec_mpGood.f k l1).bind fun t225 => (spec_AreMapsAlike.j0 k l0 l1 (!t225))) else (spec_AreMapsAlike.j0 k l0 l1 true))
def impl_AreMapsAlike.j0 : Nat → List Int → List Int → Bool → Option (Bool × Bool)
  | 0, _, _, _ => none
  | k + 1, x0, x1, x13 => if x13 = true then (some (false, false)) else ((impl_nameOf.f k x0).bind fun t353 => ((impl_nameOf.f k x1).bind fun t354 => (some ((t353.toList == t354.toList), true))))
def impl_AreMapsAlike.f (k : Nat) (l0 : List Int) (l1 : List Int) : Option (Bool × Bool) := (impl_IsMap.f l0).bind fun t351 => (if t351 = true then ((impl_IsMap.f l1).bind fun t352 => (impl_AreMapsAlike.j0 k l0 l1 (!t352))) else (impl_AreMapsAlike.j0 k l0 l1 true))
def laws_FnExactAreMapsAlike.j0 : Nat → List Int → List Int → List Int → List Int → Bool → Option (Bool)
  | 0, _, _, _, _, _ => none
  | k + 1, x0, x1, x7, x8, x42 => if x42 = true then (some false) else ((laws_toIntS.f k x0).bind fun t371 => ((laws_eqIntS.f k x7 t371).bind fun t374 => (if t374 = true then ((laws_toIntS.f k x1).bind fun t375 => ((laws_eqIntS.f k x8 t375).bind fun t378 => (if t378 = true then (some true) else (some false)))) else (some false))))
def laws_FnExactAreMapsAlike.f (k : Nat) (l0 : List Int) (l1 : List Int) : Option (Bool) := if (l0.length : Int) > 1048576 then (some true) else (if (l1.length : Int) > 1048576 then (some true) else ((laws_toIntS.f k l0).bind fun t355 => ((laws_toIntS.f k l1).bind fun t358 => ((spec_AreMapsAlike.f k t355 t358).bind fun bt361 => ((laws_toIntS.f k l0).bind fun t363 => ((laws_toIntS.f k l1).bind fun t366 => ((impl_AreMapsAlike.f k t363 t366).bind fun bt369 => (if (bt369.1 != bt361.1) = true then (laws_FnExactAreMapsAlike.j0 k l0 l1 t363 t366 true) else (laws_FnExactAreMapsAlike.j0 k l0 l1 t363 t366 (bt369.2 != bt361.2))))))))))
def laws_FnExactAreMapsAlike.Pure : Prop := ∀ (l0 : List Int) (l1 : List Int), l0.length ≤ maxLen → l0.length * 8 ≤ 140737488351232 → (∀ x ∈ l0, (Lit.int .i64 x).wf = true) → l1.length ≤ maxLen → l1.length * 8 ≤ 140737488351232 → (∀ x ∈ l1, (Lit.int .i64 x).wf = true) → ∃ k, laws_FnExactAreMapsAlike.f k l0 l1 = some true



theorem AreMapsAlike_both (l f : List Int) (hl : l.length ≤ 1048576) (hf : f.length ≤ 1048576) : ∃ (K : Nat) (v : Bool × Bool), ∀ k, K ≤ k → spec_AreMapsAlike.f k l f = some v ∧ impl_AreMapsAlike.f k l f = some v := by
  cases hm : isMapB l with
  | false =>
    refine ⟨l.length + f.length + 10, (false, false), fun k hk => ?_⟩
    obtain ⟨k, rfl⟩ : ∃ q, k = q + 1 := ⟨k - 1, by omega⟩
    exact ⟨by rw [spec_AreMapsAlike.f, mpGood_eq l hl (by omega), hm, Option.bind_some, if_neg (by decide), spec_AreMapsAlike.j0, if_pos rfl], by rw [impl_AreMapsAlike.f, IsMap_eq l hl, hm, Option.bind_some, if_neg (by decide), impl_AreMapsAlike.j0, if_pos rfl]⟩
  | true =>
    cases hn : isMapB f with
    | false =>
      refine ⟨l.length + f.length + 10, (false, false), fun k hk => ?_⟩
      obtain ⟨k, rfl⟩ : ∃ q, k = q + 1 := ⟨k - 1, by omega⟩
      exact ⟨by rw [spec_AreMapsAlike.f, mpGood_eq l hl (by omega), hm, Option.bind_some, if_pos rfl, mpGood_eq f hf (by omega), hn, Option.bind_some, spec_AreMapsAlike.j0, if_pos (by decide)], by rw [impl_AreMapsAlike.f, IsMap_eq l hl, hm, Option.bind_some, if_pos rfl, IsMap_eq f hf, hn, Option.bind_some, impl_AreMapsAlike.j0, if_pos (by decide)]⟩
    | true =>
      obtain ⟨g1, g2, g3⟩ := isMap_range hm
      obtain ⟨q1, q2, q3⟩ := isMap_range hn
      obtain ⟨K1, h1⟩ := name_both (l := l) g3 g2
      obtain ⟨K2, h2⟩ := name_both (l := f) q3 q2
      refine ⟨K1 + K2 + l.length + f.length + 10, ((nameL l).toList == (nameL f).toList, true), fun k hk => ?_⟩
      obtain ⟨k, rfl⟩ : ∃ q, k = q + 1 := ⟨k - 1, by omega⟩
      exact ⟨by rw [spec_AreMapsAlike.f, mpGood_eq l hl (by omega), hm, Option.bind_some, if_pos rfl, mpGood_eq f hf (by omega), hn, Option.bind_some, spec_AreMapsAlike.j0, if_neg (by decide), (h1 k (by omega)).1, Option.bind_some, (h2 k (by omega)).1, Option.bind_some],
        by rw [impl_AreMapsAlike.f, IsMap_eq l hl, hm, Option.bind_some, if_pos rfl, IsMap_eq f hf, hn, Option.bind_some, impl_AreMapsAlike.j0, if_neg (by decide), (h1 k (by omega)).2, Option.bind_some, (h2 k (by omega)).2, Option.bind_some]⟩
theorem AreMapsAlike_law : laws_FnExactAreMapsAlike.Pure := by
  intro l f _ _ _ _ _ _
  by_cases hl : (l.length : Int) > 1048576
  · exact ⟨0, by rw [laws_FnExactAreMapsAlike.f, if_pos hl]⟩
  by_cases hf : (f.length : Int) > 1048576
  · exact ⟨0, by rw [laws_FnExactAreMapsAlike.f, if_neg hl, if_pos hf]⟩
  obtain ⟨K0, v, h0⟩ := AreMapsAlike_both l f (by omega) (by omega)
  obtain ⟨K, hK⟩ : ∃ K, K = K0 + l.length + f.length + 1 := ⟨_, rfl⟩
  have hTl : ∀ k, K ≤ k → laws_toIntS.f k l = some l := fun k h => (law_facts l [] (by omega) (by simp) (show _ < k by simp; omega)).1
  have hEl : ∀ k, K ≤ k → laws_eqIntS.f k l l = some true := fun k h => (law_facts l [] (by omega) (by simp) (show _ < k by simp; omega)).2.1
  have hTf : ∀ k, K ≤ k → laws_toIntS.f k f = some f := fun k h => (law_facts f [] (by omega) (by simp) (show _ < k by simp; omega)).1
  have hEf : ∀ k, K ≤ k → laws_eqIntS.f k f f = some true := fun k h => (law_facts f [] (by omega) (by simp) (show _ < k by simp; omega)).2.1
  have e1 : ∀ k, K ≤ k → spec_AreMapsAlike.f k l f = some v := fun k h => (h0 k (by omega)).1
  have e2 : ∀ k, K ≤ k → impl_AreMapsAlike.f k l f = some v := fun k h => (h0 k (by omega)).2
  refine ⟨K + 9, ?_⟩
  simp [laws_FnExactAreMapsAlike.f, laws_FnExactAreMapsAlike.j0, e1, e2, hl, hf, hTl, hEl, hTf, hEf]


end Go.Proofs.YtcaohpcbohdkbaaC
