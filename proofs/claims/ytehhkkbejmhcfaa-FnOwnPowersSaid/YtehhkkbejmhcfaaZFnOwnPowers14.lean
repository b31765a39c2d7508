/- Plain texts of FnOwnPowers, merged by a program: what Go functions compute, lemmas of the walk, and proofs. No conditions. -/
import Derived.Test.YtehhkkbejmhcfaaZFnOwnPowers7
import Derived.Test.YtehhkkbejmhcfaaZFnOwnPowers8
import Derived.Test.YtehhkkbejmhcfaaZFnOwnPowers9
import Derived.Test.YtehhkkbejmhcfaaZFnOwnPowers10
import Derived.Test.YtehhkkbejmhcfaaZFnOwnPowers12
import Derived.Test.YtehhkkbejmhcfaaZFnOwnPowers13
section
namespace Go.Proofs.Ytehhkkbejmhcfaa.PFnOwnPowers
open Go.RowKit Go.Proofs.YtehhkkbejmhcfaaW.PrintWords Go.Proofs.YtehhkkbejmhcfaaW.PrintLast Go.Proofs.YtehhkkbejmhcfaaW.PrintMore
attribute [local go_sem] max2_int min2_int max_two min_two max_three min_three max_four min_four   -- for this text's walks alone
set_option linter.unusedVariables false
set_option linter.unusedSimpArgs false
mutual
def laws_FnOwnPowers.j0 : Nat → List Int → Int → Int → List Int → Bool → Bool → Option (Bool)
  | 0, _, _, _, _, _, _ => none
  | k + 1, x1, x5, x6, x7, x8, x65 => if x65 = true then (some false) else (if x8 = true then ((laws_rRising.f k x7).bind fun t305 => (if t305 = true then ((laws_rHas.f k x7 0).bind fun t306 => (if t306 = true then ((laws_rHas.f k x7 1).bind fun t307 => (laws_FnOwnPowers.j1 k x1 x5 x6 x7 (!t307))) else (laws_FnOwnPowers.j1 k x1 x5 x6 x7 true))) else (laws_FnOwnPowers.j1 k x1 x5 x6 x7 true))) else (laws_FnOwnPowers.j5 k x1))
def laws_FnOwnPowers.j5 : Nat → List Int → Option (Bool)
  | 0, _ => none
  | k + 1, x1 => (spec_DrawNarcissistic.f x1).bind fun bt319 => ((impl_Narcissistic.f k bt319.1 bt319.2).bind fun bt321 => ((spec_Narcissistic.f k bt319.1 bt319.2).bind fun bt325 => (if (bt321.2 != bt325.2) = true then (laws_FnOwnPowers.j6 k bt319.1 bt319.2 bt321.1 true) else ((laws_rSame.f k bt321.1 bt325.1).bind fun t329 => (laws_FnOwnPowers.j6 k bt319.1 bt319.2 bt321.1 (!t329))))))
def laws_FnOwnPowers.j6 : Nat → Int → Int → List Int → Bool → Option (Bool)
  | 0, _, _, _, _ => none
  | k + 1, x23, x24, x25, x176 => if x176 = true then (some false) else (laws_FnOwnPowers.l3 k x23 x24 x25 (x25.length : Int) 0)
def laws_FnOwnPowers.l3 : Nat → Int → Int → List Int → Int → Int → Option (Bool)
  | 0, _, _, _, _, _ => none
  | k + 1, x23, x24, x177, x178, x179 => if x179 < x178 then (if 0 ≤ x179 then (if x179 < (x177.length : Int) then ((impl_PowerSum.f k (rd x177 x179) x24 x23).bind fun bt331 => ((impl_CountDigits.f k (rd x177 x179) x24).bind fun bt333 => ((impl_OwnPowers.f k x24 x23).bind fun bt335 => (if bt331.2 = true then (if bt331.1 = (rd x177 x179) then (if bt333.2 = true then (if bt333.1 = x23 then (if bt335.2 = true then ((laws_rHas.f k bt335.1 (rd x177 x179)).bind fun t339 => (if t339 = true then (laws_FnOwnPowers.l3 k x23 x24 x177 x178 (wrap64 (x179 + 1))) else (some false))) else (some false)) else (some false)) else (some false)) else (some false)) else (some false))))) else (none)) else (none)) else (some true)
def laws_FnOwnPowers.j1 : Nat → List Int → Int → Int → List Int → Bool → Option (Bool)
  | 0, _, _, _, _, _ => none
  | k + 1, x1, x5, x6, x7, x79 => if x79 = true then (some false) else (laws_FnOwnPowers.l0 k x1 x5 x6 x7 x7 (x7.length : Int) 0)
def laws_FnOwnPowers.l0 : Nat → List Int → Int → Int → List Int → List Int → Int → Int → Option (Bool)
  | 0, _, _, _, _, _, _, _ => none
  | k + 1, x1, x5, x6, x7, x80, x81, x82 => if x82 < x81 then (if 0 ≤ x82 then (if x82 < (x80.length : Int) then ((impl_PowerSum.f k (rd x80 x82) x5 x6).bind fun bt309 => (if bt309.2 = true then (if bt309.1 = (rd x80 x82) then (laws_FnOwnPowers.l0 k x1 x5 x6 x7 x80 x81 (wrap64 (x82 + 1))) else (some false)) else (some false))) else (none)) else (none)) else (laws_FnOwnPowers.l1 k x1 x5 x6 x7 0)
def laws_FnOwnPowers.l1 : Nat → List Int → Int → Int → List Int → Int → Option (Bool)
  | 0, _, _, _, _, _ => none
  | k + 1, x1, x5, x6, x7, x15 => if x15 < 600 then ((impl_PowerSum.f k x15 x5 x6).bind fun bt311 => (if bt311.2 = true then ((laws_rHas.f k x7 x15).bind fun t313 => (if ((bt311.1 == x15) != t313) = true then (some false) else (laws_FnOwnPowers.l1 k x1 x5 x6 x7 (wrap64 (x15 + 1))))) else (some false))) else (if x6 ≤ 4 then ((impl_CyclesOfPowers.f k x5 x6).bind fun bt314 => (laws_FnOwnPowers.l2 k x1 x7 bt314.2 0 bt314.1 (bt314.1.length : Int) 0)) else (laws_FnOwnPowers.j5 k x1))
def laws_FnOwnPowers.l2 : Nat → List Int → List Int → Bool → Int → List (List Int) → Int → Int → Option (Bool)
  | 0, _, _, _, _, _, _, _ => none
  | k + 1, x1, x7, x19, x20, x131, x132, x133 => if x133 < x132 then (if 0 ≤ x133 then (if x133 < (x131.length : Int) then (if ((rd_L1 x131 x133).length : Int) = 1 then (laws_FnOwnPowers.l2 k x1 x7 x19 (wrap64 (x20 + 1)) x131 x132 (wrap64 (x133 + 1))) else (laws_FnOwnPowers.l2 k x1 x7 x19 x20 x131 x132 (wrap64 (x133 + 1)))) else (none)) else (none)) else (if x19 = true then (if x20 = (x7.length : Int) then (laws_FnOwnPowers.j5 k x1) else (some false)) else (some false))
end
def laws_FnOwnPowers.f (k : Nat) (l0 : List Int) (l1 : List Int) : Option (Bool) := (laws_big.f l0 l1).bind fun t293 => (if t293 = true then (some true) else ((spec_DrawOwnPowers.f l0).bind fun bt294 => ((impl_OwnPowers.f k bt294.1 bt294.2).bind fun bt296 => ((spec_OwnPowers.f k bt294.1 bt294.2).bind fun bt300 => (if (bt296.2 != bt300.2) = true then (laws_FnOwnPowers.j0 k l1 bt294.1 bt294.2 bt296.1 bt296.2 true) else ((laws_rSame.f k bt296.1 bt300.1).bind fun t304 => (laws_FnOwnPowers.j0 k l1 bt294.1 bt294.2 bt296.1 bt296.2 (!t304))))))))
theorem laws_FnOwnPowers.mono_l : ∀ k, (∀ y0 y1 y2 y3 y4 y5, LeO (laws_FnOwnPowers.j0 k y0 y1 y2 y3 y4 y5) (laws_FnOwnPowers.j0 (k + 1) y0 y1 y2 y3 y4 y5)) ∧ (∀ y0, LeO (laws_FnOwnPowers.j5 k y0) (laws_FnOwnPowers.j5 (k + 1) y0)) ∧ (∀ y0 y1 y2 y3, LeO (laws_FnOwnPowers.j6 k y0 y1 y2 y3) (laws_FnOwnPowers.j6 (k + 1) y0 y1 y2 y3)) ∧ (∀ y0 y1 y2 y3 y4, LeO (laws_FnOwnPowers.l3 k y0 y1 y2 y3 y4) (laws_FnOwnPowers.l3 (k + 1) y0 y1 y2 y3 y4)) ∧ (∀ y0 y1 y2 y3 y4, LeO (laws_FnOwnPowers.j1 k y0 y1 y2 y3 y4) (laws_FnOwnPowers.j1 (k + 1) y0 y1 y2 y3 y4)) ∧ (∀ y0 y1 y2 y3 y4 y5 y6, LeO (laws_FnOwnPowers.l0 k y0 y1 y2 y3 y4 y5 y6) (laws_FnOwnPowers.l0 (k + 1) y0 y1 y2 y3 y4 y5 y6)) ∧ (∀ y0 y1 y2 y3 y4, LeO (laws_FnOwnPowers.l1 k y0 y1 y2 y3 y4) (laws_FnOwnPowers.l1 (k + 1) y0 y1 y2 y3 y4)) ∧ (∀ y0 y1 y2 y3 y4 y5 y6, LeO (laws_FnOwnPowers.l2 k y0 y1 y2 y3 y4 y5 y6) (laws_FnOwnPowers.l2 (k + 1) y0 y1 y2 y3 y4 y5 y6))
  | 0 => ⟨fun _ _ _ _ _ _ r h => by simp [laws_FnOwnPowers.j0] at h, fun _ r h => by simp [laws_FnOwnPowers.j5] at h, fun _ _ _ _ r h => by simp [laws_FnOwnPowers.j6] at h, fun _ _ _ _ _ r h => by simp [laws_FnOwnPowers.l3] at h, fun _ _ _ _ _ r h => by simp [laws_FnOwnPowers.j1] at h, fun _ _ _ _ _ _ _ r h => by simp [laws_FnOwnPowers.l0] at h, fun _ _ _ _ _ r h => by simp [laws_FnOwnPowers.l1] at h, fun _ _ _ _ _ _ _ r h => by simp [laws_FnOwnPowers.l2] at h⟩
  | k + 1 => by
    obtain ⟨ih0, ih1, ih2, ih3, ih4, ih5, ih6, ih7⟩ := laws_FnOwnPowers.mono_l k
    refine ⟨?_, ?_, ?_, ?_, ?_, ?_, ?_, ?_⟩
    · intro y0 y1 y2 y3 y4 y5
      unfold laws_FnOwnPowers.j0
      repeat' first
      | (with_reducible exact ih0 _ _ _ _ _ _)
      | (with_reducible exact ih1 _)
      | (with_reducible exact ih2 _ _ _ _)
      | (with_reducible exact ih3 _ _ _ _ _)
      | (with_reducible exact ih4 _ _ _ _ _)
      | (with_reducible exact ih5 _ _ _ _ _ _ _)
      | (with_reducible exact ih6 _ _ _ _ _)
      | (with_reducible exact ih7 _ _ _ _ _ _ _)
      | (with_reducible exact impl_CountDigits.mono _ _ _)
      | (with_reducible exact impl_CyclesOfPowers.mono _ _ _)
      | (with_reducible exact impl_Narcissistic.mono _ _ _)
      | (with_reducible exact impl_OwnPowers.mono _ _ _)
      | (with_reducible exact impl_PowerSum.mono _ _ _ _)
      | (with_reducible exact laws_rHas.mono _ _ _)
      | (with_reducible exact laws_rRising.mono _ _)
      | (with_reducible exact laws_rSame.mono _ _ _)
      | (with_reducible exact spec_Narcissistic.mono _ _ _)
      | (with_reducible exact spec_OwnPowers.mono _ _ _)
      | (with_reducible exact LeO.refl _)
      | (with_reducible exact LeO.none _)
      | (with_reducible refine LeO.ite ?_ ?_)
      | (with_reducible refine LeO.bind ?_ (fun _ => ?_))
      | exact ih0 _ _ _ _ _ _
      | exact ih1 _
      | exact ih2 _ _ _ _
      | exact ih3 _ _ _ _ _
      | exact ih4 _ _ _ _ _
      | exact ih5 _ _ _ _ _ _ _
      | exact ih6 _ _ _ _ _
      | exact ih7 _ _ _ _ _ _ _
      | exact impl_CountDigits.mono _ _ _
      | exact impl_CyclesOfPowers.mono _ _ _
      | exact impl_Narcissistic.mono _ _ _
      | exact impl_OwnPowers.mono _ _ _
      | exact impl_PowerSum.mono _ _ _ _
      | exact laws_rHas.mono _ _ _
      | exact laws_rRising.mono _ _
      | exact laws_rSame.mono _ _ _
      | exact spec_Narcissistic.mono _ _ _
      | exact spec_OwnPowers.mono _ _ _
      | exact LeO.none _
      | refine LeO.ite ?_ ?_
      | refine LeO.bind ?_ (fun _ => ?_)
    · intro y0
      unfold laws_FnOwnPowers.j5
      repeat' first
      | (with_reducible exact ih0 _ _ _ _ _ _)
      | (with_reducible exact ih1 _)
      | (with_reducible exact ih2 _ _ _ _)
      | (with_reducible exact ih3 _ _ _ _ _)
      | (with_reducible exact ih4 _ _ _ _ _)
      | (with_reducible exact ih5 _ _ _ _ _ _ _)
      | (with_reducible exact ih6 _ _ _ _ _)
      | (with_reducible exact ih7 _ _ _ _ _ _ _)
      | (with_reducible exact impl_CountDigits.mono _ _ _)
      | (with_reducible exact impl_CyclesOfPowers.mono _ _ _)
      | (with_reducible exact impl_Narcissistic.mono _ _ _)
      | (with_reducible exact impl_OwnPowers.mono _ _ _)
      | (with_reducible exact impl_PowerSum.mono _ _ _ _)
      | (with_reducible exact laws_rHas.mono _ _ _)
      | (with_reducible exact laws_rRising.mono _ _)
      | (with_reducible exact laws_rSame.mono _ _ _)
      | (with_reducible exact spec_Narcissistic.mono _ _ _)
      | (with_reducible exact spec_OwnPowers.mono _ _ _)
      | (with_reducible exact LeO.refl _)
      | (with_reducible exact LeO.none _)
      | (with_reducible refine LeO.ite ?_ ?_)
      | (with_reducible refine LeO.bind ?_ (fun _ => ?_))
      | exact ih0 _ _ _ _ _ _
      | exact ih1 _
      | exact ih2 _ _ _ _
      | exact ih3 _ _ _ _ _
      | exact ih4 _ _ _ _ _
      | exact ih5 _ _ _ _ _ _ _
      | exact ih6 _ _ _ _ _
      | exact ih7 _ _ _ _ _ _ _
      | exact impl_CountDigits.mono _ _ _
      | exact impl_CyclesOfPowers.mono _ _ _
      | exact impl_Narcissistic.mono _ _ _
      | exact impl_OwnPowers.mono _ _ _
      | exact impl_PowerSum.mono _ _ _ _
      | exact laws_rHas.mono _ _ _
      | exact laws_rRising.mono _ _
      | exact laws_rSame.mono _ _ _
      | exact spec_Narcissistic.mono _ _ _
      | exact spec_OwnPowers.mono _ _ _
      | exact LeO.none _
      | refine LeO.ite ?_ ?_
      | refine LeO.bind ?_ (fun _ => ?_)
    · intro y0 y1 y2 y3
      unfold laws_FnOwnPowers.j6
      repeat' first
      | (with_reducible exact ih0 _ _ _ _ _ _)
      | (with_reducible exact ih1 _)
      | (with_reducible exact ih2 _ _ _ _)
      | (with_reducible exact ih3 _ _ _ _ _)
      | (with_reducible exact ih4 _ _ _ _ _)
      | (with_reducible exact ih5 _ _ _ _ _ _ _)
      | (with_reducible exact ih6 _ _ _ _ _)
      | (with_reducible exact ih7 _ _ _ _ _ _ _)
      | (with_reducible exact impl_CountDigits.mono _ _ _)
      | (with_reducible exact impl_CyclesOfPowers.mono _ _ _)
      | (with_reducible exact impl_Narcissistic.mono _ _ _)
      | (with_reducible exact impl_OwnPowers.mono _ _ _)
      | (with_reducible exact impl_PowerSum.mono _ _ _ _)
      | (with_reducible exact laws_rHas.mono _ _ _)
      | (with_reducible exact laws_rRising.mono _ _)
      | (with_reducible exact laws_rSame.mono _ _ _)
      | (with_reducible exact spec_Narcissistic.mono _ _ _)
      | (with_reducible exact spec_OwnPowers.mono _ _ _)
      | (with_reducible exact LeO.refl _)
      | (with_reducible exact LeO.none _)
      | (with_reducible refine LeO.ite ?_ ?_)
      | (with_reducible refine LeO.bind ?_ (fun _ => ?_))
      | exact ih0 _ _ _ _ _ _
      | exact ih1 _
      | exact ih2 _ _ _ _
      | exact ih3 _ _ _ _ _
      | exact ih4 _ _ _ _ _
      | exact ih5 _ _ _ _ _ _ _
      | exact ih6 _ _ _ _ _
      | exact ih7 _ _ _ _ _ _ _
      | exact impl_CountDigits.mono _ _ _
      | exact impl_CyclesOfPowers.mono _ _ _
      | exact impl_Narcissistic.mono _ _ _
      | exact impl_OwnPowers.mono _ _ _
      | exact impl_PowerSum.mono _ _ _ _
      | exact laws_rHas.mono _ _ _
      | exact laws_rRising.mono _ _
      | exact laws_rSame.mono _ _ _
      | exact spec_Narcissistic.mono _ _ _
      | exact spec_OwnPowers.mono _ _ _
      | exact LeO.none _
      | refine LeO.ite ?_ ?_
      | refine LeO.bind ?_ (fun _ => ?_)
    · intro y0 y1 y2 y3 y4
      unfold laws_FnOwnPowers.l3
      repeat' first
      | (with_reducible exact ih0 _ _ _ _ _ _)
      | (with_reducible exact ih1 _)
      | (with_reducible exact ih2 _ _ _ _)
      | (with_reducible exact ih3 _ _ _ _ _)
      | (with_reducible exact ih4 _ _ _ _ _)
      | (with_reducible exact ih5 _ _ _ _ _ _ _)
      | (with_reducible exact ih6 _ _ _ _ _)
      | (with_reducible exact ih7 _ _ _ _ _ _ _)
      | (with_reducible exact impl_CountDigits.mono _ _ _)
      | (with_reducible exact impl_CyclesOfPowers.mono _ _ _)
      | (with_reducible exact impl_Narcissistic.mono _ _ _)
      | (with_reducible exact impl_OwnPowers.mono _ _ _)
      | (with_reducible exact impl_PowerSum.mono _ _ _ _)
      | (with_reducible exact laws_rHas.mono _ _ _)
      | (with_reducible exact laws_rRising.mono _ _)
      | (with_reducible exact laws_rSame.mono _ _ _)
      | (with_reducible exact spec_Narcissistic.mono _ _ _)
      | (with_reducible exact spec_OwnPowers.mono _ _ _)
      | (with_reducible exact LeO.refl _)
      | (with_reducible exact LeO.none _)
      | (with_reducible refine LeO.ite ?_ ?_)
      | (with_reducible refine LeO.bind ?_ (fun _ => ?_))
      | exact ih0 _ _ _ _ _ _
      | exact ih1 _
      | exact ih2 _ _ _ _
      | exact ih3 _ _ _ _ _
      | exact ih4 _ _ _ _ _
      | exact ih5 _ _ _ _ _ _ _
      | exact ih6 _ _ _ _ _
      | exact ih7 _ _ _ _ _ _ _
      | exact impl_CountDigits.mono _ _ _
      | exact impl_CyclesOfPowers.mono _ _ _
      | exact impl_Narcissistic.mono _ _ _
      | exact impl_OwnPowers.mono _ _ _
      | exact impl_PowerSum.mono _ _ _ _
      | exact laws_rHas.mono _ _ _
      | exact laws_rRising.mono _ _
      | exact laws_rSame.mono _ _ _
      | exact spec_Narcissistic.mono _ _ _
      | exact spec_OwnPowers.mono _ _ _
      | exact LeO.none _
      | refine LeO.ite ?_ ?_
      | refine LeO.bind ?_ (fun _ => ?_)
    · intro y0 y1 y2 y3 y4
      unfold laws_FnOwnPowers.j1
      repeat' first
      | (with_reducible exact ih0 _ _ _ _ _ _)
      | (with_reducible exact ih1 _)
      | (with_reducible exact ih2 _ _ _ _)
      | (with_reducible exact ih3 _ _ _ _ _)
      | (with_reducible exact ih4 _ _ _ _ _)
      | (with_reducible exact ih5 _ _ _ _ _ _ _)
      | (with_reducible exact ih6 _ _ _ _ _)
      | (with_reducible exact ih7 _ _ _ _ _ _ _)
      | (with_reducible exact impl_CountDigits.mono _ _ _)
      | (with_reducible exact impl_CyclesOfPowers.mono _ _ _)
      | (with_reducible exact impl_Narcissistic.mono _ _ _)
      | (with_reducible exact impl_OwnPowers.mono _ _ _)
      | (with_reducible exact impl_PowerSum.mono _ _ _ _)
      | (with_reducible exact laws_rHas.mono _ _ _)
      | (with_reducible exact laws_rRising.mono _ _)
      | (with_reducible exact laws_rSame.mono _ _ _)
      | (with_reducible exact spec_Narcissistic.mono _ _ _)
      | (with_reducible exact spec_OwnPowers.mono _ _ _)
      | (with_reducible exact LeO.refl _)
      | (with_reducible exact LeO.none _)
      | (with_reducible refine LeO.ite ?_ ?_)
      | (with_reducible refine LeO.bind ?_ (fun _ => ?_))
      | exact ih0 _ _ _ _ _ _
      | exact ih1 _
      | exact ih2 _ _ _ _
      | exact ih3 _ _ _ _ _
      | exact ih4 _ _ _ _ _
      | exact ih5 _ _ _ _ _ _ _
      | exact ih6 _ _ _ _ _
      | exact ih7 _ _ _ _ _ _ _
      | exact impl_CountDigits.mono _ _ _
      | exact impl_CyclesOfPowers.mono _ _ _
      | exact impl_Narcissistic.mono _ _ _
      | exact impl_OwnPowers.mono _ _ _
      | exact impl_PowerSum.mono _ _ _ _
      | exact laws_rHas.mono _ _ _
      | exact laws_rRising.mono _ _
      | exact laws_rSame.mono _ _ _
      | exact spec_Narcissistic.mono _ _ _
      | exact spec_OwnPowers.mono _ _ _
      | exact LeO.none _
      | refine LeO.ite ?_ ?_
      | refine LeO.bind ?_ (fun _ => ?_)
    · intro y0 y1 y2 y3 y4 y5 y6
      unfold laws_FnOwnPowers.l0
      repeat' first
      | (with_reducible exact ih0 _ _ _ _ _ _)
      | (with_reducible exact ih1 _)
      | (with_reducible exact ih2 _ _ _ _)
      | (with_reducible exact ih3 _ _ _ _ _)
      | (with_reducible exact ih4 _ _ _ _ _)
      | (with_reducible exact ih5 _ _ _ _ _ _ _)
      | (with_reducible exact ih6 _ _ _ _ _)
      | (with_reducible exact ih7 _ _ _ _ _ _ _)
      | (with_reducible exact impl_CountDigits.mono _ _ _)
      | (with_reducible exact impl_CyclesOfPowers.mono _ _ _)
      | (with_reducible exact impl_Narcissistic.mono _ _ _)
      | (with_reducible exact impl_OwnPowers.mono _ _ _)
      | (with_reducible exact impl_PowerSum.mono _ _ _ _)
      | (with_reducible exact laws_rHas.mono _ _ _)
      | (with_reducible exact laws_rRising.mono _ _)
      | (with_reducible exact laws_rSame.mono _ _ _)
      | (with_reducible exact spec_Narcissistic.mono _ _ _)
      | (with_reducible exact spec_OwnPowers.mono _ _ _)
      | (with_reducible exact LeO.refl _)
      | (with_reducible exact LeO.none _)
      | (with_reducible refine LeO.ite ?_ ?_)
      | (with_reducible refine LeO.bind ?_ (fun _ => ?_))
      | exact ih0 _ _ _ _ _ _
      | exact ih1 _
      | exact ih2 _ _ _ _
      | exact ih3 _ _ _ _ _
      | exact ih4 _ _ _ _ _
      | exact ih5 _ _ _ _ _ _ _
      | exact ih6 _ _ _ _ _
      | exact ih7 _ _ _ _ _ _ _
      | exact impl_CountDigits.mono _ _ _
      | exact impl_CyclesOfPowers.mono _ _ _
      | exact impl_Narcissistic.mono _ _ _
      | exact impl_OwnPowers.mono _ _ _
      | exact impl_PowerSum.mono _ _ _ _
      | exact laws_rHas.mono _ _ _
      | exact laws_rRising.mono _ _
      | exact laws_rSame.mono _ _ _
      | exact spec_Narcissistic.mono _ _ _
      | exact spec_OwnPowers.mono _ _ _
      | exact LeO.none _
      | refine LeO.ite ?_ ?_
      | refine LeO.bind ?_ (fun _ => ?_)
    · intro y0 y1 y2 y3 y4
      unfold laws_FnOwnPowers.l1
      repeat' first
      | (with_reducible exact ih0 _ _ _ _ _ _)
      | (with_reducible exact ih1 _)
      | (with_reducible exact ih2 _ _ _ _)
      | (with_reducible exact ih3 _ _ _ _ _)
      | (with_reducible exact ih4 _ _ _ _ _)
      | (with_reducible exact ih5 _ _ _ _ _ _ _)
      | (with_reducible exact ih6 _ _ _ _ _)
      | (with_reducible exact ih7 _ _ _ _ _ _ _)
      | (with_reducible exact impl_CountDigits.mono _ _ _)
      | (with_reducible exact impl_CyclesOfPowers.mono _ _ _)
      | (with_reducible exact impl_Narcissistic.mono _ _ _)
      | (with_reducible exact impl_OwnPowers.mono _ _ _)
      | (with_reducible exact impl_PowerSum.mono _ _ _ _)
      | (with_reducible exact laws_rHas.mono _ _ _)
      | (with_reducible exact laws_rRising.mono _ _)
      | (with_reducible exact laws_rSame.mono _ _ _)
      | (with_reducible exact spec_Narcissistic.mono _ _ _)
      | (with_reducible exact spec_OwnPowers.mono _ _ _)
      | (with_reducible exact LeO.refl _)
      | (with_reducible exact LeO.none _)
      | (with_reducible refine LeO.ite ?_ ?_)
      | (with_reducible refine LeO.bind ?_ (fun _ => ?_))
      | exact ih0 _ _ _ _ _ _
      | exact ih1 _
      | exact ih2 _ _ _ _
      | exact ih3 _ _ _ _ _
      | exact ih4 _ _ _ _ _
      | exact ih5 _ _ _ _ _ _ _
      | exact ih6 _ _ _ _ _
      | exact ih7 _ _ _ _ _ _ _
      | exact impl_CountDigits.mono _ _ _
      | exact impl_CyclesOfPowers.mono _ _ _
      | exact impl_Narcissistic.mono _ _ _
      | exact impl_OwnPowers.mono _ _ _
      | exact impl_PowerSum.mono _ _ _ _
      | exact laws_rHas.mono _ _ _
      | exact laws_rRising.mono _ _
      | exact laws_rSame.mono _ _ _
      | exact spec_Narcissistic.mono _ _ _
      | exact spec_OwnPowers.mono _ _ _
      | exact LeO.none _
      | refine LeO.ite ?_ ?_
      | refine LeO.bind ?_ (fun _ => ?_)
    · intro y0 y1 y2 y3 y4 y5 y6
      unfold laws_FnOwnPowers.l2
      repeat' first
      | (with_reducible exact ih0 _ _ _ _ _ _)
      | (with_reducible exact ih1 _)
      | (with_reducible exact ih2 _ _ _ _)
      | (with_reducible exact ih3 _ _ _ _ _)
      | (with_reducible exact ih4 _ _ _ _ _)
      | (with_reducible exact ih5 _ _ _ _ _ _ _)
      | (with_reducible exact ih6 _ _ _ _ _)
      | (with_reducible exact ih7 _ _ _ _ _ _ _)
      | (with_reducible exact impl_CountDigits.mono _ _ _)
      | (with_reducible exact impl_CyclesOfPowers.mono _ _ _)
      | (with_reducible exact impl_Narcissistic.mono _ _ _)
      | (with_reducible exact impl_OwnPowers.mono _ _ _)
      | (with_reducible exact impl_PowerSum.mono _ _ _ _)
      | (with_reducible exact laws_rHas.mono _ _ _)
      | (with_reducible exact laws_rRising.mono _ _)
      | (with_reducible exact laws_rSame.mono _ _ _)
      | (with_reducible exact spec_Narcissistic.mono _ _ _)
      | (with_reducible exact spec_OwnPowers.mono _ _ _)
      | (with_reducible exact LeO.refl _)
      | (with_reducible exact LeO.none _)
      | (with_reducible refine LeO.ite ?_ ?_)
      | (with_reducible refine LeO.bind ?_ (fun _ => ?_))
      | exact ih0 _ _ _ _ _ _
      | exact ih1 _
      | exact ih2 _ _ _ _
      | exact ih3 _ _ _ _ _
      | exact ih4 _ _ _ _ _
      | exact ih5 _ _ _ _ _ _ _
      | exact ih6 _ _ _ _ _
      | exact ih7 _ _ _ _ _ _ _
      | exact impl_CountDigits.mono _ _ _
      | exact impl_CyclesOfPowers.mono _ _ _
      | exact impl_Narcissistic.mono _ _ _
      | exact impl_OwnPowers.mono _ _ _
      | exact impl_PowerSum.mono _ _ _ _
      | exact laws_rHas.mono _ _ _
      | exact laws_rRising.mono _ _
      | exact laws_rSame.mono _ _ _
      | exact spec_Narcissistic.mono _ _ _
      | exact spec_OwnPowers.mono _ _ _
      | exact LeO.none _
      | refine LeO.ite ?_ ?_
      | refine LeO.bind ?_ (fun _ => ?_)
theorem laws_FnOwnPowers.mono : ∀ a0 a1 k, LeO (laws_FnOwnPowers.f k a0 a1) (laws_FnOwnPowers.f (k + 1) a0 a1) := by
  intro a0 a1 k
  obtain ⟨ih0, ih1, ih2, ih3, ih4, ih5, ih6, ih7⟩ := laws_FnOwnPowers.mono_l k
  unfold laws_FnOwnPowers.f
  repeat' first
      | (with_reducible exact ih0 _ _ _ _ _ _)
      | (with_reducible exact ih1 _)
      | (with_reducible exact ih2 _ _ _ _)
      | (with_reducible exact ih3 _ _ _ _ _)
      | (with_reducible exact ih4 _ _ _ _ _)
      | (with_reducible exact ih5 _ _ _ _ _ _ _)
      | (with_reducible exact ih6 _ _ _ _ _)
      | (with_reducible exact ih7 _ _ _ _ _ _ _)
      | (with_reducible exact impl_CountDigits.mono _ _ _)
      | (with_reducible exact impl_CyclesOfPowers.mono _ _ _)
      | (with_reducible exact impl_Narcissistic.mono _ _ _)
      | (with_reducible exact impl_OwnPowers.mono _ _ _)
      | (with_reducible exact impl_PowerSum.mono _ _ _ _)
      | (with_reducible exact laws_rHas.mono _ _ _)
      | (with_reducible exact laws_rRising.mono _ _)
      | (with_reducible exact laws_rSame.mono _ _ _)
      | (with_reducible exact spec_Narcissistic.mono _ _ _)
      | (with_reducible exact spec_OwnPowers.mono _ _ _)
      | (with_reducible exact LeO.refl _)
      | (with_reducible exact LeO.none _)
      | (with_reducible refine LeO.ite ?_ ?_)
      | (with_reducible refine LeO.bind ?_ (fun _ => ?_))
      | exact ih0 _ _ _ _ _ _
      | exact ih1 _
      | exact ih2 _ _ _ _
      | exact ih3 _ _ _ _ _
      | exact ih4 _ _ _ _ _
      | exact ih5 _ _ _ _ _ _ _
      | exact ih6 _ _ _ _ _
      | exact ih7 _ _ _ _ _ _ _
      | exact impl_CountDigits.mono _ _ _
      | exact impl_CyclesOfPowers.mono _ _ _
      | exact impl_Narcissistic.mono _ _ _
      | exact impl_OwnPowers.mono _ _ _
      | exact impl_PowerSum.mono _ _ _ _
      | exact laws_rHas.mono _ _ _
      | exact laws_rRising.mono _ _
      | exact laws_rSame.mono _ _ _
      | exact spec_Narcissistic.mono _ _ _
      | exact spec_OwnPowers.mono _ _ _
      | exact LeO.none _
      | refine LeO.ite ?_ ?_
      | refine LeO.bind ?_ (fun _ => ?_)
set_option maxHeartbeats 8000000 in
set_option maxRecDepth 100000 in
theorem laws_FnOwnPowers.calls (k : Nat) (A0 : Option Addr) (c0 : Nat) (l0 : List Int) (A1 : Option Addr) (c1 : Nat) (l1 : List Int) (r : Bool) (w : World) (hr0 : Kd.C (Kd.int .u8) w A0 l0.length l0) (hc0 : l0.length ≤ c0) (hr1 : Kd.C (Kd.int .u8) w A1 l1.length l1) (hc1 : l1.length ≤ c1) (h : laws_FnOwnPowers.f k l0 l1 = some r) :
    Calls Try.prog 7 #[.slice A0 l0.length c0, .slice A1 l1.length c1] w fun e w' => e = .returned (.bool r) ∧ Below w.heap.size w w' := by
  have HR0 := Aside0.mk hr0
  have HC0 := Aside0.mk hc0
  clear hr0 hc0
  have HR1 := Aside0.mk hr1
  have HC1 := Aside0.mk hc1
  clear hr1 hc1
  have HB := Aside0.mk (Below.refl w.heap.size w)
  have H : ((laws_big.f l0 l1).bind fun t293 => (if t293 = true then (some true) else ((spec_DrawOwnPowers.f l0).bind fun bt294 => ((impl_OwnPowers.f k bt294.1 bt294.2).bind fun bt296 => ((spec_OwnPowers.f k bt294.1 bt294.2).bind fun bt300 => (if (bt296.2 != bt300.2) = true then (laws_FnOwnPowers.j0 k l1 bt294.1 bt294.2 bt296.1 bt296.2 true) else ((laws_rSame.f k bt296.1 bt300.1).bind fun t304 => (laws_FnOwnPowers.j0 k l1 bt294.1 bt294.2 bt296.1 bt296.2 (!t304))))))))) = some r := h
  clear h
  replace H := Option.bind_eq_some_iff.mp H
  obtain ⟨t293, A30, H⟩ := H
  replace H : (if t293 = true then (some true) else ((spec_DrawOwnPowers.f l0).bind fun bt294 => ((impl_OwnPowers.f k bt294.1 bt294.2).bind fun bt296 => ((spec_OwnPowers.f k bt294.1 bt294.2).bind fun bt300 => (if (bt296.2 != bt300.2) = true then (laws_FnOwnPowers.j0 k l1 bt294.1 bt294.2 bt296.1 bt296.2 true) else ((laws_rSame.f k bt296.1 bt300.1).bind fun t304 => (laws_FnOwnPowers.j0 k l1 bt294.1 bt294.2 bt296.1 bt296.2 (!t304)))))))) = some r := H
  have A3 := Aside0.mk A30
  clear A30
  by_cases c4 : t293 = true
  · subst c4
    have H1 : (some true) = some r := by rw [if_pos rfl] at H; exact H
    clear H
    have H := H1
    clear H1
    obtain rfl := Option.some.inj H
    go_enter Try.func7, Try.ntmps7
    go_wp2_with (first | ((with_reducible refine gate_callee (f := 20) rfl ?_); refine goesL_ (some 39) rfl rfl Try.func20 (by kernel_rfl) rfl #[.slice A0 l0.length c0, .slice A1 l1.length c1] rfl (by (try simp only [List.map_toArray, List.map_cons, List.map_nil]); first | done | rfl | (simp only [List.length_drop, List.length_take]; rfl)) ?_; (with_reducible refine (laws_big.calls _ _ l0 _ _ l1 true _ ?side1 ?side2 ?side3 ?side4 A3.out).mono ?_); (case side1 => repeat (first | exact HR0.out | (with_reducible refine Kd.C_alloc ?_ _) | (with_reducible refine Kd.C_drewN ?_ _) | (with_reducible refine Kd.C_drew ?_))); (case side2 => exact HC0.out); (case side3 => repeat (first | exact HR1.out | (with_reducible refine Kd.C_alloc ?_ _) | (with_reducible refine Kd.C_drewN ?_ _) | (with_reducible refine Kd.C_drew ?_))); (case side4 => exact HC1.out); rintro e w' ⟨rfl, ⟨nd, rfl⟩⟩; refine ⟨_, rfl, ?_⟩))
    go_ret
    exact ⟨by first | rfl | (simp [errW_none, errW_some] <;> rfl) | (simp [*, errW_none, errW_some] <;> rfl), by repeat (first | (with_reducible first | exact HB.out | apply below_alloc | apply pw_below_drewN | apply below_drew1) | exact HB.out)⟩
  · replace c4 := Bool.eq_false_iff.mpr c4
    subst c4
    have H1 : ((spec_DrawOwnPowers.f l0).bind fun bt294 => ((impl_OwnPowers.f k bt294.1 bt294.2).bind fun bt296 => ((spec_OwnPowers.f k bt294.1 bt294.2).bind fun bt300 => (if (bt296.2 != bt300.2) = true then (laws_FnOwnPowers.j0 k l1 bt294.1 bt294.2 bt296.1 bt296.2 true) else ((laws_rSame.f k bt296.1 bt300.1).bind fun t304 => (laws_FnOwnPowers.j0 k l1 bt294.1 bt294.2 bt296.1 bt296.2 (!t304))))))) = some r := by rw [if_neg (show ¬ (false = true) by decide)] at H; exact H
    clear H
    have H := H1
    clear H1
    replace H := Option.bind_eq_some_iff.mp H
    obtain ⟨⟨t294, t295⟩, A50, H⟩ := H
    replace H : ((impl_OwnPowers.f k t294 t295).bind fun bt296 => ((spec_OwnPowers.f k t294 t295).bind fun bt300 => (if (bt296.2 != bt300.2) = true then (laws_FnOwnPowers.j0 k l1 t294 t295 bt296.1 bt296.2 true) else ((laws_rSame.f k bt296.1 bt300.1).bind fun t304 => (laws_FnOwnPowers.j0 k l1 t294 t295 bt296.1 bt296.2 (!t304)))))) = some r := H
    have A5 := Aside0.mk A50
    clear A50
    replace H := Option.bind_eq_some_iff.mp H
    obtain ⟨⟨t296, t297⟩, A60, H⟩ := H
    replace H : ((spec_OwnPowers.f k t294 t295).bind fun bt300 => (if (t297 != bt300.2) = true then (laws_FnOwnPowers.j0 k l1 t294 t295 t296 t297 true) else ((laws_rSame.f k t296 bt300.1).bind fun t304 => (laws_FnOwnPowers.j0 k l1 t294 t295 t296 t297 (!t304))))) = some r := H
    have A6 := Aside0.mk A60
    clear A60
    replace H := Option.bind_eq_some_iff.mp H
    obtain ⟨⟨t300, t301⟩, A70, H⟩ := H
    replace H : (if (t297 != t301) = true then (laws_FnOwnPowers.j0 k l1 t294 t295 t296 t297 true) else ((laws_rSame.f k t296 t300).bind fun t304 => (laws_FnOwnPowers.j0 k l1 t294 t295 t296 t297 (!t304)))) = some r := H
    have A7 := Aside0.mk A70
    clear A70
    have HC8 := Aside0.mk H
    clear H
    go_enter Try.func7, Try.ntmps7
    go_upto_region 6 with (first | ((with_reducible refine gate_callee (f := 20) rfl ?_); refine goesL_ (some 39) rfl rfl Try.func20 (by kernel_rfl) rfl #[.slice A0 l0.length c0, .slice A1 l1.length c1] rfl (by (try simp only [List.map_toArray, List.map_cons, List.map_nil]); first | done | rfl | (simp only [List.length_drop, List.length_take]; rfl)) ?_; (with_reducible refine (laws_big.calls _ _ l0 _ _ l1 false _ ?side1 ?side2 ?side3 ?side4 A3.out).mono ?_); (case side1 => repeat (first | exact HR0.out | (with_reducible refine Kd.C_alloc ?_ _) | (with_reducible refine Kd.C_drewN ?_ _) | (with_reducible refine Kd.C_drew ?_))); (case side2 => exact HC0.out); (case side3 => repeat (first | exact HR1.out | (with_reducible refine Kd.C_alloc ?_ _) | (with_reducible refine Kd.C_drewN ?_ _) | (with_reducible refine Kd.C_drew ?_))); (case side4 => exact HC1.out); rintro e w' ⟨rfl, ⟨nd, rfl⟩⟩; refine ⟨_, rfl, ?_⟩) | ((with_reducible refine gate_callee (f := 30) rfl ?_); refine goesL_ (some 42) rfl rfl Try.func30 (by kernel_rfl) rfl #[.slice A0 l0.length c0] rfl (by (try simp only [List.map_toArray, List.map_cons, List.map_nil]); first | done | rfl | (simp only [List.length_drop, List.length_take]; rfl)) ?_; (with_reducible refine (spec_DrawOwnPowers.calls _ _ l0 t294 t295 _ ?side1 ?side2 A5.out).mono ?_); (case side1 => repeat (first | exact HR0.out | (with_reducible refine Kd.C_alloc ?_ _) | (with_reducible refine Kd.C_drewN ?_ _) | (with_reducible refine Kd.C_drew ?_))); (case side2 => exact HC0.out); rintro e w9 ⟨rfl, hb⟩; refine ⟨_, rfl, ?_⟩; have n0_ := Aside0.mk (below_step (by repeat (first | (with_reducible first | exact HB.out | apply below_alloc | apply pw_below_drewN | apply below_drew1) | exact HB.out)) hb); clear HB; have HB := n0_; clear n0_; (try clear hb); (try clear hb2); (try clear hk); (try clear hi)) | ((with_reducible refine gate_callee (f := 14) rfl ?_); refine goesL_ (some 48) rfl rfl Try.func14 (by kernel_rfl) rfl #[.int .i64 t294, .int .i64 t295] rfl (by (try simp only [List.map_toArray, List.map_cons, List.map_nil]); first | done | rfl | (simp only [List.length_drop, List.length_take]; rfl)) ?_; (with_reducible refine (impl_OwnPowers.calls k t294 t295 t296 t297 _ A6.out).mono ?_); rintro e w10 ⟨v298, rfl, ho0, hb⟩; refine ⟨_, rfl, ?_⟩; have n0_ := Aside0.mk (Kd.R_lower ho0 (below_size (by repeat (first | (with_reducible first | exact HB.out | apply below_alloc | apply pw_below_drewN | apply below_drew1) | exact HB.out)))); have n1_ := Aside0.mk (below_step (by repeat (first | (with_reducible first | exact HB.out | apply below_alloc | apply pw_below_drewN | apply below_drew1) | exact HB.out)) hb); clear HB; have HO299 := n0_; have HB := n1_; clear n0_ n1_; (try clear hb); (try clear hb2); (try clear hk); (try clear hi); (try clear ho0)) | ((with_reducible refine gate_callee (f := 13) rfl ?_); refine goesL_ (some 54) rfl rfl Try.func13 (by kernel_rfl) rfl #[.int .i64 t294, .int .i64 t295] rfl (by (try simp only [List.map_toArray, List.map_cons, List.map_nil]); first | done | rfl | (simp only [List.length_drop, List.length_take]; rfl)) ?_; (with_reducible refine (spec_OwnPowers.calls k t294 t295 t300 t301 _ A7.out).mono ?_); rintro e w11 ⟨v302, rfl, ho0, hb⟩; refine ⟨_, rfl, ?_⟩; have n0_ := Aside0.mk (Kd.R_elder' (by (with_reducible repeat (first | apply Kd.R_alloc | apply Kd.R_drewN | apply Kd.R_drew)); exact HO299.out) (Kd.R_base ho0) hb); have n1_ := Aside0.mk (Kd.R_lower (Kd.R_new' ho0 (Kd.R_lt (by (with_reducible repeat (first | apply Kd.R_alloc | apply Kd.R_drewN | apply Kd.R_drew)); exact HO299.out))) (below_size (by repeat (first | (with_reducible first | exact HB.out | apply below_alloc | apply pw_below_drewN | apply below_drew1) | exact HB.out)))); have n2_ := Aside0.mk (below_step (by repeat (first | (with_reducible first | exact HB.out | apply below_alloc | apply pw_below_drewN | apply below_drew1) | exact HB.out)) hb); clear HO299; clear HB; have HO299 := n0_; have HO303 := n1_; have HB := n2_; clear n0_ n1_ n2_; (try clear hb); (try clear hb2); (try clear hk); (try clear hi); (try clear ho0)))
    (try simp only [Act.put, List.setIfInBounds_toArray, List.set_cons_zero, List.set_cons_succ])
    go_cut [65] (fun v65 wc => ∃ (kq : Nat) (x65_7 : Bool), v65 = .bool x65_7 ∧ Aside0 (laws_FnOwnPowers.j0 kq l1 t294 t295 t296 t297 x65_7 = some r) ∧ Aside0 (kq ≤ k) ∧ Aside0 (Kd.R (Kd.int .i64) 3 wc w.heap.size (fun _ => True) v298 t296) ∧ Aside0 (Below w.heap.size w wc))
    case first =>
      have H := HC8.out
      clear HC8
      by_cases c12 : (t297 != t301) = true
      · rw [if_pos c12] at H
        have c12b0 : (t297 != t301) = true := c12
        (try (have c12b1 : decide (t297 = t301) = false := by simpa using c12))
        (try (have c12b2 : (t297 == t301) = false := by simpa using c12))
        (try (have c12b3 : ¬ (t297 = t301) := by simpa using c12))
        clear c12
        (first | rw [c12b0] | (simp only [i64_w, i32_w]; rw [c12b0]) | skip)
        have H' := Aside0.mk H
        clear H
        go_wp2
        go_meet
        case rel => exact ⟨_, (true), (by first | rfl | (simp; done) | (simp [*]; done)), H', ⟨by first | omega | exact Nat.le_refl _⟩, ⟨by (with_reducible repeat (first | apply Kd.R_alloc | apply Kd.R_drewN | apply Kd.R_drew)); exact Kd.R_mono HO299.out (fun _ hk => trivial)⟩, ⟨by repeat (first | (with_reducible first | exact HB.out | apply below_alloc | apply pw_below_drewN | apply below_drew1) | exact HB.out)⟩⟩
      · rw [if_neg c12] at H
        have c12b0 : (t297 != t301) = false := by simpa using c12
        (try (have c12b1 : decide (t297 = t301) = true := by simpa using c12))
        (try (have c12b2 : (t297 == t301) = true := by simpa using c12))
        clear c12
        (first | rw [c12b0] | (simp only [i64_w, i32_w]; rw [c12b0]) | skip)
        replace H := Option.bind_eq_some_iff.mp H
        obtain ⟨t304, A130, H⟩ := H
        replace H : (laws_FnOwnPowers.j0 k l1 t294 t295 t296 t297 (!t304)) = some r := H
        have A13 := Aside0.mk A130
        clear A130
        have H' := Aside0.mk H
        clear H
        obtain ⟨Ao14, co14, eo14⟩ := Kd.R_slice HO299.out
        subst eo14
        obtain ⟨Ao15, co15, eo15⟩ := Kd.R_slice HO303.out
        subst eo15
        go_wp2_with (first | (go_at_call 31; (with_reducible refine (laws_rSame.calls k _ _ t296 _ _ t300 t304 _ ?side1 ?side2 ?side3 ?side4 A13.out).mono ?_); (case side1 => repeat (first | exact (Kd.R_reads' HO299.out).2.2 | (with_reducible refine Kd.C_alloc ?_ _) | (with_reducible refine Kd.C_drewN ?_ _) | (with_reducible refine Kd.C_drew ?_))); (case side2 => exact (Kd.R_reads' HO299.out).2.1); (case side3 => repeat (first | exact (Kd.R_reads' HO303.out).2.2 | (with_reducible refine Kd.C_alloc ?_ _) | (with_reducible refine Kd.C_drewN ?_ _) | (with_reducible refine Kd.C_drew ?_))); (case side4 => exact (Kd.R_reads' HO303.out).2.1); rintro e w' ⟨rfl, ⟨nd, rfl⟩⟩))
        go_meet
        case rel => exact ⟨_, (!t304), (by first | rfl | (simp; done) | (simp [*]; done)), H', ⟨by first | omega | exact Nat.le_refl _⟩, ⟨by (with_reducible repeat (first | apply Kd.R_alloc | apply Kd.R_drewN | apply Kd.R_drew)); exact Kd.R_mono HO299.out (fun _ hk => trivial)⟩, ⟨by repeat (first | (with_reducible first | exact HB.out | apply below_alloc | apply pw_below_drewN | apply below_drew1) | exact HB.out)⟩⟩
    case rest =>
      clear HC8
      try clear c1
      try clear c2
      try clear p2
      try clear c3
      try clear c4
      try clear c7
      try clear c12
      try clear c12b0
      try clear c12b1
      try clear c12b2
      try clear c13
      try clear c14
      obtain ⟨kq, x65_7, rfl, HA, HJ7, HO_7, HB⟩ := hcut
      cases kq with
      | zero => exact absurd HA.out (by simp [laws_FnOwnPowers.j0])
      | succ kj7 =>
        have H := HA.out
        clear HA
        simp only [laws_FnOwnPowers.j0] at H
        by_cases c16 : x65_7 = true
        · subst c16
          have H1 : (some false) = some r := by rw [if_pos rfl] at H; exact H
          clear H
          have H := H1
          clear H1
          obtain rfl := Option.some.inj H
          go_wp2
          go_ret
          exact ⟨by first | rfl | (simp [errW_none, errW_some] <;> rfl) | (simp [*, errW_none, errW_some] <;> rfl), by repeat (first | (with_reducible first | exact HB.out | apply below_alloc | apply pw_below_drewN | apply below_drew1) | exact HB.out)⟩
        · replace c16 := Bool.eq_false_iff.mpr c16
          subst c16
          have H1 : (if t297 = true then ((laws_rRising.f kj7 t296).bind fun t305 => (if t305 = true then ((laws_rHas.f kj7 t296 0).bind fun t306 => (if t306 = true then ((laws_rHas.f kj7 t296 1).bind fun t307 => (laws_FnOwnPowers.j1 kj7 l1 t294 t295 t296 (!t307))) else (laws_FnOwnPowers.j1 kj7 l1 t294 t295 t296 true))) else (laws_FnOwnPowers.j1 kj7 l1 t294 t295 t296 true))) else (laws_FnOwnPowers.j5 kj7 l1)) = some r := by rw [if_neg (show ¬ (false = true) by decide)] at H; exact H
          clear H
          have H := H1
          clear H1
          have HC17 := Aside0.mk H
          clear H
          go_upto_if 66 with (fail)
          go_cut [] (fun wc => ∃ (kq : Nat), Aside0 (laws_FnOwnPowers.j5 kq l1 = some r) ∧ Aside0 (kq ≤ kj7) ∧ Aside0 (Below w.heap.size w wc))
          case first =>
            as_aux_lemma =>
              have H := HC17.out
              clear HC17
              by_cases c18 : t297 = true
              · subst c18
                have H1 : ((laws_rRising.f kj7 t296).bind fun t305 => (if t305 = true then ((laws_rHas.f kj7 t296 0).bind fun t306 => (if t306 = true then ((laws_rHas.f kj7 t296 1).bind fun t307 => (laws_FnOwnPowers.j1 kj7 l1 t294 t295 t296 (!t307))) else (laws_FnOwnPowers.j1 kj7 l1 t294 t295 t296 true))) else (laws_FnOwnPowers.j1 kj7 l1 t294 t295 t296 true))) = some r := by rw [if_pos rfl] at H; exact H
                clear H
                have H := H1
                clear H1
                have HC19 := Aside0.mk H
                clear H
                go_upto_region 9 with (fail)
                go_cut [79] (fun v79 wc => ∃ (kq : Nat) (x79_18 : Bool), v79 = .bool x79_18 ∧ Aside0 (laws_FnOwnPowers.j1 kq l1 t294 t295 t296 x79_18 = some r) ∧ Aside0 (kq ≤ kj7) ∧ Aside0 (Kd.R (Kd.int .i64) 3 wc w.heap.size (fun _ => True) v298 t296) ∧ Aside0 (Below w.heap.size w wc))
                case first =>
                  have H := HC19.out
                  clear HC19
                  replace H := Option.bind_eq_some_iff.mp H
                  obtain ⟨t305, A200, H⟩ := H
                  replace H : (if t305 = true then ((laws_rHas.f kj7 t296 0).bind fun t306 => (if t306 = true then ((laws_rHas.f kj7 t296 1).bind fun t307 => (laws_FnOwnPowers.j1 kj7 l1 t294 t295 t296 (!t307))) else (laws_FnOwnPowers.j1 kj7 l1 t294 t295 t296 true))) else (laws_FnOwnPowers.j1 kj7 l1 t294 t295 t296 true)) = some r := H
                  have A20 := Aside0.mk A200
                  clear A200
                  by_cases c21 : t305 = true
                  · subst c21
                    have H1 : ((laws_rHas.f kj7 t296 0).bind fun t306 => (if t306 = true then ((laws_rHas.f kj7 t296 1).bind fun t307 => (laws_FnOwnPowers.j1 kj7 l1 t294 t295 t296 (!t307))) else (laws_FnOwnPowers.j1 kj7 l1 t294 t295 t296 true))) = some r := by rw [if_pos rfl] at H; exact H
                    clear H
                    have H := H1
                    clear H1
                    replace H := Option.bind_eq_some_iff.mp H
                    obtain ⟨t306, A220, H⟩ := H
                    replace H : (if t306 = true then ((laws_rHas.f kj7 t296 1).bind fun t307 => (laws_FnOwnPowers.j1 kj7 l1 t294 t295 t296 (!t307))) else (laws_FnOwnPowers.j1 kj7 l1 t294 t295 t296 true)) = some r := H
                    have A22 := Aside0.mk A220
                    clear A220
                    by_cases c23 : t306 = true
                    · subst c23
                      have H1 : ((laws_rHas.f kj7 t296 1).bind fun t307 => (laws_FnOwnPowers.j1 kj7 l1 t294 t295 t296 (!t307))) = some r := by rw [if_pos rfl] at H; exact H
                      clear H
                      have H := H1
                      clear H1
                      replace H := Option.bind_eq_some_iff.mp H
                      obtain ⟨t307, A240, H⟩ := H
                      replace H : (laws_FnOwnPowers.j1 kj7 l1 t294 t295 t296 (!t307)) = some r := H
                      have A24 := Aside0.mk A240
                      clear A240
                      have H' := Aside0.mk H
                      clear H
                      obtain ⟨Ao25, co25, eo25⟩ := Kd.R_slice HO_7.out
                      subst eo25
                      go_wp2_with (first | ((with_reducible refine gate_callee (f := 24) rfl ?_); refine goesL_ (some 68) rfl rfl Try.func24 (by kernel_rfl) rfl #[.slice Ao25 t296.length co25] rfl (by (try simp only [List.map_toArray, List.map_cons, List.map_nil]); first | done | rfl | (simp only [List.length_drop, List.length_take]; rfl)) ?_; (with_reducible refine (laws_rRising.calls kj7 _ _ t296 true _ ?side1 ?side2 A20.out).mono ?_); (case side1 => repeat (first | exact (Kd.R_reads' HO_7.out).2.2 | (with_reducible refine Kd.C_alloc ?_ _) | (with_reducible refine Kd.C_drewN ?_ _) | (with_reducible refine Kd.C_drew ?_))); (case side2 => exact (Kd.R_reads' HO_7.out).2.1); rintro e w' ⟨rfl, ⟨nd, rfl⟩⟩; refine ⟨_, rfl, ?_⟩) | (go_at_call 25; (with_reducible refine (laws_rHas.calls kj7 _ _ t296 0 true _ ?side1 ?side2 A22.out).mono ?_); (case side1 => repeat (first | exact (Kd.R_reads' HO_7.out).2.2 | (with_reducible refine Kd.C_alloc ?_ _) | (with_reducible refine Kd.C_drewN ?_ _) | (with_reducible refine Kd.C_drew ?_))); (case side2 => exact (Kd.R_reads' HO_7.out).2.1); rintro e w' ⟨rfl, ⟨nd, rfl⟩⟩) | (go_at_call 25; (with_reducible refine (laws_rHas.calls kj7 _ _ t296 1 t307 _ ?side1 ?side2 A24.out).mono ?_); (case side1 => repeat (first | exact (Kd.R_reads' HO_7.out).2.2 | (with_reducible refine Kd.C_alloc ?_ _) | (with_reducible refine Kd.C_drewN ?_ _) | (with_reducible refine Kd.C_drew ?_))); (case side2 => exact (Kd.R_reads' HO_7.out).2.1); rintro e w' ⟨rfl, ⟨nd, rfl⟩⟩))
                      go_meet
                      case rel => exact ⟨_, (!t307), (by first | rfl | (simp; done) | (simp [*]; done)), H', ⟨by have := HJ7.out; first | omega | exact Nat.le_refl _⟩, ⟨by (with_reducible repeat (first | apply Kd.R_alloc | apply Kd.R_drewN | apply Kd.R_drew)); exact HO_7.out⟩, ⟨by repeat (first | (with_reducible first | exact HB.out | apply below_alloc | apply pw_below_drewN | apply below_drew1) | exact HB.out)⟩⟩
                    · replace c23 := Bool.eq_false_iff.mpr c23
                      subst c23
                      have H1 : (laws_FnOwnPowers.j1 kj7 l1 t294 t295 t296 true) = some r := by rw [if_neg (show ¬ (false = true) by decide)] at H; exact H
                      clear H
                      have H := H1
                      clear H1
                      have H' := Aside0.mk H
                      clear H
                      obtain ⟨Ao26, co26, eo26⟩ := Kd.R_slice HO_7.out
                      subst eo26
                      go_wp2_with (first | ((with_reducible refine gate_callee (f := 24) rfl ?_); refine goesL_ (some 68) rfl rfl Try.func24 (by kernel_rfl) rfl #[.slice Ao26 t296.length co26] rfl (by (try simp only [List.map_toArray, List.map_cons, List.map_nil]); first | done | rfl | (simp only [List.length_drop, List.length_take]; rfl)) ?_; (with_reducible refine (laws_rRising.calls kj7 _ _ t296 true _ ?side1 ?side2 A20.out).mono ?_); (case side1 => repeat (first | exact (Kd.R_reads' HO_7.out).2.2 | (with_reducible refine Kd.C_alloc ?_ _) | (with_reducible refine Kd.C_drewN ?_ _) | (with_reducible refine Kd.C_drew ?_))); (case side2 => exact (Kd.R_reads' HO_7.out).2.1); rintro e w' ⟨rfl, ⟨nd, rfl⟩⟩; refine ⟨_, rfl, ?_⟩) | (go_at_call 25; (with_reducible refine (laws_rHas.calls kj7 _ _ t296 0 false _ ?side1 ?side2 A22.out).mono ?_); (case side1 => repeat (first | exact (Kd.R_reads' HO_7.out).2.2 | (with_reducible refine Kd.C_alloc ?_ _) | (with_reducible refine Kd.C_drewN ?_ _) | (with_reducible refine Kd.C_drew ?_))); (case side2 => exact (Kd.R_reads' HO_7.out).2.1); rintro e w' ⟨rfl, ⟨nd, rfl⟩⟩))
                      go_meet
                      case rel => exact ⟨_, (true), (by first | rfl | (simp; done) | (simp [*]; done)), H', ⟨by have := HJ7.out; first | omega | exact Nat.le_refl _⟩, ⟨by (with_reducible repeat (first | apply Kd.R_alloc | apply Kd.R_drewN | apply Kd.R_drew)); exact HO_7.out⟩, ⟨by repeat (first | (with_reducible first | exact HB.out | apply below_alloc | apply pw_below_drewN | apply below_drew1) | exact HB.out)⟩⟩
                  · replace c21 := Bool.eq_false_iff.mpr c21
                    subst c21
                    have H1 : (laws_FnOwnPowers.j1 kj7 l1 t294 t295 t296 true) = some r := by rw [if_neg (show ¬ (false = true) by decide)] at H; exact H
                    clear H
                    have H := H1
                    clear H1
                    have H' := Aside0.mk H
                    clear H
                    obtain ⟨Ao27, co27, eo27⟩ := Kd.R_slice HO_7.out
                    subst eo27
                    go_wp2_with (first | ((with_reducible refine gate_callee (f := 24) rfl ?_); refine goesL_ (some 68) rfl rfl Try.func24 (by kernel_rfl) rfl #[.slice Ao27 t296.length co27] rfl (by (try simp only [List.map_toArray, List.map_cons, List.map_nil]); first | done | rfl | (simp only [List.length_drop, List.length_take]; rfl)) ?_; (with_reducible refine (laws_rRising.calls kj7 _ _ t296 false _ ?side1 ?side2 A20.out).mono ?_); (case side1 => repeat (first | exact (Kd.R_reads' HO_7.out).2.2 | (with_reducible refine Kd.C_alloc ?_ _) | (with_reducible refine Kd.C_drewN ?_ _) | (with_reducible refine Kd.C_drew ?_))); (case side2 => exact (Kd.R_reads' HO_7.out).2.1); rintro e w' ⟨rfl, ⟨nd, rfl⟩⟩; refine ⟨_, rfl, ?_⟩))
                    go_meet
                    case rel => exact ⟨_, (true), (by first | rfl | (simp; done) | (simp [*]; done)), H', ⟨by have := HJ7.out; first | omega | exact Nat.le_refl _⟩, ⟨by (with_reducible repeat (first | apply Kd.R_alloc | apply Kd.R_drewN | apply Kd.R_drew)); exact HO_7.out⟩, ⟨by repeat (first | (with_reducible first | exact HB.out | apply below_alloc | apply pw_below_drewN | apply below_drew1) | exact HB.out)⟩⟩
                case rest =>
                  as_aux_lemma =>
                    clear HC19
                    try clear c1
                    try clear c2
                    try clear p2
                    try clear c3
                    try clear c4
                    try clear c7
                    try clear c12
                    try clear c12b0
                    try clear c12b1
                    try clear c12b2
                    try clear c13
                    try clear c14
                    try clear c16
                    try clear c18
                    try clear c20
                    try clear c21
                    try clear c23
                    try clear c24
                    try clear p2
                    obtain ⟨kq, x79_18, rfl, HA, HJ18, HO_7, HB⟩ := hcut
                    cases kq with
                    | zero => exact absurd HA.out (by simp [laws_FnOwnPowers.j1])
                    | succ kj18 =>
                      have H := HA.out
                      clear HA
                      simp only [laws_FnOwnPowers.j1] at H
                      by_cases c28 : x79_18 = true
                      · subst c28
                        have H1 : (some false) = some r := by rw [if_pos rfl] at H; exact H
                        clear H
                        have H := H1
                        clear H1
                        obtain rfl := Option.some.inj H
                        go_wp2
                        go_ret
                        exact ⟨by first | rfl | (simp [errW_none, errW_some] <;> rfl) | (simp [*, errW_none, errW_some] <;> rfl), by repeat (first | (with_reducible first | exact HB.out | apply below_alloc | apply pw_below_drewN | apply below_drew1) | exact HB.out)⟩
                      · replace c28 := Bool.eq_false_iff.mpr c28
                        subst c28
                        have H1 : (laws_FnOwnPowers.l0 kj18 l1 t294 t295 t296 t296 (t296.length : Int) 0) = some r := by rw [if_neg (show ¬ (false = true) by decide)] at H; exact H
                        clear H
                        have H := H1
                        clear H1
                        have H' := Aside0.mk H
                        clear H
                        obtain ⟨Ao29, co29, eo29⟩ := Kd.R_slice HO_7.out
                        subst eo29
                        go_wp2
                        go_loopg [82] kj18 (fun kq v82 w' => ∃ (x82_3 : Int), v82 = .int .i64 x82_3 ∧ Aside0 (laws_FnOwnPowers.l0 kq l1 t294 t295 t296 t296 (t296.length : Int) x82_3 = some r) ∧ Aside0 (kq ≤ kj18) ∧ Aside0 (Kd.R (Kd.int .i64) 3 w' w.heap.size (fun _ => True) (.slice Ao29 t296.length co29) t296) ∧ Aside0 (Kd.R (Kd.int .i64) 3 w' w.heap.size (fun _ => True) (.slice Ao29 t296.length co29) t296) ∧ Aside0 (Below w.heap.size w w'))
                        case atStart => exact ⟨(0), (by first | rfl | (simp; done) | (simp [*]; done)), H', ⟨Nat.le_refl _⟩, ⟨by (with_reducible repeat (first | apply Kd.R_alloc | apply Kd.R_drewN | apply Kd.R_drew)); exact HO_7.out⟩, ⟨by (with_reducible repeat (first | apply Kd.R_alloc | apply Kd.R_drewN | apply Kd.R_drew)); exact HO_7.out⟩, ⟨by repeat (first | (with_reducible first | exact HB.out | apply below_alloc | apply pw_below_drewN | apply below_drew1) | exact HB.out)⟩⟩
                        case round =>
                          clear H'
                          try clear c1
                          try clear c2
                          try clear p2
                          try clear c3
                          try clear c4
                          try clear c7
                          try clear c12
                          try clear c12b0
                          try clear c12b1
                          try clear c12b2
                          try clear c13
                          try clear c14
                          try clear c16
                          try clear c18
                          try clear c20
                          try clear c21
                          try clear c23
                          try clear c24
                          try clear c28
                          try clear p2
                          obtain ⟨x82_3, rfl, HA, HK3, HO_7, HO_80, HB⟩ := hrel
                          cases gk with
                          | zero => exact absurd HA.out (by simp [laws_FnOwnPowers.l0])
                          | succ k3 =>
                            have H := HA.out
                            clear HA
                            simp only [laws_FnOwnPowers.l0] at H
                            by_cases c30 : x82_3 < (t296.length : Int)
                            · rw [if_pos c30] at H
                              have c30b0 : decide (x82_3 < (t296.length : Int)) = true := decide_eq_true c30
                              clear c30
                              by_cases c31 : 0 ≤ x82_3
                              · rw [if_pos c31] at H
                                have c31b0 : decide (0 ≤ x82_3) = true := decide_eq_true c31
                                clear c31
                                by_cases c32 : x82_3 < (t296.length : Int)
                                · rw [if_pos c32] at H
                                  have c32b0 : decide (x82_3 < (t296.length : Int)) = true := decide_eq_true c32
                                  clear c32
                                  replace H := Option.bind_eq_some_iff.mp H
                                  obtain ⟨⟨t309, t310⟩, A330, H⟩ := H
                                  replace H : (if t310 = true then (if t309 = (rd t296 x82_3) then (laws_FnOwnPowers.l0 k3 l1 t294 t295 t296 t296 (t296.length : Int) (wrap64 (x82_3 + 1))) else (some false)) else (some false)) = some r := H
                                  have A33 := Aside0.mk A330
                                  clear A330
                                  by_cases c34 : t310 = true
                                  · subst c34
                                    have H1 : (if t309 = (rd t296 x82_3) then (laws_FnOwnPowers.l0 k3 l1 t294 t295 t296 t296 (t296.length : Int) (wrap64 (x82_3 + 1))) else (some false)) = some r := by rw [if_pos rfl] at H; exact H
                                    clear H
                                    have H := H1
                                    clear H1
                                    by_cases c35 : t309 = (rd t296 x82_3)
                                    · rw [if_pos c35] at H
                                      have c35b0 : (t309 == (rd t296 x82_3)) = true := beq_iff_eq.mpr c35
                                      have c35b1 : (t309 != (rd t296 x82_3)) = false := bne_eq_false_iff_eq.mpr c35
                                      clear c35
                                      have H' := Aside0.mk H
                                      clear H
                                      have p308 : 0 ≤ (x82_3 : Int) := of_decide_eq_true (by first | (with_reducible assumption) | assumption)
                                      have q308 : x82_3 < (t296.length : Int) := of_decide_eq_true (by first | (with_reducible assumption) | assumption)
                                      obtain ⟨ad308, e308, hx308_0⟩ := Kd.at_int (Kd.R_reads' HO_80.out).2.2 x82_3 p308 q308
                                      cases e308
                                      replace p308 := eq_true p308
                                      replace q308 := eq_true q308
                                      go_wp2_with (first | ((with_reducible refine gate_callee (f := 23) rfl ?_); refine goesL_ (some 90) rfl rfl Try.func23 (by kernel_rfl) rfl #[.int .i64 (rd t296 x82_3), .int .i64 t294, .int .i64 t295] rfl (by (try simp only [List.map_toArray, List.map_cons, List.map_nil]); first | done | rfl | (simp only [List.length_drop, List.length_take]; rfl)) ?_; (with_reducible refine (impl_PowerSum.calls k3 (rd t296 x82_3) t294 t295 t309 true _ A33.out).mono ?_); rintro e w36 ⟨rfl, hb⟩; refine ⟨_, rfl, ?_⟩; have n0_ := Aside0.mk (Kd.R_below (by (with_reducible repeat (first | apply Kd.R_alloc | apply Kd.R_drewN | apply Kd.R_drew)); exact HO_7.out) hb); have n1_ := Aside0.mk (Kd.R_below (by (with_reducible repeat (first | apply Kd.R_alloc | apply Kd.R_drewN | apply Kd.R_drew)); exact HO_80.out) hb); have n2_ := Aside0.mk (below_step (by repeat (first | (with_reducible first | exact HB.out | apply below_alloc | apply pw_below_drewN | apply below_drew1) | exact HB.out)) hb); clear HO_7; clear HO_80; clear HB; have HO_7 := n0_; have HO_80 := n1_; have HB := n2_; clear n0_ n1_ n2_; (try clear hb); (try clear hb2); (try clear hk); (try clear hi)))
                                      go_roundg k3
                                      case measure => have := HJ7.out; have := HJ18.out; have := HK3.out; omega
                                      case rel => exact ⟨(wrap64 (x82_3 + 1)), (by first | rfl | (simp; done) | (simp [*]; done)), H', ⟨by have := HJ7.out; have := HJ18.out; have := HK3.out; omega⟩, ⟨by (with_reducible repeat (first | apply Kd.R_alloc | apply Kd.R_drewN | apply Kd.R_drew)); exact HO_7.out⟩, ⟨by (with_reducible repeat (first | apply Kd.R_alloc | apply Kd.R_drewN | apply Kd.R_drew)); exact HO_80.out⟩, ⟨by repeat (first | (with_reducible first | exact HB.out | apply below_alloc | apply pw_below_drewN | apply below_drew1) | exact HB.out)⟩⟩
                                    · rw [if_neg c35] at H
                                      have c35b0 : (t309 == (rd t296 x82_3)) = false := beq_eq_false_iff_ne.mpr c35
                                      have c35b1 : (t309 != (rd t296 x82_3)) = true := bne_iff_ne.mpr c35
                                      obtain rfl := Option.some.inj H
                                      have p308 : 0 ≤ (x82_3 : Int) := of_decide_eq_true (by first | (with_reducible assumption) | assumption)
                                      have q308 : x82_3 < (t296.length : Int) := of_decide_eq_true (by first | (with_reducible assumption) | assumption)
                                      obtain ⟨ad308, e308, hx308_0⟩ := Kd.at_int (Kd.R_reads' HO_80.out).2.2 x82_3 p308 q308
                                      cases e308
                                      replace p308 := eq_true p308
                                      replace q308 := eq_true q308
                                      go_wp2_with (first | ((with_reducible refine gate_callee (f := 23) rfl ?_); refine goesL_ (some 90) rfl rfl Try.func23 (by kernel_rfl) rfl #[.int .i64 (rd t296 x82_3), .int .i64 t294, .int .i64 t295] rfl (by (try simp only [List.map_toArray, List.map_cons, List.map_nil]); first | done | rfl | (simp only [List.length_drop, List.length_take]; rfl)) ?_; (with_reducible refine (impl_PowerSum.calls k3 (rd t296 x82_3) t294 t295 t309 true _ A33.out).mono ?_); rintro e w37 ⟨rfl, hb⟩; refine ⟨_, rfl, ?_⟩; have n0_ := Aside0.mk (Kd.R_below (by (with_reducible repeat (first | apply Kd.R_alloc | apply Kd.R_drewN | apply Kd.R_drew)); exact HO_7.out) hb); have n1_ := Aside0.mk (Kd.R_below (by (with_reducible repeat (first | apply Kd.R_alloc | apply Kd.R_drewN | apply Kd.R_drew)); exact HO_80.out) hb); have n2_ := Aside0.mk (below_step (by repeat (first | (with_reducible first | exact HB.out | apply below_alloc | apply pw_below_drewN | apply below_drew1) | exact HB.out)) hb); clear HO_7; clear HO_80; clear HB; have HO_7 := n0_; have HO_80 := n1_; have HB := n2_; clear n0_ n1_ n2_; (try clear hb); (try clear hb2); (try clear hk); (try clear hi)))
                                      go_ret
                                      exact ⟨by first | rfl | (simp [errW_none, errW_some] <;> rfl) | (simp [*, errW_none, errW_some] <;> rfl), by repeat (first | (with_reducible first | exact HB.out | apply below_alloc | apply pw_below_drewN | apply below_drew1) | exact HB.out)⟩
                                  · replace c34 := Bool.eq_false_iff.mpr c34
                                    subst c34
                                    have H1 : (some false) = some r := by rw [if_neg (show ¬ (false = true) by decide)] at H; exact H
                                    clear H
                                    have H := H1
                                    clear H1
                                    obtain rfl := Option.some.inj H
                                    have p308 : 0 ≤ (x82_3 : Int) := of_decide_eq_true (by first | (with_reducible assumption) | assumption)
                                    have q308 : x82_3 < (t296.length : Int) := of_decide_eq_true (by first | (with_reducible assumption) | assumption)
                                    obtain ⟨ad308, e308, hx308_0⟩ := Kd.at_int (Kd.R_reads' HO_80.out).2.2 x82_3 p308 q308
                                    cases e308
                                    replace p308 := eq_true p308
                                    replace q308 := eq_true q308
                                    go_wp2_with (first | ((with_reducible refine gate_callee (f := 23) rfl ?_); refine goesL_ (some 90) rfl rfl Try.func23 (by kernel_rfl) rfl #[.int .i64 (rd t296 x82_3), .int .i64 t294, .int .i64 t295] rfl (by (try simp only [List.map_toArray, List.map_cons, List.map_nil]); first | done | rfl | (simp only [List.length_drop, List.length_take]; rfl)) ?_; (with_reducible refine (impl_PowerSum.calls k3 (rd t296 x82_3) t294 t295 t309 false _ A33.out).mono ?_); rintro e w38 ⟨rfl, hb⟩; refine ⟨_, rfl, ?_⟩; have n0_ := Aside0.mk (Kd.R_below (by (with_reducible repeat (first | apply Kd.R_alloc | apply Kd.R_drewN | apply Kd.R_drew)); exact HO_7.out) hb); have n1_ := Aside0.mk (Kd.R_below (by (with_reducible repeat (first | apply Kd.R_alloc | apply Kd.R_drewN | apply Kd.R_drew)); exact HO_80.out) hb); have n2_ := Aside0.mk (below_step (by repeat (first | (with_reducible first | exact HB.out | apply below_alloc | apply pw_below_drewN | apply below_drew1) | exact HB.out)) hb); clear HO_7; clear HO_80; clear HB; have HO_7 := n0_; have HO_80 := n1_; have HB := n2_; clear n0_ n1_ n2_; (try clear hb); (try clear hb2); (try clear hk); (try clear hi)))
                                    go_ret
                                    exact ⟨by first | rfl | (simp [errW_none, errW_some] <;> rfl) | (simp [*, errW_none, errW_some] <;> rfl), by repeat (first | (with_reducible first | exact HB.out | apply below_alloc | apply pw_below_drewN | apply below_drew1) | exact HB.out)⟩
                                · rw [if_neg c32] at H
                                  exact absurd H (by simp)
                              · rw [if_neg c31] at H
                                exact absurd H (by simp)
                            · rw [if_neg c30] at H
                              have c30b0 : decide (x82_3 < (t296.length : Int)) = false := decide_eq_false c30
                              clear c30
                              have H' := Aside0.mk H
                              clear H
                              go_wp2
                              go_loopg [15] k3 (fun kq v15 w' => ∃ (x15_4 : Int), v15 = .int .i64 x15_4 ∧ Aside0 (laws_FnOwnPowers.l1 kq l1 t294 t295 t296 x15_4 = some r) ∧ Aside0 (kq ≤ k3) ∧ Aside0 (Kd.R (Kd.int .i64) 3 w' w.heap.size (fun _ => True) (.slice Ao29 t296.length co29) t296) ∧ Aside0 (Below w.heap.size w w'))
                              case atStart => exact ⟨(0), (by first | rfl | (simp; done) | (simp [*]; done)), H', ⟨Nat.le_refl _⟩, ⟨by (with_reducible repeat (first | apply Kd.R_alloc | apply Kd.R_drewN | apply Kd.R_drew)); exact HO_7.out⟩, ⟨by repeat (first | (with_reducible first | exact HB.out | apply below_alloc | apply pw_below_drewN | apply below_drew1) | exact HB.out)⟩⟩
                              case round =>
                                as_aux_lemma =>
                                  clear H'
                                  try clear c1
                                  try clear c2
                                  try clear p2
                                  try clear c3
                                  try clear p3
                                  try clear q3
                                  try clear hx3
                                  try clear c4
                                  try clear p6
                                  try clear c7
                                  try clear c12
                                  try clear c12b0
                                  try clear c12b1
                                  try clear c12b2
                                  try clear c13
                                  try clear c14
                                  try clear c16
                                  try clear c18
                                  try clear c20
                                  try clear c21
                                  try clear c23
                                  try clear c24
                                  try clear c28
                                  try clear c30
                                  try clear c30b0
                                  try clear p30
                                  try clear q30
                                  try clear hx30
                                  try clear c31
                                  try clear c31b0
                                  try clear c32
                                  try clear c32b0
                                  try clear c34
                                  try clear c35
                                  try clear c35b0
                                  try clear c35b1
                                  try clear hx308_0
                                  try clear p2
                                  try clear p308
                                  try clear q308
                                  obtain ⟨x15_4, rfl, HA, HK4, HO_7, HB⟩ := hrel
                                  cases gk with
                                  | zero => exact absurd HA.out (by simp [laws_FnOwnPowers.l1])
                                  | succ k4 =>
                                    have H := HA.out
                                    clear HA
                                    simp only [laws_FnOwnPowers.l1] at H
                                    by_cases c39 : x15_4 < 600
                                    · rw [if_pos c39] at H
                                      have c39b0 : decide (x15_4 < 600) = true := decide_eq_true c39
                                      clear c39
                                      replace H := Option.bind_eq_some_iff.mp H
                                      obtain ⟨⟨t311, t312⟩, A400, H⟩ := H
                                      replace H : (if t312 = true then ((laws_rHas.f k4 t296 x15_4).bind fun t313 => (if ((t311 == x15_4) != t313) = true then (some false) else (laws_FnOwnPowers.l1 k4 l1 t294 t295 t296 (wrap64 (x15_4 + 1))))) else (some false)) = some r := H
                                      have A40 := Aside0.mk A400
                                      clear A400
                                      by_cases c41 : t312 = true
                                      · subst c41
                                        have H1 : ((laws_rHas.f k4 t296 x15_4).bind fun t313 => (if ((t311 == x15_4) != t313) = true then (some false) else (laws_FnOwnPowers.l1 k4 l1 t294 t295 t296 (wrap64 (x15_4 + 1))))) = some r := by rw [if_pos rfl] at H; exact H
                                        clear H
                                        have H := H1
                                        clear H1
                                        replace H := Option.bind_eq_some_iff.mp H
                                        obtain ⟨t313, A420, H⟩ := H
                                        replace H : (if ((t311 == x15_4) != t313) = true then (some false) else (laws_FnOwnPowers.l1 k4 l1 t294 t295 t296 (wrap64 (x15_4 + 1)))) = some r := H
                                        have A42 := Aside0.mk A420
                                        clear A420
                                        by_cases c43 : ((t311 == x15_4) != t313) = true
                                        · rw [if_pos c43] at H
                                          have c43b0 : ((t311 == x15_4) != t313) = true := c43
                                          (try (have c43b1 : decide ((t311 == x15_4) = t313) = false := by simpa using c43))
                                          (try (have c43b2 : ((t311 == x15_4) == t313) = false := by simpa using c43))
                                          (try (have c43b3 : ¬ ((t311 == x15_4) = t313) := by simpa using c43))
                                          clear c43
                                          obtain rfl := Option.some.inj H
                                          go_wp2_with (first | ((with_reducible refine gate_callee (f := 23) rfl ?_); refine goesL_ (some 109) rfl rfl Try.func23 (by kernel_rfl) rfl #[.int .i64 x15_4, .int .i64 t294, .int .i64 t295] rfl (by (try simp only [List.map_toArray, List.map_cons, List.map_nil]); first | done | rfl | (simp only [List.length_drop, List.length_take]; rfl)) ?_; (with_reducible refine (impl_PowerSum.calls k4 x15_4 t294 t295 t311 true _ A40.out).mono ?_); rintro e w44 ⟨rfl, hb⟩; refine ⟨_, rfl, ?_⟩; have n0_ := Aside0.mk (Kd.R_below (by (with_reducible repeat (first | apply Kd.R_alloc | apply Kd.R_drewN | apply Kd.R_drew)); exact HO_7.out) hb); have n1_ := Aside0.mk (below_step (by repeat (first | (with_reducible first | exact HB.out | apply below_alloc | apply pw_below_drewN | apply below_drew1) | exact HB.out)) hb); clear HO_7; clear HB; have HO_7 := n0_; have HB := n1_; clear n0_ n1_; (try clear hb); (try clear hb2); (try clear hk); (try clear hi)) | (go_at_call 25; (with_reducible refine (laws_rHas.calls k4 _ _ t296 x15_4 t313 _ ?side1 ?side2 A42.out).mono ?_); (case side1 => repeat (first | exact (Kd.R_reads' HO_7.out).2.2 | (with_reducible refine Kd.C_alloc ?_ _) | (with_reducible refine Kd.C_drewN ?_ _) | (with_reducible refine Kd.C_drew ?_))); (case side2 => exact (Kd.R_reads' HO_7.out).2.1); rintro e w' ⟨rfl, ⟨nd, rfl⟩⟩))
                                          go_ret
                                          exact ⟨by first | rfl | (simp [errW_none, errW_some] <;> rfl) | (simp [*, errW_none, errW_some] <;> rfl), by repeat (first | (with_reducible first | exact HB.out | apply below_alloc | apply pw_below_drewN | apply below_drew1) | exact HB.out)⟩
                                        · rw [if_neg c43] at H
                                          have c43b0 : ((t311 == x15_4) != t313) = false := by simpa using c43
                                          (try (have c43b1 : decide ((t311 == x15_4) = t313) = true := by simpa using c43))
                                          (try (have c43b2 : ((t311 == x15_4) == t313) = true := by simpa using c43))
                                          clear c43
                                          have H' := Aside0.mk H
                                          clear H
                                          go_wp2_with (first | ((with_reducible refine gate_callee (f := 23) rfl ?_); refine goesL_ (some 109) rfl rfl Try.func23 (by kernel_rfl) rfl #[.int .i64 x15_4, .int .i64 t294, .int .i64 t295] rfl (by (try simp only [List.map_toArray, List.map_cons, List.map_nil]); first | done | rfl | (simp only [List.length_drop, List.length_take]; rfl)) ?_; (with_reducible refine (impl_PowerSum.calls k4 x15_4 t294 t295 t311 true _ A40.out).mono ?_); rintro e w45 ⟨rfl, hb⟩; refine ⟨_, rfl, ?_⟩; have n0_ := Aside0.mk (Kd.R_below (by (with_reducible repeat (first | apply Kd.R_alloc | apply Kd.R_drewN | apply Kd.R_drew)); exact HO_7.out) hb); have n1_ := Aside0.mk (below_step (by repeat (first | (with_reducible first | exact HB.out | apply below_alloc | apply pw_below_drewN | apply below_drew1) | exact HB.out)) hb); clear HO_7; clear HB; have HO_7 := n0_; have HB := n1_; clear n0_ n1_; (try clear hb); (try clear hb2); (try clear hk); (try clear hi)) | (go_at_call 25; (with_reducible refine (laws_rHas.calls k4 _ _ t296 x15_4 t313 _ ?side1 ?side2 A42.out).mono ?_); (case side1 => repeat (first | exact (Kd.R_reads' HO_7.out).2.2 | (with_reducible refine Kd.C_alloc ?_ _) | (with_reducible refine Kd.C_drewN ?_ _) | (with_reducible refine Kd.C_drew ?_))); (case side2 => exact (Kd.R_reads' HO_7.out).2.1); rintro e w' ⟨rfl, ⟨nd, rfl⟩⟩))
                                          go_roundg k4
                                          case measure => have := HJ7.out; have := HJ18.out; have := HK3.out; have := HK4.out; omega
                                          case rel => exact ⟨(wrap64 (x15_4 + 1)), (by first | rfl | (simp; done) | (simp [*]; done)), H', ⟨by have := HJ7.out; have := HJ18.out; have := HK3.out; have := HK4.out; omega⟩, ⟨by (with_reducible repeat (first | apply Kd.R_alloc | apply Kd.R_drewN | apply Kd.R_drew)); exact HO_7.out⟩, ⟨by repeat (first | (with_reducible first | exact HB.out | apply below_alloc | apply pw_below_drewN | apply below_drew1) | exact HB.out)⟩⟩
                                      · replace c41 := Bool.eq_false_iff.mpr c41
                                        subst c41
                                        have H1 : (some false) = some r := by rw [if_neg (show ¬ (false = true) by decide)] at H; exact H
                                        clear H
                                        have H := H1
                                        clear H1
                                        obtain rfl := Option.some.inj H
                                        go_wp2_with (first | ((with_reducible refine gate_callee (f := 23) rfl ?_); refine goesL_ (some 109) rfl rfl Try.func23 (by kernel_rfl) rfl #[.int .i64 x15_4, .int .i64 t294, .int .i64 t295] rfl (by (try simp only [List.map_toArray, List.map_cons, List.map_nil]); first | done | rfl | (simp only [List.length_drop, List.length_take]; rfl)) ?_; (with_reducible refine (impl_PowerSum.calls k4 x15_4 t294 t295 t311 false _ A40.out).mono ?_); rintro e w46 ⟨rfl, hb⟩; refine ⟨_, rfl, ?_⟩; have n0_ := Aside0.mk (Kd.R_below (by (with_reducible repeat (first | apply Kd.R_alloc | apply Kd.R_drewN | apply Kd.R_drew)); exact HO_7.out) hb); have n1_ := Aside0.mk (below_step (by repeat (first | (with_reducible first | exact HB.out | apply below_alloc | apply pw_below_drewN | apply below_drew1) | exact HB.out)) hb); clear HO_7; clear HB; have HO_7 := n0_; have HB := n1_; clear n0_ n1_; (try clear hb); (try clear hb2); (try clear hk); (try clear hi)))
                                        go_ret
                                        exact ⟨by first | rfl | (simp [errW_none, errW_some] <;> rfl) | (simp [*, errW_none, errW_some] <;> rfl), by repeat (first | (with_reducible first | exact HB.out | apply below_alloc | apply pw_below_drewN | apply below_drew1) | exact HB.out)⟩
                                    · rw [if_neg c39] at H
                                      have c39b0 : decide (x15_4 < 600) = false := decide_eq_false c39
                                      clear c39
                                      by_cases c47 : t295 ≤ 4
                                      · rw [if_pos c47] at H
                                        have c47b0 : decide (t295 ≤ 4) = true := decide_eq_true c47
                                        clear c47
                                        replace H := Option.bind_eq_some_iff.mp H
                                        obtain ⟨⟨t314, t315⟩, A480, H⟩ := H
                                        replace H : (laws_FnOwnPowers.l2 k4 l1 t296 t315 0 t314 (t314.length : Int) 0) = some r := H
                                        have A48 := Aside0.mk A480
                                        clear A480
                                        have H' := Aside0.mk H
                                        clear H
                                        go_wp2_with (first | ((with_reducible refine gate_callee (f := 16) rfl ?_); refine goesL_ (some 128) rfl rfl Try.func16 (by kernel_rfl) rfl #[.int .i64 t294, .int .i64 t295] rfl (by (try simp only [List.map_toArray, List.map_cons, List.map_nil]); first | done | rfl | (simp only [List.length_drop, List.length_take]; rfl)) ?_; (with_reducible refine (impl_CyclesOfPowers.calls k4 t294 t295 t314 t315 _ A48.out).mono ?_); rintro e w49 ⟨v316, rfl, ho0, hb⟩; refine ⟨_, rfl, ?_⟩; have n0_ := Aside0.mk (Kd.R_below (by (with_reducible repeat (first | apply Kd.R_alloc | apply Kd.R_drewN | apply Kd.R_drew)); exact HO_7.out) hb); have n1_ := Aside0.mk (Kd.S_lower (Kd.S_new' ho0 (Kd.R_lt (by (with_reducible repeat (first | apply Kd.R_alloc | apply Kd.R_drewN | apply Kd.R_drew)); exact HO_7.out))) (below_size (by repeat (first | (with_reducible first | exact HB.out | apply below_alloc | apply pw_below_drewN | apply below_drew1) | exact HB.out)))); have n2_ := Aside0.mk (below_step (by repeat (first | (with_reducible first | exact HB.out | apply below_alloc | apply pw_below_drewN | apply below_drew1) | exact HB.out)) hb); clear HO_7; clear HB; have HO_7 := n0_; have HO317 := n1_; have HB := n2_; clear n0_ n1_ n2_; (try clear hb); (try clear hb2); (try clear hk); (try clear hi); (try clear ho0); obtain ⟨Ao50, co50, eo50⟩ := Kd.S_slice HO317.out; subst eo50))
                                        go_loopg [20, 133] k4 (fun kq v20 v133 w' => ∃ (x20_5 : Int) (x133_5 : Int), v20 = .int .i64 x20_5 ∧ v133 = .int .i64 x133_5 ∧ Aside0 (laws_FnOwnPowers.l2 kq l1 t296 t315 x20_5 t314 (t314.length : Int) x133_5 = some r) ∧ Aside0 (kq ≤ k4) ∧ Aside0 (Kd.R (Kd.int .i64) 3 w' w.heap.size (fun _ => True) (.slice Ao29 t296.length co29) t296) ∧ Aside0 (Kd.S (Kd.slice 3 (Kd.int .i64)) 22 w' w.heap.size (fun k_ => some k_ ≠ ((.slice Ao29 t296.length co29) : Value).ownBlock) (.slice Ao50 t314.length co50) t314) ∧ Aside0 (Below w.heap.size w w'))
                                        case atStart => exact ⟨(0), (0), (by first | rfl | (simp; done) | (simp [*]; done)), (by first | rfl | (simp; done) | (simp [*]; done)), H', ⟨Nat.le_refl _⟩, ⟨by (with_reducible repeat (first | apply Kd.R_alloc | apply Kd.R_drewN | apply Kd.R_drew)); exact HO_7.out⟩, ⟨by (with_reducible repeat (first | apply Kd.S_alloc | apply Kd.S_drewN | apply Kd.S_drew)); exact Kd.S_mono HO317.out (fun _ hk => by first | exact hk.2 | exact hk)⟩, ⟨by repeat (first | (with_reducible first | exact HB.out | apply below_alloc | apply pw_below_drewN | apply below_drew1) | exact HB.out)⟩⟩
                                        case round =>
                                          clear H'
                                          try clear c1
                                          try clear c2
                                          try clear p2
                                          try clear c3
                                          try clear p3
                                          try clear q3
                                          try clear hx3
                                          try clear c4
                                          try clear p6
                                          try clear c7
                                          try clear c12
                                          try clear c12b0
                                          try clear c12b1
                                          try clear c12b2
                                          try clear c13
                                          try clear c14
                                          try clear c16
                                          try clear c18
                                          try clear c20
                                          try clear c21
                                          try clear c23
                                          try clear c24
                                          try clear c28
                                          try clear c30
                                          try clear c30b0
                                          try clear p30
                                          try clear q30
                                          try clear hx30
                                          try clear c31
                                          try clear c31b0
                                          try clear c32
                                          try clear c32b0
                                          try clear c34
                                          try clear c35
                                          try clear c35b0
                                          try clear c35b1
                                          try clear c39
                                          try clear c39b0
                                          try clear c41
                                          try clear c43
                                          try clear c43b0
                                          try clear c43b1
                                          try clear c43b2
                                          try clear c47
                                          try clear c47b0
                                          try clear hx308_0
                                          try clear p2
                                          try clear p3
                                          try clear p30
                                          try clear p308
                                          try clear p6
                                          try clear q3
                                          try clear q30
                                          try clear q308
                                          obtain ⟨x20_5, x133_5, rfl, rfl, HA, HK5, HO_7, HO_131, HB⟩ := hrel
                                          cases gk with
                                          | zero => exact absurd HA.out (by simp [laws_FnOwnPowers.l2])
                                          | succ k5 =>
                                            have H := HA.out
                                            clear HA
                                            simp only [laws_FnOwnPowers.l2] at H
                                            by_cases c51 : x133_5 < (t314.length : Int)
                                            · rw [if_pos c51] at H
                                              have c51b0 : decide (x133_5 < (t314.length : Int)) = true := decide_eq_true c51
                                              clear c51
                                              by_cases c52 : 0 ≤ x133_5
                                              · rw [if_pos c52] at H
                                                have c52b0 : decide (0 ≤ x133_5) = true := decide_eq_true c52
                                                clear c52
                                                by_cases c53 : x133_5 < (t314.length : Int)
                                                · rw [if_pos c53] at H
                                                  have c53b0 : decide (x133_5 < (t314.length : Int)) = true := decide_eq_true c53
                                                  clear c53
                                                  by_cases c54 : ((rd_L1 t314 x133_5).length : Int) = 1
                                                  · rw [if_pos c54] at H
                                                    have c54b0 : (((rd_L1 t314 x133_5).length : Int) == 1) = true := beq_iff_eq.mpr c54
                                                    have c54b1 : (((rd_L1 t314 x133_5).length : Int) != 1) = false := bne_eq_false_iff_eq.mpr c54
                                                    clear c54
                                                    have H' := Aside0.mk H
                                                    clear H
                                                    have p318 : 0 ≤ (x133_5 : Int) := of_decide_eq_true (by first | (with_reducible assumption) | assumption)
                                                    have q318 : x133_5 < (t314.length : Int) := of_decide_eq_true (by first | (with_reducible assumption) | assumption)
                                                    obtain ⟨ad318, A318_0, c318_0, e318, hx318_0, hl318_0, hi318_0⟩ := at_L1 (Kd.S_reads' HO_131.out).2.2 x133_5 p318 q318
                                                    cases e318
                                                    obtain ⟨ce318, hce318, hMe318, hcc318⟩ := Kd.S_get HO_131.out [] x133_5 p318 (by first | exact q318 | exact of_decide_eq_true (by first | (with_reducible assumption) | assumption) | (have e_ := (Kd.S_reads' HO_131.out).1; omega))
                                                    obtain ⟨ve318_0, rfl, ge318_0⟩ := hMe318
                                                    have hv318_0 := hcc318 0 _ rfl
                                                    rw [Nat.add_zero, show ((Kd.slice 3 (Kd.int .i64))).sz = 1 from rfl, Nat.mul_one] at hv318_0
                                                    replace hv318_0 := Option.some.inj (hv318_0.symm.trans hx318_0)
                                                    rw [hv318_0] at ge318_0
                                                    have HL318_0 := Aside0.mk (show Kd.R (Kd.int .i64) 3 _ _ _ _ (rd_L1 t314 x133_5) from ge318_0)
                                                    clear hv318_0 ge318_0
                                                    clear hcc318 hce318
                                                    have HR318_0 := Aside0.mk hi318_0
                                                    have HC318_0 := Aside0.mk hl318_0
                                                    clear hi318_0 hl318_0
                                                    replace p318 := eq_true p318
                                                    replace q318 := eq_true q318
                                                    go_wp2
                                                    go_roundg k5
                                                    case measure => have := HJ7.out; have := HJ18.out; have := HK3.out; have := HK4.out; have := HK5.out; omega
                                                    case rel => exact ⟨(wrap64 (x20_5 + 1)), (wrap64 (x133_5 + 1)), (by first | rfl | (simp; done) | (simp [*]; done)), (by first | rfl | (simp; done) | (simp [*]; done)), H', ⟨by have := HJ7.out; have := HJ18.out; have := HK3.out; have := HK4.out; have := HK5.out; omega⟩, ⟨by (with_reducible repeat (first | apply Kd.R_alloc | apply Kd.R_drewN | apply Kd.R_drew)); exact HO_7.out⟩, ⟨by (with_reducible repeat (first | apply Kd.S_alloc | apply Kd.S_drewN | apply Kd.S_drew)); exact HO_131.out⟩, ⟨by repeat (first | (with_reducible first | exact HB.out | apply below_alloc | apply pw_below_drewN | apply below_drew1) | exact HB.out)⟩⟩
                                                  · rw [if_neg c54] at H
                                                    have c54b0 : (((rd_L1 t314 x133_5).length : Int) == 1) = false := beq_eq_false_iff_ne.mpr c54
                                                    have c54b1 : (((rd_L1 t314 x133_5).length : Int) != 1) = true := bne_iff_ne.mpr c54
                                                    have H' := Aside0.mk H
                                                    clear H
                                                    have p318 : 0 ≤ (x133_5 : Int) := of_decide_eq_true (by first | (with_reducible assumption) | assumption)
                                                    have q318 : x133_5 < (t314.length : Int) := of_decide_eq_true (by first | (with_reducible assumption) | assumption)
                                                    obtain ⟨ad318, A318_0, c318_0, e318, hx318_0, hl318_0, hi318_0⟩ := at_L1 (Kd.S_reads' HO_131.out).2.2 x133_5 p318 q318
                                                    cases e318
                                                    obtain ⟨ce318, hce318, hMe318, hcc318⟩ := Kd.S_get HO_131.out [] x133_5 p318 (by first | exact q318 | exact of_decide_eq_true (by first | (with_reducible assumption) | assumption) | (have e_ := (Kd.S_reads' HO_131.out).1; omega))
                                                    obtain ⟨ve318_0, rfl, ge318_0⟩ := hMe318
                                                    have hv318_0 := hcc318 0 _ rfl
                                                    rw [Nat.add_zero, show ((Kd.slice 3 (Kd.int .i64))).sz = 1 from rfl, Nat.mul_one] at hv318_0
                                                    replace hv318_0 := Option.some.inj (hv318_0.symm.trans hx318_0)
                                                    rw [hv318_0] at ge318_0
                                                    have HL318_0 := Aside0.mk (show Kd.R (Kd.int .i64) 3 _ _ _ _ (rd_L1 t314 x133_5) from ge318_0)
                                                    clear hv318_0 ge318_0
                                                    clear hcc318 hce318
                                                    have HR318_0 := Aside0.mk hi318_0
                                                    have HC318_0 := Aside0.mk hl318_0
                                                    clear hi318_0 hl318_0
                                                    replace p318 := eq_true p318
                                                    replace q318 := eq_true q318
                                                    go_wp2
                                                    go_roundg k5
                                                    case measure => have := HJ7.out; have := HJ18.out; have := HK3.out; have := HK4.out; have := HK5.out; omega
                                                    case rel => exact ⟨(x20_5), (wrap64 (x133_5 + 1)), (by first | rfl | (simp; done) | (simp [*]; done)), (by first | rfl | (simp; done) | (simp [*]; done)), H', ⟨by have := HJ7.out; have := HJ18.out; have := HK3.out; have := HK4.out; have := HK5.out; omega⟩, ⟨by (with_reducible repeat (first | apply Kd.R_alloc | apply Kd.R_drewN | apply Kd.R_drew)); exact HO_7.out⟩, ⟨by (with_reducible repeat (first | apply Kd.S_alloc | apply Kd.S_drewN | apply Kd.S_drew)); exact HO_131.out⟩, ⟨by repeat (first | (with_reducible first | exact HB.out | apply below_alloc | apply pw_below_drewN | apply below_drew1) | exact HB.out)⟩⟩
                                                · rw [if_neg c53] at H
                                                  exact absurd H (by simp)
                                              · rw [if_neg c52] at H
                                                exact absurd H (by simp)
                                            · rw [if_neg c51] at H
                                              have c51b0 : decide (x133_5 < (t314.length : Int)) = false := decide_eq_false c51
                                              clear c51
                                              by_cases c55 : t315 = true
                                              · subst c55
                                                have H1 : (if x20_5 = (t296.length : Int) then (laws_FnOwnPowers.j5 k5 l1) else (some false)) = some r := by rw [if_pos rfl] at H; exact H
                                                clear H
                                                have H := H1
                                                clear H1
                                                by_cases c56 : x20_5 = (t296.length : Int)
                                                · rw [if_pos c56] at H
                                                  have c56b0 : (x20_5 == (t296.length : Int)) = true := beq_iff_eq.mpr c56
                                                  have c56b1 : (x20_5 != (t296.length : Int)) = false := bne_eq_false_iff_eq.mpr c56
                                                  clear c56
                                                  have H' := Aside0.mk H
                                                  clear H
                                                  go_wp2
                                                  go_meet
                                                  case rel => exact ⟨_, H', ⟨by have := HJ7.out; have := HJ18.out; have := HK3.out; have := HK4.out; have := HK5.out; first | omega | exact Nat.le_refl _⟩, ⟨by repeat (first | (with_reducible first | exact HB.out | apply below_alloc | apply pw_below_drewN | apply below_drew1) | exact HB.out)⟩⟩
                                                · rw [if_neg c56] at H
                                                  have c56b0 : (x20_5 == (t296.length : Int)) = false := beq_eq_false_iff_ne.mpr c56
                                                  have c56b1 : (x20_5 != (t296.length : Int)) = true := bne_iff_ne.mpr c56
                                                  obtain rfl := Option.some.inj H
                                                  go_wp2
                                                  go_ret
                                                  exact ⟨by first | rfl | (simp [errW_none, errW_some] <;> rfl) | (simp [*, errW_none, errW_some] <;> rfl), by repeat (first | (with_reducible first | exact HB.out | apply below_alloc | apply pw_below_drewN | apply below_drew1) | exact HB.out)⟩
                                              · replace c55 := Bool.eq_false_iff.mpr c55
                                                subst c55
                                                have H1 : (some false) = some r := by rw [if_neg (show ¬ (false = true) by decide)] at H; exact H
                                                clear H
                                                have H := H1
                                                clear H1
                                                obtain rfl := Option.some.inj H
                                                go_wp2
                                                go_ret
                                                exact ⟨by first | rfl | (simp [errW_none, errW_some] <;> rfl) | (simp [*, errW_none, errW_some] <;> rfl), by repeat (first | (with_reducible first | exact HB.out | apply below_alloc | apply pw_below_drewN | apply below_drew1) | exact HB.out)⟩
                                      · rw [if_neg c47] at H
                                        have c47b0 : decide (t295 ≤ 4) = false := decide_eq_false c47
                                        clear c47
                                        have H' := Aside0.mk H
                                        clear H
                                        go_wp2
                                        go_meet
                                        case rel => exact ⟨_, H', ⟨by have := HJ7.out; have := HJ18.out; have := HK3.out; have := HK4.out; first | omega | exact Nat.le_refl _⟩, ⟨by repeat (first | (with_reducible first | exact HB.out | apply below_alloc | apply pw_below_drewN | apply below_drew1) | exact HB.out)⟩⟩
              · replace c18 := Bool.eq_false_iff.mpr c18
                subst c18
                have H1 : (laws_FnOwnPowers.j5 kj7 l1) = some r := by rw [if_neg (show ¬ (false = true) by decide)] at H; exact H
                clear H
                have H := H1
                clear H1
                have H' := Aside0.mk H
                clear H
                go_wp2
                go_meet
                case rel => exact ⟨_, H', ⟨by have := HJ7.out; first | omega | exact Nat.le_refl _⟩, ⟨by repeat (first | (with_reducible first | exact HB.out | apply below_alloc | apply pw_below_drewN | apply below_drew1) | exact HB.out)⟩⟩
          case rest =>
            as_aux_lemma =>
              clear HC17
              try clear c1
              try clear c2
              try clear p2
              try clear c3
              try clear p3
              try clear q3
              try clear hx3
              try clear c4
              try clear c5
              try clear p6
              try clear c7
              try clear c12
              try clear c12b0
              try clear c12b1
              try clear c12b2
              try clear c13
              try clear c14
              try clear c16
              try clear c18
              try clear c20
              try clear c21
              try clear c23
              try clear c24
              try clear c28
              try clear c30
              try clear c30b0
              try clear p30
              try clear q30
              try clear hx30
              try clear c31
              try clear c31b0
              try clear p31
              try clear q31
              try clear hx31
              try clear c32
              try clear c32b0
              try clear c34
              try clear c35
              try clear c35b0
              try clear c35b1
              try clear c39
              try clear c39b0
              try clear c41
              try clear c43
              try clear c43b0
              try clear c43b1
              try clear c43b2
              try clear c47
              try clear c47b0
              try clear c51
              try clear c51b0
              try clear c52
              try clear c52b0
              try clear c53
              try clear c53b0
              try clear c54
              try clear c54b0
              try clear c54b1
              try clear c55
              try clear c56
              try clear c56b0
              try clear c56b1
              try clear hx308_0
              try clear hx318_0
              try clear p2
              try clear p3
              try clear p30
              try clear p308
              try clear p318
              try clear p6
              try clear q3
              try clear q30
              try clear q308
              try clear q318
              obtain ⟨kq, HA, HJ16, HB⟩ := hcut
              cases kq with
              | zero => exact absurd HA.out (by simp [laws_FnOwnPowers.j5])
              | succ kj16 =>
                have H := HA.out
                clear HA
                simp only [laws_FnOwnPowers.j5] at H
                replace H := Option.bind_eq_some_iff.mp H
                obtain ⟨⟨t319, t320⟩, A570, H⟩ := H
                replace H : ((impl_Narcissistic.f kj16 t319 t320).bind fun bt321 => ((spec_Narcissistic.f kj16 t319 t320).bind fun bt325 => (if (bt321.2 != bt325.2) = true then (laws_FnOwnPowers.j6 kj16 t319 t320 bt321.1 true) else ((laws_rSame.f kj16 bt321.1 bt325.1).bind fun t329 => (laws_FnOwnPowers.j6 kj16 t319 t320 bt321.1 (!t329)))))) = some r := H
                have A57 := Aside0.mk A570
                clear A570
                replace H := Option.bind_eq_some_iff.mp H
                obtain ⟨⟨t321, t322⟩, A580, H⟩ := H
                replace H : ((spec_Narcissistic.f kj16 t319 t320).bind fun bt325 => (if (t322 != bt325.2) = true then (laws_FnOwnPowers.j6 kj16 t319 t320 t321 true) else ((laws_rSame.f kj16 t321 bt325.1).bind fun t329 => (laws_FnOwnPowers.j6 kj16 t319 t320 t321 (!t329))))) = some r := H
                have A58 := Aside0.mk A580
                clear A580
                replace H := Option.bind_eq_some_iff.mp H
                obtain ⟨⟨t325, t326⟩, A590, H⟩ := H
                replace H : (if (t322 != t326) = true then (laws_FnOwnPowers.j6 kj16 t319 t320 t321 true) else ((laws_rSame.f kj16 t321 t325).bind fun t329 => (laws_FnOwnPowers.j6 kj16 t319 t320 t321 (!t329)))) = some r := H
                have A59 := Aside0.mk A590
                clear A590
                have HC60 := Aside0.mk H
                clear H
                go_upto_region 38 with (first | ((with_reducible refine gate_callee (f := 32) rfl ?_); refine goesL_ (some 153) rfl rfl Try.func32 (by kernel_rfl) rfl #[.slice A1 l1.length c1] rfl (by (try simp only [List.map_toArray, List.map_cons, List.map_nil]); first | done | rfl | (simp only [List.length_drop, List.length_take]; rfl)) ?_; (with_reducible refine (spec_DrawNarcissistic.calls _ _ l1 t319 t320 _ ?side1 ?side2 A57.out).mono ?_); (case side1 => repeat (first | exact (Kd.C_below HR1.out HB.out) | (with_reducible refine Kd.C_alloc ?_ _) | (with_reducible refine Kd.C_drewN ?_ _) | (with_reducible refine Kd.C_drew ?_))); (case side2 => exact HC1.out); rintro e w61 ⟨rfl, hb⟩; refine ⟨_, rfl, ?_⟩; have n0_ := Aside0.mk (below_step (by repeat (first | (with_reducible first | exact HB.out | apply below_alloc | apply pw_below_drewN | apply below_drew1) | exact HB.out)) hb); clear HB; have HB := n0_; clear n0_; (try clear hb); (try clear hb2); (try clear hk); (try clear hi)) | ((with_reducible refine gate_callee (f := 9) rfl ?_); refine goesL_ (some 159) rfl rfl Try.func9 (by kernel_rfl) rfl #[.int .i64 t319, .int .i64 t320] rfl (by (try simp only [List.map_toArray, List.map_cons, List.map_nil]); first | done | rfl | (simp only [List.length_drop, List.length_take]; rfl)) ?_; (with_reducible refine (impl_Narcissistic.calls kj16 t319 t320 t321 t322 _ A58.out).mono ?_); rintro e w62 ⟨v323, rfl, ho0, hb⟩; refine ⟨_, rfl, ?_⟩; have n0_ := Aside0.mk (Kd.R_lower ho0 (below_size (by repeat (first | (with_reducible first | exact HB.out | apply below_alloc | apply pw_below_drewN | apply below_drew1) | exact HB.out)))); have n1_ := Aside0.mk (below_step (by repeat (first | (with_reducible first | exact HB.out | apply below_alloc | apply pw_below_drewN | apply below_drew1) | exact HB.out)) hb); clear HB; have HO324 := n0_; have HB := n1_; clear n0_ n1_; (try clear hb); (try clear hb2); (try clear hk); (try clear hi); (try clear ho0)) | ((with_reducible refine gate_callee (f := 8) rfl ?_); refine goesL_ (some 165) rfl rfl Try.func8 (by kernel_rfl) rfl #[.int .i64 t319, .int .i64 t320] rfl (by (try simp only [List.map_toArray, List.map_cons, List.map_nil]); first | done | rfl | (simp only [List.length_drop, List.length_take]; rfl)) ?_; (with_reducible refine (spec_Narcissistic.calls kj16 t319 t320 t325 t326 _ A59.out).mono ?_); rintro e w63 ⟨v327, rfl, ho0, hb⟩; refine ⟨_, rfl, ?_⟩; have n0_ := Aside0.mk (Kd.R_elder' (by (with_reducible repeat (first | apply Kd.R_alloc | apply Kd.R_drewN | apply Kd.R_drew)); exact HO324.out) (Kd.R_base ho0) hb); have n1_ := Aside0.mk (Kd.R_lower (Kd.R_new' ho0 (Kd.R_lt (by (with_reducible repeat (first | apply Kd.R_alloc | apply Kd.R_drewN | apply Kd.R_drew)); exact HO324.out))) (below_size (by repeat (first | (with_reducible first | exact HB.out | apply below_alloc | apply pw_below_drewN | apply below_drew1) | exact HB.out)))); have n2_ := Aside0.mk (below_step (by repeat (first | (with_reducible first | exact HB.out | apply below_alloc | apply pw_below_drewN | apply below_drew1) | exact HB.out)) hb); clear HO324; clear HB; have HO324 := n0_; have HO328 := n1_; have HB := n2_; clear n0_ n1_ n2_; (try clear hb); (try clear hb2); (try clear hk); (try clear hi); (try clear ho0)))
                (try simp only [Act.put, List.setIfInBounds_toArray, List.set_cons_zero, List.set_cons_succ])
                go_cut [176] (fun v176 wc => ∃ (kq : Nat) (x176_59 : Bool), v176 = .bool x176_59 ∧ Aside0 (laws_FnOwnPowers.j6 kq t319 t320 t321 x176_59 = some r) ∧ Aside0 (kq ≤ kj16) ∧ Aside0 (Kd.R (Kd.int .i64) 3 wc w.heap.size (fun _ => True) v323 t321) ∧ Aside0 (Below w.heap.size w wc))
                case first =>
                  have H := HC60.out
                  clear HC60
                  by_cases c64 : (t322 != t326) = true
                  · rw [if_pos c64] at H
                    have c64b0 : (t322 != t326) = true := c64
                    (try (have c64b1 : decide (t322 = t326) = false := by simpa using c64))
                    (try (have c64b2 : (t322 == t326) = false := by simpa using c64))
                    (try (have c64b3 : ¬ (t322 = t326) := by simpa using c64))
                    clear c64
                    (first | rw [c64b0] | (simp only [i64_w, i32_w]; rw [c64b0]) | skip)
                    have H' := Aside0.mk H
                    clear H
                    go_wp2
                    go_meet
                    case rel => exact ⟨_, (true), (by first | rfl | (simp; done) | (simp [*]; done)), H', ⟨by have := HJ7.out; have := HJ16.out; first | omega | exact Nat.le_refl _⟩, ⟨by (with_reducible repeat (first | apply Kd.R_alloc | apply Kd.R_drewN | apply Kd.R_drew)); exact Kd.R_mono HO324.out (fun _ hk => trivial)⟩, ⟨by repeat (first | (with_reducible first | exact HB.out | apply below_alloc | apply pw_below_drewN | apply below_drew1) | exact HB.out)⟩⟩
                  · rw [if_neg c64] at H
                    have c64b0 : (t322 != t326) = false := by simpa using c64
                    (try (have c64b1 : decide (t322 = t326) = true := by simpa using c64))
                    (try (have c64b2 : (t322 == t326) = true := by simpa using c64))
                    clear c64
                    (first | rw [c64b0] | (simp only [i64_w, i32_w]; rw [c64b0]) | skip)
                    replace H := Option.bind_eq_some_iff.mp H
                    obtain ⟨t329, A650, H⟩ := H
                    replace H : (laws_FnOwnPowers.j6 kj16 t319 t320 t321 (!t329)) = some r := H
                    have A65 := Aside0.mk A650
                    clear A650
                    have H' := Aside0.mk H
                    clear H
                    obtain ⟨Ao66, co66, eo66⟩ := Kd.R_slice HO324.out
                    subst eo66
                    obtain ⟨Ao67, co67, eo67⟩ := Kd.R_slice HO328.out
                    subst eo67
                    go_wp2_with (first | (go_at_call 31; (with_reducible refine (laws_rSame.calls kj16 _ _ t321 _ _ t325 t329 _ ?side1 ?side2 ?side3 ?side4 A65.out).mono ?_); (case side1 => repeat (first | exact (Kd.R_reads' HO324.out).2.2 | (with_reducible refine Kd.C_alloc ?_ _) | (with_reducible refine Kd.C_drewN ?_ _) | (with_reducible refine Kd.C_drew ?_))); (case side2 => exact (Kd.R_reads' HO324.out).2.1); (case side3 => repeat (first | exact (Kd.R_reads' HO328.out).2.2 | (with_reducible refine Kd.C_alloc ?_ _) | (with_reducible refine Kd.C_drewN ?_ _) | (with_reducible refine Kd.C_drew ?_))); (case side4 => exact (Kd.R_reads' HO328.out).2.1); rintro e w' ⟨rfl, ⟨nd, rfl⟩⟩))
                    go_meet
                    case rel => exact ⟨_, (!t329), (by first | rfl | (simp; done) | (simp [*]; done)), H', ⟨by have := HJ7.out; have := HJ16.out; first | omega | exact Nat.le_refl _⟩, ⟨by (with_reducible repeat (first | apply Kd.R_alloc | apply Kd.R_drewN | apply Kd.R_drew)); exact Kd.R_mono HO324.out (fun _ hk => trivial)⟩, ⟨by repeat (first | (with_reducible first | exact HB.out | apply below_alloc | apply pw_below_drewN | apply below_drew1) | exact HB.out)⟩⟩
                case rest =>
                  clear HC60
                  try clear c1
                  try clear c2
                  try clear p2
                  try clear c3
                  try clear p3
                  try clear q3
                  try clear hx3
                  try clear c4
                  try clear c5
                  try clear c6
                  try clear p6
                  try clear c7
                  try clear c8
                  try clear c9
                  try clear c12
                  try clear c12b0
                  try clear c12b1
                  try clear c12b2
                  try clear c13
                  try clear c14
                  try clear c16
                  try clear c18
                  try clear c20
                  try clear c21
                  try clear c23
                  try clear c24
                  try clear c28
                  try clear c30
                  try clear c30b0
                  try clear p30
                  try clear q30
                  try clear hx30
                  try clear c31
                  try clear c31b0
                  try clear p31
                  try clear q31
                  try clear hx31
                  try clear c32
                  try clear c32b0
                  try clear c34
                  try clear c35
                  try clear c35b0
                  try clear c35b1
                  try clear c39
                  try clear c39b0
                  try clear c41
                  try clear c43
                  try clear c43b0
                  try clear c43b1
                  try clear c43b2
                  try clear c47
                  try clear c47b0
                  try clear c51
                  try clear c51b0
                  try clear c52
                  try clear c52b0
                  try clear c53
                  try clear c53b0
                  try clear c54
                  try clear c54b0
                  try clear c54b1
                  try clear c55
                  try clear c56
                  try clear c56b0
                  try clear c56b1
                  try clear c64
                  try clear c64b0
                  try clear c64b1
                  try clear c64b2
                  try clear p64
                  try clear hx308_0
                  try clear hx318_0
                  try clear p2
                  try clear p3
                  try clear p30
                  try clear p308
                  try clear p31
                  try clear p318
                  try clear p6
                  try clear q3
                  try clear q30
                  try clear q308
                  try clear q31
                  try clear q318
                  obtain ⟨kq, x176_59, rfl, HA, HJ59, HO_25, HB⟩ := hcut
                  cases kq with
                  | zero => exact absurd HA.out (by simp [laws_FnOwnPowers.j6])
                  | succ kj59 =>
                    have H := HA.out
                    clear HA
                    simp only [laws_FnOwnPowers.j6] at H
                    by_cases c68 : x176_59 = true
                    · subst c68
                      have H1 : (some false) = some r := by rw [if_pos rfl] at H; exact H
                      clear H
                      have H := H1
                      clear H1
                      obtain rfl := Option.some.inj H
                      go_wp2
                      go_ret
                      exact ⟨by first | rfl | (simp [errW_none, errW_some] <;> rfl) | (simp [*, errW_none, errW_some] <;> rfl), by repeat (first | (with_reducible first | exact HB.out | apply below_alloc | apply pw_below_drewN | apply below_drew1) | exact HB.out)⟩
                    · replace c68 := Bool.eq_false_iff.mpr c68
                      subst c68
                      have H1 : (laws_FnOwnPowers.l3 kj59 t319 t320 t321 (t321.length : Int) 0) = some r := by rw [if_neg (show ¬ (false = true) by decide)] at H; exact H
                      clear H
                      have H := H1
                      clear H1
                      have H' := Aside0.mk H
                      clear H
                      obtain ⟨Ao69, co69, eo69⟩ := Kd.R_slice HO_25.out
                      subst eo69
                      go_wp2
                      go_loopg [179] kj59 (fun kq v179 w' => ∃ (x179_4 : Int), v179 = .int .i64 x179_4 ∧ Aside0 (laws_FnOwnPowers.l3 kq t319 t320 t321 (t321.length : Int) x179_4 = some r) ∧ Aside0 (kq ≤ kj59) ∧ Aside0 (Kd.R (Kd.int .i64) 3 w' w.heap.size (fun _ => True) (.slice Ao69 t321.length co69) t321) ∧ Aside0 (Below w.heap.size w w'))
                      case atStart => exact ⟨(0), (by first | rfl | (simp; done) | (simp [*]; done)), H', ⟨Nat.le_refl _⟩, ⟨by (with_reducible repeat (first | apply Kd.R_alloc | apply Kd.R_drewN | apply Kd.R_drew)); exact HO_25.out⟩, ⟨by repeat (first | (with_reducible first | exact HB.out | apply below_alloc | apply pw_below_drewN | apply below_drew1) | exact HB.out)⟩⟩
                      case round =>
                        as_aux_lemma =>
                          clear H'
                          try clear c1
                          try clear c2
                          try clear p2
                          try clear c3
                          try clear p3
                          try clear q3
                          try clear hx3
                          try clear c4
                          try clear c5
                          try clear c6
                          try clear p6
                          try clear c7
                          try clear c8
                          try clear c9
                          try clear c12
                          try clear c12b0
                          try clear c12b1
                          try clear c12b2
                          try clear c13
                          try clear c14
                          try clear c16
                          try clear c18
                          try clear c20
                          try clear c21
                          try clear c23
                          try clear c24
                          try clear c28
                          try clear c30
                          try clear c30b0
                          try clear p30
                          try clear q30
                          try clear hx30
                          try clear c31
                          try clear c31b0
                          try clear p31
                          try clear q31
                          try clear hx31
                          try clear c32
                          try clear c32b0
                          try clear c34
                          try clear c35
                          try clear c35b0
                          try clear c35b1
                          try clear c39
                          try clear c39b0
                          try clear c41
                          try clear c43
                          try clear c43b0
                          try clear c43b1
                          try clear c43b2
                          try clear c47
                          try clear c47b0
                          try clear c51
                          try clear c51b0
                          try clear c52
                          try clear c52b0
                          try clear c53
                          try clear c53b0
                          try clear c54
                          try clear c54b0
                          try clear c54b1
                          try clear c55
                          try clear c56
                          try clear c56b0
                          try clear c56b1
                          try clear c64
                          try clear c64b0
                          try clear c64b1
                          try clear c64b2
                          try clear p64
                          try clear c68
                          try clear hx308_0
                          try clear hx318_0
                          try clear p2
                          try clear p3
                          try clear p30
                          try clear p308
                          try clear p31
                          try clear p318
                          try clear p6
                          try clear p64
                          try clear q3
                          try clear q30
                          try clear q308
                          try clear q31
                          try clear q318
                          obtain ⟨x179_4, rfl, HA, HK4, HO_177, HB⟩ := hrel
                          cases gk with
                          | zero => exact absurd HA.out (by simp [laws_FnOwnPowers.l3])
                          | succ k4 =>
                            have H := HA.out
                            clear HA
                            simp only [laws_FnOwnPowers.l3] at H
                            by_cases c70 : x179_4 < (t321.length : Int)
                            · rw [if_pos c70] at H
                              have c70b0 : decide (x179_4 < (t321.length : Int)) = true := decide_eq_true c70
                              clear c70
                              by_cases c71 : 0 ≤ x179_4
                              · rw [if_pos c71] at H
                                have c71b0 : decide (0 ≤ x179_4) = true := decide_eq_true c71
                                clear c71
                                by_cases c72 : x179_4 < (t321.length : Int)
                                · rw [if_pos c72] at H
                                  have c72b0 : decide (x179_4 < (t321.length : Int)) = true := decide_eq_true c72
                                  clear c72
                                  replace H := Option.bind_eq_some_iff.mp H
                                  obtain ⟨⟨t331, t332⟩, A730, H⟩ := H
                                  replace H : ((impl_CountDigits.f k4 (rd t321 x179_4) t320).bind fun bt333 => ((impl_OwnPowers.f k4 t320 t319).bind fun bt335 => (if t332 = true then (if t331 = (rd t321 x179_4) then (if bt333.2 = true then (if bt333.1 = t319 then (if bt335.2 = true then ((laws_rHas.f k4 bt335.1 (rd t321 x179_4)).bind fun t339 => (if t339 = true then (laws_FnOwnPowers.l3 k4 t319 t320 t321 (t321.length : Int) (wrap64 (x179_4 + 1))) else (some false))) else (some false)) else (some false)) else (some false)) else (some false)) else (some false)))) = some r := H
                                  have A73 := Aside0.mk A730
                                  clear A730
                                  replace H := Option.bind_eq_some_iff.mp H
                                  obtain ⟨⟨t333, t334⟩, A740, H⟩ := H
                                  replace H : ((impl_OwnPowers.f k4 t320 t319).bind fun bt335 => (if t332 = true then (if t331 = (rd t321 x179_4) then (if t334 = true then (if t333 = t319 then (if bt335.2 = true then ((laws_rHas.f k4 bt335.1 (rd t321 x179_4)).bind fun t339 => (if t339 = true then (laws_FnOwnPowers.l3 k4 t319 t320 t321 (t321.length : Int) (wrap64 (x179_4 + 1))) else (some false))) else (some false)) else (some false)) else (some false)) else (some false)) else (some false))) = some r := H
                                  have A74 := Aside0.mk A740
                                  clear A740
                                  replace H := Option.bind_eq_some_iff.mp H
                                  obtain ⟨⟨t335, t336⟩, A750, H⟩ := H
                                  replace H : (if t332 = true then (if t331 = (rd t321 x179_4) then (if t334 = true then (if t333 = t319 then (if t336 = true then ((laws_rHas.f k4 t335 (rd t321 x179_4)).bind fun t339 => (if t339 = true then (laws_FnOwnPowers.l3 k4 t319 t320 t321 (t321.length : Int) (wrap64 (x179_4 + 1))) else (some false))) else (some false)) else (some false)) else (some false)) else (some false)) else (some false)) = some r := H
                                  have A75 := Aside0.mk A750
                                  clear A750
                                  by_cases c76 : t332 = true
                                  · subst c76
                                    have H1 : (if t331 = (rd t321 x179_4) then (if t334 = true then (if t333 = t319 then (if t336 = true then ((laws_rHas.f k4 t335 (rd t321 x179_4)).bind fun t339 => (if t339 = true then (laws_FnOwnPowers.l3 k4 t319 t320 t321 (t321.length : Int) (wrap64 (x179_4 + 1))) else (some false))) else (some false)) else (some false)) else (some false)) else (some false)) = some r := by rw [if_pos rfl] at H; exact H
                                    clear H
                                    have H := H1
                                    clear H1
                                    by_cases c77 : t331 = (rd t321 x179_4)
                                    · rw [if_pos c77] at H
                                      have c77b0 : (t331 == (rd t321 x179_4)) = true := beq_iff_eq.mpr c77
                                      have c77b1 : (t331 != (rd t321 x179_4)) = false := bne_eq_false_iff_eq.mpr c77
                                      clear c77
                                      by_cases c78 : t334 = true
                                      · subst c78
                                        have H1 : (if t333 = t319 then (if t336 = true then ((laws_rHas.f k4 t335 (rd t321 x179_4)).bind fun t339 => (if t339 = true then (laws_FnOwnPowers.l3 k4 t319 t320 t321 (t321.length : Int) (wrap64 (x179_4 + 1))) else (some false))) else (some false)) else (some false)) = some r := by rw [if_pos rfl] at H; exact H
                                        clear H
                                        have H := H1
                                        clear H1
                                        by_cases c79 : t333 = t319
                                        · rw [if_pos c79] at H
                                          have c79b0 : (t333 == t319) = true := beq_iff_eq.mpr c79
                                          have c79b1 : (t333 != t319) = false := bne_eq_false_iff_eq.mpr c79
                                          clear c79
                                          by_cases c80 : t336 = true
                                          · subst c80
                                            have H1 : ((laws_rHas.f k4 t335 (rd t321 x179_4)).bind fun t339 => (if t339 = true then (laws_FnOwnPowers.l3 k4 t319 t320 t321 (t321.length : Int) (wrap64 (x179_4 + 1))) else (some false))) = some r := by rw [if_pos rfl] at H; exact H
                                            clear H
                                            have H := H1
                                            clear H1
                                            replace H := Option.bind_eq_some_iff.mp H
                                            obtain ⟨t339, A810, H⟩ := H
                                            replace H : (if t339 = true then (laws_FnOwnPowers.l3 k4 t319 t320 t321 (t321.length : Int) (wrap64 (x179_4 + 1))) else (some false)) = some r := H
                                            have A81 := Aside0.mk A810
                                            clear A810
                                            by_cases c82 : t339 = true
                                            · subst c82
                                              have H1 : (laws_FnOwnPowers.l3 k4 t319 t320 t321 (t321.length : Int) (wrap64 (x179_4 + 1))) = some r := by rw [if_pos rfl] at H; exact H
                                              clear H
                                              have H := H1
                                              clear H1
                                              have H' := Aside0.mk H
                                              clear H
                                              have p330 : 0 ≤ (x179_4 : Int) := of_decide_eq_true (by first | (with_reducible assumption) | assumption)
                                              have q330 : x179_4 < (t321.length : Int) := of_decide_eq_true (by first | (with_reducible assumption) | assumption)
                                              obtain ⟨ad330, e330, hx330_0⟩ := Kd.at_int (Kd.R_reads' HO_177.out).2.2 x179_4 p330 q330
                                              cases e330
                                              replace p330 := eq_true p330
                                              replace q330 := eq_true q330
                                              go_wp2_with (first | ((with_reducible refine gate_callee (f := 23) rfl ?_); refine goesL_ (some 187) rfl rfl Try.func23 (by kernel_rfl) rfl #[.int .i64 (rd t321 x179_4), .int .i64 t320, .int .i64 t319] rfl (by (try simp only [List.map_toArray, List.map_cons, List.map_nil]); first | done | rfl | (simp only [List.length_drop, List.length_take]; rfl)) ?_; (with_reducible refine (impl_PowerSum.calls k4 (rd t321 x179_4) t320 t319 t331 true _ A73.out).mono ?_); rintro e w83 ⟨rfl, hb⟩; refine ⟨_, rfl, ?_⟩; have n0_ := Aside0.mk (Kd.R_below (by (with_reducible repeat (first | apply Kd.R_alloc | apply Kd.R_drewN | apply Kd.R_drew)); exact HO_177.out) hb); have n1_ := Aside0.mk (below_step (by repeat (first | (with_reducible first | exact HB.out | apply below_alloc | apply pw_below_drewN | apply below_drew1) | exact HB.out)) hb); clear HO_177; clear HB; have HO_177 := n0_; have HB := n1_; clear n0_ n1_; (try clear hb); (try clear hb2); (try clear hk); (try clear hi)) | ((with_reducible refine gate_callee (f := 33) rfl ?_); refine goesL_ (some 193) rfl rfl Try.func33 (by kernel_rfl) rfl #[.int .i64 (rd t321 x179_4), .int .i64 t320] rfl (by (try simp only [List.map_toArray, List.map_cons, List.map_nil]); first | done | rfl | (simp only [List.length_drop, List.length_take]; rfl)) ?_; (with_reducible refine (impl_CountDigits.calls k4 (rd t321 x179_4) t320 t333 true _ A74.out).mono ?_); rintro e w84 ⟨rfl, hb⟩; refine ⟨_, rfl, ?_⟩; have n0_ := Aside0.mk (Kd.R_below (by (with_reducible repeat (first | apply Kd.R_alloc | apply Kd.R_drewN | apply Kd.R_drew)); exact HO_177.out) hb); have n1_ := Aside0.mk (below_step (by repeat (first | (with_reducible first | exact HB.out | apply below_alloc | apply pw_below_drewN | apply below_drew1) | exact HB.out)) hb); clear HO_177; clear HB; have HO_177 := n0_; have HB := n1_; clear n0_ n1_; (try clear hb); (try clear hb2); (try clear hk); (try clear hi)) | ((with_reducible refine gate_callee (f := 14) rfl ?_); refine goesL_ (some 199) rfl rfl Try.func14 (by kernel_rfl) rfl #[.int .i64 t320, .int .i64 t319] rfl (by (try simp only [List.map_toArray, List.map_cons, List.map_nil]); first | done | rfl | (simp only [List.length_drop, List.length_take]; rfl)) ?_; (with_reducible refine (impl_OwnPowers.calls k4 t320 t319 t335 true _ A75.out).mono ?_); rintro e w85 ⟨v337, rfl, ho0, hb⟩; refine ⟨_, rfl, ?_⟩; have n0_ := Aside0.mk (Kd.R_elder' (by (with_reducible repeat (first | apply Kd.R_alloc | apply Kd.R_drewN | apply Kd.R_drew)); exact HO_177.out) (Kd.R_base ho0) hb); have n1_ := Aside0.mk (Kd.R_lower (Kd.R_new' ho0 (Kd.R_lt (by (with_reducible repeat (first | apply Kd.R_alloc | apply Kd.R_drewN | apply Kd.R_drew)); exact HO_177.out))) (below_size (by repeat (first | (with_reducible first | exact HB.out | apply below_alloc | apply pw_below_drewN | apply below_drew1) | exact HB.out)))); have n2_ := Aside0.mk (below_step (by repeat (first | (with_reducible first | exact HB.out | apply below_alloc | apply pw_below_drewN | apply below_drew1) | exact HB.out)) hb); clear HO_177; clear HB; have HO_177 := n0_; have HO338 := n1_; have HB := n2_; clear n0_ n1_ n2_; (try clear hb); (try clear hb2); (try clear hk); (try clear hi); (try clear ho0); obtain ⟨Ao86, co86, eo86⟩ := Kd.R_slice HO338.out; subst eo86) | (go_at_call 25; (with_reducible refine (laws_rHas.calls k4 _ _ t335 (rd t321 x179_4) true _ ?side1 ?side2 A81.out).mono ?_); (case side1 => repeat (first | exact (Kd.R_reads' HO338.out).2.2 | (with_reducible refine Kd.C_alloc ?_ _) | (with_reducible refine Kd.C_drewN ?_ _) | (with_reducible refine Kd.C_drew ?_))); (case side2 => exact (Kd.R_reads' HO338.out).2.1); rintro e w' ⟨rfl, ⟨nd, rfl⟩⟩))
                                              go_roundg k4
                                              case measure => have := HJ7.out; have := HJ16.out; have := HJ59.out; have := HK4.out; omega
                                              case rel => exact ⟨(wrap64 (x179_4 + 1)), (by first | rfl | (simp; done) | (simp [*]; done)), H', ⟨by have := HJ7.out; have := HJ16.out; have := HJ59.out; have := HK4.out; omega⟩, ⟨by (with_reducible repeat (first | apply Kd.R_alloc | apply Kd.R_drewN | apply Kd.R_drew)); exact Kd.R_mono HO_177.out (fun _ hk => trivial)⟩, ⟨by repeat (first | (with_reducible first | exact HB.out | apply below_alloc | apply pw_below_drewN | apply below_drew1) | exact HB.out)⟩⟩
                                            · replace c82 := Bool.eq_false_iff.mpr c82
                                              subst c82
                                              have H1 : (some false) = some r := by rw [if_neg (show ¬ (false = true) by decide)] at H; exact H
                                              clear H
                                              have H := H1
                                              clear H1
                                              obtain rfl := Option.some.inj H
                                              have p330 : 0 ≤ (x179_4 : Int) := of_decide_eq_true (by first | (with_reducible assumption) | assumption)
                                              have q330 : x179_4 < (t321.length : Int) := of_decide_eq_true (by first | (with_reducible assumption) | assumption)
                                              obtain ⟨ad330, e330, hx330_0⟩ := Kd.at_int (Kd.R_reads' HO_177.out).2.2 x179_4 p330 q330
                                              cases e330
                                              replace p330 := eq_true p330
                                              replace q330 := eq_true q330
                                              go_wp2_with (first | ((with_reducible refine gate_callee (f := 23) rfl ?_); refine goesL_ (some 187) rfl rfl Try.func23 (by kernel_rfl) rfl #[.int .i64 (rd t321 x179_4), .int .i64 t320, .int .i64 t319] rfl (by (try simp only [List.map_toArray, List.map_cons, List.map_nil]); first | done | rfl | (simp only [List.length_drop, List.length_take]; rfl)) ?_; (with_reducible refine (impl_PowerSum.calls k4 (rd t321 x179_4) t320 t319 t331 true _ A73.out).mono ?_); rintro e w87 ⟨rfl, hb⟩; refine ⟨_, rfl, ?_⟩; have n0_ := Aside0.mk (Kd.R_below (by (with_reducible repeat (first | apply Kd.R_alloc | apply Kd.R_drewN | apply Kd.R_drew)); exact HO_177.out) hb); have n1_ := Aside0.mk (below_step (by repeat (first | (with_reducible first | exact HB.out | apply below_alloc | apply pw_below_drewN | apply below_drew1) | exact HB.out)) hb); clear HO_177; clear HB; have HO_177 := n0_; have HB := n1_; clear n0_ n1_; (try clear hb); (try clear hb2); (try clear hk); (try clear hi)) | ((with_reducible refine gate_callee (f := 33) rfl ?_); refine goesL_ (some 193) rfl rfl Try.func33 (by kernel_rfl) rfl #[.int .i64 (rd t321 x179_4), .int .i64 t320] rfl (by (try simp only [List.map_toArray, List.map_cons, List.map_nil]); first | done | rfl | (simp only [List.length_drop, List.length_take]; rfl)) ?_; (with_reducible refine (impl_CountDigits.calls k4 (rd t321 x179_4) t320 t333 true _ A74.out).mono ?_); rintro e w88 ⟨rfl, hb⟩; refine ⟨_, rfl, ?_⟩; have n0_ := Aside0.mk (Kd.R_below (by (with_reducible repeat (first | apply Kd.R_alloc | apply Kd.R_drewN | apply Kd.R_drew)); exact HO_177.out) hb); have n1_ := Aside0.mk (below_step (by repeat (first | (with_reducible first | exact HB.out | apply below_alloc | apply pw_below_drewN | apply below_drew1) | exact HB.out)) hb); clear HO_177; clear HB; have HO_177 := n0_; have HB := n1_; clear n0_ n1_; (try clear hb); (try clear hb2); (try clear hk); (try clear hi)) | ((with_reducible refine gate_callee (f := 14) rfl ?_); refine goesL_ (some 199) rfl rfl Try.func14 (by kernel_rfl) rfl #[.int .i64 t320, .int .i64 t319] rfl (by (try simp only [List.map_toArray, List.map_cons, List.map_nil]); first | done | rfl | (simp only [List.length_drop, List.length_take]; rfl)) ?_; (with_reducible refine (impl_OwnPowers.calls k4 t320 t319 t335 true _ A75.out).mono ?_); rintro e w89 ⟨v337, rfl, ho0, hb⟩; refine ⟨_, rfl, ?_⟩; have n0_ := Aside0.mk (Kd.R_elder' (by (with_reducible repeat (first | apply Kd.R_alloc | apply Kd.R_drewN | apply Kd.R_drew)); exact HO_177.out) (Kd.R_base ho0) hb); have n1_ := Aside0.mk (Kd.R_lower (Kd.R_new' ho0 (Kd.R_lt (by (with_reducible repeat (first | apply Kd.R_alloc | apply Kd.R_drewN | apply Kd.R_drew)); exact HO_177.out))) (below_size (by repeat (first | (with_reducible first | exact HB.out | apply below_alloc | apply pw_below_drewN | apply below_drew1) | exact HB.out)))); have n2_ := Aside0.mk (below_step (by repeat (first | (with_reducible first | exact HB.out | apply below_alloc | apply pw_below_drewN | apply below_drew1) | exact HB.out)) hb); clear HO_177; clear HB; have HO_177 := n0_; have HO338 := n1_; have HB := n2_; clear n0_ n1_ n2_; (try clear hb); (try clear hb2); (try clear hk); (try clear hi); (try clear ho0); obtain ⟨Ao90, co90, eo90⟩ := Kd.R_slice HO338.out; subst eo90) | (go_at_call 25; (with_reducible refine (laws_rHas.calls k4 _ _ t335 (rd t321 x179_4) false _ ?side1 ?side2 A81.out).mono ?_); (case side1 => repeat (first | exact (Kd.R_reads' HO338.out).2.2 | (with_reducible refine Kd.C_alloc ?_ _) | (with_reducible refine Kd.C_drewN ?_ _) | (with_reducible refine Kd.C_drew ?_))); (case side2 => exact (Kd.R_reads' HO338.out).2.1); rintro e w' ⟨rfl, ⟨nd, rfl⟩⟩))
                                              go_ret
                                              exact ⟨by first | rfl | (simp [errW_none, errW_some] <;> rfl) | (simp [*, errW_none, errW_some] <;> rfl), by repeat (first | (with_reducible first | exact HB.out | apply below_alloc | apply pw_below_drewN | apply below_drew1) | exact HB.out)⟩
                                          · replace c80 := Bool.eq_false_iff.mpr c80
                                            subst c80
                                            have H1 : (some false) = some r := by rw [if_neg (show ¬ (false = true) by decide)] at H; exact H
                                            clear H
                                            have H := H1
                                            clear H1
                                            obtain rfl := Option.some.inj H
                                            have p330 : 0 ≤ (x179_4 : Int) := of_decide_eq_true (by first | (with_reducible assumption) | assumption)
                                            have q330 : x179_4 < (t321.length : Int) := of_decide_eq_true (by first | (with_reducible assumption) | assumption)
                                            obtain ⟨ad330, e330, hx330_0⟩ := Kd.at_int (Kd.R_reads' HO_177.out).2.2 x179_4 p330 q330
                                            cases e330
                                            replace p330 := eq_true p330
                                            replace q330 := eq_true q330
                                            go_wp2_with (first | ((with_reducible refine gate_callee (f := 23) rfl ?_); refine goesL_ (some 187) rfl rfl Try.func23 (by kernel_rfl) rfl #[.int .i64 (rd t321 x179_4), .int .i64 t320, .int .i64 t319] rfl (by (try simp only [List.map_toArray, List.map_cons, List.map_nil]); first | done | rfl | (simp only [List.length_drop, List.length_take]; rfl)) ?_; (with_reducible refine (impl_PowerSum.calls k4 (rd t321 x179_4) t320 t319 t331 true _ A73.out).mono ?_); rintro e w91 ⟨rfl, hb⟩; refine ⟨_, rfl, ?_⟩; have n0_ := Aside0.mk (Kd.R_below (by (with_reducible repeat (first | apply Kd.R_alloc | apply Kd.R_drewN | apply Kd.R_drew)); exact HO_177.out) hb); have n1_ := Aside0.mk (below_step (by repeat (first | (with_reducible first | exact HB.out | apply below_alloc | apply pw_below_drewN | apply below_drew1) | exact HB.out)) hb); clear HO_177; clear HB; have HO_177 := n0_; have HB := n1_; clear n0_ n1_; (try clear hb); (try clear hb2); (try clear hk); (try clear hi)) | ((with_reducible refine gate_callee (f := 33) rfl ?_); refine goesL_ (some 193) rfl rfl Try.func33 (by kernel_rfl) rfl #[.int .i64 (rd t321 x179_4), .int .i64 t320] rfl (by (try simp only [List.map_toArray, List.map_cons, List.map_nil]); first | done | rfl | (simp only [List.length_drop, List.length_take]; rfl)) ?_; (with_reducible refine (impl_CountDigits.calls k4 (rd t321 x179_4) t320 t333 true _ A74.out).mono ?_); rintro e w92 ⟨rfl, hb⟩; refine ⟨_, rfl, ?_⟩; have n0_ := Aside0.mk (Kd.R_below (by (with_reducible repeat (first | apply Kd.R_alloc | apply Kd.R_drewN | apply Kd.R_drew)); exact HO_177.out) hb); have n1_ := Aside0.mk (below_step (by repeat (first | (with_reducible first | exact HB.out | apply below_alloc | apply pw_below_drewN | apply below_drew1) | exact HB.out)) hb); clear HO_177; clear HB; have HO_177 := n0_; have HB := n1_; clear n0_ n1_; (try clear hb); (try clear hb2); (try clear hk); (try clear hi)) | ((with_reducible refine gate_callee (f := 14) rfl ?_); refine goesL_ (some 199) rfl rfl Try.func14 (by kernel_rfl) rfl #[.int .i64 t320, .int .i64 t319] rfl (by (try simp only [List.map_toArray, List.map_cons, List.map_nil]); first | done | rfl | (simp only [List.length_drop, List.length_take]; rfl)) ?_; (with_reducible refine (impl_OwnPowers.calls k4 t320 t319 t335 false _ A75.out).mono ?_); rintro e w93 ⟨v337, rfl, ho0, hb⟩; refine ⟨_, rfl, ?_⟩; have n0_ := Aside0.mk (Kd.R_elder' (by (with_reducible repeat (first | apply Kd.R_alloc | apply Kd.R_drewN | apply Kd.R_drew)); exact HO_177.out) (Kd.R_base ho0) hb); have n1_ := Aside0.mk (Kd.R_lower (Kd.R_new' ho0 (Kd.R_lt (by (with_reducible repeat (first | apply Kd.R_alloc | apply Kd.R_drewN | apply Kd.R_drew)); exact HO_177.out))) (below_size (by repeat (first | (with_reducible first | exact HB.out | apply below_alloc | apply pw_below_drewN | apply below_drew1) | exact HB.out)))); have n2_ := Aside0.mk (below_step (by repeat (first | (with_reducible first | exact HB.out | apply below_alloc | apply pw_below_drewN | apply below_drew1) | exact HB.out)) hb); clear HO_177; clear HB; have HO_177 := n0_; have HO338 := n1_; have HB := n2_; clear n0_ n1_ n2_; (try clear hb); (try clear hb2); (try clear hk); (try clear hi); (try clear ho0)))
                                            go_ret
                                            exact ⟨by first | rfl | (simp [errW_none, errW_some] <;> rfl) | (simp [*, errW_none, errW_some] <;> rfl), by repeat (first | (with_reducible first | exact HB.out | apply below_alloc | apply pw_below_drewN | apply below_drew1) | exact HB.out)⟩
                                        · rw [if_neg c79] at H
                                          have c79b0 : (t333 == t319) = false := beq_eq_false_iff_ne.mpr c79
                                          have c79b1 : (t333 != t319) = true := bne_iff_ne.mpr c79
                                          obtain rfl := Option.some.inj H
                                          have p330 : 0 ≤ (x179_4 : Int) := of_decide_eq_true (by first | (with_reducible assumption) | assumption)
                                          have q330 : x179_4 < (t321.length : Int) := of_decide_eq_true (by first | (with_reducible assumption) | assumption)
                                          obtain ⟨ad330, e330, hx330_0⟩ := Kd.at_int (Kd.R_reads' HO_177.out).2.2 x179_4 p330 q330
                                          cases e330
                                          replace p330 := eq_true p330
                                          replace q330 := eq_true q330
                                          go_wp2_with (first | ((with_reducible refine gate_callee (f := 23) rfl ?_); refine goesL_ (some 187) rfl rfl Try.func23 (by kernel_rfl) rfl #[.int .i64 (rd t321 x179_4), .int .i64 t320, .int .i64 t319] rfl (by (try simp only [List.map_toArray, List.map_cons, List.map_nil]); first | done | rfl | (simp only [List.length_drop, List.length_take]; rfl)) ?_; (with_reducible refine (impl_PowerSum.calls k4 (rd t321 x179_4) t320 t319 t331 true _ A73.out).mono ?_); rintro e w94 ⟨rfl, hb⟩; refine ⟨_, rfl, ?_⟩; have n0_ := Aside0.mk (Kd.R_below (by (with_reducible repeat (first | apply Kd.R_alloc | apply Kd.R_drewN | apply Kd.R_drew)); exact HO_177.out) hb); have n1_ := Aside0.mk (below_step (by repeat (first | (with_reducible first | exact HB.out | apply below_alloc | apply pw_below_drewN | apply below_drew1) | exact HB.out)) hb); clear HO_177; clear HB; have HO_177 := n0_; have HB := n1_; clear n0_ n1_; (try clear hb); (try clear hb2); (try clear hk); (try clear hi)) | ((with_reducible refine gate_callee (f := 33) rfl ?_); refine goesL_ (some 193) rfl rfl Try.func33 (by kernel_rfl) rfl #[.int .i64 (rd t321 x179_4), .int .i64 t320] rfl (by (try simp only [List.map_toArray, List.map_cons, List.map_nil]); first | done | rfl | (simp only [List.length_drop, List.length_take]; rfl)) ?_; (with_reducible refine (impl_CountDigits.calls k4 (rd t321 x179_4) t320 t333 true _ A74.out).mono ?_); rintro e w95 ⟨rfl, hb⟩; refine ⟨_, rfl, ?_⟩; have n0_ := Aside0.mk (Kd.R_below (by (with_reducible repeat (first | apply Kd.R_alloc | apply Kd.R_drewN | apply Kd.R_drew)); exact HO_177.out) hb); have n1_ := Aside0.mk (below_step (by repeat (first | (with_reducible first | exact HB.out | apply below_alloc | apply pw_below_drewN | apply below_drew1) | exact HB.out)) hb); clear HO_177; clear HB; have HO_177 := n0_; have HB := n1_; clear n0_ n1_; (try clear hb); (try clear hb2); (try clear hk); (try clear hi)) | ((with_reducible refine gate_callee (f := 14) rfl ?_); refine goesL_ (some 199) rfl rfl Try.func14 (by kernel_rfl) rfl #[.int .i64 t320, .int .i64 t319] rfl (by (try simp only [List.map_toArray, List.map_cons, List.map_nil]); first | done | rfl | (simp only [List.length_drop, List.length_take]; rfl)) ?_; (with_reducible refine (impl_OwnPowers.calls k4 t320 t319 t335 t336 _ A75.out).mono ?_); rintro e w96 ⟨v337, rfl, ho0, hb⟩; refine ⟨_, rfl, ?_⟩; have n0_ := Aside0.mk (Kd.R_elder' (by (with_reducible repeat (first | apply Kd.R_alloc | apply Kd.R_drewN | apply Kd.R_drew)); exact HO_177.out) (Kd.R_base ho0) hb); have n1_ := Aside0.mk (Kd.R_lower (Kd.R_new' ho0 (Kd.R_lt (by (with_reducible repeat (first | apply Kd.R_alloc | apply Kd.R_drewN | apply Kd.R_drew)); exact HO_177.out))) (below_size (by repeat (first | (with_reducible first | exact HB.out | apply below_alloc | apply pw_below_drewN | apply below_drew1) | exact HB.out)))); have n2_ := Aside0.mk (below_step (by repeat (first | (with_reducible first | exact HB.out | apply below_alloc | apply pw_below_drewN | apply below_drew1) | exact HB.out)) hb); clear HO_177; clear HB; have HO_177 := n0_; have HO338 := n1_; have HB := n2_; clear n0_ n1_ n2_; (try clear hb); (try clear hb2); (try clear hk); (try clear hi); (try clear ho0)))
                                          go_ret
                                          exact ⟨by first | rfl | (simp [errW_none, errW_some] <;> rfl) | (simp [*, errW_none, errW_some] <;> rfl), by repeat (first | (with_reducible first | exact HB.out | apply below_alloc | apply pw_below_drewN | apply below_drew1) | exact HB.out)⟩
                                      · replace c78 := Bool.eq_false_iff.mpr c78
                                        subst c78
                                        have H1 : (some false) = some r := by rw [if_neg (show ¬ (false = true) by decide)] at H; exact H
                                        clear H
                                        have H := H1
                                        clear H1
                                        obtain rfl := Option.some.inj H
                                        have p330 : 0 ≤ (x179_4 : Int) := of_decide_eq_true (by first | (with_reducible assumption) | assumption)
                                        have q330 : x179_4 < (t321.length : Int) := of_decide_eq_true (by first | (with_reducible assumption) | assumption)
                                        obtain ⟨ad330, e330, hx330_0⟩ := Kd.at_int (Kd.R_reads' HO_177.out).2.2 x179_4 p330 q330
                                        cases e330
                                        replace p330 := eq_true p330
                                        replace q330 := eq_true q330
                                        go_wp2_with (first | ((with_reducible refine gate_callee (f := 23) rfl ?_); refine goesL_ (some 187) rfl rfl Try.func23 (by kernel_rfl) rfl #[.int .i64 (rd t321 x179_4), .int .i64 t320, .int .i64 t319] rfl (by (try simp only [List.map_toArray, List.map_cons, List.map_nil]); first | done | rfl | (simp only [List.length_drop, List.length_take]; rfl)) ?_; (with_reducible refine (impl_PowerSum.calls k4 (rd t321 x179_4) t320 t319 t331 true _ A73.out).mono ?_); rintro e w97 ⟨rfl, hb⟩; refine ⟨_, rfl, ?_⟩; have n0_ := Aside0.mk (Kd.R_below (by (with_reducible repeat (first | apply Kd.R_alloc | apply Kd.R_drewN | apply Kd.R_drew)); exact HO_177.out) hb); have n1_ := Aside0.mk (below_step (by repeat (first | (with_reducible first | exact HB.out | apply below_alloc | apply pw_below_drewN | apply below_drew1) | exact HB.out)) hb); clear HO_177; clear HB; have HO_177 := n0_; have HB := n1_; clear n0_ n1_; (try clear hb); (try clear hb2); (try clear hk); (try clear hi)) | ((with_reducible refine gate_callee (f := 33) rfl ?_); refine goesL_ (some 193) rfl rfl Try.func33 (by kernel_rfl) rfl #[.int .i64 (rd t321 x179_4), .int .i64 t320] rfl (by (try simp only [List.map_toArray, List.map_cons, List.map_nil]); first | done | rfl | (simp only [List.length_drop, List.length_take]; rfl)) ?_; (with_reducible refine (impl_CountDigits.calls k4 (rd t321 x179_4) t320 t333 false _ A74.out).mono ?_); rintro e w98 ⟨rfl, hb⟩; refine ⟨_, rfl, ?_⟩; have n0_ := Aside0.mk (Kd.R_below (by (with_reducible repeat (first | apply Kd.R_alloc | apply Kd.R_drewN | apply Kd.R_drew)); exact HO_177.out) hb); have n1_ := Aside0.mk (below_step (by repeat (first | (with_reducible first | exact HB.out | apply below_alloc | apply pw_below_drewN | apply below_drew1) | exact HB.out)) hb); clear HO_177; clear HB; have HO_177 := n0_; have HB := n1_; clear n0_ n1_; (try clear hb); (try clear hb2); (try clear hk); (try clear hi)) | ((with_reducible refine gate_callee (f := 14) rfl ?_); refine goesL_ (some 199) rfl rfl Try.func14 (by kernel_rfl) rfl #[.int .i64 t320, .int .i64 t319] rfl (by (try simp only [List.map_toArray, List.map_cons, List.map_nil]); first | done | rfl | (simp only [List.length_drop, List.length_take]; rfl)) ?_; (with_reducible refine (impl_OwnPowers.calls k4 t320 t319 t335 t336 _ A75.out).mono ?_); rintro e w99 ⟨v337, rfl, ho0, hb⟩; refine ⟨_, rfl, ?_⟩; have n0_ := Aside0.mk (Kd.R_elder' (by (with_reducible repeat (first | apply Kd.R_alloc | apply Kd.R_drewN | apply Kd.R_drew)); exact HO_177.out) (Kd.R_base ho0) hb); have n1_ := Aside0.mk (Kd.R_lower (Kd.R_new' ho0 (Kd.R_lt (by (with_reducible repeat (first | apply Kd.R_alloc | apply Kd.R_drewN | apply Kd.R_drew)); exact HO_177.out))) (below_size (by repeat (first | (with_reducible first | exact HB.out | apply below_alloc | apply pw_below_drewN | apply below_drew1) | exact HB.out)))); have n2_ := Aside0.mk (below_step (by repeat (first | (with_reducible first | exact HB.out | apply below_alloc | apply pw_below_drewN | apply below_drew1) | exact HB.out)) hb); clear HO_177; clear HB; have HO_177 := n0_; have HO338 := n1_; have HB := n2_; clear n0_ n1_ n2_; (try clear hb); (try clear hb2); (try clear hk); (try clear hi); (try clear ho0)))
                                        go_ret
                                        exact ⟨by first | rfl | (simp [errW_none, errW_some] <;> rfl) | (simp [*, errW_none, errW_some] <;> rfl), by repeat (first | (with_reducible first | exact HB.out | apply below_alloc | apply pw_below_drewN | apply below_drew1) | exact HB.out)⟩
                                    · rw [if_neg c77] at H
                                      have c77b0 : (t331 == (rd t321 x179_4)) = false := beq_eq_false_iff_ne.mpr c77
                                      have c77b1 : (t331 != (rd t321 x179_4)) = true := bne_iff_ne.mpr c77
                                      obtain rfl := Option.some.inj H
                                      have p330 : 0 ≤ (x179_4 : Int) := of_decide_eq_true (by first | (with_reducible assumption) | assumption)
                                      have q330 : x179_4 < (t321.length : Int) := of_decide_eq_true (by first | (with_reducible assumption) | assumption)
                                      obtain ⟨ad330, e330, hx330_0⟩ := Kd.at_int (Kd.R_reads' HO_177.out).2.2 x179_4 p330 q330
                                      cases e330
                                      replace p330 := eq_true p330
                                      replace q330 := eq_true q330
                                      go_wp2_with (first | ((with_reducible refine gate_callee (f := 23) rfl ?_); refine goesL_ (some 187) rfl rfl Try.func23 (by kernel_rfl) rfl #[.int .i64 (rd t321 x179_4), .int .i64 t320, .int .i64 t319] rfl (by (try simp only [List.map_toArray, List.map_cons, List.map_nil]); first | done | rfl | (simp only [List.length_drop, List.length_take]; rfl)) ?_; (with_reducible refine (impl_PowerSum.calls k4 (rd t321 x179_4) t320 t319 t331 true _ A73.out).mono ?_); rintro e w100 ⟨rfl, hb⟩; refine ⟨_, rfl, ?_⟩; have n0_ := Aside0.mk (Kd.R_below (by (with_reducible repeat (first | apply Kd.R_alloc | apply Kd.R_drewN | apply Kd.R_drew)); exact HO_177.out) hb); have n1_ := Aside0.mk (below_step (by repeat (first | (with_reducible first | exact HB.out | apply below_alloc | apply pw_below_drewN | apply below_drew1) | exact HB.out)) hb); clear HO_177; clear HB; have HO_177 := n0_; have HB := n1_; clear n0_ n1_; (try clear hb); (try clear hb2); (try clear hk); (try clear hi)) | ((with_reducible refine gate_callee (f := 33) rfl ?_); refine goesL_ (some 193) rfl rfl Try.func33 (by kernel_rfl) rfl #[.int .i64 (rd t321 x179_4), .int .i64 t320] rfl (by (try simp only [List.map_toArray, List.map_cons, List.map_nil]); first | done | rfl | (simp only [List.length_drop, List.length_take]; rfl)) ?_; (with_reducible refine (impl_CountDigits.calls k4 (rd t321 x179_4) t320 t333 t334 _ A74.out).mono ?_); rintro e w101 ⟨rfl, hb⟩; refine ⟨_, rfl, ?_⟩; have n0_ := Aside0.mk (Kd.R_below (by (with_reducible repeat (first | apply Kd.R_alloc | apply Kd.R_drewN | apply Kd.R_drew)); exact HO_177.out) hb); have n1_ := Aside0.mk (below_step (by repeat (first | (with_reducible first | exact HB.out | apply below_alloc | apply pw_below_drewN | apply below_drew1) | exact HB.out)) hb); clear HO_177; clear HB; have HO_177 := n0_; have HB := n1_; clear n0_ n1_; (try clear hb); (try clear hb2); (try clear hk); (try clear hi)) | ((with_reducible refine gate_callee (f := 14) rfl ?_); refine goesL_ (some 199) rfl rfl Try.func14 (by kernel_rfl) rfl #[.int .i64 t320, .int .i64 t319] rfl (by (try simp only [List.map_toArray, List.map_cons, List.map_nil]); first | done | rfl | (simp only [List.length_drop, List.length_take]; rfl)) ?_; (with_reducible refine (impl_OwnPowers.calls k4 t320 t319 t335 t336 _ A75.out).mono ?_); rintro e w102 ⟨v337, rfl, ho0, hb⟩; refine ⟨_, rfl, ?_⟩; have n0_ := Aside0.mk (Kd.R_elder' (by (with_reducible repeat (first | apply Kd.R_alloc | apply Kd.R_drewN | apply Kd.R_drew)); exact HO_177.out) (Kd.R_base ho0) hb); have n1_ := Aside0.mk (Kd.R_lower (Kd.R_new' ho0 (Kd.R_lt (by (with_reducible repeat (first | apply Kd.R_alloc | apply Kd.R_drewN | apply Kd.R_drew)); exact HO_177.out))) (below_size (by repeat (first | (with_reducible first | exact HB.out | apply below_alloc | apply pw_below_drewN | apply below_drew1) | exact HB.out)))); have n2_ := Aside0.mk (below_step (by repeat (first | (with_reducible first | exact HB.out | apply below_alloc | apply pw_below_drewN | apply below_drew1) | exact HB.out)) hb); clear HO_177; clear HB; have HO_177 := n0_; have HO338 := n1_; have HB := n2_; clear n0_ n1_ n2_; (try clear hb); (try clear hb2); (try clear hk); (try clear hi); (try clear ho0)))
                                      go_ret
                                      exact ⟨by first | rfl | (simp [errW_none, errW_some] <;> rfl) | (simp [*, errW_none, errW_some] <;> rfl), by repeat (first | (with_reducible first | exact HB.out | apply below_alloc | apply pw_below_drewN | apply below_drew1) | exact HB.out)⟩
                                  · replace c76 := Bool.eq_false_iff.mpr c76
                                    subst c76
                                    have H1 : (some false) = some r := by rw [if_neg (show ¬ (false = true) by decide)] at H; exact H
                                    clear H
                                    have H := H1
                                    clear H1
                                    obtain rfl := Option.some.inj H
                                    have p330 : 0 ≤ (x179_4 : Int) := of_decide_eq_true (by first | (with_reducible assumption) | assumption)
                                    have q330 : x179_4 < (t321.length : Int) := of_decide_eq_true (by first | (with_reducible assumption) | assumption)
                                    obtain ⟨ad330, e330, hx330_0⟩ := Kd.at_int (Kd.R_reads' HO_177.out).2.2 x179_4 p330 q330
                                    cases e330
                                    replace p330 := eq_true p330
                                    replace q330 := eq_true q330
                                    go_wp2_with (first | ((with_reducible refine gate_callee (f := 23) rfl ?_); refine goesL_ (some 187) rfl rfl Try.func23 (by kernel_rfl) rfl #[.int .i64 (rd t321 x179_4), .int .i64 t320, .int .i64 t319] rfl (by (try simp only [List.map_toArray, List.map_cons, List.map_nil]); first | done | rfl | (simp only [List.length_drop, List.length_take]; rfl)) ?_; (with_reducible refine (impl_PowerSum.calls k4 (rd t321 x179_4) t320 t319 t331 false _ A73.out).mono ?_); rintro e w103 ⟨rfl, hb⟩; refine ⟨_, rfl, ?_⟩; have n0_ := Aside0.mk (Kd.R_below (by (with_reducible repeat (first | apply Kd.R_alloc | apply Kd.R_drewN | apply Kd.R_drew)); exact HO_177.out) hb); have n1_ := Aside0.mk (below_step (by repeat (first | (with_reducible first | exact HB.out | apply below_alloc | apply pw_below_drewN | apply below_drew1) | exact HB.out)) hb); clear HO_177; clear HB; have HO_177 := n0_; have HB := n1_; clear n0_ n1_; (try clear hb); (try clear hb2); (try clear hk); (try clear hi)) | ((with_reducible refine gate_callee (f := 33) rfl ?_); refine goesL_ (some 193) rfl rfl Try.func33 (by kernel_rfl) rfl #[.int .i64 (rd t321 x179_4), .int .i64 t320] rfl (by (try simp only [List.map_toArray, List.map_cons, List.map_nil]); first | done | rfl | (simp only [List.length_drop, List.length_take]; rfl)) ?_; (with_reducible refine (impl_CountDigits.calls k4 (rd t321 x179_4) t320 t333 t334 _ A74.out).mono ?_); rintro e w104 ⟨rfl, hb⟩; refine ⟨_, rfl, ?_⟩; have n0_ := Aside0.mk (Kd.R_below (by (with_reducible repeat (first | apply Kd.R_alloc | apply Kd.R_drewN | apply Kd.R_drew)); exact HO_177.out) hb); have n1_ := Aside0.mk (below_step (by repeat (first | (with_reducible first | exact HB.out | apply below_alloc | apply pw_below_drewN | apply below_drew1) | exact HB.out)) hb); clear HO_177; clear HB; have HO_177 := n0_; have HB := n1_; clear n0_ n1_; (try clear hb); (try clear hb2); (try clear hk); (try clear hi)) | ((with_reducible refine gate_callee (f := 14) rfl ?_); refine goesL_ (some 199) rfl rfl Try.func14 (by kernel_rfl) rfl #[.int .i64 t320, .int .i64 t319] rfl (by (try simp only [List.map_toArray, List.map_cons, List.map_nil]); first | done | rfl | (simp only [List.length_drop, List.length_take]; rfl)) ?_; (with_reducible refine (impl_OwnPowers.calls k4 t320 t319 t335 t336 _ A75.out).mono ?_); rintro e w105 ⟨v337, rfl, ho0, hb⟩; refine ⟨_, rfl, ?_⟩; have n0_ := Aside0.mk (Kd.R_elder' (by (with_reducible repeat (first | apply Kd.R_alloc | apply Kd.R_drewN | apply Kd.R_drew)); exact HO_177.out) (Kd.R_base ho0) hb); have n1_ := Aside0.mk (Kd.R_lower (Kd.R_new' ho0 (Kd.R_lt (by (with_reducible repeat (first | apply Kd.R_alloc | apply Kd.R_drewN | apply Kd.R_drew)); exact HO_177.out))) (below_size (by repeat (first | (with_reducible first | exact HB.out | apply below_alloc | apply pw_below_drewN | apply below_drew1) | exact HB.out)))); have n2_ := Aside0.mk (below_step (by repeat (first | (with_reducible first | exact HB.out | apply below_alloc | apply pw_below_drewN | apply below_drew1) | exact HB.out)) hb); clear HO_177; clear HB; have HO_177 := n0_; have HO338 := n1_; have HB := n2_; clear n0_ n1_ n2_; (try clear hb); (try clear hb2); (try clear hk); (try clear hi); (try clear ho0)))
                                    go_ret
                                    exact ⟨by first | rfl | (simp [errW_none, errW_some] <;> rfl) | (simp [*, errW_none, errW_some] <;> rfl), by repeat (first | (with_reducible first | exact HB.out | apply below_alloc | apply pw_below_drewN | apply below_drew1) | exact HB.out)⟩
                                · rw [if_neg c72] at H
                                  exact absurd H (by simp)
                              · rw [if_neg c71] at H
                                exact absurd H (by simp)
                            · rw [if_neg c70] at H
                              have c70b0 : decide (x179_4 < (t321.length : Int)) = false := decide_eq_false c70
                              clear c70
                              obtain rfl := Option.some.inj H
                              go_wp2
                              go_ret
                              exact ⟨by first | rfl | (simp [errW_none, errW_some] <;> rfl) | (simp [*, errW_none, errW_some] <;> rfl), by repeat (first | (with_reducible first | exact HB.out | apply below_alloc | apply pw_below_drewN | apply below_drew1) | exact HB.out)⟩
def laws_FnOwnPowers.Pure : Prop := ∀ (l0 : List Int) (l1 : List Int), l0.length ≤ maxLen → l0.length * 1 ≤ 140737488351232 → (∀ x ∈ l0, (Lit.int .u8 x).wf = true) → l1.length ≤ maxLen → l1.length * 1 ≤ 140737488351232 → (∀ x ∈ l1, (Lit.int .u8 x).wf = true) → ∃ k, laws_FnOwnPowers.f k l0 l1 = some true
theorem laws_FnOwnPowers.walk (P : laws_FnOwnPowers.Pure) (a0 : Option Addr) (len0 cap0 : Nat) (z0 : List Int) (a1 : Option Addr) (len1 cap1 : Nat) (z1 : List Int) (w : World) (w0 : (a0 = none ∧ len0 = 0 ∧ cap0 = 0 ∧ z0 = []) ∨ ∃ x, a0 = some x ∧ len0 ≤ cap0 ∧ cap0 ≤ maxLen ∧ z0.length = cap0 ∧ (∀ i, i < z0.length → w.cell? (x.add i) = some (.int .u8 (z0.getD i 0))) ∧ ∀ n ∈ z0, (Lit.int .u8 n).wf = true) (y0 : len0 * 1 ≤ 140737488351232) (w1 : (a1 = none ∧ len1 = 0 ∧ cap1 = 0 ∧ z1 = []) ∨ ∃ x, a1 = some x ∧ len1 ≤ cap1 ∧ cap1 ≤ maxLen ∧ z1.length = cap1 ∧ (∀ i, i < z1.length → w.cell? (x.add i) = some (.int .u8 (z1.getD i 0))) ∧ ∀ n ∈ z1, (Lit.int .u8 n).wf = true) (y1 : len1 * 1 ≤ 140737488351232) :
    Calls Try.prog 7 #[.slice a0 len0 cap0, .slice a1 len1 cap1] w fun e w' => e = .returned (.bool true) ∧ Below w.heap.size w w' := by
  obtain ⟨l0, rfl, hr0, hm0, hw0, hc0⟩ := ReadsInt.ofRowC w0
  obtain ⟨l1, rfl, hr1, hm1, hw1, hc1⟩ := ReadsInt.ofRowC w1
  obtain ⟨k, h⟩ := P l0 l1 hm0 y0 hw0 hm1 y1 hw1
  refine (laws_FnOwnPowers.calls k _ _ l0 _ _ l1 true w (Kd.C_of_reads (d := (0 : Int)) (h1 := fun _ => rfl) hr0) hc0 (Kd.C_of_reads (d := (0 : Int)) (h1 := fun _ => rfl) hr1) hc1 h).mono ?_
  rintro e w' ⟨rfl, hd⟩
  exact ⟨rfl, hd⟩
end Go.Proofs.Ytehhkkbejmhcfaa.PFnOwnPowers
end
