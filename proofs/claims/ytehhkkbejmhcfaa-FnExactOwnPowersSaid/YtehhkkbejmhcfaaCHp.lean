/- Plain Lean functions: what Go functions of these statements compute, as the kit's print tells it (each function once). No conditions. -/
import Derived.Test.YtehhkkbejmhcfaaWMore
import Derived.Test.YtehhkkbejmhcfaaCPw
namespace Go.Proofs.YtehhkkbejmhcfaaC
open Go.RowKit Go.Proofs.YtehhkkbejmhcfaaW.PrintWords Go.Proofs.YtehhkkbejmhcfaaW.PrintMore
set_option linter.unusedVariables false
def pwRunF (step : Int → Option Int) : Nat → List Int → Int → Option (List Int × Int)
  | 0, _, _ => none
  | k + 1, out, n => (step n).bind fun m => if out.length < 17592186044415 then (if m ∈ out then some (out, (out.idxOf m : Int)) else pwRunF step k (out ++ [m]) m) else none
def spec_pwRun.f (k : Nat) (a0 : Int) (a1 : Int) (a2 : Int) : Option (List Int × Int) := pwRunF (fun n => spec_pwSum.f k n a1 a2) k [a0] a0
def spec_PowerTail.f (k : Nat) (a0 : Int) (a1 : Int) (a2 : Int) : Option (Int × Int × Bool) := (spec_dgAsked.f a0 a1).bind fun t107 => (if t107 = true then ((spec_pwPower.f a2 4).bind fun t108 => (if t108 = true then ((spec_pwRun.f k a0 a1 a2).bind fun bt109 => (some (bt109.2, wrap64 ((bt109.1.length : Int) - bt109.2), true))) else (some (0, 0, false)))) else (some (0, 0, false)))
def impl_isCycled.f (a0 : Int) (a1 : Int) (a2 : Int) : Option (Bool) := (impl_isNumber.f a0 a1).bind fun t116 => (if t116 = true then ((impl_in.f a2 1 4).bind fun t117 => (some t117)) else (some false))
def runF (step : Int → Option Int) : Nat → List Int → Int → Option (List Int × Int)
  | 0, _, _ => none
  | k + 1, out, n => if -9223372036854775808 ≤ n ∧ n ≤ 9223372036854775807 ∧ out.length < 17592186044415 then (if n ∈ out then some (out, (out.idxOf n : Int)) else (step n).bind fun m => runF step k (out ++ [n]) m) else none
def impl_powerRun.f (k : Nat) (a0 : Int) (a1 : Int) (a2 : Int) : Option (List Int × Int) := runF (fun n => impl_powerSum.f k n a1 a2) k [] a0
def impl_PowerTail.f (k : Nat) (a0 : Int) (a1 : Int) (a2 : Int) : Option (Int × Int × Bool) := (impl_isCycled.f a0 a1 a2).bind fun t134 => (if t134 = true then ((impl_powerRun.f k a0 a1 a2).bind fun bt135 => (some (bt135.2, wrap64 ((bt135.1.length : Int) - bt135.2), true))) else (some (0, 0, false)))
def laws_FnExactPowerTail.f (k : Nat) (a0 : Int) (a1 : Int) (a2 : Int) : Option (Bool) := (spec_PowerTail.f k a0 a1 a2).bind fun bt139 => ((impl_PowerTail.f k a0 a1 a2).bind fun bt142 => (if bt142.1 = bt139.1 then (if bt142.2.1 = bt139.2.1 then (if (bt142.2.2 != bt139.2.2) = true then (some false) else (some true)) else (some false)) else (some false)))
def laws_FnExactPowerTail.Pure : Prop := ∀ (a0 : Int) (a1 : Int) (a2 : Int), (Lit.int .i64 a0).wf = true → (Lit.int .i64 a1).wf = true → (Lit.int .i64 a2).wf = true → ∃ k, laws_FnExactPowerTail.f k a0 a1 a2 = some true
def spec_PowerRun.f (k : Nat) (a0 : Int) (a1 : Int) (a2 : Int) : Option (List Int × Bool) := (spec_dgAsked.f a0 a1).bind fun t111 => (if t111 = true then ((spec_pwPower.f a2 4).bind fun t112 => (if t112 = true then ((spec_pwRun.f k a0 a1 a2).bind fun bt113 => (some (bt113.1, true))) else (some (([] : List Int), false)))) else (some (([] : List Int), false)))
def impl_PowerRun.f (k : Nat) (a0 : Int) (a1 : Int) (a2 : Int) : Option (List Int × Bool) := (impl_isCycled.f a0 a1 a2).bind fun t138 => (if t138 = true then ((impl_powerRun.f k a0 a1 a2).bind fun bt139 => (some (bt139.1, true))) else (some (([] : List Int), false)))
mutual
def laws_FnExactPowerRun.j0 : Nat → Int → Int → Int → List Int → Bool → List Int → Bool → Option (Bool)
  | 0, _, _, _, _, _, _, _ => none
  | k + 1, x0, x1, x2, x7, x8, x9, x37 => if x37 = true then (some false) else ((laws_markIntS.f k x9 1).bind fun bt152 => ((laws_heldIntS.f k bt152.2 1).bind fun t154 => (if t154 < 0 then (some false) else (if t154 = bt152.1 then ((impl_PowerRun.f k x0 x1 x2).bind fun bt155 => ((laws_eqIntS.f k bt155.1 x7).bind fun t159 => (if t159 = true then (laws_FnExactPowerRun.j1 k bt152.2 bt152.1 (bt155.2 != x8)) else (laws_FnExactPowerRun.j1 k bt152.2 bt152.1 true)))) else (some false)))))
def laws_FnExactPowerRun.j1 : Nat → List Int → Int → Bool → Option (Bool)
  | 0, _, _, _ => none
  | k + 1, x9, x11, x64 => if x64 = true then (some false) else ((laws_heldIntS.f k x9 1).bind fun t160 => (if t160 < 0 then (some false) else (if t160 = x11 then (some true) else (some false))))
end
def laws_FnExactPowerRun.f (k : Nat) (a0 : Int) (a1 : Int) (a2 : Int) : Option (Bool) := (spec_PowerRun.f k a0 a1 a2).bind fun bt143 => ((impl_PowerRun.f k a0 a1 a2).bind fun bt147 => ((laws_eqIntS.f k bt147.1 bt143.1).bind fun t151 => (if t151 = true then (laws_FnExactPowerRun.j0 k a0 a1 a2 bt143.1 bt143.2 bt147.1 (bt147.2 != bt143.2)) else (laws_FnExactPowerRun.j0 k a0 a1 a2 bt143.1 bt143.2 bt147.1 true))))
def laws_FnExactPowerRun.Pure : Prop := ∀ (a0 : Int) (a1 : Int) (a2 : Int), (Lit.int .i64 a0).wf = true → (Lit.int .i64 a1).wf = true → (Lit.int .i64 a2).wf = true → ∃ k, laws_FnExactPowerRun.f k a0 a1 a2 = some true
def spec_l1Own.f (l0 : List Int) : Option (List Int) := (some (([] : List Int) : List Int)).bind fun y107 => (if y107.length + l0.length < 17592186044416 then (some (y107 ++ l0)) else (none))
def spec_pwTurned.l0 : Nat → List Int → Int → List Int → Int → Int → Option (List Int)
  | 0, _, _, _, _, _ => none
  | k + 1, x0, x3, x6, x7, x8 => if x8 < x7 then (if 0 ≤ x8 then (if x8 < (x6.length : Int) then (if 0 ≤ x3 then (if x3 < (x0.length : Int) then (if (rd x6 x8) < (rd x0 x3) then (spec_pwTurned.l0 k x0 x8 x6 x7 (wrap64 (x8 + 1))) else (spec_pwTurned.l0 k x0 x3 x6 x7 (wrap64 (x8 + 1)))) else (none)) else (none)) else (none)) else (none)) else (if 0 ≤ x3 then (if x3 ≤ (x0.length : Int) then ((spec_l1Own.f (x0.drop (x3 : Int).toNat)).bind fun t116 => (if t116.length + (x0.take (x3 : Int).toNat).length < 17592186044416 then (some (t116 ++ (x0.take (x3 : Int).toNat))) else (none))) else (none)) else (none))
def spec_pwTurned.f (k : Nat) (l0 : List Int) : Option (List Int) := spec_pwTurned.l0 k l0 0 l0 (l0.length : Int) 0
def spec_pwEnds.f (k : Nat) (a0 : Int) (a1 : Int) (a2 : Int) : Option (Int) := (spec_pwRun.f k a0 a1 a2).bind fun bt123 => (if 0 ≤ bt123.2 then (if bt123.2 ≤ (bt123.1.length : Int) then ((spec_pwTurned.f k (bt123.1.drop (bt123.2 : Int).toNat)).bind fun t131 => (if 0 < (t131.length : Int) then (some (rd t131 0)) else (none))) else (none)) else (none))
def spec_EndsIn.f (k : Nat) (a0 : Int) (a1 : Int) (a2 : Int) : Option (Int × Bool) := (spec_dgAsked.f a0 a1).bind fun t135 => (if t135 = true then ((spec_pwPower.f a2 4).bind fun t136 => (if t136 = true then ((spec_pwEnds.f k a0 a1 a2).bind fun t137 => (some (t137, true))) else (some (0, false)))) else (some (0, false)))
def slices_Min_int_int.l0 : Nat → List Int → Int → Int → Option (Int)
  | 0, _, _, _ => none
  | k + 1, x0, x3, x4 => if x4 < (x0.length : Int) then (if 0 ≤ x4 then (slices_Min_int_int.l0 k x0 (mn x3 (rd x0 x4)) (wrap64 (x4 + 1))) else (none)) else (some x3)
def slices_Min_int_int.f (k : Nat) (l0 : List Int) : Option (Int) := if (l0.length : Int) < 1 then (none) else (if 0 < (l0.length : Int) then (slices_Min_int_int.l0 k l0 (rd l0 0) 1) else (none))
def impl_EndsIn.f (k : Nat) (a0 : Int) (a1 : Int) (a2 : Int) : Option (Int × Bool) := (impl_isCycled.f a0 a1 a2).bind fun t161 => (if t161 = true then ((impl_powerRun.f k a0 a1 a2).bind fun bt162 => (if 0 ≤ bt162.2 then (if bt162.2 ≤ (bt162.1.length : Int) then ((slices_Min_int_int.f k (bt162.1.drop (bt162.2 : Int).toNat)).bind fun t170 => (some (t170, true))) else (none)) else (none))) else (some (0, false)))
def laws_FnExactEndsIn.f (k : Nat) (a0 : Int) (a1 : Int) (a2 : Int) : Option (Bool) := (spec_EndsIn.f k a0 a1 a2).bind fun bt171 => ((impl_EndsIn.f k a0 a1 a2).bind fun bt173 => (if bt173.1 = bt171.1 then (if (bt173.2 != bt171.2) = true then (some false) else (some true)) else (some false)))
def laws_FnExactEndsIn.Pure : Prop := ∀ (a0 : Int) (a1 : Int) (a2 : Int), (Lit.int .i64 a0).wf = true → (Lit.int .i64 a1).wf = true → (Lit.int .i64 a2).wf = true → ∃ k, laws_FnExactEndsIn.f k a0 a1 a2 = some true
def spec_pwHappy.f (k : Nat) (a0 : Int) (a1 : Int) : Option (Bool) := if a0 > 0 then ((spec_pwEnds.f k a0 a1 2).bind fun t134 => (some (t134 == 1))) else (some false)
def spec_IsHappy.f (k : Nat) (a0 : Int) (a1 : Int) : Option (Bool × Bool) := (spec_dgAsked.f a0 a1).bind fun t135 => (if t135 = true then ((spec_pwHappy.f k a0 a1).bind fun t136 => (some (t136, true))) else (some (false, false)))
def impl_isHappy.f (k : Nat) (a0 : Int) (a1 : Int) : Option (Bool) := (impl_powerRun.f k a0 a1 2).bind fun bt158 => ((slices_Contains_int_int.f k bt158.1 1).bind fun t162 => (some t162))
def impl_IsHappy.f (k : Nat) (a0 : Int) (a1 : Int) : Option (Bool × Bool) := (impl_isNumber.f a0 a1).bind fun t163 => (if t163 = true then ((impl_isHappy.f k a0 a1).bind fun t164 => (some (t164, true))) else (some (false, false)))
def laws_FnExactIsHappy.f (k : Nat) (a0 : Int) (a1 : Int) : Option (Bool) := (spec_IsHappy.f k a0 a1).bind fun bt165 => ((impl_IsHappy.f k a0 a1).bind fun bt167 => (if (bt167.1 != bt165.1) = true then (some false) else (if (bt167.2 != bt165.2) = true then (some false) else (some true))))
def laws_FnExactIsHappy.Pure : Prop := ∀ (a0 : Int) (a1 : Int), (Lit.int .i64 a0).wf = true → (Lit.int .i64 a1).wf = true → ∃ k, laws_FnExactIsHappy.f k a0 a1 = some true
mutual
def spec_HappyUpTo.j0 : Nat → Int → Int → Bool → Option (List Int × Bool)
  | 0, _, _, _ => none
  | k + 1, x0, x1, x15 => if x15 = true then (some (([] : List Int), false)) else (spec_HappyUpTo.l0 k x0 x1 ([] : List Int) 1)
def spec_HappyUpTo.l0 : Nat → Int → Int → List Int → Int → Option (List Int × Bool)
  | 0, _, _, _, _ => none
  | k + 1, x0, x1, x6, x7 => if x7 ≤ x0 then ((spec_pwHappy.f k x7 x1).bind fun t138 => (if t138 = true then (if x6.length < 17592186044416 then (spec_HappyUpTo.l0 k x0 x1 (x6 ++ [x7]) (wrap64 (x7 + 1))) else (none)) else (spec_HappyUpTo.l0 k x0 x1 x6 (wrap64 (x7 + 1))))) else (some (x6, true))
end
def spec_HappyUpTo.f (k : Nat) (a0 : Int) (a1 : Int) : Option (List Int × Bool) := (spec_l1In.f a0 0 2000).bind fun t136 => (if t136 = true then ((spec_dgBase.f a1).bind fun t137 => (spec_HappyUpTo.j0 k a0 a1 (!t137))) else (spec_HappyUpTo.j0 k a0 a1 true))
mutual
def impl_HappyUpTo.j0 : Nat → Int → Int → Bool → Option (List Int × Bool)
  | 0, _, _, _ => none
  | k + 1, x0, x1, x15 => if x15 = true then (some (([] : List Int), false)) else (impl_HappyUpTo.l0 k x0 x1 (([] : List Int)) 1)
def impl_HappyUpTo.l0 : Nat → Int → Int → List Int → Int → Option (List Int × Bool)
  | 0, _, _, _, _ => none
  | k + 1, x0, x1, x6, x7 => if x7 ≤ x0 then ((impl_isHappy.f k x7 x1).bind fun t171 => (if t171 = true then (if x6.length < 17592186044416 then (impl_HappyUpTo.l0 k x0 x1 (x6 ++ [x7]) (wrap64 (x7 + 1))) else (none)) else (impl_HappyUpTo.l0 k x0 x1 x6 (wrap64 (x7 + 1))))) else (some (x6, true))
end
def impl_HappyUpTo.f (k : Nat) (a0 : Int) (a1 : Int) : Option (List Int × Bool) := (impl_isBase.f a1).bind fun t166 => (if t166 = true then ((impl_in.f a0 0 2000).bind fun t167 => (impl_HappyUpTo.j0 k a0 a1 (!t167))) else (impl_HappyUpTo.j0 k a0 a1 true))
mutual
def laws_FnExactHappyUpTo.j0 : Nat → Int → Int → List Int → Bool → List Int → Bool → Option (Bool)
  | 0, _, _, _, _, _, _ => none
  | k + 1, x0, x1, x5, x6, x7, x33 => if x33 = true then (some false) else ((laws_markIntS.f k x7 1).bind fun bt184 => ((laws_heldIntS.f k bt184.2 1).bind fun t186 => (if t186 < 0 then (some false) else (if t186 = bt184.1 then ((impl_HappyUpTo.f k x0 x1).bind fun bt187 => ((laws_eqIntS.f k bt187.1 x5).bind fun t191 => (if t191 = true then (laws_FnExactHappyUpTo.j1 k bt184.2 bt184.1 (bt187.2 != x6)) else (laws_FnExactHappyUpTo.j1 k bt184.2 bt184.1 true)))) else (some false)))))
def laws_FnExactHappyUpTo.j1 : Nat → List Int → Int → Bool → Option (Bool)
  | 0, _, _, _ => none
  | k + 1, x7, x9, x59 => if x59 = true then (some false) else ((laws_heldIntS.f k x7 1).bind fun t192 => (if t192 < 0 then (some false) else (if t192 = x9 then (some true) else (some false))))
end
def laws_FnExactHappyUpTo.f (k : Nat) (a0 : Int) (a1 : Int) : Option (Bool) := (spec_HappyUpTo.f k a0 a1).bind fun bt175 => ((impl_HappyUpTo.f k a0 a1).bind fun bt179 => ((laws_eqIntS.f k bt179.1 bt175.1).bind fun t183 => (if t183 = true then (laws_FnExactHappyUpTo.j0 k a0 a1 bt175.1 bt175.2 bt179.1 (bt179.2 != bt175.2)) else (laws_FnExactHappyUpTo.j0 k a0 a1 bt175.1 bt175.2 bt179.1 true))))
def laws_FnExactHappyUpTo.Pure : Prop := ∀ (a0 : Int) (a1 : Int), (Lit.int .i64 a0).wf = true → (Lit.int .i64 a1).wf = true → ∃ k, laws_FnExactHappyUpTo.f k a0 a1 = some true
def spec_CountHappy.l0 : Nat → Int → Int → List Int → Int → Int → Option (Int × Bool)
  | 0, _, _, _, _, _ => none
  | k + 1, x1, x6, x15, x16, x17 => if x17 < x16 then (if 0 ≤ x17 then (if x17 < (x15.length : Int) then ((spec_pwHappy.f k x17 x1).bind fun t148 => (if t148 = true then (spec_CountHappy.l0 k x1 (wrap64 (x6 + (rd x15 x17))) x15 x16 (wrap64 (x17 + 1))) else (spec_CountHappy.l0 k x1 x6 x15 x16 (wrap64 (x17 + 1))))) else (none)) else (none)) else (some (x6, true))
def spec_CountHappy.f (k : Nat) (a0 : Int) (a1 : Int) : Option (Int × Bool) := (spec_pwSpreadAsked.f a0 a1).bind fun t143 => (if t143 = true then ((spec_pwSpread.f k a0 a1).bind fun t144 => (spec_CountHappy.l0 k a1 0 t144 (t144.length : Int) 0)) else (some (0, false)))
mutual
def impl_CountHappy.j0 : Nat → Int → Int → Bool → Option (Int × Bool)
  | 0, _, _, _ => none
  | k + 1, x0, x1, x16 => if x16 = true then (some (0, false)) else ((impl_spread.f k x0 x1).bind fun t184 => (impl_CountHappy.l0 k x1 0 t184 (t184.length : Int) 0))
def impl_CountHappy.l0 : Nat → Int → Int → List Int → Int → Int → Option (Int × Bool)
  | 0, _, _, _, _, _ => none
  | k + 1, x1, x6, x19, x20, x21 => if x21 < x20 then (if 0 ≤ x21 then (if x21 < (x19.length : Int) then (if (rd x19 x21) > 0 then ((impl_isHappy.f k x21 x1).bind fun t188 => (if t188 = true then (impl_CountHappy.l0 k x1 (wrap64 (x6 + (rd x19 x21))) x19 x20 (wrap64 (x21 + 1))) else (impl_CountHappy.l0 k x1 x6 x19 x20 (wrap64 (x21 + 1))))) else (impl_CountHappy.l0 k x1 x6 x19 x20 (wrap64 (x21 + 1)))) else (none)) else (none)) else (some (x6, true))
end
def impl_CountHappy.f (k : Nat) (a0 : Int) (a1 : Int) : Option (Int × Bool) := (impl_isSmallBase.f a1).bind fun t182 => (if t182 = true then ((impl_in.f a0 0 12).bind fun t183 => (impl_CountHappy.j0 k a0 a1 (!t183))) else (impl_CountHappy.j0 k a0 a1 true))
def laws_FnExactCountHappy.f (k : Nat) (a0 : Int) (a1 : Int) : Option (Bool) := (spec_CountHappy.f k a0 a1).bind fun bt189 => ((impl_CountHappy.f k a0 a1).bind fun bt191 => (if bt191.1 = bt189.1 then (if (bt191.2 != bt189.2) = true then (some false) else (some true)) else (some false)))
def laws_FnExactCountHappy.Pure : Prop := ∀ (a0 : Int) (a1 : Int), (Lit.int .i64 a0).wf = true → (Lit.int .i64 a1).wf = true → ∃ k, laws_FnExactCountHappy.f k a0 a1 = some true

end Go.Proofs.YtehhkkbejmhcfaaC
