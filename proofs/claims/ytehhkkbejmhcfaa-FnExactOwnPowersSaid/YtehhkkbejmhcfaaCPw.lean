/- Plain Lean functions: what Go functions of these statements compute, as the kit's print tells it (each function once). No conditions. -/
import Derived.Test.YtehhkkbejmhcfaaWMore
import Derived.Test.YtehhkkbejmhcfaaCMp
namespace Go.Proofs.YtehhkkbejmhcfaaC
open Go.RowKit Go.Proofs.YtehhkkbejmhcfaaW.PrintWords Go.Proofs.YtehhkkbejmhcfaaW.PrintMore
set_option linter.unusedVariables false
def spec_pwPower.f (a0 : Int) (a1 : Int) : Option (Bool) := (spec_l1In.f a0 1 a1).bind fun t101 => (some t101)
def spec_pwOf.l0 : Nat → Int → Int → Int → Option (Int)
  | 0, _, _, _ => none
  | k + 1, x0, x1, x5 => if x1 > 0 then (spec_pwOf.l0 k x0 (wrap64 (x1 - 1)) (wrap64 (x5 * x0))) else (some x5)
def spec_pwOf.f (k : Nat) (a0 : Int) (a1 : Int) : Option (Int) := spec_pwOf.l0 k a0 a1 1
def spec_pwSum.l0 : Nat → Int → Int → Int → Int → Option (Int)
  | 0, _, _, _, _ => none
  | k + 1, x0, x1, x2, x7 => if x0 > 0 then (if x1 = 0 then (none) else ((spec_pwOf.f k (Int.tmod x0 x1) x2).bind fun t106 => (spec_pwSum.l0 k (wrap64 (Int.tdiv x0 x1)) x1 x2 (wrap64 (x7 + t106))))) else (some x7)
def spec_pwSum.f (k : Nat) (a0 : Int) (a1 : Int) (a2 : Int) : Option (Int) := spec_pwSum.l0 k a0 a1 a2 0
def spec_PowerSum.f (k : Nat) (a0 : Int) (a1 : Int) (a2 : Int) : Option (Int × Bool) := (spec_dgAsked.f a0 a1).bind fun t107 => (if t107 = true then ((spec_pwPower.f a2 8).bind fun t108 => (if t108 = true then ((spec_pwSum.f k a0 a1 a2).bind fun t109 => (some (t109, true))) else (some (0, false)))) else (some (0, false)))
def impl_isPower.f (a0 : Int) : Option (Bool) := (impl_in.f a0 1 8).bind fun t110 => (some t110)
def impl_toPower.l0 : Nat → Int → Int → Int → Int → Option (Int)
  | 0, _, _, _, _ => none
  | k + 1, x0, x5, x6, x7 => if x7 < x6 then (impl_toPower.l0 k x0 (wrap64 (x5 * x0)) x6 (wrap64 (x7 + 1))) else (some x5)
def impl_toPower.f (k : Nat) (a0 : Int) (a1 : Int) : Option (Int) := impl_toPower.l0 k a0 1 a1 0
def impl_powerSum.l0 : Nat → Int → Int → List Int → Int → Int → Option (Int)
  | 0, _, _, _, _, _ => none
  | k + 1, x2, x7, x12, x13, x14 => if x14 < x13 then (if 0 ≤ x14 then (if x14 < (x12.length : Int) then ((impl_toPower.f k (rd x12 x14) x2).bind fun t129 => (impl_powerSum.l0 k x2 (wrap64 (x7 + t129)) x12 x13 (wrap64 (x14 + 1)))) else (none)) else (none)) else (some x7)
def impl_powerSum.f (k : Nat) (a0 : Int) (a1 : Int) (a2 : Int) : Option (Int) := (impl_digitsOf.f k a0 a1).bind fun t125 => (impl_powerSum.l0 k a2 0 t125 (t125.length : Int) 0)
def impl_PowerSum.f (k : Nat) (a0 : Int) (a1 : Int) (a2 : Int) : Option (Int × Bool) := (impl_isNumber.f a0 a1).bind fun t130 => (if t130 = true then ((impl_isPower.f a2).bind fun t131 => (if t131 = true then ((impl_powerSum.f k a0 a1 a2).bind fun t132 => (some (t132, true))) else (some (0, false)))) else (some (0, false)))
def laws_FnExactPowerSum.f (k : Nat) (a0 : Int) (a1 : Int) (a2 : Int) : Option (Bool) := (spec_PowerSum.f k a0 a1 a2).bind fun bt133 => ((impl_PowerSum.f k a0 a1 a2).bind fun bt135 => (if bt135.1 = bt133.1 then (if (bt135.2 != bt133.2) = true then (some false) else (some true)) else (some false)))
def laws_FnExactPowerSum.Pure : Prop := ∀ (a0 : Int) (a1 : Int) (a2 : Int), (Lit.int .i64 a0).wf = true → (Lit.int .i64 a1).wf = true → (Lit.int .i64 a2).wf = true → ∃ k, laws_FnExactPowerSum.f k a0 a1 a2 = some true
def spec_pwLimited.l0 : Nat → Int → Int → Int → Option (Int)
  | 0, _, _, _ => none
  | k + 1, x0, x1, x5 => if x1 > 0 then (if x0 = 0 then (none) else (if x5 > (wrap64 (Int.tdiv (1000000000000000000 : Int) x0)) then (some 1000000000000000000) else (spec_pwLimited.l0 k x0 (wrap64 (x1 - 1)) (wrap64 (x5 * x0))))) else (some x5)
def spec_pwLimited.f (k : Nat) (a0 : Int) (a1 : Int) : Option (Int) := spec_pwLimited.l0 k a0 a1 1
def spec_pwFalls.l0 : Nat → Int → Int → Int → Int → Option (Int)
  | 0, _, _, _, _ => none
  | k + 1, x0, x1, x5, x6 => if x6 ≤ 40 then ((spec_pwOf.f k (wrap64 (x0 - 1)) x1).bind fun t103 => ((spec_pwLimited.f k x0 (wrap64 (x6 - 1))).bind fun t104 => (if (wrap64 (x6 * t103)) ≥ t104 then (spec_pwFalls.l0 k x0 x1 (wrap64 (x6 + 1)) (wrap64 (x6 + 1))) else (spec_pwFalls.l0 k x0 x1 x5 (wrap64 (x6 + 1)))))) else (some x5)
def spec_pwFalls.f (k : Nat) (a0 : Int) (a1 : Int) : Option (Int) := spec_pwFalls.l0 k a0 a1 1 1
def spec_FallsFrom.f (k : Nat) (a0 : Int) (a1 : Int) : Option (Int × Bool) := (spec_dgBase.f a0).bind fun t105 => (if t105 = true then ((spec_pwPower.f a1 8).bind fun t106 => (if t106 = true then ((spec_pwFalls.f k a0 a1).bind fun t107 => (some (t107, true))) else (some (0, false)))) else (some (0, false)))
def impl_fallsFrom.l0 : Nat → Int → Int → Int → Option (Int)
  | 0, _, _, _ => none
  | k + 1, x0, x1, x5 => (impl_toPower.f k (wrap64 (x0 - 1)) x1).bind fun t110 => ((impl_toPower.f k x0 (wrap64 (x5 - 1))).bind fun t111 => (if (wrap64 (x5 * t110)) ≥ t111 then (impl_fallsFrom.l0 k x0 x1 (wrap64 (x5 + 1))) else (some x5)))
def impl_fallsFrom.f (k : Nat) (a0 : Int) (a1 : Int) : Option (Int) := impl_fallsFrom.l0 k a0 a1 1
def impl_FallsFrom.f (k : Nat) (a0 : Int) (a1 : Int) : Option (Int × Bool) := (impl_isBase.f a0).bind fun t112 => (if t112 = true then ((impl_isPower.f a1).bind fun t113 => (if t113 = true then ((impl_fallsFrom.f k a0 a1).bind fun t114 => (some (t114, true))) else (some (0, false)))) else (some (0, false)))
def laws_FnExactFallsFrom.f (k : Nat) (a0 : Int) (a1 : Int) : Option (Bool) := (spec_FallsFrom.f k a0 a1).bind fun bt115 => ((impl_FallsFrom.f k a0 a1).bind fun bt117 => (if bt117.1 = bt115.1 then (if (bt117.2 != bt115.2) = true then (some false) else (some true)) else (some false)))
def laws_FnExactFallsFrom.Pure : Prop := ∀ (a0 : Int) (a1 : Int), (Lit.int .i64 a0).wf = true → (Lit.int .i64 a1).wf = true → ∃ k, laws_FnExactFallsFrom.f k a0 a1 = some true
def spec_pwGreatest.f (k : Nat) (a0 : Int) (a1 : Int) : Option (Int) := (spec_pwFalls.f k a0 a1).bind fun t105 => ((spec_pwOf.f k (wrap64 (a0 - 1)) a1).bind fun t106 => (some (wrap64 ((wrap64 (t105 - 1)) * t106))))
def spec_GreatestSum.f (k : Nat) (a0 : Int) (a1 : Int) : Option (Int × Bool) := (spec_dgBase.f a0).bind fun t107 => (if t107 = true then ((spec_pwPower.f a1 8).bind fun t108 => (if t108 = true then ((spec_pwGreatest.f k a0 a1).bind fun t109 => (some (t109, true))) else (some (0, false)))) else (some (0, false)))
def impl_greatest.f (k : Nat) (a0 : Int) (a1 : Int) : Option (Int) := (impl_fallsFrom.f k a0 a1).bind fun t114 => ((impl_toPower.f k (wrap64 (a0 - 1)) a1).bind fun t115 => (some (wrap64 ((wrap64 (t114 - 1)) * t115))))
def impl_GreatestSum.f (k : Nat) (a0 : Int) (a1 : Int) : Option (Int × Bool) := (impl_isBase.f a0).bind fun t116 => (if t116 = true then ((impl_isPower.f a1).bind fun t117 => (if t117 = true then ((impl_greatest.f k a0 a1).bind fun t118 => (some (t118, true))) else (some (0, false)))) else (some (0, false)))
def laws_FnExactGreatestSum.f (k : Nat) (a0 : Int) (a1 : Int) : Option (Bool) := (spec_GreatestSum.f k a0 a1).bind fun bt119 => ((impl_GreatestSum.f k a0 a1).bind fun bt121 => (if bt121.1 = bt119.1 then (if (bt121.2 != bt119.2) = true then (some false) else (some true)) else (some false)))
def laws_FnExactGreatestSum.Pure : Prop := ∀ (a0 : Int) (a1 : Int), (Lit.int .i64 a0).wf = true → (Lit.int .i64 a1).wf = true → ∃ k, laws_FnExactGreatestSum.f k a0 a1 = some true
def spec_pwSpreadAsked.f (a0 : Int) (a1 : Int) : Option (Bool) := (spec_l1In.f a0 0 12).bind fun t101 => (if t101 = true then ((spec_l1In.f a1 2 10).bind fun t102 => (some t102)) else (some false))
mutual
def spec_pwSpread.l0 : Nat → Int → Int → List Int → Int → Option (List Int)
  | 0, _, _, _, _ => none
  | k + 1, x0, x1, x5, x6 => if x6 < x0 then (if 0 ≤ (x5.length : Int) then (if ((x5.length : Int) : Int).toNat ≤ 35184372088832 then (spec_pwSpread.l1 k x0 x1 x6 (List.replicate ((x5.length : Int) : Int).toNat 0) x5 (x5.length : Int) 0) else (none)) else (none)) else (some x5)
def spec_pwSpread.l1 : Nat → Int → Int → Int → List Int → List Int → Int → Int → Option (List Int)
  | 0, _, _, _, _, _, _, _ => none
  | k + 1, x0, x1, x6, x7, x30, x31, x32 => if x32 < x31 then (if 0 ≤ x32 then (if x32 < (x30.length : Int) then (spec_pwSpread.l2 k x0 x1 x6 x7 x32 (rd x30 x32) 0 x30 x31 x32) else (none)) else (none)) else (spec_pwSpread.l0 k x0 x1 x7 (wrap64 (x6 + 1)))
def spec_pwSpread.l2 : Nat → Int → Int → Int → List Int → Int → Int → Int → List Int → Int → Int → Option (List Int)
  | 0, _, _, _, _, _, _, _, _, _, _ => none
  | k + 1, x0, x1, x6, x7, x8, x9, x10, x30, x31, x32 => if x9 > 0 then (if x10 < x1 then (if 0 ≤ (wrap64 (x8 + (wrap64 (x10 * x10)))) then (if (wrap64 (x8 + (wrap64 (x10 * x10)))) < (x7.length : Int) then (spec_pwSpread.l2 k x0 x1 x6 (x7.set ((wrap64 (x8 + (wrap64 (x10 * x10)))) : Int).toNat (wrap64 ((rd x7 (wrap64 (x8 + (wrap64 (x10 * x10))))) + x9))) x8 x9 (wrap64 (x10 + 1)) x30 x31 x32) else (none)) else (none)) else (spec_pwSpread.l1 k x0 x1 x6 x7 x30 x31 (wrap64 (x32 + 1)))) else (spec_pwSpread.l1 k x0 x1 x6 x7 x30 x31 (wrap64 (x32 + 1)))
end
def spec_pwSpread.f (k : Nat) (a0 : Int) (a1 : Int) : Option (List Int) := if 0 ≤ (wrap64 ((wrap64 ((wrap64 (a0 * (wrap64 (a1 - 1)))) * (wrap64 (a1 - 1)))) + 1)) then (if (wrap64 ((wrap64 ((wrap64 (a0 * (wrap64 (a1 - 1)))) * (wrap64 (a1 - 1)))) + 1) : Int).toNat ≤ 35184372088832 then ((some (List.replicate (wrap64 ((wrap64 ((wrap64 (a0 * (wrap64 (a1 - 1)))) * (wrap64 (a1 - 1)))) + 1) : Int).toNat 0 : List Int)).bind fun y103 => (if 0 < (y103.length : Int) then (spec_pwSpread.l0 k a0 a1 (y103.set (0 : Int).toNat 1) 0) else (none))) else (none)) else (none)
def spec_SumsSpread.f (k : Nat) (a0 : Int) (a1 : Int) : Option (List Int × Bool) := (spec_pwSpreadAsked.f a0 a1).bind fun t113 => (if t113 = true then ((spec_pwSpread.f k a0 a1).bind fun t114 => (some (t114, true))) else (some (([] : List Int), false)))
def impl_isSmallBase.f (a0 : Int) : Option (Bool) := (impl_in.f a0 2 10).bind fun t117 => (some t117)
mutual
def impl_spread.l0 : Nat → Int → List Int → Int → Int → Option (List Int)
  | 0, _, _, _, _ => none
  | k + 1, x1, x5, x11, x12 => if x12 < x11 then (if 0 ≤ (wrap64 ((x5.length : Int) + (wrap64 ((wrap64 (x1 - 1)) * (wrap64 (x1 - 1)))))) then (if (wrap64 ((x5.length : Int) + (wrap64 ((wrap64 (x1 - 1)) * (wrap64 (x1 - 1))))) : Int).toNat ≤ 35184372088832 then (impl_spread.l1 k x1 (List.replicate (wrap64 ((x5.length : Int) + (wrap64 ((wrap64 (x1 - 1)) * (wrap64 (x1 - 1))))) : Int).toNat 0) x11 x12 x5 (x5.length : Int) 0) else (none)) else (none)) else (some x5)
def impl_spread.l1 : Nat → Int → List Int → Int → Int → List Int → Int → Int → Option (List Int)
  | 0, _, _, _, _, _, _, _ => none
  | k + 1, x1, x6, x11, x12, x23, x24, x25 => if x25 < x24 then (if 0 ≤ x25 then (if x25 < (x23.length : Int) then (impl_spread.l2 k x1 x6 x25 (rd x23 x25) x11 x12 x23 x24 x25 x1 0) else (none)) else (none)) else (impl_spread.l0 k x1 x6 x11 (wrap64 (x12 + 1)))
def impl_spread.l2 : Nat → Int → List Int → Int → Int → Int → Int → List Int → Int → Int → Int → Int → Option (List Int)
  | 0, _, _, _, _, _, _, _, _, _, _, _ => none
  | k + 1, x1, x6, x7, x8, x11, x12, x23, x24, x25, x30, x31 => if x31 < x30 then (if 0 ≤ (wrap64 (x7 + (wrap64 (x31 * x31)))) then (if (wrap64 (x7 + (wrap64 (x31 * x31)))) < (x6.length : Int) then (impl_spread.l2 k x1 (x6.set ((wrap64 (x7 + (wrap64 (x31 * x31)))) : Int).toNat (wrap64 ((rd x6 (wrap64 (x7 + (wrap64 (x31 * x31))))) + x8))) x7 x8 x11 x12 x23 x24 x25 x30 (wrap64 (x31 + 1))) else (none)) else (none)) else (impl_spread.l1 k x1 x6 x11 x12 x23 x24 (wrap64 (x25 + 1)))
end
def impl_spread.f (k : Nat) (a0 : Int) (a1 : Int) : Option (List Int) := impl_spread.l0 k a1 (([1] : List Int)) a0 0
def impl_SumsSpread.f (k : Nat) (a0 : Int) (a1 : Int) : Option (List Int × Bool) := (impl_isSmallBase.f a1).bind fun t127 => (if t127 = true then ((impl_in.f a0 0 12).bind fun t128 => (if t128 = true then ((impl_spread.f k a0 a1).bind fun t129 => (some (t129, true))) else (some (([] : List Int), false)))) else (some (([] : List Int), false)))
mutual
def laws_FnExactSumsSpread.j0 : Nat → Int → Int → List Int → Bool → List Int → Bool → Option (Bool)
  | 0, _, _, _, _, _, _ => none
  | k + 1, x0, x1, x5, x6, x7, x33 => if x33 = true then (some false) else ((laws_markIntS.f k x7 1).bind fun bt145 => ((laws_heldIntS.f k bt145.2 1).bind fun t147 => (if t147 < 0 then (some false) else (if t147 = bt145.1 then ((impl_SumsSpread.f k x0 x1).bind fun bt148 => ((laws_eqIntS.f k bt148.1 x5).bind fun t152 => (if t152 = true then (laws_FnExactSumsSpread.j1 k bt145.2 bt145.1 (bt148.2 != x6)) else (laws_FnExactSumsSpread.j1 k bt145.2 bt145.1 true)))) else (some false)))))
def laws_FnExactSumsSpread.j1 : Nat → List Int → Int → Bool → Option (Bool)
  | 0, _, _, _ => none
  | k + 1, x7, x9, x59 => if x59 = true then (some false) else ((laws_heldIntS.f k x7 1).bind fun t153 => (if t153 < 0 then (some false) else (if t153 = x9 then (some true) else (some false))))
end
def laws_FnExactSumsSpread.f (k : Nat) (a0 : Int) (a1 : Int) : Option (Bool) := (spec_SumsSpread.f k a0 a1).bind fun bt136 => ((impl_SumsSpread.f k a0 a1).bind fun bt140 => ((laws_eqIntS.f k bt140.1 bt136.1).bind fun t144 => (if t144 = true then (laws_FnExactSumsSpread.j0 k a0 a1 bt136.1 bt136.2 bt140.1 (bt140.2 != bt136.2)) else (laws_FnExactSumsSpread.j0 k a0 a1 bt136.1 bt136.2 bt140.1 true))))
def laws_FnExactSumsSpread.Pure : Prop := ∀ (a0 : Int) (a1 : Int), (Lit.int .i64 a0).wf = true → (Lit.int .i64 a1).wf = true → ∃ k, laws_FnExactSumsSpread.f k a0 a1 = some true
def spec_l1Least.f (a0 : Int) (a1 : Int) : Option (Int) := if a0 < a1 then (some a0) else (some a1)
mutual
def spec_LeastWithSum.j0 : Nat → Int → Int → Int → Bool → Option (Int × Bool)
  | 0, _, _, _, _ => none
  | k + 1, x0, x1, x2, x26 => if x26 = true then (some (0, false)) else (spec_LeastWithSum.l0 k x0 x1 x2 (([0] : List Int)) 1)
def spec_LeastWithSum.l0 : Nat → Int → Int → Int → List Int → Int → Option (Int × Bool)
  | 0, _, _, _, _, _ => none
  | k + 1, x0, x1, x2, x8, x9 => if x9 ≤ x0 then (spec_LeastWithSum.l1 k x0 x1 x2 x8 x9 1000000 1) else (if 0 ≤ x0 then (if x0 < (x8.length : Int) then (if (rd x8 x0) > 40 then (some (0, false)) else (spec_LeastWithSum.l2 k x0 x1 x2 x8 0)) else (none)) else (none))
def spec_LeastWithSum.l1 : Nat → Int → Int → Int → List Int → Int → Int → Int → Option (Int × Bool)
  | 0, _, _, _, _, _, _, _ => none
  | k + 1, x0, x1, x2, x8, x9, x10, x11 => if x11 < x1 then ((spec_pwOf.f k x11 x2).bind fun t109 => (spec_LeastWithSum.j3 k x0 x1 x2 x8 x9 x10 x11 (decide (t109 ≤ x9)))) else (spec_LeastWithSum.j3 k x0 x1 x2 x8 x9 x10 x11 false)
def spec_LeastWithSum.j3 : Nat → Int → Int → Int → List Int → Int → Int → Int → Bool → Option (Int × Bool)
  | 0, _, _, _, _, _, _, _, _ => none
  | k + 1, x0, x1, x2, x8, x9, x10, x11, x42 => if x42 = true then ((spec_pwOf.f k x11 x2).bind fun t110 => (if 0 ≤ (wrap64 (x9 - t110)) then (if (wrap64 (x9 - t110)) < (x8.length : Int) then ((spec_l1Least.f x10 (wrap64 (1 + (rd x8 (wrap64 (x9 - t110)))))).bind fun t112 => (spec_LeastWithSum.l1 k x0 x1 x2 x8 x9 t112 (wrap64 (x11 + 1)))) else (none)) else (none))) else (if x8.length < 17592186044416 then (spec_LeastWithSum.l0 k x0 x1 x2 (x8 ++ [x10]) (wrap64 (x9 + 1))) else (none))
def spec_LeastWithSum.l2 : Nat → Int → Int → Int → List Int → Int → Option (Int × Bool)
  | 0, _, _, _, _, _ => none
  | k + 1, x0, x1, x2, x8, x12 => if x0 > 0 then (spec_LeastWithSum.l3 k x0 x1 x2 x8 x12 1) else (some (x12, true))
def spec_LeastWithSum.l3 : Nat → Int → Int → Int → List Int → Int → Int → Option (Int × Bool)
  | 0, _, _, _, _, _, _ => none
  | k + 1, x0, x1, x2, x8, x12, x13 => (spec_pwOf.f k x13 x2).bind fun t117 => (if 0 ≤ (wrap64 (x0 - t117)) then (if (wrap64 (x0 - t117)) < (x8.length : Int) then (if 0 ≤ x0 then (if x0 < (x8.length : Int) then (if (rd x8 (wrap64 (x0 - t117))) = (wrap64 ((rd x8 x0) - 1)) then (if (wrap64 ((wrap64 (x12 * x1)) + x13)) > 1000000000000 then (some (0, false)) else ((spec_pwOf.f k x13 x2).bind fun t120 => (spec_LeastWithSum.l2 k (wrap64 (x0 - t120)) x1 x2 x8 (wrap64 ((wrap64 (x12 * x1)) + x13))))) else (spec_LeastWithSum.l3 k x0 x1 x2 x8 x12 (wrap64 (x13 + 1)))) else (none)) else (none)) else (none)) else (none))
end
def spec_LeastWithSum.f (k : Nat) (a0 : Int) (a1 : Int) (a2 : Int) : Option (Int × Bool) := (spec_l1In.f a0 0 2000).bind fun t103 => (if t103 = true then ((spec_dgBase.f a1).bind fun t104 => (if t104 = true then ((spec_pwPower.f a2 8).bind fun t105 => (spec_LeastWithSum.j0 k a0 a1 a2 (!t105))) else (spec_LeastWithSum.j0 k a0 a1 a2 true))) else (spec_LeastWithSum.j0 k a0 a1 a2 true))
mutual
def impl_LeastWithSum.j0 : Nat → Int → Int → Int → Bool → Option (Int × Bool)
  | 0, _, _, _, _ => none
  | k + 1, x0, x1, x2, x26 => if x26 = true then (some (0, false)) else (if 0 ≤ (wrap64 (x0 + 1)) then (if (wrap64 (x0 + 1) : Int).toNat ≤ 35184372088832 then (impl_LeastWithSum.l0 k x0 x1 x2 (List.replicate (wrap64 (x0 + 1) : Int).toNat 0) 1) else (none)) else (none))
def impl_LeastWithSum.l0 : Nat → Int → Int → Int → List Int → Int → Option (Int × Bool)
  | 0, _, _, _, _, _ => none
  | k + 1, x0, x1, x2, x8, x9 => if x9 ≤ x0 then (if 0 ≤ x9 then (if x9 < (x8.length : Int) then (impl_LeastWithSum.l1 k x0 x1 x2 (x8.set (x9 : Int).toNat x9) x9 2) else (none)) else (none)) else (impl_LeastWithSum.l2 k x1 x2 x8 (([] : List Int)) x0)
def impl_LeastWithSum.l1 : Nat → Int → Int → Int → List Int → Int → Int → Option (Int × Bool)
  | 0, _, _, _, _, _, _ => none
  | k + 1, x0, x1, x2, x8, x9, x10 => if x10 < x1 then ((impl_toPower.f k x10 x2).bind fun t131 => (if t131 ≤ x9 then (if 0 ≤ x9 then (if x9 < (x8.length : Int) then ((impl_toPower.f k x10 x2).bind fun t133 => (if 0 ≤ (wrap64 (x9 - t133)) then (if (wrap64 (x9 - t133)) < (x8.length : Int) then (impl_LeastWithSum.l1 k x0 x1 x2 (x8.set (x9 : Int).toNat (mn (rd x8 x9) (wrap64 ((rd x8 (wrap64 (x9 - t133))) + 1)))) x9 (wrap64 (x10 + 1))) else (none)) else (none))) else (none)) else (none)) else (impl_LeastWithSum.l0 k x0 x1 x2 x8 (wrap64 (x9 + 1))))) else (impl_LeastWithSum.l0 k x0 x1 x2 x8 (wrap64 (x9 + 1)))
def impl_LeastWithSum.l2 : Nat → Int → Int → List Int → List Int → Int → Option (Int × Bool)
  | 0, _, _, _, _, _ => none
  | k + 1, x1, x2, x8, x11, x12 => if x12 > 0 then (impl_LeastWithSum.j4 k x1 x2 x8 x11 x12 (decide ((x11.length : Int) ≤ 40))) else (impl_LeastWithSum.j4 k x1 x2 x8 x11 x12 false)
def impl_LeastWithSum.j4 : Nat → Int → Int → List Int → List Int → Int → Bool → Option (Int × Bool)
  | 0, _, _, _, _, _, _ => none
  | k + 1, x1, x2, x8, x11, x12, x76 => if x76 = true then (impl_LeastWithSum.l3 k x1 x2 x8 x11 x12 1) else ((impl_value.f k x11 x1).bind fun t139 => ((impl_told.f t139).bind fun bt140 => (some (bt140.1, bt140.2))))
def impl_LeastWithSum.l3 : Nat → Int → Int → List Int → List Int → Int → Int → Option (Int × Bool)
  | 0, _, _, _, _, _, _ => none
  | k + 1, x1, x2, x8, x11, x12, x13 => (impl_toPower.f k x13 x2).bind fun t142 => (if t142 > x12 then (impl_LeastWithSum.l3 k x1 x2 x8 x11 x12 (wrap64 (x13 + 1))) else ((impl_toPower.f k x13 x2).bind fun t143 => (if 0 ≤ (wrap64 (x12 - t143)) then (if (wrap64 (x12 - t143)) < (x8.length : Int) then (if 0 ≤ x12 then (if x12 < (x8.length : Int) then (if (rd x8 (wrap64 (x12 - t143))) = (wrap64 ((rd x8 x12) - 1)) then (if x11.length < 17592186044416 then ((impl_toPower.f k x13 x2).bind fun t149 => (impl_LeastWithSum.l2 k x1 x2 x8 (x11 ++ [x13]) (wrap64 (x12 - t149)))) else (none)) else (impl_LeastWithSum.l3 k x1 x2 x8 x11 x12 (wrap64 (x13 + 1)))) else (none)) else (none)) else (none)) else (none))))
end
def impl_LeastWithSum.f (k : Nat) (a0 : Int) (a1 : Int) (a2 : Int) : Option (Int × Bool) := (impl_in.f a0 0 2000).bind fun t124 => (if t124 = true then ((impl_isBase.f a1).bind fun t125 => (if t125 = true then ((impl_isPower.f a2).bind fun t126 => (impl_LeastWithSum.j0 k a0 a1 a2 (!t126))) else (impl_LeastWithSum.j0 k a0 a1 a2 true))) else (impl_LeastWithSum.j0 k a0 a1 a2 true))
def laws_FnExactLeastWithSum.f (k : Nat) (a0 : Int) (a1 : Int) (a2 : Int) : Option (Bool) := (spec_LeastWithSum.f k a0 a1 a2).bind fun bt150 => ((impl_LeastWithSum.f k a0 a1 a2).bind fun bt152 => (if bt152.1 = bt150.1 then (if (bt152.2 != bt150.2) = true then (some false) else (some true)) else (some false)))
def laws_FnExactLeastWithSum.Pure : Prop := ∀ (a0 : Int) (a1 : Int) (a2 : Int), (Lit.int .i64 a0).wf = true → (Lit.int .i64 a1).wf = true → (Lit.int .i64 a2).wf = true → ∃ k, laws_FnExactLeastWithSum.f k a0 a1 a2 = some true

end Go.Proofs.YtehhkkbejmhcfaaC
