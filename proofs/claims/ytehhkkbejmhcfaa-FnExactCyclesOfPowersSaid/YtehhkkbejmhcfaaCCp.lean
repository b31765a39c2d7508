/- Plain Lean functions: what Go functions of these statements compute, as the kit's print tells it (each function once). No conditions. -/
import Derived.Test.YtehhkkbejmhcfaaWMore
import Derived.Test.YtehhkkbejmhcfaaCHp
namespace Go.Proofs.YtehhkkbejmhcfaaC
open Go.RowKit Go.Proofs.YtehhkkbejmhcfaaW.PrintWords Go.Proofs.YtehhkkbejmhcfaaW.PrintMore
set_option linter.unusedVariables false
def rd_L2 (xs : List (List Int)) (i : Int) : (List Int) := xs.getD i.toNat ([] : List Int)
mutual
def spec_CyclesOfPowers.j0 : Nat → Int → Int → Bool → Option ((List (List Int)) × Bool)
  | 0, _, _, _ => none
  | k + 1, x0, x1, x23 => if x23 = true then (some (([] : List (List Int)), false)) else ((spec_pwGreatest.f k x0 x1).bind fun t125 => (if 0 ≤ (wrap64 (t125 + 1)) then (if (wrap64 (t125 + 1) : Int).toNat ≤ 35184372088832 then (spec_CyclesOfPowers.l0 k x0 x1 t125 (List.replicate (wrap64 (t125 + 1) : Int).toNat 0) ([] : List (List Int)) 0) else (none)) else (none)))
def spec_CyclesOfPowers.l0 : Nat → Int → Int → Int → List Int → List (List Int) → Int → Option ((List (List Int)) × Bool)
  | 0, _, _, _, _, _, _ => none
  | k + 1, x0, x1, x6, x7, x8, x9 => if x9 ≤ x6 then (spec_CyclesOfPowers.l1 k x0 x1 x6 x7 x8 x9 x9) else (some (x8, true))
def spec_CyclesOfPowers.l1 : Nat → Int → Int → Int → List Int → List (List Int) → Int → Int → Option ((List (List Int)) × Bool)
  | 0, _, _, _, _, _, _, _ => none
  | k + 1, x0, x1, x6, x7, x8, x9, x10 => if 0 ≤ x10 then (if x10 < (x7.length : Int) then (if (rd x7 x10) = 0 then ((spec_pwSum.f k x10 x0 x1).bind fun t131 => (spec_CyclesOfPowers.l1 k x0 x1 x6 (x7.set (x10 : Int).toNat (wrap64 (x9 + 1))) x8 x9 t131)) else (if (rd x7 x10) = (wrap64 (x9 + 1)) then ((spec_pwRun.f k x10 x0 x1).bind fun bt133 => (if 0 ≤ bt133.2 then (if bt133.2 ≤ (bt133.1.length : Int) then ((spec_pwTurned.f k (bt133.1.drop (bt133.2 : Int).toNat)).bind fun t142 => (spec_CyclesOfPowers.l2 k x0 x1 x6 x7 x8 x9 t142 0)) else (none)) else (none))) else (spec_CyclesOfPowers.l0 k x0 x1 x6 x7 x8 (wrap64 (x9 + 1))))) else (none)) else (none)
def spec_CyclesOfPowers.l2 : Nat → Int → Int → Int → List Int → List (List Int) → Int → List Int → Int → Option ((List (List Int)) × Bool)
  | 0, _, _, _, _, _, _, _, _ => none
  | k + 1, x0, x1, x6, x7, x8, x9, x13, x14 => if x14 < (x8.length : Int) then (if 0 ≤ x14 then (if 0 < ((rd_L2 x8 x14).length : Int) then (if 0 < (x13.length : Int) then (if (rd (rd_L2 x8 x14) 0) < (rd x13 0) then (spec_CyclesOfPowers.l2 k x0 x1 x6 x7 x8 x9 x13 (wrap64 (x14 + 1))) else ((some (([] : List (List Int)) : List (List Int))).bind fun y148 => (if x14 ≤ (x8.length : Int) then ((some (x8.take (x14 : Int).toNat : List (List Int))).bind fun y151 => (if y148.length + y151.length < 5864062014805 then ((some (y148 ++ y151 : List (List Int))).bind fun y156 => (if y156.length < 5864062014805 then ((some (y156 ++ [x13] : List (List Int))).bind fun y159 => ((some (x8.drop (x14 : Int).toNat : List (List Int))).bind fun y162 => (if y159.length + y162.length < 5864062014805 then (spec_CyclesOfPowers.l0 k x0 x1 x6 x7 (y159 ++ y162) (wrap64 (x9 + 1))) else (none)))) else (none))) else (none))) else (none)))) else (none)) else (none)) else (none)) else ((some (([] : List (List Int)) : List (List Int))).bind fun y170 => (if 0 ≤ x14 then (if x14 ≤ (x8.length : Int) then ((some (x8.take (x14 : Int).toNat : List (List Int))).bind fun y173 => (if y170.length + y173.length < 5864062014805 then ((some (y170 ++ y173 : List (List Int))).bind fun y178 => (if y178.length < 5864062014805 then ((some (y178 ++ [x13] : List (List Int))).bind fun y181 => ((some (x8.drop (x14 : Int).toNat : List (List Int))).bind fun y184 => (if y181.length + y184.length < 5864062014805 then (spec_CyclesOfPowers.l0 k x0 x1 x6 x7 (y181 ++ y184) (wrap64 (x9 + 1))) else (none)))) else (none))) else (none))) else (none)) else (none)))
end
def spec_CyclesOfPowers.f (k : Nat) (a0 : Int) (a1 : Int) : Option ((List (List Int)) × Bool) := (spec_l1In.f a0 2 10).bind fun t123 => (if t123 = true then ((spec_pwPower.f a1 4).bind fun t124 => (spec_CyclesOfPowers.j0 k a0 a1 (!t124))) else (spec_CyclesOfPowers.j0 k a0 a1 true))
def slices_Concat_int_int.f (l0 : List (List Int)) : Option (List Int) := if l0.length ≤ 1000 ∧ l0.flatten.length ≤ 1000000 then some l0.flatten else none
def impl_leastFirst0.f (k : Nat) (l0 : List Int) : Option (List Int) := (slices_Min_int_int.f k l0).bind fun t216 => ((slices_Index_int_int.f k l0 t216).bind fun t217 => (if 0 ≤ t217 then (if t217 ≤ (l0.length : Int) then ((slices_Concat_int_int.f (([(l0.drop (t217 : Int).toNat), (l0.take (t217 : Int).toNat)] : List (List Int)))).bind fun t231 => (some t231)) else (none)) else (none)))
def impl_leastFirst.f (k : Nat) (l0 : List Int) : Option (List Int) := impl_leastFirst0.f k l0
def cmp_isNaN_int.f (a0 : Int) : Option (Bool) := some (a0 != a0)
def cmp_Compare_int.f (a0 : Int) (a1 : Int) : Option (Int) := (cmp_isNaN_int.f a0).bind fun t216 => ((cmp_isNaN_int.f a1).bind fun t217 => (if t216 = true then (if t217 = true then (some 0) else (some (-1))) else (if t217 = true then (some 1) else (if a0 < a1 then (some (-1)) else (if a0 > a1 then (some 1) else (some 0))))))
def slices_Compare_int_int.l0 : Nat → List Int → List Int → List Int → Int → Int → Option (Int)
  | 0, _, _, _, _, _ => none
  | k + 1, x0, x1, x9, x10, x11 => if x11 < x10 then (if 0 ≤ x11 then (if x11 < (x9.length : Int) then (if x11 ≥ (x1.length : Int) then (some 1) else (if x11 < (x1.length : Int) then ((cmp_Compare_int.f (rd x9 x11) (rd x1 x11)).bind fun t220 => (if t220 = 0 then (slices_Compare_int_int.l0 k x0 x1 x9 x10 (wrap64 (x11 + 1))) else (some t220))) else (none))) else (none)) else (none)) else (if (x0.length : Int) < (x1.length : Int) then (some (-1)) else (some 0))
def slices_Compare_int_int.f (k : Nat) (l0 : List Int) (l1 : List Int) : Option (Int) := slices_Compare_int_int.l0 k l0 l1 l0 (l0.length : Int) 0
def cmpL : List Int → List Int → Int
  | [], [] => 0
  | [], _ :: _ => -1
  | _ :: _, [] => 1
  | a :: la, b :: lb => if a < b then -1 else if b < a then 1 else cmpL la lb
def slices_SortFunc_int_int.f (l0 : List (List Int)) : Option (List (List Int)) := if l0.length ≤ 1000000 ∧ ∀ c ∈ l0, c.length ≤ 1000000 then some (l0.mergeSort fun x y => decide (x ≤ y)) else none
mutual
def impl_CyclesOfPowers.j0 : Nat → Int → Int → Bool → Option ((List (List Int)) × Bool)
  | 0, _, _, _ => none
  | k + 1, x0, x1, x21 => if x21 = true then (some (([] : List (List Int)), false)) else ((impl_greatest.f k x0 x1).bind fun t229 => (impl_CyclesOfPowers.l0 k x0 x1 (([] : List Int)) (([] : List (List Int))) (wrap64 (t229 + 1)) 0))
def impl_CyclesOfPowers.l0 : Nat → Int → Int → List Int → List (List Int) → Int → Int → Option ((List (List Int)) × Bool)
  | 0, _, _, _, _, _, _ => none
  | k + 1, x0, x1, x6, x7, x27, x28 => if x28 < x27 then ((impl_powerSum.f k x28 x0 x1).bind fun t230 => (if x6.length < 17592186044416 then (impl_CyclesOfPowers.l0 k x0 x1 (x6 ++ [t230]) x7 x27 (wrap64 (x28 + 1))) else (none))) else (if 0 ≤ (x6.length : Int) then (if ((x6.length : Int) : Int).toNat ≤ 35184372088832 then (impl_CyclesOfPowers.l1 k x6 x7 (List.replicate ((x6.length : Int) : Int).toNat 0) (x6.length : Int) 0) else (none)) else (none))
def impl_CyclesOfPowers.l1 : Nat → List Int → List (List Int) → List Int → Int → Int → Option ((List (List Int)) × Bool)
  | 0, _, _, _, _, _ => none
  | k + 1, x6, x7, x9, x43, x44 => if x44 < x43 then (impl_CyclesOfPowers.l2 k x6 x7 x9 x44 (([] : List Int)) x44 x43 x44) else ((slices_SortFunc_int_int.f x7).bind fun t237 => (some (t237, true)))
def impl_CyclesOfPowers.l2 : Nat → List Int → List (List Int) → List Int → Int → List Int → Int → Int → Int → Option ((List (List Int)) × Bool)
  | 0, _, _, _, _, _, _, _, _ => none
  | k + 1, x6, x7, x9, x10, x11, x12, x43, x44 => if 0 ≤ x12 then (if x12 < (x9.length : Int) then (if (rd x9 x12) = 0 then (if x11.length < 17592186044416 then (if x12 < (x6.length : Int) then (impl_CyclesOfPowers.l2 k x6 x7 (x9.set (x12 : Int).toNat (wrap64 (x10 + 1))) x10 (x11 ++ [x12]) (rd x6 x12) x43 x44) else (none)) else (none)) else ((slices_Index_int_int.f k x11 x12).bind fun t249 => (if t249 ≥ 0 then (if 0 ≤ t249 then (if t249 ≤ (x11.length : Int) then ((impl_leastFirst.f k (x11.drop (t249 : Int).toNat)).bind fun t254 => (if x7.length < 5864062014805 then (impl_CyclesOfPowers.l1 k x6 (x7 ++ [t254]) x9 x43 (wrap64 (x44 + 1))) else (none))) else (none)) else (none)) else (impl_CyclesOfPowers.l1 k x6 x7 x9 x43 (wrap64 (x44 + 1)))))) else (none)) else (none)
end
def impl_CyclesOfPowers.f (k : Nat) (a0 : Int) (a1 : Int) : Option ((List (List Int)) × Bool) := (impl_isSmallBase.f a0).bind fun t221 => (if t221 = true then ((impl_in.f a1 1 4).bind fun t222 => (impl_CyclesOfPowers.j0 k a0 a1 (!t222))) else (impl_CyclesOfPowers.j0 k a0 a1 true))
def laws_eqIntSS.l0 : Nat → List (List Int) → List (List Int) → Int → Option (Bool)
  | 0, _, _, _ => none
  | k + 1, x0, x1, x5 => if x5 < (x0.length : Int) then (if 0 ≤ x5 then (if x5 < (x1.length : Int) then ((laws_eqIntS.f k (rd_L2 x0 x5) (rd_L2 x1 x5)).bind fun t264 => (if t264 = true then (laws_eqIntSS.l0 k x0 x1 (wrap64 (x5 + 1))) else (some false))) else (none)) else (none)) else (some true)
def laws_eqIntSS.f (k : Nat) (l0 : List (List Int)) (l1 : List (List Int)) : Option (Bool) := if (l0.length : Int) = (l1.length : Int) then (laws_eqIntSS.l0 k l0 l1 0) else (some false)
def laws_markIntSS.l0 : Nat → List (List Int) → Int → Int → Option (Int × List (List Int))
  | 0, _, _, _ => none
  | k + 1, x0, x1, x2 => if x2 < (x0.length : Int) then (if 0 ≤ x2 then ((laws_markIntS.f k (rd_L2 x0 x2) x1).bind fun bt => (laws_markIntSS.l0 k (x0.set (x2 : Int).toNat bt.2) bt.1 (wrap64 (x2 + 1)))) else (none)) else (some (x1, x0))
def laws_markIntSS.f (k : Nat) (l0 : List (List Int)) (a1 : Int) : Option (Int × List (List Int)) := laws_markIntSS.l0 k l0 a1 0
def laws_heldIntSS.l0 : Nat → List (List Int) → Int → Int → Option (Int)
  | 0, _, _, _ => none
  | k + 1, x0, x1, x5 => if x5 < (x0.length : Int) then (if 0 ≤ x5 then ((laws_heldIntS.f k (rd_L2 x0 x5) x1).bind fun t268 => (if t268 < 0 then (some (-1)) else (laws_heldIntSS.l0 k x0 t268 (wrap64 (x5 + 1))))) else (none)) else (some x1)
def laws_heldIntSS.f (k : Nat) (l0 : List (List Int)) (a1 : Int) : Option (Int) := laws_heldIntSS.l0 k l0 a1 0
def laws_FnExactCyclesOfPowers.f (k : Nat) (a0 a1 : Int) : Option Bool := (spec_CyclesOfPowers.f k a0 a1).bind fun b1 => (impl_CyclesOfPowers.f k a0 a1).bind fun b2 => (laws_eqIntSS.f k b2.1 b1.1).bind fun e1 => (laws_markIntSS.f k b2.1 1).bind fun m2 => (laws_heldIntSS.f k m2.2 1).bind fun q => if b2.2 = b1.2 ∧ e1 = true ∧ 0 ≤ q ∧ q = m2.1 then some true else none
def laws_FnExactCyclesOfPowers.Pure : Prop := ∀ (a0 : Int) (a1 : Int), (Lit.int .i64 a0).wf = true → (Lit.int .i64 a1).wf = true → ∃ k, laws_FnExactCyclesOfPowers.f k a0 a1 = some true

end Go.Proofs.YtehhkkbejmhcfaaC
