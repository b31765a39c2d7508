/- Plain Lean functions: what Go functions of these statements compute, as the kit's print tells it (each function once). No conditions. -/
import Derived.Test.YtcaohpcbohdkbaaWMore
import Derived.Test.YtcaohpcbohdkbaaCD2
namespace Go.Proofs.YtcaohpcbohdkbaaC
open Go.RowKit Go.Proofs.YtcaohpcbohdkbaaW.PrintWords Go.Proofs.YtcaohpcbohdkbaaW.PrintMore
set_option linter.unusedVariables false
def spec_gpWord.f (k : Nat) (l0 : List Int) (a1 : Int) : Option (Bool) := (spec_dgBase.f a1).bind fun t113 => (if t113 = true then ((spec_l1In.f (l0.length : Int) 1 8).bind fun t114 => (if t114 = true then ((spec_l1All.f k l0 0 (wrap64 (a1 - 1))).bind fun t115 => (some t115)) else (some false))) else (some false))
def spec_l1Own.f (l0 : List Int) : Option (List Int) := (some (([] : List Int) : List Int)).bind fun y116 => (if y116.length + l0.length < 17592186044416 then (some (y116 ++ l0)) else (none))
mutual
def spec_dgSorted.l0 : Nat → List Int → List Int → Int → Int → Option (List Int)
  | 0, _, _, _, _ => none
  | k + 1, x3, x8, x9, x10 => if x10 < x9 then (if 0 ≤ x10 then (if x10 < (x8.length : Int) then (spec_dgSorted.l1 k x3 (rd x8 x10) 0 x8 x9 x10) else (none)) else (none)) else (some x3)
def spec_dgSorted.l1 : Nat → List Int → Int → Int → List Int → Int → Int → Option (List Int)
  | 0, _, _, _, _, _, _ => none
  | k + 1, x3, x5, x6, x8, x9, x10 => if x6 < (x3.length : Int) then (if 0 ≤ x6 then (if (rd x3 x6) ≤ x5 then (spec_dgSorted.l1 k x3 x5 (wrap64 (x6 + 1)) x8 x9 x10) else (if x6 ≤ (x3.length : Int) then ((spec_l1Own.f (x3.take (x6 : Int).toNat)).bind fun t128 => (if t128.length < 17592186044416 then ((some (t128 ++ [x5] : List Int)).bind fun y131 => ((some (x3.drop (x6 : Int).toNat : List Int)).bind fun y134 => (if y131.length + y134.length < 17592186044416 then (spec_dgSorted.l0 k (y131 ++ y134) x8 x9 (wrap64 (x10 + 1))) else (none)))) else (none))) else (none))) else (none)) else (if 0 ≤ x6 then (if x6 ≤ (x3.length : Int) then ((spec_l1Own.f (x3.take (x6 : Int).toNat)).bind fun t145 => (if t145.length < 17592186044416 then ((some (t145 ++ [x5] : List Int)).bind fun y148 => ((some (x3.drop (x6 : Int).toNat : List Int)).bind fun y151 => (if y148.length + y151.length < 17592186044416 then (spec_dgSorted.l0 k (y148 ++ y151) x8 x9 (wrap64 (x10 + 1))) else (none)))) else (none))) else (none)) else (none))
end
def spec_dgSorted.f (k : Nat) (l0 : List Int) : Option (List Int) := spec_dgSorted.l0 k ([] : List Int) l0 (l0.length : Int) 0
def spec_gpGaps.l0 : Nat → List Int → List Int → List Int → Int → Option (List Int)
  | 0, _, _, _, _ => none
  | k + 1, x0, x3, x4, x5 => if x5 < (wrap64 ((x0.length : Int) / 2)) then (if 0 ≤ (wrap64 ((wrap64 ((x3.length : Int) - 1)) - x5)) then (if (wrap64 ((wrap64 ((x3.length : Int) - 1)) - x5)) < (x3.length : Int) then (if 0 ≤ x5 then (if x5 < (x3.length : Int) then (if x4.length < 17592186044416 then (spec_gpGaps.l0 k x0 x3 (x4 ++ [wrap64 ((rd x3 (wrap64 ((wrap64 ((x3.length : Int) - 1)) - x5))) - (rd x3 x5))]) (wrap64 (x5 + 1))) else (none)) else (none)) else (none)) else (none)) else (none)) else (some x4)
def spec_gpGaps.f (k : Nat) (l0 : List Int) : Option (List Int) := (spec_dgSorted.f k l0).bind fun t158 => (spec_gpGaps.l0 k l0 t158 ([] : List Int) 0)
def spec_GapsOf.f (k : Nat) (l0 : List Int) (a1 : Int) : Option (List Int × Bool) := (spec_gpWord.f k l0 a1).bind fun t166 => (if t166 = true then ((spec_gpGaps.f k l0).bind fun t167 => (some (t167, true))) else (some (([] : List Int), false)))
def impl_isWord.f (l0 : List Int) (a1 : Int) : Option (Bool) := (impl_isBase.f a1).bind fun t171 => (if t171 = true then ((impl_areIn.f l0 0 (wrap64 (a1 - 1)) 1 8).bind fun t172 => (some t172)) else (some false))
def slices_Sorted_int.f (l0 : List Int) : Option (List Int) := if l0.length < 17592186043904 then some (l0.mergeSort fun x y => decide (x ≤ y)) else none
def impl_gaps.l0 : Nat → List Int → List Int → Int → Int → Option (List Int)
  | 0, _, _, _, _ => none
  | k + 1, x3, x4, x12, x13 => if x13 < x12 then (if 0 ≤ (wrap64 ((wrap64 ((x3.length : Int) - 1)) - x13)) then (if (wrap64 ((wrap64 ((x3.length : Int) - 1)) - x13)) < (x3.length : Int) then (if 0 ≤ x13 then (if x13 < (x3.length : Int) then (if x4.length < 17592186044416 then (impl_gaps.l0 k x3 (x4 ++ [wrap64 ((rd x3 (wrap64 ((wrap64 ((x3.length : Int) - 1)) - x13))) - (rd x3 x13))]) x12 (wrap64 (x13 + 1))) else (none)) else (none)) else (none)) else (none)) else (none)) else (some x4)
def impl_gaps.f (k : Nat) (l0 : List Int) : Option (List Int) := (slices_Sorted_int.f l0).bind fun t173 => (impl_gaps.l0 k t173 (([] : List Int)) (wrap64 ((t173.length : Int) / 2)) 0)
def impl_GapsOf.f (k : Nat) (l0 : List Int) (a1 : Int) : Option (List Int × Bool) := (impl_isWord.f l0 a1).bind fun t184 => (if t184 = true then ((impl_gaps.f k l0).bind fun t185 => (some (t185, true))) else (some (([] : List Int), false)))
mutual
def laws_FnExactGapsOf.j0 : Nat → List Int → Int → List Int → Bool → List Int → List Int → Bool → Bool → Option (Bool)
  | 0, _, _, _, _, _, _, _, _ => none
  | k + 1, x0, x1, x5, x6, x7, x8, x9, x41 => if x41 = true then (some false) else ((laws_toIntS.f k x0).bind fun t203 => ((laws_eqIntS.f k x7 t203).bind fun t206 => (if t206 = true then ((laws_markIntS.f k x7 1).bind fun bt207 => (if bt207.1 < 0 then (laws_FnExactGapsOf.j1 k x0 x1 x5 x6 x8 true) else ((laws_eqIntS.f k x8 x5).bind fun t209 => (if t209 = true then (laws_FnExactGapsOf.j1 k x0 x1 x5 x6 x8 (x9 != x6)) else (laws_FnExactGapsOf.j1 k x0 x1 x5 x6 x8 true))))) else (some false))))
def laws_FnExactGapsOf.j1 : Nat → List Int → Int → List Int → Bool → List Int → Bool → Option (Bool)
  | 0, _, _, _, _, _, _ => none
  | k + 1, x0, x1, x5, x6, x8, x62 => if x62 = true then (some false) else ((laws_markIntS.f k x8 1).bind fun bt210 => ((laws_heldIntS.f k bt210.2 1).bind fun t212 => (if t212 < 0 then (some false) else (if t212 = bt210.1 then ((laws_toIntS.f k x0).bind fun t213 => ((impl_GapsOf.f k t213 x1).bind fun bt216 => ((laws_eqIntS.f k bt216.1 x5).bind fun t220 => (if t220 = true then (laws_FnExactGapsOf.j2 k bt210.2 bt210.1 (bt216.2 != x6)) else (laws_FnExactGapsOf.j2 k bt210.2 bt210.1 true))))) else (some false)))))
def laws_FnExactGapsOf.j2 : Nat → List Int → Int → Bool → Option (Bool)
  | 0, _, _, _ => none
  | k + 1, x8, x11, x89 => if x89 = true then (some false) else ((laws_heldIntS.f k x8 1).bind fun t221 => (if t221 < 0 then (some false) else (if t221 = x11 then (some true) else (some false))))
end
def laws_FnExactGapsOf.f (k : Nat) (l0 : List Int) (a1 : Int) : Option (Bool) := if (l0.length : Int) > 1048576 then (some true) else ((laws_toIntS.f k l0).bind fun t188 => ((spec_GapsOf.f k t188 a1).bind fun bt191 => ((laws_toIntS.f k l0).bind fun t195 => ((impl_GapsOf.f k t195 a1).bind fun bt198 => ((laws_eqIntS.f k bt198.1 bt191.1).bind fun t202 => (if t202 = true then (laws_FnExactGapsOf.j0 k l0 a1 bt191.1 bt191.2 t195 bt198.1 bt198.2 (bt198.2 != bt191.2)) else (laws_FnExactGapsOf.j0 k l0 a1 bt191.1 bt191.2 t195 bt198.1 bt198.2 true)))))))
def laws_FnExactGapsOf.Pure : Prop := ∀ (l0 : List Int) (a1 : Int), l0.length ≤ maxLen → l0.length * 8 ≤ 140737488351232 → (∀ x ∈ l0, (Lit.int .i64 x).wf = true) → (Lit.int .i64 a1).wf = true → ∃ k, laws_FnExactGapsOf.f k l0 a1 = some true

end Go.Proofs.YtcaohpcbohdkbaaC
