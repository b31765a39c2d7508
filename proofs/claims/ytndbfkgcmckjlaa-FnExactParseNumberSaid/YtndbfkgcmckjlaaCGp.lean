/- Plain Lean functions: what Go functions of these statements compute, as the kit's print tells it (each function once). No conditions. -/
import Derived.Test.YtndbfkgcmckjlaaWMore
import Derived.Test.YtndbfkgcmckjlaaCPw
namespace Go.Proofs.YtndbfkgcmckjlaaC
open Go.RowKit Go.Proofs.YtndbfkgcmckjlaaW.PrintWords Go.Proofs.YtndbfkgcmckjlaaW.PrintMore
set_option linter.unusedVariables false
def spec_gpWord.f (k : Nat) (l0 : List Int) (a1 : Int) : Option (Bool) := (spec_dgBase.f a1).bind fun t111 => (if t111 = true then ((spec_l1In.f (l0.length : Int) 1 8).bind fun t112 => (if t112 = true then ((spec_l1All.f k l0 0 (wrap64 (a1 - 1))).bind fun t113 => (some t113)) else (some false))) else (some false))
def spec_gpValue.l0 : Nat → Int → Int → List Int → Int → Int → Option (Int)
  | 0, _, _, _, _, _ => none
  | k + 1, x1, x5, x8, x9, x10 => if x10 < x9 then (if 0 ≤ x10 then (if x10 < (x8.length : Int) then (spec_gpValue.l0 k x1 (wrap64 ((wrap64 (x5 * x1)) + (rd x8 x10))) x8 x9 (wrap64 (x10 + 1))) else (none)) else (none)) else (some x5)
def spec_gpValue.f (k : Nat) (l0 : List Int) (a1 : Int) : Option (Int) := spec_gpValue.l0 k a1 0 l0 (l0.length : Int) 0
def spec_ValueOf.f (k : Nat) (l0 : List Int) (a1 : Int) : Option (Int × Bool) := (spec_gpWord.f k l0 a1).bind fun t115 => (if t115 = true then ((spec_gpValue.f k l0 a1).bind fun t116 => (some (t116, true))) else (some (0, false)))
def impl_isWord.f (l0 : List Int) (a1 : Int) : Option (Bool) := (impl_isBase.f a1).bind fun t118 => (if t118 = true then ((impl_areIn.f l0 0 (wrap64 (a1 - 1)) 1 8).bind fun t119 => (some t119)) else (some false))
def impl_worth.l0 : Nat → Int → Int → List Int → Int → Int → Option (Int)
  | 0, _, _, _, _, _ => none
  | k + 1, x1, x5, x8, x9, x10 => if x10 < x9 then (if 0 ≤ x10 then (if x10 < (x8.length : Int) then (impl_worth.l0 k x1 (wrap64 ((wrap64 (x5 * x1)) + (rd x8 x10))) x8 x9 (wrap64 (x10 + 1))) else (none)) else (none)) else (some x5)
def impl_worth.f (k : Nat) (l0 : List Int) (a1 : Int) : Option (Int) := impl_worth.l0 k a1 0 l0 (l0.length : Int) 0
def impl_ValueOf.f (k : Nat) (l0 : List Int) (a1 : Int) : Option (Int × Bool) := (impl_isWord.f l0 a1).bind fun t121 => (if t121 = true then ((impl_worth.f k l0 a1).bind fun t122 => (some (t122, true))) else (some (0, false)))
def laws_FnExactValueOf.j0 : Nat → List Int → List Int → Bool → Option (Bool)
  | 0, _, _, _ => none
  | k + 1, x0, x7, x35 => if x35 = true then (some false) else ((laws_toIntS.f k x0).bind fun t133 => ((laws_eqIntS.f k x7 t133).bind fun t136 => (if t136 = true then (some true) else (some false))))
def laws_FnExactValueOf.f (k : Nat) (l0 : List Int) (a1 : Int) : Option (Bool) := if (l0.length : Int) > 1048576 then (some true) else ((laws_toIntS.f k l0).bind fun t123 => ((spec_ValueOf.f k t123 a1).bind fun bt126 => ((laws_toIntS.f k l0).bind fun t128 => ((impl_ValueOf.f k t128 a1).bind fun bt131 => (if bt131.1 = bt126.1 then (laws_FnExactValueOf.j0 k l0 t128 (bt131.2 != bt126.2)) else (laws_FnExactValueOf.j0 k l0 t128 true))))))
def laws_FnExactValueOf.Pure : Prop := ∀ (l0 : List Int) (a1 : Int), l0.length ≤ maxLen → l0.length * 8 ≤ 140737488351232 → (∀ x ∈ l0, (Lit.int .i64 x).wf = true) → (Lit.int .i64 a1).wf = true → ∃ k, laws_FnExactValueOf.f k l0 a1 = some true
def spec_gpAsked.f (a0 : Int) (a1 : Int) : Option (Bool) := (spec_dgBase.f a1).bind fun t105 => (if t105 = true then ((spec_l1In.f a0 1 8).bind fun t106 => (some t106)) else (some false))
def spec_gpWith.l0 : Nat → Int → Int → List Int → Int → Option (List Int)
  | 0, _, _, _, _ => none
  | k + 1, x0, x2, x7, x8 => if x8 ≥ 0 then (if x2 = 0 then (none) else (if 0 ≤ x8 then (if x8 < (x7.length : Int) then (spec_gpWith.l0 k (wrap64 (Int.tdiv x0 x2)) x2 (x7.set (x8 : Int).toNat (Int.tmod x0 x2)) (wrap64 (x8 - 1))) else (none)) else (none))) else (some x7)
def spec_gpWith.f (k : Nat) (a0 : Int) (a1 : Int) (a2 : Int) : Option (List Int) := if 0 ≤ a1 then (if (a1 : Int).toNat ≤ 35184372088832 then (spec_gpWith.l0 k a0 a2 (List.replicate (a1 : Int).toNat 0) (wrap64 (a1 - 1))) else (none)) else (none)
def spec_WordOf.j0 : Nat → Int → Int → Int → Bool → Option (List Int × Bool)
  | 0, _, _, _, _ => none
  | k + 1, x0, x1, x2, x20 => if x20 = true then (some (([] : List Int), false)) else ((spec_gpWith.f k x0 x1 x2).bind fun t112 => ((spec_gpValue.f k t112 x2).bind fun t115 => (if t115 = x0 then (some (t112, true)) else (some (([] : List Int), false)))))
def spec_WordOf.f (k : Nat) (a0 : Int) (a1 : Int) (a2 : Int) : Option (List Int × Bool) := (spec_gpAsked.f a1 a2).bind fun t111 => (if t111 = true then (if a0 < 0 then (spec_WordOf.j0 k a0 a1 a2 true) else (spec_WordOf.j0 k a0 a1 a2 (decide (a0 > 4294967296)))) else (spec_WordOf.j0 k a0 a1 a2 true))
def impl_isWidth.f (a0 : Int) : Option (Bool) := (impl_in.f a0 1 8).bind fun t117 => (some t117)
def impl_wordOf.l0 : Nat → Int → Int → List Int → Int → Option (List Int)
  | 0, _, _, _, _ => none
  | k + 1, x0, x2, x7, x8 => if x8 ≥ 0 then (if x2 = 0 then (none) else (if 0 ≤ x8 then (if x8 < (x7.length : Int) then (impl_wordOf.l0 k (wrap64 (Int.tdiv x0 x2)) x2 (x7.set (x8 : Int).toNat (Int.tmod x0 x2)) (wrap64 (x8 - 1))) else (none)) else (none))) else (some x7)
def impl_wordOf.f (k : Nat) (a0 : Int) (a1 : Int) (a2 : Int) : Option (List Int) := if 0 ≤ a1 then (if (a1 : Int).toNat ≤ 35184372088832 then (impl_wordOf.l0 k a0 a2 (List.replicate (a1 : Int).toNat 0) (wrap64 (a1 - 1))) else (none)) else (none)
def impl_WordOf.f (k : Nat) (a0 : Int) (a1 : Int) (a2 : Int) : Option (List Int × Bool) := (impl_isBase.f a2).bind fun t122 => (if t122 = true then ((impl_isWidth.f a1).bind fun t123 => (if t123 = true then ((impl_toPower.f k a2 a1).bind fun t124 => ((impl_in.f a0 0 (wrap64 (t124 - 1))).bind fun t125 => (if t125 = true then ((impl_wordOf.f k a0 a1 a2).bind fun t126 => (some (t126, true))) else (some (([] : List Int), false))))) else (some (([] : List Int), false)))) else (some (([] : List Int), false)))
mutual
def laws_FnExactWordOf.j0 : Nat → Int → Int → Int → List Int → Bool → List Int → Bool → Option (Bool)
  | 0, _, _, _, _, _, _, _ => none
  | k + 1, x0, x1, x2, x7, x8, x9, x37 => if x37 = true then (some false) else ((laws_markIntS.f k x9 1).bind fun bt140 => ((laws_heldIntS.f k bt140.2 1).bind fun t142 => (if t142 < 0 then (some false) else (if t142 = bt140.1 then ((impl_WordOf.f k x0 x1 x2).bind fun bt143 => ((laws_eqIntS.f k bt143.1 x7).bind fun t147 => (if t147 = true then (laws_FnExactWordOf.j1 k bt140.2 bt140.1 (bt143.2 != x8)) else (laws_FnExactWordOf.j1 k bt140.2 bt140.1 true)))) else (some false)))))
def laws_FnExactWordOf.j1 : Nat → List Int → Int → Bool → Option (Bool)
  | 0, _, _, _ => none
  | k + 1, x9, x11, x64 => if x64 = true then (some false) else ((laws_heldIntS.f k x9 1).bind fun t148 => (if t148 < 0 then (some false) else (if t148 = x11 then (some true) else (some false))))
end
def laws_FnExactWordOf.f (k : Nat) (a0 : Int) (a1 : Int) (a2 : Int) : Option (Bool) := (spec_WordOf.f k a0 a1 a2).bind fun bt131 => ((impl_WordOf.f k a0 a1 a2).bind fun bt135 => ((laws_eqIntS.f k bt135.1 bt131.1).bind fun t139 => (if t139 = true then (laws_FnExactWordOf.j0 k a0 a1 a2 bt131.1 bt131.2 bt135.1 (bt135.2 != bt131.2)) else (laws_FnExactWordOf.j0 k a0 a1 a2 bt131.1 bt131.2 bt135.1 true))))
def laws_FnExactWordOf.Pure : Prop := ∀ (a0 : Int) (a1 : Int) (a2 : Int), (Lit.int .i64 a0).wf = true → (Lit.int .i64 a1).wf = true → (Lit.int .i64 a2).wf = true → ∃ k, laws_FnExactWordOf.f k a0 a1 a2 = some true
def spec_l1Own.f (l0 : List Int) : Option (List Int) := (some (([] : List Int) : List Int)).bind fun y113 => (if y113.length + l0.length < 17592186044416 then (some (y113 ++ l0)) else (none))
mutual
def spec_dgSorted.l0 : Nat → List Int → List Int → Int → Int → Option (List Int)
  | 0, _, _, _, _ => none
  | k + 1, x3, x8, x9, x10 => if x10 < x9 then (if 0 ≤ x10 then (if x10 < (x8.length : Int) then (spec_dgSorted.l1 k x3 (rd x8 x10) 0 x8 x9 x10) else (none)) else (none)) else (some x3)
def spec_dgSorted.l1 : Nat → List Int → Int → Int → List Int → Int → Int → Option (List Int)
  | 0, _, _, _, _, _, _ => none
  | k + 1, x3, x5, x6, x8, x9, x10 => if x6 < (x3.length : Int) then (if 0 ≤ x6 then (if (rd x3 x6) ≤ x5 then (spec_dgSorted.l1 k x3 x5 (wrap64 (x6 + 1)) x8 x9 x10) else (if x6 ≤ (x3.length : Int) then ((spec_l1Own.f (x3.take (x6 : Int).toNat)).bind fun t125 => (if t125.length < 17592186044416 then ((some (t125 ++ [x5] : List Int)).bind fun y128 => ((some (x3.drop (x6 : Int).toNat : List Int)).bind fun y131 => (if y128.length + y131.length < 17592186044416 then (spec_dgSorted.l0 k (y128 ++ y131) x8 x9 (wrap64 (x10 + 1))) else (none)))) else (none))) else (none))) else (none)) else (if 0 ≤ x6 then (if x6 ≤ (x3.length : Int) then ((spec_l1Own.f (x3.take (x6 : Int).toNat)).bind fun t142 => (if t142.length < 17592186044416 then ((some (t142 ++ [x5] : List Int)).bind fun y145 => ((some (x3.drop (x6 : Int).toNat : List Int)).bind fun y148 => (if y145.length + y148.length < 17592186044416 then (spec_dgSorted.l0 k (y145 ++ y148) x8 x9 (wrap64 (x10 + 1))) else (none)))) else (none))) else (none)) else (none))
end
def spec_dgSorted.f (k : Nat) (l0 : List Int) : Option (List Int) := spec_dgSorted.l0 k ([] : List Int) l0 (l0.length : Int) 0
def spec_gpStep.f (k : Nat) (l0 : List Int) (a1 : Int) : Option (List Int) := (spec_dgSorted.f k l0).bind fun t164 => ((spec_dgBack.f k t164).bind fun t167 => ((spec_gpValue.f k t167 a1).bind fun t170 => ((spec_gpValue.f k t164 a1).bind fun t171 => ((spec_gpWith.f k (wrap64 (t170 - t171)) (l0.length : Int) a1).bind fun t172 => (some t172)))))
def spec_gpBy.l0 : Nat → Int → List Int → List Int → Int → Int → Option (List Int)
  | 0, _, _, _, _, _ => none
  | k + 1, x2, x7, x12, x13, x14 => if x14 < x13 then (if 0 ≤ x14 then (if x14 < (x12.length : Int) then (if x14 < (x7.length : Int) then (spec_gpBy.l0 k x2 (x7.set (x14 : Int).toNat (rd x12 x14)) x12 x13 (wrap64 (x14 + 1))) else (none)) else (none)) else (none)) else ((spec_gpStep.f k x7 x2).bind fun t180 => (some t180))
def spec_gpBy.f (k : Nat) (l0 : List Int) (a1 : Int) (a2 : Int) : Option (List Int) := if 0 ≤ a1 then (if (a1 : Int).toNat ≤ 35184372088832 then (spec_gpBy.l0 k a2 (List.replicate (a1 : Int).toNat 0) l0 (l0.length : Int) 0) else (none)) else (none)
mutual
def spec_StepByGaps.j0 : Nat → List Int → Int → Int → Bool → Option (List Int × Bool)
  | 0, _, _, _, _ => none
  | k + 1, x0, x1, x2, x30 => if x30 = true then (some (([] : List Int), false)) else (spec_StepByGaps.l0 k x0 x1 x2 1)
def spec_StepByGaps.l0 : Nat → List Int → Int → Int → Int → Option (List Int × Bool)
  | 0, _, _, _, _ => none
  | k + 1, x0, x1, x2, x8 => if x8 < (x0.length : Int) then (if 0 ≤ x8 then (if 0 ≤ (wrap64 (x8 - 1)) then (if (wrap64 (x8 - 1)) < (x0.length : Int) then (if (rd x0 x8) > (rd x0 (wrap64 (x8 - 1))) then (some (([] : List Int), false)) else (spec_StepByGaps.l0 k x0 x1 x2 (wrap64 (x8 + 1)))) else (none)) else (none)) else (none)) else ((spec_gpBy.f k x0 x1 x2).bind fun t188 => (some (t188, true)))
end
def spec_StepByGaps.f (k : Nat) (l0 : List Int) (a1 : Int) (a2 : Int) : Option (List Int × Bool) := (spec_dgBase.f a2).bind fun t183 => (if t183 = true then ((spec_l1In.f a1 1 8).bind fun t184 => (if t184 = true then (if (l0.length : Int) = (wrap64 (Int.tdiv a1 2)) then ((spec_l1All.f k l0 0 (wrap64 (a2 - 1))).bind fun t185 => (spec_StepByGaps.j0 k l0 a1 a2 (!t185))) else (spec_StepByGaps.j0 k l0 a1 a2 true)) else (spec_StepByGaps.j0 k l0 a1 a2 true))) else (spec_StepByGaps.j0 k l0 a1 a2 true))
def cmp_isNaN_int.f (a0 : Int) : Option (Bool) := some (a0 != a0)
def cmp_Less_int.f (a0 : Int) (a1 : Int) : Option (Bool) := (cmp_isNaN_int.f a0).bind fun t205 => (if t205 = true then ((cmp_isNaN_int.f a1).bind fun t206 => (if t206 = true then (some (decide (a0 < a1))) else (some true))) else (some (decide (a0 < a1))))
def slices_IsSorted_int_int.l0 : Nat → List Int → Int → Option (Bool)
  | 0, _, _ => none
  | k + 1, x0, x3 => if x3 > 0 then (if 0 ≤ x3 then (if x3 < (x0.length : Int) then (if 0 ≤ (wrap64 (x3 - 1)) then (if (wrap64 (x3 - 1)) < (x0.length : Int) then ((cmp_Less_int.f (rd x0 x3) (rd x0 (wrap64 (x3 - 1)))).bind fun t209 => (if t209 = true then (some false) else (slices_IsSorted_int_int.l0 k x0 (wrap64 (x3 - 1))))) else (none)) else (none)) else (none)) else (none)) else (some true)
def slices_IsSorted_int_int.f (k : Nat) (l0 : List Int) : Option (Bool) := slices_IsSorted_int_int.l0 k l0 (wrap64 ((l0.length : Int) - 1))
def impl_byGaps.l0 : Nat → Int → Int → Int → List Int → Int → Int → Option (Int)
  | 0, _, _, _, _, _, _ => none
  | k + 1, x1, x2, x7, x10, x11, x12 => if x12 < x11 then (if 0 ≤ x12 then (if x12 < (x10.length : Int) then ((impl_toPower.f k x2 (wrap64 ((wrap64 (x1 - 1)) - x12))).bind fun t211 => ((impl_toPower.f k x2 x12).bind fun t212 => (impl_byGaps.l0 k x1 x2 (wrap64 (x7 + (wrap64 ((rd x10 x12) * (wrap64 (t211 - t212)))))) x10 x11 (wrap64 (x12 + 1))))) else (none)) else (none)) else (some x7)
def impl_byGaps.f (k : Nat) (l0 : List Int) (a1 : Int) (a2 : Int) : Option (Int) := impl_byGaps.l0 k a1 a2 0 l0 (l0.length : Int) 0
def impl_StepByGaps.j0 : Nat → List Int → Int → Int → Bool → Option (List Int × Bool)
  | 0, _, _, _, _ => none
  | k + 1, x0, x1, x2, x32 => if x32 = true then (some (([] : List Int), false)) else ((impl_byGaps.f k x0 x1 x2).bind fun t220 => ((impl_wordOf.f k t220 x1 x2).bind fun t221 => (some (t221, true))))
def impl_StepByGaps.f (k : Nat) (l0 : List Int) (a1 : Int) (a2 : Int) : Option (List Int × Bool) := (impl_isBase.f a2).bind fun t213 => (if t213 = true then ((impl_isWidth.f a1).bind fun t214 => (if t214 = true then ((impl_areIn.f l0 0 (wrap64 (a2 - 1)) (wrap64 (Int.tdiv a1 2)) (wrap64 (Int.tdiv a1 2))).bind fun t215 => (if t215 = true then ((impl_reversed.f k l0).bind fun t216 => ((slices_IsSorted_int_int.f k t216).bind fun t219 => (impl_StepByGaps.j0 k l0 a1 a2 (!t219)))) else (impl_StepByGaps.j0 k l0 a1 a2 true))) else (impl_StepByGaps.j0 k l0 a1 a2 true))) else (impl_StepByGaps.j0 k l0 a1 a2 true))
mutual
def laws_FnExactStepByGaps.j0 : Nat → List Int → Int → Int → List Int → Bool → List Int → List Int → Bool → Bool → Option (Bool)
  | 0, _, _, _, _, _, _, _, _, _ => none
  | k + 1, x0, x1, x2, x7, x8, x9, x10, x11, x45 => if x45 = true then (some false) else ((laws_toIntS.f k x0).bind fun t239 => ((laws_eqIntS.f k x9 t239).bind fun t242 => (if t242 = true then ((laws_markIntS.f k x9 1).bind fun bt243 => (if bt243.1 < 0 then (laws_FnExactStepByGaps.j1 k x0 x1 x2 x7 x8 x10 true) else ((laws_eqIntS.f k x10 x7).bind fun t245 => (if t245 = true then (laws_FnExactStepByGaps.j1 k x0 x1 x2 x7 x8 x10 (x11 != x8)) else (laws_FnExactStepByGaps.j1 k x0 x1 x2 x7 x8 x10 true))))) else (some false))))
def laws_FnExactStepByGaps.j1 : Nat → List Int → Int → Int → List Int → Bool → List Int → Bool → Option (Bool)
  | 0, _, _, _, _, _, _, _ => none
  | k + 1, x0, x1, x2, x7, x8, x10, x66 => if x66 = true then (some false) else ((laws_markIntS.f k x10 1).bind fun bt246 => ((laws_heldIntS.f k bt246.2 1).bind fun t248 => (if t248 < 0 then (some false) else (if t248 = bt246.1 then ((laws_toIntS.f k x0).bind fun t249 => ((impl_StepByGaps.f k t249 x1 x2).bind fun bt252 => ((laws_eqIntS.f k bt252.1 x7).bind fun t256 => (if t256 = true then (laws_FnExactStepByGaps.j2 k bt246.2 bt246.1 (bt252.2 != x8)) else (laws_FnExactStepByGaps.j2 k bt246.2 bt246.1 true))))) else (some false)))))
def laws_FnExactStepByGaps.j2 : Nat → List Int → Int → Bool → Option (Bool)
  | 0, _, _, _ => none
  | k + 1, x10, x13, x94 => if x94 = true then (some false) else ((laws_heldIntS.f k x10 1).bind fun t257 => (if t257 < 0 then (some false) else (if t257 = x13 then (some true) else (some false))))
end
def laws_FnExactStepByGaps.f (k : Nat) (l0 : List Int) (a1 : Int) (a2 : Int) : Option (Bool) := if (l0.length : Int) > 1048576 then (some true) else ((laws_toIntS.f k l0).bind fun t224 => ((spec_StepByGaps.f k t224 a1 a2).bind fun bt227 => ((laws_toIntS.f k l0).bind fun t231 => ((impl_StepByGaps.f k t231 a1 a2).bind fun bt234 => ((laws_eqIntS.f k bt234.1 bt227.1).bind fun t238 => (if t238 = true then (laws_FnExactStepByGaps.j0 k l0 a1 a2 bt227.1 bt227.2 t231 bt234.1 bt234.2 (bt234.2 != bt227.2)) else (laws_FnExactStepByGaps.j0 k l0 a1 a2 bt227.1 bt227.2 t231 bt234.1 bt234.2 true)))))))
def laws_FnExactStepByGaps.Pure : Prop := ∀ (l0 : List Int) (a1 : Int) (a2 : Int), l0.length ≤ maxLen → l0.length * 8 ≤ 140737488351232 → (∀ x ∈ l0, (Lit.int .i64 x).wf = true) → (Lit.int .i64 a1).wf = true → (Lit.int .i64 a2).wf = true → ∃ k, laws_FnExactStepByGaps.f k l0 a1 a2 = some true
def spec_dgMirrored.l0 : Nat → List Int → Int → Int → Option (List Int)
  | 0, _, _, _ => none
  | k + 1, x3, x9, x10 => if x10 < x9 then (if x10 > (wrap64 ((wrap64 ((x3.length : Int) - 1)) - x10)) then (if 0 ≤ (wrap64 ((wrap64 ((x3.length : Int) - 1)) - x10)) then (if (wrap64 ((wrap64 ((x3.length : Int) - 1)) - x10)) < (x3.length : Int) then (if 0 ≤ x10 then (if x10 < (x3.length : Int) then (spec_dgMirrored.l0 k (x3.set (x10 : Int).toNat (rd x3 (wrap64 ((wrap64 ((x3.length : Int) - 1)) - x10)))) x9 (wrap64 (x10 + 1))) else (none)) else (none)) else (none)) else (none)) else (spec_dgMirrored.l0 k x3 x9 (wrap64 (x10 + 1)))) else (some x3)
def spec_dgMirrored.f (k : Nat) (l0 : List Int) : Option (List Int) := (spec_l1Own.f l0).bind fun t121 => (spec_dgMirrored.l0 k t121 (t121.length : Int) 0)
def spec_NextPalindrome.j0 : Nat → Int → List Int → Int → Bool → Option (Int × Bool)
  | 0, _, _, _, _ => none
  | k + 1, x1, x6, x7, x32 => if x32 = true then (some (x7, true)) else (if 0 ≤ (wrap64 (Int.tdiv (wrap64 ((x6.length : Int) + 1)) 2)) then (if (wrap64 (Int.tdiv (wrap64 ((x6.length : Int) + 1)) 2)) ≤ (x6.length : Int) then ((spec_dgFrom.f k (x6.take ((wrap64 (Int.tdiv (wrap64 ((x6.length : Int) + 1)) 2)) : Int).toNat) x1).bind fun bt139 => ((spec_dgOf.f k (wrap64 (bt139.1 + 1)) x1).bind fun t141 => (if (t141.length : Int) > (wrap64 (Int.tdiv (wrap64 ((x6.length : Int) + 1)) 2)) then (if 0 ≤ (wrap64 ((x6.length : Int) + 1)) then (if (wrap64 ((x6.length : Int) + 1) : Int).toNat ≤ 35184372088832 then ((some (List.replicate (wrap64 ((x6.length : Int) + 1) : Int).toNat 0 : List Int)).bind fun y144 => (if 0 < (y144.length : Int) then (if 0 ≤ (x6.length : Int) then (if (x6.length : Int) < (y144.length : Int) then ((spec_dgFrom.f k ((y144.set (0 : Int).toNat 1).set ((x6.length : Int) : Int).toNat 1) x1).bind fun bt149 => (some (bt149.1, bt149.2))) else (none)) else (none)) else (none))) else (none)) else (none)) else ((some (x6.drop ((wrap64 (Int.tdiv (wrap64 ((x6.length : Int) + 1)) 2)) : Int).toNat : List Int)).bind fun y151 => (if t141.length + y151.length < 17592186044416 then ((spec_dgMirrored.f k (t141 ++ y151)).bind fun t158 => ((spec_dgFrom.f k t158 x1).bind fun bt161 => (some (bt161.1, bt161.2)))) else (none)))))) else (none)) else (none))
def spec_NextPalindrome.f (k : Nat) (a0 : Int) (a1 : Int) : Option (Int × Bool) := (spec_dgAsked.f a0 a1).bind fun t126 => (if t126 = true then ((spec_dgOf.f k a0 a1).bind fun t127 => ((spec_dgMirrored.f k t127).bind fun t130 => ((spec_dgFrom.f k t130 a1).bind fun bt133 => (if bt133.2 = true then (spec_NextPalindrome.j0 k a1 t127 bt133.1 (decide (bt133.1 > a0))) else (spec_NextPalindrome.j0 k a1 t127 bt133.1 false))))) else (some (0, false)))
def impl_mirrored.f (k : Nat) (l0 : List Int) (a1 : Int) : Option (List Int) := (slices_Clone_int_int.f l0).bind fun t181 => (if 0 ≤ (wrap64 (a1 - (l0.length : Int))) then (if (wrap64 (a1 - (l0.length : Int))) ≤ (l0.length : Int) then ((impl_reversed.f k (l0.take ((wrap64 (a1 - (l0.length : Int))) : Int).toNat)).bind fun t185 => (if t181.length + t185.length < 17592186044416 then (some (t181 ++ t185)) else (none))) else (none)) else (none))
def cmp_Compare_int.f (a0 : Int) (a1 : Int) : Option (Int) := (cmp_isNaN_int.f a0).bind fun t191 => ((cmp_isNaN_int.f a1).bind fun t192 => (if t191 = true then (if t192 = true then (some 0) else (some (-1))) else (if t192 = true then (some 1) else (if a0 < a1 then (some (-1)) else (if a0 > a1 then (some 1) else (some 0))))))
def slices_Compare_int_int.l0 : Nat → List Int → List Int → List Int → Int → Int → Option (Int)
  | 0, _, _, _, _, _ => none
  | k + 1, x0, x1, x9, x10, x11 => if x11 < x10 then (if 0 ≤ x11 then (if x11 < (x9.length : Int) then (if x11 ≥ (x1.length : Int) then (some 1) else (if x11 < (x1.length : Int) then ((cmp_Compare_int.f (rd x9 x11) (rd x1 x11)).bind fun t195 => (if t195 = 0 then (slices_Compare_int_int.l0 k x0 x1 x9 x10 (wrap64 (x11 + 1))) else (some t195))) else (none))) else (none)) else (none)) else (if (x0.length : Int) < (x1.length : Int) then (some (-1)) else (some 0))
def slices_Compare_int_int.f (k : Nat) (l0 : List Int) (l1 : List Int) : Option (Int) := slices_Compare_int_int.l0 k l0 l1 l0 (l0.length : Int) 0
def impl_NextPalindrome.f (k : Nat) (a0 : Int) (a1 : Int) : Option (Int × Bool) := (impl_isNumber.f a0 a1).bind fun t197 => (if t197 = true then ((impl_digitsOf.f k (wrap64 (a0 + 1)) a1).bind fun t198 => (if 0 ≤ (wrap64 (Int.tdiv (wrap64 ((t198.length : Int) + 1)) 2)) then (if (wrap64 (Int.tdiv (wrap64 ((t198.length : Int) + 1)) 2)) ≤ (t198.length : Int) then ((some (t198.take ((wrap64 (Int.tdiv (wrap64 ((t198.length : Int) + 1)) 2)) : Int).toNat : List Int)).bind fun y201 => ((impl_mirrored.f k y201 (t198.length : Int)).bind fun t205 => ((slices_Compare_int_int.f k t205 t198).bind fun t208 => (if t208 < 0 then ((impl_value.f k y201 a1).bind fun t209 => ((impl_digitsOf.f k (wrap64 (t209 + 1)) a1).bind fun t210 => ((impl_mirrored.f k t210 (t198.length : Int)).bind fun t213 => ((impl_value.f k t213 a1).bind fun t216 => ((impl_told.f t216).bind fun bt217 => (some (bt217.1, bt217.2))))))) else ((impl_value.f k t205 a1).bind fun t219 => ((impl_told.f t219).bind fun bt220 => (some (bt220.1, bt220.2)))))))) else (none)) else (none))) else (some (0, false)))
def laws_FnExactNextPalindrome.f (k : Nat) (a0 : Int) (a1 : Int) : Option (Bool) := (spec_NextPalindrome.f k a0 a1).bind fun bt222 => ((impl_NextPalindrome.f k a0 a1).bind fun bt224 => (if bt224.1 = bt222.1 then (if (bt224.2 != bt222.2) = true then (some false) else (some true)) else (some false)))
def laws_FnExactNextPalindrome.Pure : Prop := ∀ (a0 : Int) (a1 : Int), (Lit.int .i64 a0).wf = true → (Lit.int .i64 a1).wf = true → ∃ k, laws_FnExactNextPalindrome.f k a0 a1 = some true
mutual
def spec_dgWays.l0 : Nat → Int → Int → List Int → Int → Int → Option (Int)
  | 0, _, _, _, _, _ => none
  | k + 1, x3, x4, x8, x9, x10 => if x10 < x9 then (if 0 ≤ x10 then (if x10 < (x8.length : Int) then (spec_dgWays.l1 k x3 x4 (rd x8 x10) 1 x8 x9 x10) else (none)) else (none)) else (some x3)
def spec_dgWays.l1 : Nat → Int → Int → Int → Int → List Int → Int → Int → Option (Int)
  | 0, _, _, _, _, _, _, _ => none
  | k + 1, x3, x4, x6, x7, x8, x9, x10 => if x7 ≤ x6 then (if x7 = 0 then (none) else (spec_dgWays.l1 k (wrap64 (Int.tdiv (wrap64 (x3 * (wrap64 (x4 + 1)))) x7)) (wrap64 (x4 + 1)) x6 (wrap64 (x7 + 1)) x8 x9 x10)) else (spec_dgWays.l0 k x3 x4 x8 x9 (wrap64 (x10 + 1)))
end
def spec_dgWays.f (k : Nat) (l0 : List Int) : Option (Int) := spec_dgWays.l0 k 1 0 l0 (l0.length : Int) 0
def spec_CountRearranged.f (k : Nat) (a0 : Int) (a1 : Int) : Option (Int × Bool) := (spec_dgAsked.f a0 a1).bind fun t121 => (if t121 = true then ((spec_dgOf.f k a0 a1).bind fun t122 => ((spec_dgCounts.f k t122 a1).bind fun t125 => (if a0 = 0 then (some (1, true)) else ((spec_dgWays.f k t125).bind fun t128 => (if 0 < (t125.length : Int) then (if (rd t125 0) > 0 then ((spec_dgWays.f k (t125.set (0 : Int).toNat (wrap64 ((rd t125 0) - 1)))).bind fun t132 => (some (wrap64 (t128 - t132), true))) else (some (t128, true))) else (none)))))) else (some (0, false)))
def impl_choose.l0 : Nat → Int → Int → Int → Int → Option (Int)
  | 0, _, _, _, _ => none
  | k + 1, x0, x1, x5, x6 => if x6 ≤ x1 then (if x6 = 0 then (none) else (impl_choose.l0 k x0 x1 (wrap64 (Int.tdiv (wrap64 (x5 * (wrap64 ((wrap64 (x0 - x1)) + x6)))) x6)) (wrap64 (x6 + 1)))) else (some x5)
def impl_choose.f (k : Nat) (a0 : Int) (a1 : Int) : Option (Int) := impl_choose.l0 k a0 a1 1 1
def impl_orders.l0 : Nat → Int → Int → List Int → Int → Int → Option (Int)
  | 0, _, _, _, _, _ => none
  | k + 1, x3, x4, x7, x8, x9 => if x9 < x8 then (if 0 ≤ x9 then (if x9 < (x7.length : Int) then ((impl_choose.f k (wrap64 (x4 + (rd x7 x9))) (rd x7 x9)).bind fun t154 => (impl_orders.l0 k (wrap64 (x3 * t154)) (wrap64 (x4 + (rd x7 x9))) x7 x8 (wrap64 (x9 + 1)))) else (none)) else (none)) else (some x3)
def impl_orders.f (k : Nat) (l0 : List Int) : Option (Int) := impl_orders.l0 k 1 0 l0 (l0.length : Int) 0
def impl_CountRearranged.f (k : Nat) (a0 : Int) (a1 : Int) : Option (Int × Bool) := (impl_isNumber.f a0 a1).bind fun t155 => (if t155 = true then ((impl_digitsOf.f k a0 a1).bind fun t156 => ((impl_countsOf.f k t156 a1).bind fun t159 => ((impl_orders.f k t159).bind fun t162 => (if 0 < (t159.length : Int) then (if (rd t159 0) > 0 then (if a0 > 0 then ((impl_orders.f k (t159.set (0 : Int).toNat (wrap64 ((rd t159 0) - 1)))).bind fun t166 => (some (wrap64 (t162 - t166), true))) else (some (t162, true))) else (some (t162, true))) else (none))))) else (some (0, false)))
def laws_FnExactCountRearranged.f (k : Nat) (a0 : Int) (a1 : Int) : Option (Bool) := (spec_CountRearranged.f k a0 a1).bind fun bt167 => ((impl_CountRearranged.f k a0 a1).bind fun bt169 => (if bt169.1 = bt167.1 then (if (bt169.2 != bt167.2) = true then (some false) else (some true)) else (some false)))
def laws_FnExactCountRearranged.Pure : Prop := ∀ (a0 : Int) (a1 : Int), (Lit.int .i64 a0).wf = true → (Lit.int .i64 a1).wf = true → ∃ k, laws_FnExactCountRearranged.f k a0 a1 = some true

end Go.Proofs.YtndbfkgcmckjlaaC
