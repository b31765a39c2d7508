/- Plain Lean functions: what the Go functions of the digits' statements compute, as the kit's print tells it (each function once). No conditions. -/
import Derived.Test.YtehhkkbejmhcfaaWWords
namespace Go.Proofs.YtehhkkbejmhcfaaC
open Go.RowKit Go.Proofs.YtehhkkbejmhcfaaW.PrintWords
set_option linter.unusedVariables false
def laws_FnExactConstants.f  : Option (Bool) := some true
def laws_FnExactConstants.Pure : Prop := laws_FnExactConstants.f  = some true
def spec_l1In.f (a0 : Int) (a1 : Int) (a2 : Int) : Option (Bool) := if a0 ≥ a1 then (some (decide (a0 ≤ a2))) else (some false)
def spec_dgBase.f (a0 : Int) : Option (Bool) := (spec_l1In.f a0 2 16).bind fun t101 => (some t101)
def spec_dgNumber.f (a0 : Int) : Option (Bool) := (spec_l1In.f a0 0 1000000000000).bind fun t102 => (some t102)
def spec_dgAsked.f (a0 : Int) (a1 : Int) : Option (Bool) := (spec_dgNumber.f a0).bind fun t103 => (if t103 = true then ((spec_dgBase.f a1).bind fun t104 => (some t104)) else (some false))
def spec_dgOf.l0 : Nat → Int → Int → List Int → Option (List Int)
  | 0, _, _, _ => none
  | k + 1, x0, x1, x5 => if x0 > 0 then (if x1 = 0 then (none) else ((some (([Int.tmod x0 x1] : List Int) : List Int)).bind fun y108 => (if y108.length + x5.length < 17592186044416 then (spec_dgOf.l0 k (wrap64 (Int.tdiv x0 x1)) x1 (y108 ++ x5)) else (none)))) else (some x5)
def spec_dgOf.f (k : Nat) (a0 : Int) (a1 : Int) : Option (List Int) := if a0 = 0 then (some (([0] : List Int))) else (spec_dgOf.l0 k a0 a1 ([] : List Int))
def spec_CountDigits.f (k : Nat) (a0 : Int) (a1 : Int) : Option (Int × Bool) := (spec_dgAsked.f a0 a1).bind fun t114 => (if t114 = true then ((spec_dgOf.f k a0 a1).bind fun t115 => (some ((t115.length : Int), true))) else (some (0, false)))
def impl_in.f (a0 : Int) (a1 : Int) (a2 : Int) : Option (Bool) := if a1 ≤ a0 then (some (decide (a0 ≤ a2))) else (some false)
def impl_isBase.f (a0 : Int) : Option (Bool) := (impl_in.f a0 2 16).bind fun t118 => (some t118)
def impl_isNumber.f (a0 : Int) (a1 : Int) : Option (Bool) := (impl_in.f a0 0 1000000000000).bind fun t119 => (if t119 = true then ((impl_isBase.f a1).bind fun t120 => (some t120)) else (some false))
def slices_Reverse_int_int.l0 : Nat → List Int → Int → Int → Option (List Int)
  | 0, _, _, _ => none
  | k + 1, x0, x2, x3 => if x2 < x3 then (if 0 ≤ x3 then (if x3 < (x0.length : Int) then (if 0 ≤ x2 then (if x2 < (x0.length : Int) then (slices_Reverse_int_int.l0 k ((x0.set (x2 : Int).toNat (rd x0 x3)).set (x3 : Int).toNat (rd x0 x2)) (wrap64 (x2 + 1)) (wrap64 (x3 - 1))) else (none)) else (none)) else (none)) else (none)) else (some x0)
def slices_Reverse_int_int.f (k : Nat) (l0 : List Int) : Option (List Int) := slices_Reverse_int_int.l0 k l0 0 (wrap64 ((l0.length : Int) - 1))
def impl_digitsOf.l0 : Nat → Int → Int → List Int → Option (List Int)
  | 0, _, _, _ => none
  | k + 1, x0, x1, x5 => if x0 > 0 then (if x1 = 0 then (none) else (if x5.length < 17592186044416 then (impl_digitsOf.l0 k (wrap64 (Int.tdiv x0 x1)) x1 (x5 ++ [Int.tmod x0 x1])) else (none))) else ((slices_Reverse_int_int.f k x5).bind fun t131 => (some t131))
def impl_digitsOf.f (k : Nat) (a0 : Int) (a1 : Int) : Option (List Int) := if a1 = 0 then (none) else (impl_digitsOf.l0 k (wrap64 (Int.tdiv a0 a1)) a1 (([Int.tmod a0 a1] : List Int)))
def impl_CountDigits.f (k : Nat) (a0 : Int) (a1 : Int) : Option (Int × Bool) := (impl_isNumber.f a0 a1).bind fun t132 => (if t132 = true then ((impl_digitsOf.f k a0 a1).bind fun t133 => (some ((t133.length : Int), true))) else (some (0, false)))
def laws_FnExactCountDigits.f (k : Nat) (a0 : Int) (a1 : Int) : Option (Bool) := (spec_CountDigits.f k a0 a1).bind fun bt136 => ((impl_CountDigits.f k a0 a1).bind fun bt138 => (if bt138.1 = bt136.1 then (if (bt138.2 != bt136.2) = true then (some false) else (some true)) else (some false)))
def laws_FnExactCountDigits.Pure : Prop := ∀ (a0 : Int) (a1 : Int), (Lit.int .i64 a0).wf = true → (Lit.int .i64 a1).wf = true → ∃ k, laws_FnExactCountDigits.f k a0 a1 = some true
def spec_dgProduct.l0 : Nat → Int → List Int → Int → Int → Option (Int)
  | 0, _, _, _, _ => none
  | k + 1, x3, x6, x7, x8 => if x8 < x7 then (if 0 ≤ x8 then (if x8 < (x6.length : Int) then (spec_dgProduct.l0 k (wrap64 (x3 * (rd x6 x8))) x6 x7 (wrap64 (x8 + 1))) else (none)) else (none)) else (some x3)
def spec_dgProduct.f (k : Nat) (l0 : List Int) : Option (Int) := spec_dgProduct.l0 k 1 l0 (l0.length : Int) 0
def spec_DigitProduct.f (k : Nat) (a0 : Int) (a1 : Int) : Option (Int × Bool) := (spec_dgAsked.f a0 a1).bind fun t115 => (if t115 = true then ((spec_dgOf.f k a0 a1).bind fun t116 => ((spec_dgProduct.f k t116).bind fun t119 => (some (t119, true)))) else (some (0, false)))
def impl_digitProduct.l0 : Nat → Int → List Int → Int → Int → Option (Int)
  | 0, _, _, _, _ => none
  | k + 1, x5, x10, x11, x12 => if x12 < x11 then (if 0 ≤ x12 then (if x12 < (x10.length : Int) then (impl_digitProduct.l0 k (wrap64 (x5 * (rd x10 x12))) x10 x11 (wrap64 (x12 + 1))) else (none)) else (none)) else (some x5)
def impl_digitProduct.f (k : Nat) (a0 : Int) (a1 : Int) : Option (Int) := (impl_digitsOf.f k a0 a1).bind fun t134 => (impl_digitProduct.l0 k 1 t134 (t134.length : Int) 0)
def impl_DigitProduct.f (k : Nat) (a0 : Int) (a1 : Int) : Option (Int × Bool) := (impl_isNumber.f a0 a1).bind fun t138 => (if t138 = true then ((impl_digitProduct.f k a0 a1).bind fun t139 => (some (t139, true))) else (some (0, false)))
def laws_FnExactDigitProduct.f (k : Nat) (a0 : Int) (a1 : Int) : Option (Bool) := (spec_DigitProduct.f k a0 a1).bind fun bt140 => ((impl_DigitProduct.f k a0 a1).bind fun bt142 => (if bt142.1 = bt140.1 then (if (bt142.2 != bt140.2) = true then (some false) else (some true)) else (some false)))
def laws_FnExactDigitProduct.Pure : Prop := ∀ (a0 : Int) (a1 : Int), (Lit.int .i64 a0).wf = true → (Lit.int .i64 a1).wf = true → ∃ k, laws_FnExactDigitProduct.f k a0 a1 = some true
def spec_dgSum.l0 : Nat → Int → List Int → Int → Int → Option (Int)
  | 0, _, _, _, _ => none
  | k + 1, x3, x6, x7, x8 => if x8 < x7 then (if 0 ≤ x8 then (if x8 < (x6.length : Int) then (spec_dgSum.l0 k (wrap64 (x3 + (rd x6 x8))) x6 x7 (wrap64 (x8 + 1))) else (none)) else (none)) else (some x3)
def spec_dgSum.f (k : Nat) (l0 : List Int) : Option (Int) := spec_dgSum.l0 k 0 l0 (l0.length : Int) 0
def spec_DigitSum.f (k : Nat) (a0 : Int) (a1 : Int) : Option (Int × Bool) := (spec_dgAsked.f a0 a1).bind fun t115 => (if t115 = true then ((spec_dgOf.f k a0 a1).bind fun t116 => ((spec_dgSum.f k t116).bind fun t119 => (some (t119, true)))) else (some (0, false)))
def impl_digitSum.l0 : Nat → Int → List Int → Int → Int → Option (Int)
  | 0, _, _, _, _ => none
  | k + 1, x5, x10, x11, x12 => if x12 < x11 then (if 0 ≤ x12 then (if x12 < (x10.length : Int) then (impl_digitSum.l0 k (wrap64 (x5 + (rd x10 x12))) x10 x11 (wrap64 (x12 + 1))) else (none)) else (none)) else (some x5)
def impl_digitSum.f (k : Nat) (a0 : Int) (a1 : Int) : Option (Int) := (impl_digitsOf.f k a0 a1).bind fun t134 => (impl_digitSum.l0 k 0 t134 (t134.length : Int) 0)
def impl_DigitSum.f (k : Nat) (a0 : Int) (a1 : Int) : Option (Int × Bool) := (impl_isNumber.f a0 a1).bind fun t138 => (if t138 = true then ((impl_digitSum.f k a0 a1).bind fun t139 => (some (t139, true))) else (some (0, false)))
def laws_FnExactDigitSum.f (k : Nat) (a0 : Int) (a1 : Int) : Option (Bool) := (spec_DigitSum.f k a0 a1).bind fun bt140 => ((impl_DigitSum.f k a0 a1).bind fun bt142 => (if bt142.1 = bt140.1 then (if (bt142.2 != bt140.2) = true then (some false) else (some true)) else (some false)))
def laws_FnExactDigitSum.Pure : Prop := ∀ (a0 : Int) (a1 : Int), (Lit.int .i64 a0).wf = true → (Lit.int .i64 a1).wf = true → ∃ k, laws_FnExactDigitSum.f k a0 a1 = some true
def spec_dgText.l0 : Nat → ByteArray → List Int → Int → Int → Option (ByteArray)
  | 0, _, _, _, _ => none
  | k + 1, x5, x10, x11, x12 => if x12 < x11 then (if 0 ≤ x12 then (if x12 < (x10.length : Int) then (if 0 ≤ (rd x10 x12) then (if (rd x10 x12) ≤ (wrap64 ((rd x10 x12) + 1)) then (if (wrap64 ((rd x10 x12) + 1)) ≤ 16 then (if x5.size + ((⟨#[48, 49, 50, 51, 52, 53, 54, 55, 56, 57, 97, 98, 99, 100, 101, 102]⟩ : ByteArray).extract ((rd x10 x12) : Int).toNat ((wrap64 ((rd x10 x12) + 1)) : Int).toNat).size ≤ 9223372036854775807 then (spec_dgText.l0 k (x5 ++ ((⟨#[48, 49, 50, 51, 52, 53, 54, 55, 56, 57, 97, 98, 99, 100, 101, 102]⟩ : ByteArray).extract ((rd x10 x12) : Int).toNat ((wrap64 ((rd x10 x12) + 1)) : Int).toNat)) x10 x11 (wrap64 (x12 + 1))) else (none)) else (none)) else (none)) else (none)) else (none)) else (none)) else (some x5)
def spec_dgText.f (k : Nat) (a0 : Int) (a1 : Int) : Option (ByteArray) := (spec_dgOf.f k a0 a1).bind fun t114 => (spec_dgText.l0 k (⟨#[]⟩ : ByteArray) t114 (t114.length : Int) 0)
def spec_NumberText.f (k : Nat) (a0 : Int) (a1 : Int) : Option (ByteArray × Bool) := (spec_dgAsked.f a0 a1).bind fun t118 => (if t118 = true then ((spec_dgText.f k a0 a1).bind fun t119 => (some (t119, true))) else (some ((⟨#[]⟩ : ByteArray), false)))
def impl_textOf.l0 : Nat → List Int → List Int → Int → Int → Option (ByteArray)
  | 0, _, _, _, _ => none
  | k + 1, x5, x11, x12, x13 => if x13 < x12 then (if 0 ≤ x13 then (if x13 < (x11.length : Int) then (if 0 ≤ (rd x11 x13) then (if (rd x11 x13) < 16 then (if x5.length < 140737488355328 then (impl_textOf.l0 k (x5 ++ [bt (⟨#[48, 49, 50, 51, 52, 53, 54, 55, 56, 57, 97, 98, 99, 100, 101, 102]⟩ : ByteArray) (rd x11 x13)]) x11 x12 (wrap64 (x13 + 1))) else (none)) else (none)) else (none)) else (none)) else (none)) else (some (strOfNums x5))
def impl_textOf.f (k : Nat) (a0 : Int) (a1 : Int) : Option (ByteArray) := (impl_digitsOf.f k a0 a1).bind fun t137 => (impl_textOf.l0 k (([] : List Int)) t137 (t137.length : Int) 0)
def impl_NumberText.f (k : Nat) (a0 : Int) (a1 : Int) : Option (ByteArray × Bool) := (impl_isNumber.f a0 a1).bind fun t144 => (if t144 = true then ((impl_textOf.f k a0 a1).bind fun t145 => (some (t145, true))) else (some ((⟨#[]⟩ : ByteArray), false)))
def laws_FnExactNumberText.f (k : Nat) (a0 : Int) (a1 : Int) : Option (Bool) := (spec_NumberText.f k a0 a1).bind fun bt146 => ((impl_NumberText.f k a0 a1).bind fun bt148 => (if bt148.1.toList = bt146.1.toList then (if (bt148.2 != bt146.2) = true then (some false) else (some true)) else (some false)))
def laws_FnExactNumberText.Pure : Prop := ∀ (a0 : Int) (a1 : Int), (Lit.int .i64 a0).wf = true → (Lit.int .i64 a1).wf = true → ∃ k, laws_FnExactNumberText.f k a0 a1 = some true
def spec_DigitalRoot.l0 : Nat → Int → Int → Option (Int × Bool)
  | 0, _, _ => none
  | k + 1, x0, x1 => if x0 ≥ x1 then ((spec_dgOf.f k x0 x1).bind fun t116 => ((spec_dgSum.f k t116).bind fun t119 => (spec_DigitalRoot.l0 k t119 x1))) else (some (x0, true))
def spec_DigitalRoot.f (k : Nat) (a0 : Int) (a1 : Int) : Option (Int × Bool) := (spec_dgAsked.f a0 a1).bind fun t115 => (if t115 = true then (spec_DigitalRoot.l0 k a0 a1) else (some (0, false)))
def impl_DigitalRoot.l0 : Nat → Int → Int → Option (Int × Bool)
  | 0, _, _ => none
  | k + 1, x0, x1 => if x0 ≥ x1 then ((impl_digitSum.f k x0 x1).bind fun t139 => (impl_DigitalRoot.l0 k t139 x1)) else (some (x0, true))
def impl_DigitalRoot.f (k : Nat) (a0 : Int) (a1 : Int) : Option (Int × Bool) := (impl_isNumber.f a0 a1).bind fun t138 => (if t138 = true then (impl_DigitalRoot.l0 k a0 a1) else (some (0, false)))
def laws_FnExactDigitalRoot.f (k : Nat) (a0 : Int) (a1 : Int) : Option (Bool) := (spec_DigitalRoot.f k a0 a1).bind fun bt140 => ((impl_DigitalRoot.f k a0 a1).bind fun bt142 => (if bt142.1 = bt140.1 then (if (bt142.2 != bt140.2) = true then (some false) else (some true)) else (some false)))
def laws_FnExactDigitalRoot.Pure : Prop := ∀ (a0 : Int) (a1 : Int), (Lit.int .i64 a0).wf = true → (Lit.int .i64 a1).wf = true → ∃ k, laws_FnExactDigitalRoot.f k a0 a1 = some true
def laws_eqIntS.l0 : Nat → List Int → List Int → Int → Option (Bool)
  | 0, _, _, _ => none
  | k + 1, x0, x1, x5 => if x5 < (x0.length : Int) then (if 0 ≤ x5 then (if x5 < (x1.length : Int) then (if (rd x0 x5) = (rd x1 x5) then (laws_eqIntS.l0 k x0 x1 (wrap64 (x5 + 1))) else (some false)) else (none)) else (none)) else (some true)
def laws_eqIntS.f (k : Nat) (l0 : List Int) (l1 : List Int) : Option (Bool) := if (l0.length : Int) = (l1.length : Int) then (laws_eqIntS.l0 k l0 l1 0) else (some false)
def spec_DigitsOf.f (k : Nat) (a0 : Int) (a1 : Int) : Option (List Int × Bool) := (spec_dgAsked.f a0 a1).bind fun t116 => (if t116 = true then ((spec_dgOf.f k a0 a1).bind fun t117 => (some (t117, true))) else (some (([] : List Int), false)))
def impl_DigitsOf.f (k : Nat) (a0 : Int) (a1 : Int) : Option (List Int × Bool) := (impl_isNumber.f a0 a1).bind fun t134 => (if t134 = true then ((impl_digitsOf.f k a0 a1).bind fun t135 => (some (t135, true))) else (some (([] : List Int), false)))
def laws_markIntS.l0 : Nat → List Int → Int → Int → Option (Int × List Int)
  | 0, _, _, _ => none
  | k + 1, x0, x1, x5 => if x5 < (x0.length : Int) then (if 0 ≤ x5 then (laws_markIntS.l0 k (x0.set (x5 : Int).toNat x1) (wrap64 (x1 + 1)) (wrap64 (x5 + 1))) else (none)) else (some (x1, x0))
def laws_markIntS.f (k : Nat) (l0 : List Int) (a1 : Int) : Option (Int × List Int) := laws_markIntS.l0 k l0 a1 0
def laws_heldIntS.l0 : Nat → List Int → Int → Int → Option (Int)
  | 0, _, _, _ => none
  | k + 1, x0, x1, x5 => if x5 < (x0.length : Int) then (if 0 ≤ x5 then (if (rd x0 x5) = x1 then (laws_heldIntS.l0 k x0 (wrap64 (x1 + 1)) (wrap64 (x5 + 1))) else (some (-1))) else (none)) else (some x1)
def laws_heldIntS.f (k : Nat) (l0 : List Int) (a1 : Int) : Option (Int) := laws_heldIntS.l0 k l0 a1 0
mutual
def laws_FnExactDigitsOf.j0 : Nat → Int → Int → List Int → Bool → List Int → Bool → Option (Bool)
  | 0, _, _, _, _, _, _ => none
  | k + 1, x0, x1, x5, x6, x7, x33 => if x33 = true then (some false) else ((laws_markIntS.f k x7 1).bind fun bt149 => ((laws_heldIntS.f k bt149.2 1).bind fun t151 => (if t151 < 0 then (some false) else (if t151 = bt149.1 then ((impl_DigitsOf.f k x0 x1).bind fun bt152 => ((laws_eqIntS.f k bt152.1 x5).bind fun t156 => (if t156 = true then (laws_FnExactDigitsOf.j1 k bt149.2 bt149.1 (bt152.2 != x6)) else (laws_FnExactDigitsOf.j1 k bt149.2 bt149.1 true)))) else (some false)))))
def laws_FnExactDigitsOf.j1 : Nat → List Int → Int → Bool → Option (Bool)
  | 0, _, _, _ => none
  | k + 1, x7, x9, x59 => if x59 = true then (some false) else ((laws_heldIntS.f k x7 1).bind fun t157 => (if t157 < 0 then (some false) else (if t157 = x9 then (some true) else (some false))))
end
def laws_FnExactDigitsOf.f (k : Nat) (a0 : Int) (a1 : Int) : Option (Bool) := (spec_DigitsOf.f k a0 a1).bind fun bt140 => ((impl_DigitsOf.f k a0 a1).bind fun bt144 => ((laws_eqIntS.f k bt144.1 bt140.1).bind fun t148 => (if t148 = true then (laws_FnExactDigitsOf.j0 k a0 a1 bt140.1 bt140.2 bt144.1 (bt144.2 != bt140.2)) else (laws_FnExactDigitsOf.j0 k a0 a1 bt140.1 bt140.2 bt144.1 true))))
def laws_FnExactDigitsOf.Pure : Prop := ∀ (a0 : Int) (a1 : Int), (Lit.int .i64 a0).wf = true → (Lit.int .i64 a1).wf = true → ∃ k, laws_FnExactDigitsOf.f k a0 a1 = some true
def spec_dgCounts.l0 : Nat → List Int → List Int → Int → Int → Option (List Int)
  | 0, _, _, _, _ => none
  | k + 1, x5, x10, x11, x12 => if x12 < x11 then (if 0 ≤ x12 then (if x12 < (x10.length : Int) then (if 0 ≤ (rd x10 x12) then (if (rd x10 x12) < (x5.length : Int) then (spec_dgCounts.l0 k (x5.set ((rd x10 x12) : Int).toNat (wrap64 ((rd x5 (rd x10 x12)) + 1))) x10 x11 (wrap64 (x12 + 1))) else (none)) else (none)) else (none)) else (none)) else (some x5)
def spec_dgCounts.f (k : Nat) (l0 : List Int) (a1 : Int) : Option (List Int) := if 0 ≤ a1 then (if (a1 : Int).toNat ≤ 35184372088832 then (spec_dgCounts.l0 k (List.replicate (a1 : Int).toNat 0) l0 (l0.length : Int) 0) else (none)) else (none)
def spec_DigitCounts.f (k : Nat) (a0 : Int) (a1 : Int) : Option (List Int × Bool) := (spec_dgAsked.f a0 a1).bind fun t124 => (if t124 = true then ((spec_dgOf.f k a0 a1).bind fun t125 => ((spec_dgCounts.f k t125 a1).bind fun t128 => (some (t128, true)))) else (some (([] : List Int), false)))
def impl_countsOf.l0 : Nat → List Int → List Int → Int → Int → Option (List Int)
  | 0, _, _, _, _ => none
  | k + 1, x5, x10, x11, x12 => if x12 < x11 then (if 0 ≤ x12 then (if x12 < (x10.length : Int) then (if 0 ≤ (rd x10 x12) then (if (rd x10 x12) < (x5.length : Int) then (impl_countsOf.l0 k (x5.set ((rd x10 x12) : Int).toNat (wrap64 ((rd x5 (rd x10 x12)) + 1))) x10 x11 (wrap64 (x12 + 1))) else (none)) else (none)) else (none)) else (none)) else (some x5)
def impl_countsOf.f (k : Nat) (l0 : List Int) (a1 : Int) : Option (List Int) := if 0 ≤ a1 then (if (a1 : Int).toNat ≤ 35184372088832 then (impl_countsOf.l0 k (List.replicate (a1 : Int).toNat 0) l0 (l0.length : Int) 0) else (none)) else (none)
def impl_DigitCounts.f (k : Nat) (a0 : Int) (a1 : Int) : Option (List Int × Bool) := (impl_isNumber.f a0 a1).bind fun t151 => (if t151 = true then ((impl_digitsOf.f k a0 a1).bind fun t152 => ((impl_countsOf.f k t152 a1).bind fun t155 => (some (t155, true)))) else (some (([] : List Int), false)))
mutual
def laws_FnExactDigitCounts.j0 : Nat → Int → Int → List Int → Bool → List Int → Bool → Option (Bool)
  | 0, _, _, _, _, _, _ => none
  | k + 1, x0, x1, x5, x6, x7, x33 => if x33 = true then (some false) else ((laws_markIntS.f k x7 1).bind fun bt167 => ((laws_heldIntS.f k bt167.2 1).bind fun t169 => (if t169 < 0 then (some false) else (if t169 = bt167.1 then ((impl_DigitCounts.f k x0 x1).bind fun bt170 => ((laws_eqIntS.f k bt170.1 x5).bind fun t174 => (if t174 = true then (laws_FnExactDigitCounts.j1 k bt167.2 bt167.1 (bt170.2 != x6)) else (laws_FnExactDigitCounts.j1 k bt167.2 bt167.1 true)))) else (some false)))))
def laws_FnExactDigitCounts.j1 : Nat → List Int → Int → Bool → Option (Bool)
  | 0, _, _, _ => none
  | k + 1, x7, x9, x59 => if x59 = true then (some false) else ((laws_heldIntS.f k x7 1).bind fun t175 => (if t175 < 0 then (some false) else (if t175 = x9 then (some true) else (some false))))
end
def laws_FnExactDigitCounts.f (k : Nat) (a0 : Int) (a1 : Int) : Option (Bool) := (spec_DigitCounts.f k a0 a1).bind fun bt158 => ((impl_DigitCounts.f k a0 a1).bind fun bt162 => ((laws_eqIntS.f k bt162.1 bt158.1).bind fun t166 => (if t166 = true then (laws_FnExactDigitCounts.j0 k a0 a1 bt158.1 bt158.2 bt162.1 (bt162.2 != bt158.2)) else (laws_FnExactDigitCounts.j0 k a0 a1 bt158.1 bt158.2 bt162.1 true))))
def laws_FnExactDigitCounts.Pure : Prop := ∀ (a0 : Int) (a1 : Int), (Lit.int .i64 a0).wf = true → (Lit.int .i64 a1).wf = true → ∃ k, laws_FnExactDigitCounts.f k a0 a1 = some true
end Go.Proofs.YtehhkkbejmhcfaaC
