/- Plain texts of FnOwnPowers, merged by a program: what Go functions compute, lemmas of the walk, and proofs. No conditions. -/
import Derived.Test.YtehhkkbejmhcfaaZFnOwnPowers1
import Derived.Test.YtehhkkbejmhcfaaZFnOwnPowers2
section
namespace Go.Proofs.YtehhkkbejmhcfaaC
open Go.RowKit Go.Proofs.YtehhkkbejmhcfaaW.PrintWords
set_option linter.unusedVariables false
def laws_FnExactConstants.f  : Option (Bool) := some true
def laws_FnExactConstants.Pure : Prop := laws_FnExactConstants.f  = some true
def spec_l1In.f (a0 : Int) (a1 : Int) (a2 : Int) : Option (Bool) := if a0 ≥ a1 then (some (decide (a0 ≤ a2))) else (some false)
def spec_dgBase.f (a0 : Int) : Option (Bool) := (spec_l1In.f a0 2 16).bind fun t101 => (some t101)
def spec_dgNumber.f (a0 : Int) : Option (Bool) := (spec_l1In.f a0 0 1000000000000).bind fun t102 => (some t102)
def spec_dgAsked.f (a0 : Int) (a1 : Int) : Option (Bool) := (spec_dgNumber.f a0).bind fun t103 => (if t103 = true then ((spec_dgBase.f a1).bind fun t104 => (some t104)) else (some false))
def spec_dgOf.l0 : Nat → Int → Int → List Int → Option (List Int)
  | 0, _, _, _ => none
  | k + 1, x0, x1, x5 => if x0 > 0 then (if x1 = 0 then (none) else ((some (([Int.tmod x0 x1] : List Int) : List Int)).bind fun y108 => (if y108.length + x5.length < 17592186044416 then (spec_dgOf.l0 k (wrap64 (Int.tdiv x0 x1)) x1 (y108 ++ x5)) else (none)))) else (some x5)
def spec_dgOf.f (k : Nat) (a0 : Int) (a1 : Int) : Option (List Int) := if a0 = 0 then (some (([0] : List Int))) else (spec_dgOf.l0 k a0 a1 ([] : List Int))
def spec_CountDigits.f (k : Nat) (a0 : Int) (a1 : Int) : Option (Int × Bool) := (spec_dgAsked.f a0 a1).bind fun t114 => (if t114 = true then ((spec_dgOf.f k a0 a1).bind fun t115 => (some ((t115.length : Int), true))) else (some (0, false)))
def impl_in.f (a0 : Int) (a1 : Int) (a2 : Int) : Option (Bool) := if a1 ≤ a0 then (some (decide (a0 ≤ a2))) else (some false)
def impl_isBase.f (a0 : Int) : Option (Bool) := (impl_in.f a0 2 16).bind fun t118 => (some t118)
def impl_isNumber.f (a0 : Int) (a1 : Int) : Option (Bool) := (impl_in.f a0 0 1000000000000).bind fun t119 => (if t119 = true then ((impl_isBase.f a1).bind fun t120 => (some t120)) else (some false))
def slices_Reverse_int_int.l0 : Nat → List Int → Int → Int → Option (List Int)
  | 0, _, _, _ => none
  | k + 1, x0, x2, x3 => if x2 < x3 then (if 0 ≤ x3 then (if x3 < (x0.length : Int) then (if 0 ≤ x2 then (if x2 < (x0.length : Int) then (slices_Reverse_int_int.l0 k ((x0.set (x2 : Int).toNat (rd x0 x3)).set (x3 : Int).toNat (rd x0 x2)) (wrap64 (x2 + 1)) (wrap64 (x3 - 1))) else (none)) else (none)) else (none)) else (none)) else (some x0)
def slices_Reverse_int_int.f (k : Nat) (l0 : List Int) : Option (List Int) := slices_Reverse_int_int.l0 k l0 0 (wrap64 ((l0.length : Int) - 1))
def impl_digitsOf.l0 : Nat → Int → Int → List Int → Option (List Int)
  | 0, _, _, _ => none
  | k + 1, x0, x1, x5 => if x0 > 0 then (if x1 = 0 then (none) else (if x5.length < 17592186044416 then (impl_digitsOf.l0 k (wrap64 (Int.tdiv x0 x1)) x1 (x5 ++ [Int.tmod x0 x1])) else (none))) else ((slices_Reverse_int_int.f k x5).bind fun t131 => (some t131))
def impl_digitsOf.f (k : Nat) (a0 : Int) (a1 : Int) : Option (List Int) := if a1 = 0 then (none) else (impl_digitsOf.l0 k (wrap64 (Int.tdiv a0 a1)) a1 (([Int.tmod a0 a1] : List Int)))
def impl_CountDigits.f (k : Nat) (a0 : Int) (a1 : Int) : Option (Int × Bool) := (impl_isNumber.f a0 a1).bind fun t132 => (if t132 = true then ((impl_digitsOf.f k a0 a1).bind fun t133 => (some ((t133.length : Int), true))) else (some (0, false)))
def laws_FnExactCountDigits.f (k : Nat) (a0 : Int) (a1 : Int) : Option (Bool) := (spec_CountDigits.f k a0 a1).bind fun bt136 => ((impl_CountDigits.f k a0 a1).bind fun bt138 => (if bt138.1 = bt136.1 then (if (bt138.2 != bt136.2) = true then (some false) else (some true)) else (some false)))
def laws_FnExactCountDigits.Pure : Prop := ∀ (a0 : Int) (a1 : Int), (Lit.int .i64 a0).wf = true → (Lit.int .i64 a1).wf = true → ∃ k, laws_FnExactCountDigits.f k a0 a1 = some true
def spec_dgProduct.l0 : Nat → Int → List Int → Int → Int → Option (Int)
  | 0, _, _, _, _ => none
  | k + 1, x3, x6, x7, x8 => if x8 < x7 then (if 0 ≤ x8 then (if x8 < (x6.length : Int) then (spec_dgProduct.l0 k (wrap64 (x3 * (rd x6 x8))) x6 x7 (wrap64 (x8 + 1))) else (none)) else (none)) else (some x3)
def spec_dgProduct.f (k : Nat) (l0 : List Int) : Option (Int) := spec_dgProduct.l0 k 1 l0 (l0.length : Int) 0
def spec_DigitProduct.f (k : Nat) (a0 : Int) (a1 : Int) : Option (Int × Bool) := (spec_dgAsked.f a0 a1).bind fun t115 => (if t115 = true then ((spec_dgOf.f k a0 a1).bind fun t116 => ((spec_dgProduct.f k t116).bind fun t119 => (some (t119, true)))) else (some (0, false)))
def impl_digitProduct.l0 : Nat → Int → List Int → Int → Int → Option (Int)
  | 0, _, _, _, _ => none
  | k + 1, x5, x10, x11, x12 => if x12 < x11 then (if 0 ≤ x12 then (if x12 < (x10.length : Int) then (impl_digitProduct.l0 k (wrap64 (x5 * (rd x10 x12))) x10 x11 (wrap64 (x12 + 1))) else (none)) else (none)) else (some x5)
def impl_digitProduct.f (k : Nat) (a0 : Int) (a1 : Int) : Option (Int) := (impl_digitsOf.f k a0 a1).bind fun t134 => (impl_digitProduct.l0 k 1 t134 (t134.length : Int) 0)
def impl_DigitProduct.f (k : Nat) (a0 : Int) (a1 : Int) : Option (Int × Bool) := (impl_isNumber.f a0 a1).bind fun t138 => (if t138 = true then ((impl_digitProduct.f k a0 a1).bind fun t139 => (some (t139, true))) else (some (0, false)))
def laws_FnExactDigitProduct.f (k : Nat) (a0 : Int) (a1 : Int) : Option (Bool) := (spec_DigitProduct.f k a0 a1).bind fun bt140 => ((impl_DigitProduct.f k a0 a1).bind fun bt142 => (if bt142.1 = bt140.1 then (if (bt142.2 != bt140.2) = true then (some false) else (some true)) else (some false)))
def laws_FnExactDigitProduct.Pure : Prop := ∀ (a0 : Int) (a1 : Int), (Lit.int .i64 a0).wf = true → (Lit.int .i64 a1).wf = true → ∃ k, laws_FnExactDigitProduct.f k a0 a1 = some true
def spec_dgSum.l0 : Nat → Int → List Int → Int → Int → Option (Int)
  | 0, _, _, _, _ => none
  | k + 1, x3, x6, x7, x8 => if x8 < x7 then (if 0 ≤ x8 then (if x8 < (x6.length : Int) then (spec_dgSum.l0 k (wrap64 (x3 + (rd x6 x8))) x6 x7 (wrap64 (x8 + 1))) else (none)) else (none)) else (some x3)
def spec_dgSum.f (k : Nat) (l0 : List Int) : Option (Int) := spec_dgSum.l0 k 0 l0 (l0.length : Int) 0
def spec_DigitSum.f (k : Nat) (a0 : Int) (a1 : Int) : Option (Int × Bool) := (spec_dgAsked.f a0 a1).bind fun t115 => (if t115 = true then ((spec_dgOf.f k a0 a1).bind fun t116 => ((spec_dgSum.f k t116).bind fun t119 => (some (t119, true)))) else (some (0, false)))
def impl_digitSum.l0 : Nat → Int → List Int → Int → Int → Option (Int)
  | 0, _, _, _, _ => none
  | k + 1, x5, x10, x11, x12 => if x12 < x11 then (if 0 ≤ x12 then (if x12 < (x10.length : Int) then (impl_digitSum.l0 k (wrap64 (x5 + (rd x10 x12))) x10 x11 (wrap64 (x12 + 1))) else (none)) else (none)) else (some x5)
def impl_digitSum.f (k : Nat) (a0 : Int) (a1 : Int) : Option (Int) := (impl_digitsOf.f k a0 a1).bind fun t134 => (impl_digitSum.l0 k 0 t134 (t134.length : Int) 0)
def impl_DigitSum.f (k : Nat) (a0 : Int) (a1 : Int) : Option (Int × Bool) := (impl_isNumber.f a0 a1).bind fun t138 => (if t138 = true then ((impl_digitSum.f k a0 a1).bind fun t139 => (some (t139, true))) else (some (0, false)))
def laws_FnExactDigitSum.f (k : Nat) (a0 : Int) (a1 : Int) : Option (Bool) := (spec_DigitSum.f k a0 a1).bind fun bt140 => ((impl_DigitSum.f k a0 a1).bind fun bt142 => (if bt142.1 = bt140.1 then (if (bt142.2 != bt140.2) = true then (some false) else (some true)) else (some false)))
def laws_FnExactDigitSum.Pure : Prop := ∀ (a0 : Int) (a1 : Int), (Lit.int .i64 a0).wf = true → (Lit.int .i64 a1).wf = true → ∃ k, laws_FnExactDigitSum.f k a0 a1 = some true
def spec_dgText.l0 : Nat → ByteArray → List Int → Int → Int → Option (ByteArray)
  | 0, _, _, _, _ => none
  | k + 1, x5, x10, x11, x12 => if x12 < x11 then (if 0 ≤ x12 then (if x12 < (x10.length : Int) then (if 0 ≤ (rd x10 x12) then (if (rd x10 x12) ≤ (wrap64 ((rd x10 x12) + 1)) then (if (wrap64 ((rd x10 x12) + 1)) ≤ 16 then (if x5.size + ((⟨#[48, 49, 50, 51, 52, 53, 54, 55, 56, 57, 97, 98, 99, 100, 101, 102]⟩ : ByteArray).extract ((rd x10 x12) : Int).toNat ((wrap64 ((rd x10 x12) + 1)) : Int).toNat).size ≤ 9223372036854775807 then (spec_dgText.l0 k (x5 ++ ((⟨#[48, 49, 50, 51, 52, 53, 54, 55, 56, 57, 97, 98, 99, 100, 101, 102]⟩ : ByteArray).extract ((rd x10 x12) : Int).toNat ((wrap64 ((rd x10 x12) + 1)) : Int).toNat)) x10 x11 (wrap64 (x12 + 1))) else (none)) else (none)) else (none)) else (none)) else (none)) else (none)) else (some x5)
def spec_dgText.f (k : Nat) (a0 : Int) (a1 : Int) : Option (ByteArray) := (spec_dgOf.f k a0 a1).bind fun t114 => (spec_dgText.l0 k (⟨#[]⟩ : ByteArray) t114 (t114.length : Int) 0)
def spec_NumberText.f (k : Nat) (a0 : Int) (a1 : Int) : Option (ByteArray × Bool) := (spec_dgAsked.f a0 a1).bind fun t118 => (if t118 = true then ((spec_dgText.f k a0 a1).bind fun t119 => (some (t119, true))) else (some ((⟨#[]⟩ : ByteArray), false)))
def impl_textOf.l0 : Nat → List Int → List Int → Int → Int → Option (ByteArray)
  | 0, _, _, _, _ => none
  | k + 1, x5, x11, x12, x13 => if x13 < x12 then (if 0 ≤ x13 then (if x13 < (x11.length : Int) then (if 0 ≤ (rd x11 x13) then (if (rd x11 x13) < 16 then (if x5.length < 140737488355328 then (impl_textOf.l0 k (x5 ++ [bt (⟨#[48, 49, 50, 51, 52, 53, 54, 55, 56, 57, 97, 98, 99, 100, 101, 102]⟩ : ByteArray) (rd x11 x13)]) x11 x12 (wrap64 (x13 + 1))) else (none)) else (none)) else (none)) else (none)) else (none)) else (some (strOfNums x5))
def impl_textOf.f (k : Nat) (a0 : Int) (a1 : Int) : Option (ByteArray) := (impl_digitsOf.f k a0 a1).bind fun t137 => (impl_textOf.l0 k (([] : List Int)) t137 (t137.length : Int) 0)
def impl_NumberText.f (k : Nat) (a0 : Int) (a1 : Int) : Option (ByteArray × Bool) := (impl_isNumber.f a0 a1).bind fun t144 => (if t144 = true then ((impl_textOf.f k a0 a1).bind fun t145 => (some (t145, true))) else (some ((⟨#[]⟩ : ByteArray), false)))
def laws_FnExactNumberText.f (k : Nat) (a0 : Int) (a1 : Int) : Option (Bool) := (spec_NumberText.f k a0 a1).bind fun bt146 => ((impl_NumberText.f k a0 a1).bind fun bt148 => (if bt148.1.toList = bt146.1.toList then (if (bt148.2 != bt146.2) = true then (some false) else (some true)) else (some false)))
def laws_FnExactNumberText.Pure : Prop := ∀ (a0 : Int) (a1 : Int), (Lit.int .i64 a0).wf = true → (Lit.int .i64 a1).wf = true → ∃ k, laws_FnExactNumberText.f k a0 a1 = some true
def spec_DigitalRoot.l0 : Nat → Int → Int → Option (Int × Bool)
  | 0, _, _ => none
  | k + 1, x0, x1 => if x0 ≥ x1 then ((spec_dgOf.f k x0 x1).bind fun t116 => ((spec_dgSum.f k t116).bind fun t119 => (spec_DigitalRoot.l0 k t119 x1))) else (some (x0, true))
def spec_DigitalRoot.f (k : Nat) (a0 : Int) (a1 : Int) : Option (Int × Bool) := (spec_dgAsked.f a0 a1).bind fun t115 => (if t115 = true then (spec_DigitalRoot.l0 k a0 a1) else (some (0, false)))
def impl_DigitalRoot.l0 : Nat → Int → Int → Option (Int × Bool)
  | 0, _, _ => none
  | k + 1, x0, x1 => if x0 ≥ x1 then ((impl_digitSum.f k x0 x1).bind fun t139 => (impl_DigitalRoot.l0 k t139 x1)) else (some (x0, true))
def impl_DigitalRoot.f (k : Nat) (a0 : Int) (a1 : Int) : Option (Int × Bool) := (impl_isNumber.f a0 a1).bind fun t138 => (if t138 = true then (impl_DigitalRoot.l0 k a0 a1) else (some (0, false)))
def laws_FnExactDigitalRoot.f (k : Nat) (a0 : Int) (a1 : Int) : Option (Bool) := (spec_DigitalRoot.f k a0 a1).bind fun bt140 => ((impl_DigitalRoot.f k a0 a1).bind fun bt142 => (if bt142.1 = bt140.1 then (if (bt142.2 != bt140.2) = true then (some false) else (some true)) else (some false)))
def laws_FnExactDigitalRoot.Pure : Prop := ∀ (a0 : Int) (a1 : Int), (Lit.int .i64 a0).wf = true → (Lit.int .i64 a1).wf = true → ∃ k, laws_FnExactDigitalRoot.f k a0 a1 = some true
def laws_eqIntS.l0 : Nat → List Int → List Int → Int → Option (Bool)
  | 0, _, _, _ => none
  | k + 1, x0, x1, x5 => if x5 < (x0.length : Int) then (if 0 ≤ x5 then (if x5 < (x1.length : Int) then (if (rd x0 x5) = (rd x1 x5) then (laws_eqIntS.l0 k x0 x1 (wrap64 (x5 + 1))) else (some false)) else (none)) else (none)) else (some true)
def laws_eqIntS.f (k : Nat) (l0 : List Int) (l1 : List Int) : Option (Bool) := if (l0.length : Int) = (l1.length : Int) then (laws_eqIntS.l0 k l0 l1 0) else (some false)
def spec_DigitsOf.f (k : Nat) (a0 : Int) (a1 : Int) : Option (List Int × Bool) := (spec_dgAsked.f a0 a1).bind fun t116 => (if t116 = true then ((spec_dgOf.f k a0 a1).bind fun t117 => (some (t117, true))) else (some (([] : List Int), false)))
def impl_DigitsOf.f (k : Nat) (a0 : Int) (a1 : Int) : Option (List Int × Bool) := (impl_isNumber.f a0 a1).bind fun t134 => (if t134 = true then ((impl_digitsOf.f k a0 a1).bind fun t135 => (some (t135, true))) else (some (([] : List Int), false)))
def laws_markIntS.l0 : Nat → List Int → Int → Int → Option (Int × List Int)
  | 0, _, _, _ => none
  | k + 1, x0, x1, x5 => if x5 < (x0.length : Int) then (if 0 ≤ x5 then (laws_markIntS.l0 k (x0.set (x5 : Int).toNat x1) (wrap64 (x1 + 1)) (wrap64 (x5 + 1))) else (none)) else (some (x1, x0))
def laws_markIntS.f (k : Nat) (l0 : List Int) (a1 : Int) : Option (Int × List Int) := laws_markIntS.l0 k l0 a1 0
def laws_heldIntS.l0 : Nat → List Int → Int → Int → Option (Int)
  | 0, _, _, _ => none
  | k + 1, x0, x1, x5 => if x5 < (x0.length : Int) then (if 0 ≤ x5 then (if (rd x0 x5) = x1 then (laws_heldIntS.l0 k x0 (wrap64 (x1 + 1)) (wrap64 (x5 + 1))) else (some (-1))) else (none)) else (some x1)
def laws_heldIntS.f (k : Nat) (l0 : List Int) (a1 : Int) : Option (Int) := laws_heldIntS.l0 k l0 a1 0
mutual
def laws_FnExactDigitsOf.j0 : Nat → Int → Int → List Int → Bool → List Int → Bool → Option (Bool)
  | 0, _, _, _, _, _, _ => none
  | k + 1, x0, x1, x5, x6, x7, x33 => if x33 = true then (some false) else ((laws_markIntS.f k x7 1).bind fun bt149 => ((laws_heldIntS.f k bt149.2 1).bind fun t151 => (if t151 < 0 then (some false) else (if t151 = bt149.1 then ((impl_DigitsOf.f k x0 x1).bind fun bt152 => ((laws_eqIntS.f k bt152.1 x5).bind fun t156 => (if t156 = true then (laws_FnExactDigitsOf.j1 k bt149.2 bt149.1 (bt152.2 != x6)) else (laws_FnExactDigitsOf.j1 k bt149.2 bt149.1 true)))) else (some false)))))
def laws_FnExactDigitsOf.j1 : Nat → List Int → Int → Bool → Option (Bool)
  | 0, _, _, _ => none
  | k + 1, x7, x9, x59 => if x59 = true then (some false) else ((laws_heldIntS.f k x7 1).bind fun t157 => (if t157 < 0 then (some false) else (if t157 = x9 then (some true) else (some false))))
end
def laws_FnExactDigitsOf.f (k : Nat) (a0 : Int) (a1 : Int) : Option (Bool) := (spec_DigitsOf.f k a0 a1).bind fun bt140 => ((impl_DigitsOf.f k a0 a1).bind fun bt144 => ((laws_eqIntS.f k bt144.1 bt140.1).bind fun t148 => (if t148 = true then (laws_FnExactDigitsOf.j0 k a0 a1 bt140.1 bt140.2 bt144.1 (bt144.2 != bt140.2)) else (laws_FnExactDigitsOf.j0 k a0 a1 bt140.1 bt140.2 bt144.1 true))))
def laws_FnExactDigitsOf.Pure : Prop := ∀ (a0 : Int) (a1 : Int), (Lit.int .i64 a0).wf = true → (Lit.int .i64 a1).wf = true → ∃ k, laws_FnExactDigitsOf.f k a0 a1 = some true
def spec_dgCounts.l0 : Nat → List Int → List Int → Int → Int → Option (List Int)
  | 0, _, _, _, _ => none
  | k + 1, x5, x10, x11, x12 => if x12 < x11 then (if 0 ≤ x12 then (if x12 < (x10.length : Int) then (if 0 ≤ (rd x10 x12) then (if (rd x10 x12) < (x5.length : Int) then (spec_dgCounts.l0 k (x5.set ((rd x10 x12) : Int).toNat (wrap64 ((rd x5 (rd x10 x12)) + 1))) x10 x11 (wrap64 (x12 + 1))) else (none)) else (none)) else (none)) else (none)) else (some x5)
def spec_dgCounts.f (k : Nat) (l0 : List Int) (a1 : Int) : Option (List Int) := if 0 ≤ a1 then (if (a1 : Int).toNat ≤ 35184372088832 then (spec_dgCounts.l0 k (List.replicate (a1 : Int).toNat 0) l0 (l0.length : Int) 0) else (none)) else (none)
def spec_DigitCounts.f (k : Nat) (a0 : Int) (a1 : Int) : Option (List Int × Bool) := (spec_dgAsked.f a0 a1).bind fun t124 => (if t124 = true then ((spec_dgOf.f k a0 a1).bind fun t125 => ((spec_dgCounts.f k t125 a1).bind fun t128 => (some (t128, true)))) else (some (([] : List Int), false)))
def impl_countsOf.l0 : Nat → List Int → List Int → Int → Int → Option (List Int)
  | 0, _, _, _, _ => none
  | k + 1, x5, x10, x11, x12 => if x12 < x11 then (if 0 ≤ x12 then (if x12 < (x10.length : Int) then (if 0 ≤ (rd x10 x12) then (if (rd x10 x12) < (x5.length : Int) then (impl_countsOf.l0 k (x5.set ((rd x10 x12) : Int).toNat (wrap64 ((rd x5 (rd x10 x12)) + 1))) x10 x11 (wrap64 (x12 + 1))) else (none)) else (none)) else (none)) else (none)) else (some x5)
def impl_countsOf.f (k : Nat) (l0 : List Int) (a1 : Int) : Option (List Int) := if 0 ≤ a1 then (if (a1 : Int).toNat ≤ 35184372088832 then (impl_countsOf.l0 k (List.replicate (a1 : Int).toNat 0) l0 (l0.length : Int) 0) else (none)) else (none)
def impl_DigitCounts.f (k : Nat) (a0 : Int) (a1 : Int) : Option (List Int × Bool) := (impl_isNumber.f a0 a1).bind fun t151 => (if t151 = true then ((impl_digitsOf.f k a0 a1).bind fun t152 => ((impl_countsOf.f k t152 a1).bind fun t155 => (some (t155, true)))) else (some (([] : List Int), false)))
mutual
def laws_FnExactDigitCounts.j0 : Nat → Int → Int → List Int → Bool → List Int → Bool → Option (Bool)
  | 0, _, _, _, _, _, _ => none
  | k + 1, x0, x1, x5, x6, x7, x33 => if x33 = true then (some false) else ((laws_markIntS.f k x7 1).bind fun bt167 => ((laws_heldIntS.f k bt167.2 1).bind fun t169 => (if t169 < 0 then (some false) else (if t169 = bt167.1 then ((impl_DigitCounts.f k x0 x1).bind fun bt170 => ((laws_eqIntS.f k bt170.1 x5).bind fun t174 => (if t174 = true then (laws_FnExactDigitCounts.j1 k bt167.2 bt167.1 (bt170.2 != x6)) else (laws_FnExactDigitCounts.j1 k bt167.2 bt167.1 true)))) else (some false)))))
def laws_FnExactDigitCounts.j1 : Nat → List Int → Int → Bool → Option (Bool)
  | 0, _, _, _ => none
  | k + 1, x7, x9, x59 => if x59 = true then (some false) else ((laws_heldIntS.f k x7 1).bind fun t175 => (if t175 < 0 then (some false) else (if t175 = x9 then (some true) else (some false))))
end
def laws_FnExactDigitCounts.f (k : Nat) (a0 : Int) (a1 : Int) : Option (Bool) := (spec_DigitCounts.f k a0 a1).bind fun bt158 => ((impl_DigitCounts.f k a0 a1).bind fun bt162 => ((laws_eqIntS.f k bt162.1 bt158.1).bind fun t166 => (if t166 = true then (laws_FnExactDigitCounts.j0 k a0 a1 bt158.1 bt158.2 bt162.1 (bt162.2 != bt158.2)) else (laws_FnExactDigitCounts.j0 k a0 a1 bt158.1 bt158.2 bt162.1 true))))
def laws_FnExactDigitCounts.Pure : Prop := ∀ (a0 : Int) (a1 : Int), (Lit.int .i64 a0).wf = true → (Lit.int .i64 a1).wf = true → ∃ k, laws_FnExactDigitCounts.f k a0 a1 = some true
end Go.Proofs.YtehhkkbejmhcfaaC
end
section
namespace Go.Proofs.YtehhkkbejmhcfaaC
open Go.RowKit Go.Proofs.YtehhkkbejmhcfaaW.PrintWords
theorem w64 {n : Int} (h : -9223372036854775808 ≤ n) (h' : n ≤ 9223372036854775807) : wrap64 n = n := by unfold wrap64; omega
theorem w64n {n : Nat} (h' : n ≤ 9223372036854775807) : wrap64 (n : Int) = (n : Int) := w64 (by omega) (by omega)
theorem rd_mid (a c : List Int) (x : Int) : rd (a ++ x :: c) (a.length : Int) = x := by
  simp [rd]
def lsd (b n : Nat) : List Int :=
  if _h : n = 0 ∨ b < 2 then [] else ((n % b : Nat) : Int) :: lsd b (n / b)
  termination_by n
  decreasing_by exact Nat.div_lt_self (by omega) (by omega)
theorem lsd_zero (b : Nat) : lsd b 0 = [] := by rw [lsd]; simp
theorem lsd_pos {b n : Nat} (hb : 2 ≤ b) (hn : 0 < n) : lsd b n = ((n % b : Nat) : Int) :: lsd b (n / b) := by
  rw [lsd, dif_neg (by omega)]
theorem lsd_length {b : Nat} (hb : 2 ≤ b) : ∀ (d n : Nat), n < 2 ^ d → (lsd b n).length ≤ d := by
  intro d
  induction d with
  | zero => intro n h; obtain rfl : n = 0 := by simpa using h
            simp [lsd_zero]
  | succ d ih =>
    intro n h
    rcases Nat.eq_zero_or_pos n with rfl | hp
    · simp [lsd_zero]
    · rw [lsd_pos hb hp]
      have : n / b < 2 ^ d := by
        have : n / b ≤ n / 2 := Nat.div_le_div_left hb (by omega)
        have : n / 2 < 2 ^ d := by omega
        omega
      have := ih _ this
      simp; omega
theorem lsd_range {b : Nat} (hb : 2 ≤ b) : ∀ (n : Nat), ∀ x ∈ lsd b n, 0 ≤ x ∧ x < b := by
  intro n
  induction n using Nat.strongRecOn with
  | ind n ih =>
    rcases Nat.eq_zero_or_pos n with rfl | hp
    · simp [lsd_zero]
    · rw [lsd_pos hb hp]
      intro x hx
      rcases List.mem_cons.1 hx with rfl | hx
      · have := Nat.mod_lt n (show b > 0 by omega)
        omega
      · exact ih _ (Nat.div_lt_self hp hb) x hx
def dg (b n : Nat) : List Int := if n = 0 then [0] else (lsd b n).reverse
theorem dg_range {b : Nat} (hb : 2 ≤ b) (n : Nat) : ∀ x ∈ dg b n, 0 ≤ x ∧ x < b := by
  unfold dg
  split
  · intro x hx; simp at hx; omega
  · intro x hx; exact lsd_range hb n x (by simpa using hx)
theorem dg_length {b n d : Nat} (hb : 2 ≤ b) (hd : 1 ≤ d) (h : n < 2 ^ d) : (dg b n).length ≤ d := by
  unfold dg
  split
  · simpa using hd
  · simpa using lsd_length hb d n h
theorem dg_ne {b : Nat} (hb : 2 ≤ b) (n : Nat) : dg b n ≠ [] := by
  unfold dg
  split
  · simp
  · rw [lsd_pos hb (by omega)]; simp
theorem tdiv_nat (n b : Nat) : Int.tdiv (n : Int) (b : Int) = ((n / b : Nat) : Int) := (Int.ofNat_tdiv n b).symm
theorem tmod_nat (n b : Nat) : Int.tmod (n : Int) (b : Int) = ((n % b : Nat) : Int) := (Int.ofNat_tmod n b).symm
theorem dgOf_loop {b : Nat} (hb : 2 ≤ b) (hb2 : b ≤ 9223372036854775807) : ∀ (n : Nat), n ≤ 9223372036854775807 → ∀ (acc : List Int) (k : Nat), n < k → acc.length + (lsd b n).length ≤ 1000000 →
    spec_dgOf.l0 k (n : Int) (b : Int) acc = some ((lsd b n).reverse ++ acc) := by
  intro n
  induction n using Nat.strongRecOn with
  | ind n ih =>
    intro hn acc k hk hl
    obtain ⟨k, rfl⟩ : ∃ m, k = m + 1 := ⟨k - 1, by omega⟩
    rcases Nat.eq_zero_or_pos n with rfl | hp
    · rw [spec_dgOf.l0, if_neg (by omega)]; simp [lsd_zero]
    · have hlt := Nat.div_lt_self hp hb
      have e := lsd_pos hb hp
      rw [e] at hl
      simp at hl
      rw [spec_dgOf.l0, if_pos (by omega), if_neg (by omega), tmod_nat, tdiv_nat]
      simp only [Option.bind_some]
      rw [if_pos (by simp; omega), w64n (Nat.le_trans (Nat.div_le_self _ _) hn)]
      rw [ih _ hlt (Nat.le_trans (Nat.div_le_self _ _) hn) _ k (Nat.lt_of_lt_of_le hlt (by omega)) (by simp; omega), e]
      simp
theorem dgOf_ev {b n : Nat} (hb : 2 ≤ b) (hb2 : b ≤ 9223372036854775807) (hn : n ≤ 9223372036854775807) : Ev (fun k => spec_dgOf.f k (n : Int) (b : Int)) (dg b n) := by
  refine ⟨n + 1, fun k hk => ?_⟩
  unfold dg
  show (if (n : Int) = 0 then _ else _) = _
  by_cases h : n = 0
  · subst h; simp
  · rw [if_neg (by omega), if_neg h]
    have := lsd_length hb 63 n (by omega)
    rw [dgOf_loop hb hb2 n hn [] k (by omega) (by simp; omega)]
    simp
theorem rev_loop : ∀ (m : Nat) (mid a c : List Int) (k : Nat), mid.length = m → m < k → a.length + mid.length + c.length ≤ 4611686018427387904 →
    slices_Reverse_int_int.l0 k (a ++ (mid ++ c)) (a.length : Int) ((a.length : Int) + mid.length - 1) = some (a ++ (mid.reverse ++ c)) := by
  intro m
  induction m using Nat.strongRecOn with
  | ind m ih =>
    intro mid a c k hm hk hl
    obtain ⟨k, rfl⟩ : ∃ q, k = q + 1 := ⟨k - 1, by omega⟩
    rcases mid with _ | ⟨x, mid⟩
    · rw [slices_Reverse_int_int.l0, if_neg (by simp; omega)]; simp
    · rcases List.eq_nil_or_concat mid with rfl | ⟨mid, y, rfl⟩
      · rw [slices_Reverse_int_int.l0, if_neg (by simp)]; simp
      · simp only [List.concat_eq_append] at hm hl ⊢
        simp only [List.length_cons, List.length_append, List.length_nil] at hm hl
        have e1 : rd (a ++ ((x :: (mid ++ [y])) ++ c)) (a.length : Int) = x := by
          simpa using rd_mid a ((mid ++ [y]) ++ c) x
        have hj : ((a.length : Int) + ((x :: (mid ++ [y])).length : Int) - 1) = ((a ++ x :: mid).length : Int) := by simp; omega
        have e2 : rd (a ++ ((x :: (mid ++ [y])) ++ c)) ((a ++ x :: mid).length : Int) = y := by
          have := rd_mid (a ++ x :: mid) c y
          simpa using this
        have hw : (a ++ ((x :: (mid ++ [y])) ++ c)).length = a.length + mid.length + 2 + c.length := by simp; omega
        have hA : ((a ++ x :: mid).length) = a.length + mid.length + 1 := by simp; omega
        rw [slices_Reverse_int_int.l0, hj, if_pos (by omega), if_pos (by omega), if_pos (by omega), if_pos (by omega), if_pos (by omega), e1, e2]
        have s1 : (a ++ ((x :: (mid ++ [y])) ++ c)).set ((a.length : Int).toNat) y = a ++ (y :: ((mid ++ [y]) ++ c)) := by
          simp
        have s2 : (a ++ (y :: ((mid ++ [y]) ++ c))).set ((((a ++ x :: mid).length : Nat) : Int).toNat) x = (a ++ [y]) ++ (mid ++ (x :: c)) := by
          have hh : (a ++ x :: mid).length = (a ++ y :: mid).length := by simp
          rw [Int.toNat_natCast, hh]
          simp
        rw [s1, s2, w64 (by omega) (by omega), w64 (by omega) (by omega)]
        have := ih mid.length (by omega) mid (a ++ [y]) (x :: c) k rfl (by omega) (by simp; omega)
        have i1 : ((a.length : Int) + 1) = (((a ++ [y]).length : Nat) : Int) := by simp
        have i2 : (((a ++ x :: mid).length : Nat) : Int) - 1 = (((a ++ [y]).length : Nat) : Int) + (mid.length : Int) - 1 := by simp; omega
        rw [i1, i2, this]
        simp
theorem rev_ev (l : List Int) (hl : l.length ≤ 4611686018427387904) {k : Nat} (hk : l.length < k) : slices_Reverse_int_int.f k l = some l.reverse := by
  have := rev_loop l.length l [] [] k rfl hk (by simpa using hl)
  unfold slices_Reverse_int_int.f
  rw [w64 (by omega) (by omega)]
  simpa using this
theorem digitsOf_loop {b : Nat} (hb : 2 ≤ b) (hb2 : b ≤ 9223372036854775807) : ∀ (n : Nat), n ≤ 9223372036854775807 → ∀ (acc : List Int) (k : Nat), n + acc.length + (lsd b n).length + 1 < k → acc.length + (lsd b n).length ≤ 1000000 →
    impl_digitsOf.l0 k (n : Int) (b : Int) acc = some ((acc ++ lsd b n).reverse) := by
  intro n
  induction n using Nat.strongRecOn with
  | ind n ih =>
    intro hn acc k hk hl
    obtain ⟨k, rfl⟩ : ∃ m, k = m + 1 := ⟨k - 1, by omega⟩
    rcases Nat.eq_zero_or_pos n with rfl | hp
    · simp only [lsd_zero, List.length_nil, List.append_nil] at hk hl ⊢
      rw [impl_digitsOf.l0, if_neg (by omega), rev_ev acc (by omega) (by omega)]; rfl
    · have hlt := Nat.div_lt_self hp hb
      have e := lsd_pos hb hp
      rw [e] at hl hk
      simp only [List.length_cons] at hl hk
      rw [impl_digitsOf.l0, if_pos (by omega), if_neg (by omega), if_pos (by omega), tmod_nat, tdiv_nat, w64n (Nat.le_trans (Nat.div_le_self _ _) hn)]
      generalize hq : n / b = q at *
      rw [ih q hlt (by omega) _ k (by simp; omega) (by simp; omega), e]
      simp
theorem digitsOf_now {b n k : Nat} (hb : 2 ≤ b) (hb2 : b ≤ 9223372036854775807) (hn : n ≤ 9223372036854775807) (hk : n + 200 ≤ k) : impl_digitsOf.f k (n : Int) (b : Int) = some (dg b n) := by
  unfold impl_digitsOf.f dg
  have hd : n / b ≤ n := Nat.div_le_self _ _
  have hl := lsd_length hb 63 (n / b) (by omega)
  show (if (b : Int) = 0 then none else _) = _
  rw [if_neg (by omega), tdiv_nat, tmod_nat, w64n (by omega)]
  rw [digitsOf_loop hb hb2 _ (by omega) _ k (by simp only [List.length_singleton]; omega) (by simp only [List.length_singleton]; omega)]
  by_cases h : n = 0
  · subst h; simp [lsd_zero]
  · rw [if_neg h, lsd_pos hb (Nat.pos_of_ne_zero h)]; simp
theorem l1In_eq (a b c : Int) : spec_l1In.f a b c = some (decide (b ≤ a ∧ a ≤ c)) := by
  unfold spec_l1In.f
  by_cases h : a ≥ b
  · rw [if_pos h]; congr 1; by_cases h2 : a ≤ c <;> simp [h2, show b ≤ a from h]
  · rw [if_neg h]; congr 1; simp [show ¬ b ≤ a from h]
theorem in_eq (a b c : Int) : impl_in.f a b c = some (decide (b ≤ a ∧ a ≤ c)) := by
  unfold impl_in.f
  by_cases h : b ≤ a
  · rw [if_pos h]; congr 1; by_cases h2 : a ≤ c <;> simp [h2, h]
  · rw [if_neg h]; congr 1; simp [h]
def asked (n b : Int) : Bool := decide ((0 ≤ n ∧ n ≤ 1000000000000) ∧ (2 ≤ b ∧ b ≤ 16))
theorem isBase_eq (b : Int) : impl_isBase.f b = some (decide (2 ≤ b ∧ b ≤ 16)) := by simp [impl_isBase.f, in_eq]
theorem isNumber_eq (n b : Int) : impl_isNumber.f n b = some (asked n b) := by
  by_cases h1 : 0 ≤ n ∧ n ≤ 1000000000000 <;> simp [impl_isNumber.f, in_eq, isBase_eq, asked, h1]
theorem dg_short {c m : Nat} (hc : 2 ≤ c) (hm : m ≤ 9223372036854775807) : (dg c m).length ≤ 63 := dg_length hc (by omega) (by omega)
end Go.Proofs.YtehhkkbejmhcfaaC
end
section
namespace Go.Proofs.YtehhkkbejmhcfaaC
open Go.RowKit Go.Proofs.YtehhkkbejmhcfaaW.PrintWords
set_option linter.unusedVariables false
def spec_l1All.l0 : Nat → Int → Int → List Int → Int → Int → Option (Bool)
  | 0, _, _, _, _, _ => none
  | k + 1, x1, x2, x9, x10, x11 => if x11 < x10 then (if 0 ≤ x11 then (if x11 < (x9.length : Int) then ((spec_l1In.f (rd x9 x11) x1 x2).bind fun t103 => (if t103 = true then (spec_l1All.l0 k x1 x2 x9 x10 (wrap64 (x11 + 1))) else (some false))) else (none)) else (none)) else (some true)
def spec_l1All.f (k : Nat) (l0 : List Int) (a1 : Int) (a2 : Int) : Option (Bool) := spec_l1All.l0 k a1 a2 l0 (l0.length : Int) 0
def spec_dgAre.f (k : Nat) (l0 : List Int) (a1 : Int) : Option (Bool) := (spec_l1In.f (l0.length : Int) 1 40).bind fun t104 => (if t104 = true then ((spec_l1All.f k l0 0 (wrap64 (a1 - 1))).bind fun t105 => (if t105 = true then (if 0 < (l0.length : Int) then (if (rd l0 0) > 0 then (some true) else (some ((l0.length : Int) == 1))) else (none)) else (some false))) else (some false))
def spec_AreDigits.f (k : Nat) (l0 : List Int) (a1 : Int) : Option (Bool × Bool) := (spec_dgBase.f a1).bind fun t107 => (if t107 = true then (if (l0.length : Int) > 40 then (some (false, false)) else ((spec_dgAre.f k l0 a1).bind fun t108 => (some (t108, true)))) else (some (false, false)))
def laws_toIntS.l0 : Nat → List Int → List Int → Int → Option (List Int)
  | 0, _, _, _ => none
  | k + 1, x0, x3, x4 => if x4 < (x0.length : Int) then (if 0 ≤ x4 then (if x4 < (x3.length : Int) then (laws_toIntS.l0 k x0 (x3.set (x4 : Int).toNat (rd x0 x4)) (wrap64 (x4 + 1))) else (none)) else (none)) else (some x3)
def laws_toIntS.f (k : Nat) (l0 : List Int) : Option (List Int) := if 0 ≤ (l0.length : Int) then (if ((l0.length : Int) : Int).toNat ≤ 35184372088832 then (laws_toIntS.l0 k l0 (List.replicate ((l0.length : Int) : Int).toNat 0) 0) else (none)) else (none)
def idxF (p : Int → Bool) : List Int → Int → Int
  | [], _ => -1
  | x :: xs, i => if p x then i else idxF p xs (i + 1)
def impl_areIn.f (l0 : List Int) (a1 : Int) (a2 : Int) (a3 : Int) (a4 : Int) : Option (Bool) := some (decide (a3 ≤ (l0.length : Int) ∧ (l0.length : Int) ≤ a4) && l0.all (fun x => decide (a1 ≤ x ∧ x ≤ a2)))
def impl_areDigits.f (l0 : List Int) (a1 : Int) : Option (Bool) := (impl_areIn.f l0 0 (wrap64 (a1 - 1)) 1 40).bind fun t115 => (if t115 = true then (if 0 < (l0.length : Int) then (if (rd l0 0) > 0 then (some true) else (some ((l0.length : Int) == 1))) else (none)) else (some false))
def impl_AreDigits.f (l0 : List Int) (a1 : Int) : Option (Bool × Bool) := (impl_isBase.f a1).bind fun t117 => (if t117 = true then (if (l0.length : Int) > 40 then (some (false, false)) else ((impl_areDigits.f l0 a1).bind fun t118 => (some (t118, true)))) else (some (false, false)))
def laws_FnExactAreDigits.j0 : Nat → List Int → List Int → Bool → Option (Bool)
  | 0, _, _, _ => none
  | k + 1, x0, x7, x35 => if x35 = true then (some false) else ((laws_toIntS.f k x0).bind fun t131 => ((laws_eqIntS.f k x7 t131).bind fun t134 => (if t134 = true then (some true) else (some false))))
def laws_FnExactAreDigits.f (k : Nat) (l0 : List Int) (a1 : Int) : Option (Bool) := if (l0.length : Int) > 1048576 then (some true) else ((laws_toIntS.f k l0).bind fun t121 => ((spec_AreDigits.f k t121 a1).bind fun bt124 => ((laws_toIntS.f k l0).bind fun t126 => ((impl_AreDigits.f t126 a1).bind fun bt129 => (if (bt129.1 != bt124.1) = true then (laws_FnExactAreDigits.j0 k l0 t126 true) else (laws_FnExactAreDigits.j0 k l0 t126 (bt129.2 != bt124.2)))))))
def laws_FnExactAreDigits.Pure : Prop := ∀ (l0 : List Int) (a1 : Int), l0.length ≤ maxLen → l0.length * 8 ≤ 140737488351232 → (∀ x ∈ l0, (Lit.int .i64 x).wf = true) → (Lit.int .i64 a1).wf = true → ∃ k, laws_FnExactAreDigits.f k l0 a1 = some true
def spec_dgFrom.l0 : Nat → Int → Int → List Int → Int → Int → Option (Int × Bool)
  | 0, _, _, _, _, _ => none
  | k + 1, x1, x6, x9, x10, x11 => if x11 < x10 then (if 0 ≤ x11 then (if x11 < (x9.length : Int) then (if (wrap64 ((wrap64 (x6 * x1)) + (rd x9 x11))) > 1000000000000 then (some (0, false)) else (spec_dgFrom.l0 k x1 (wrap64 ((wrap64 (x6 * x1)) + (rd x9 x11))) x9 x10 (wrap64 (x11 + 1)))) else (none)) else (none)) else (some (x6, true))
def spec_dgFrom.f (k : Nat) (l0 : List Int) (a1 : Int) : Option (Int × Bool) := spec_dgFrom.l0 k a1 0 l0 (l0.length : Int) 0
def spec_NumberOf.f (k : Nat) (l0 : List Int) (a1 : Int) : Option (Int × Bool) := (spec_dgBase.f a1).bind fun t115 => (if t115 = true then ((spec_dgAre.f k l0 a1).bind fun t116 => (if t116 = true then ((spec_dgFrom.f k l0 a1).bind fun bt117 => (some (bt117.1, bt117.2))) else (some (0, false)))) else (some (0, false)))
def impl_told.f (a0 : Int) : Option (Int × Bool) := if a0 > 1000000000000 then (some (0, false)) else (some (a0, true))
def impl_value.l0 : Nat → Int → Int → List Int → Int → Int → Option (Int)
  | 0, _, _, _, _, _ => none
  | k + 1, x1, x5, x8, x9, x10 => if x10 < x9 then (if 0 ≤ x10 then (if x10 < (x8.length : Int) then (if (wrap64 ((wrap64 (x5 * x1)) + (rd x8 x10))) > 1000000000000 then (some 1000000000001) else (impl_value.l0 k x1 (wrap64 ((wrap64 (x5 * x1)) + (rd x8 x10))) x8 x9 (wrap64 (x10 + 1)))) else (none)) else (none)) else (some x5)
def impl_value.f (k : Nat) (l0 : List Int) (a1 : Int) : Option (Int) := impl_value.l0 k a1 0 l0 (l0.length : Int) 0
def impl_NumberOf.j0 : Nat → List Int → Int → Bool → Option (Int × Bool)
  | 0, _, _, _ => none
  | k + 1, x0, x1, x14 => if x14 = true then (some (0, false)) else ((impl_value.f k x0 x1).bind fun t125 => ((impl_told.f t125).bind fun bt126 => (some (bt126.1, bt126.2))))
def impl_NumberOf.f (k : Nat) (l0 : List Int) (a1 : Int) : Option (Int × Bool) := (impl_isBase.f a1).bind fun t123 => (if t123 = true then ((impl_areDigits.f l0 a1).bind fun t124 => (impl_NumberOf.j0 k l0 a1 (!t124))) else (impl_NumberOf.j0 k l0 a1 true))
def laws_FnExactNumberOf.j0 : Nat → List Int → List Int → Bool → Option (Bool)
  | 0, _, _, _ => none
  | k + 1, x0, x7, x35 => if x35 = true then (some false) else ((laws_toIntS.f k x0).bind fun t138 => ((laws_eqIntS.f k x7 t138).bind fun t141 => (if t141 = true then (some true) else (some false))))
def laws_FnExactNumberOf.f (k : Nat) (l0 : List Int) (a1 : Int) : Option (Bool) := if (l0.length : Int) > 1048576 then (some true) else ((laws_toIntS.f k l0).bind fun t128 => ((spec_NumberOf.f k t128 a1).bind fun bt131 => ((laws_toIntS.f k l0).bind fun t133 => ((impl_NumberOf.f k t133 a1).bind fun bt136 => (if bt136.1 = bt131.1 then (laws_FnExactNumberOf.j0 k l0 t133 (bt136.2 != bt131.2)) else (laws_FnExactNumberOf.j0 k l0 t133 true))))))
def laws_FnExactNumberOf.Pure : Prop := ∀ (l0 : List Int) (a1 : Int), l0.length ≤ maxLen → l0.length * 8 ≤ 140737488351232 → (∀ x ∈ l0, (Lit.int .i64 x).wf = true) → (Lit.int .i64 a1).wf = true → ∃ k, laws_FnExactNumberOf.f k l0 a1 = some true
def spec_dgBack.l0 : Nat → List Int → List Int → Int → Option (List Int)
  | 0, _, _, _ => none
  | k + 1, x0, x3, x4 => if x4 ≥ 0 then (if 0 ≤ x4 then (if x4 < (x0.length : Int) then (if x3.length < 17592186044416 then (spec_dgBack.l0 k x0 (x3 ++ [rd x0 x4]) (wrap64 (x4 - 1))) else (none)) else (none)) else (none)) else (some x3)
def spec_dgBack.f (k : Nat) (l0 : List Int) : Option (List Int) := spec_dgBack.l0 k l0 ([] : List Int) (wrap64 ((l0.length : Int) - 1))
def spec_l1Same.l0 : Nat → List Int → List Int → Int → Int → Option (Bool)
  | 0, _, _, _, _ => none
  | k + 1, x0, x1, x12, x13 => if x13 < x12 then (if 0 ≤ x13 then (if x13 < (x0.length : Int) then (if x13 < (x1.length : Int) then (if (rd x0 x13) = (rd x1 x13) then (spec_l1Same.l0 k x0 x1 x12 (wrap64 (x13 + 1))) else (some false)) else (none)) else (none)) else (none)) else (some true)
def spec_l1Same.f (k : Nat) (l0 : List Int) (l1 : List Int) : Option (Bool) := if (l0.length : Int) = (l1.length : Int) then (spec_l1Same.l0 k l0 l1 (l0.length : Int) 0) else (some false)
def spec_dgPalindrome.f (k : Nat) (l0 : List Int) : Option (Bool) := (spec_dgBack.f k l0).bind fun t120 => ((spec_l1Same.f k l0 t120).bind fun t123 => (some t123))
def spec_IsPalindrome.f (k : Nat) (a0 : Int) (a1 : Int) : Option (Bool × Bool) := (spec_dgAsked.f a0 a1).bind fun t124 => (if t124 = true then ((spec_dgOf.f k a0 a1).bind fun t125 => ((spec_dgPalindrome.f k t125).bind fun t128 => (some (t128, true)))) else (some (false, false)))
def slices_Clone_int_int.f (l0 : List Int) : Option (List Int) := if l0.length < 17592186044416 then some l0 else none
def impl_reversed.f (k : Nat) (l0 : List Int) : Option (List Int) := (slices_Clone_int_int.f l0).bind fun t143 => ((slices_Reverse_int_int.f k t143).bind fun t146 => (some t146))
def slices_Equal_int_int.l0 : Nat → List Int → List Int → Int → Int → Option (Bool)
  | 0, _, _, _, _ => none
  | k + 1, x0, x1, x12, x13 => if x13 < x12 then (if 0 ≤ x13 then (if x13 < (x0.length : Int) then (if x13 < (x1.length : Int) then (if (rd x0 x13) = (rd x1 x13) then (slices_Equal_int_int.l0 k x0 x1 x12 (wrap64 (x13 + 1))) else (some false)) else (none)) else (none)) else (none)) else (some true)
def slices_Equal_int_int.f (k : Nat) (l0 : List Int) (l1 : List Int) : Option (Bool) := if (l0.length : Int) = (l1.length : Int) then (slices_Equal_int_int.l0 k l0 l1 (l0.length : Int) 0) else (some false)
def impl_isSymmetric.f (k : Nat) (l0 : List Int) : Option (Bool) := (impl_reversed.f k l0).bind fun t149 => ((slices_Equal_int_int.f k l0 t149).bind fun t152 => (some t152))
def impl_IsPalindrome.f (k : Nat) (a0 : Int) (a1 : Int) : Option (Bool × Bool) := (impl_isNumber.f a0 a1).bind fun t153 => (if t153 = true then ((impl_digitsOf.f k a0 a1).bind fun t154 => ((impl_isSymmetric.f k t154).bind fun t157 => (some (t157, true)))) else (some (false, false)))
def laws_FnExactIsPalindrome.f (k : Nat) (a0 : Int) (a1 : Int) : Option (Bool) := (spec_IsPalindrome.f k a0 a1).bind fun bt158 => ((impl_IsPalindrome.f k a0 a1).bind fun bt160 => (if (bt160.1 != bt158.1) = true then (some false) else (if (bt160.2 != bt158.2) = true then (some false) else (some true))))
def laws_FnExactIsPalindrome.Pure : Prop := ∀ (a0 : Int) (a1 : Int), (Lit.int .i64 a0).wf = true → (Lit.int .i64 a1).wf = true → ∃ k, laws_FnExactIsPalindrome.f k a0 a1 = some true
def spec_ReverseNumber.f (k : Nat) (a0 : Int) (a1 : Int) : Option (Int × Bool) := (spec_dgAsked.f a0 a1).bind fun t119 => (if t119 = true then ((spec_dgOf.f k a0 a1).bind fun t120 => ((spec_dgBack.f k t120).bind fun t123 => ((spec_dgFrom.f k t123 a1).bind fun bt126 => (some (bt126.1, bt126.2))))) else (some (0, false)))
def impl_ReverseNumber.f (k : Nat) (a0 : Int) (a1 : Int) : Option (Int × Bool) := (impl_isNumber.f a0 a1).bind fun t147 => (if t147 = true then ((impl_digitsOf.f k a0 a1).bind fun t148 => ((impl_reversed.f k t148).bind fun t151 => ((impl_value.f k t151 a1).bind fun t154 => ((impl_told.f t154).bind fun bt155 => (some (bt155.1, bt155.2)))))) else (some (0, false)))
def laws_FnExactReverseNumber.f (k : Nat) (a0 : Int) (a1 : Int) : Option (Bool) := (spec_ReverseNumber.f k a0 a1).bind fun bt157 => ((impl_ReverseNumber.f k a0 a1).bind fun bt159 => (if bt159.1 = bt157.1 then (if (bt159.2 != bt157.2) = true then (some false) else (some true)) else (some false)))
def laws_FnExactReverseNumber.Pure : Prop := ∀ (a0 : Int) (a1 : Int), (Lit.int .i64 a0).wf = true → (Lit.int .i64 a1).wf = true → ∃ k, laws_FnExactReverseNumber.f k a0 a1 = some true
end Go.Proofs.YtehhkkbejmhcfaaC
end
section
namespace Go.Proofs.YtehhkkbejmhcfaaC
open Go.RowKit Go.Proofs.YtehhkkbejmhcfaaW.PrintWords
theorem run_loop {σ ρ : Type} (L : Nat → σ → Option ρ) (st : Nat → σ) (r : ρ) : ∀ (m K : Nat) (j0 : Nat), (∀ j, j0 ≤ j → j < j0 + m → ∀ k, K ≤ k → L (k + 1) (st j) = L k (st (j + 1))) → (∀ k, K ≤ k → L (k + 1) (st (j0 + m)) = some r) →
    ∀ k, K + m < k → L k (st j0) = some r := by
  intro m
  induction m with
  | zero =>
    intro K j0 _ hf k hk
    obtain ⟨k, rfl⟩ : ∃ q, k = q + 1 := ⟨k - 1, by omega⟩
    exact hf k (by omega)
  | succ m ih =>
    intro K j0 hs hf k hk
    obtain ⟨k, rfl⟩ : ∃ q, k = q + 1 := ⟨k - 1, by omega⟩
    rw [hs j0 (by omega) (by omega) k (by omega)]
    refine ih K (j0 + 1) (fun j h1 h2 => hs j (by omega) (by omega)) ?_ k (by omega)
    rw [show j0 + 1 + m = j0 + (m + 1) by omega]
    exact hf
theorem run0 {σ ρ : Type} (L : Nat → σ → Option ρ) (m K : Nat) (st : Nat → σ) (r : ρ) (hs : ∀ j, j < m → ∀ k, K ≤ k → L (k + 1) (st j) = L k (st (j + 1))) (hf : ∀ k, K ≤ k → L (k + 1) (st m) = some r) :
    ∀ k, K + m < k → L k (st 0) = some r :=
  run_loop L st r m K 0 (fun j _ h => hs j (by omega)) (by simpa using hf)
theorem rd_get {xs : List Int} {j : Nat} (h : j < xs.length) : rd xs (j : Int) = xs[j] := by
  simp [rd, h]
theorem w64s {j : Nat} (h : j ≤ 4611686018427387904) : wrap64 ((j : Int) + 1) = ((j + 1 : Nat) : Int) := by rw [w64 (by omega) (by omega)]; omega
theorem take_s {α : Type} {l : List α} {j : Nat} (h : j < l.length) : l.take (j + 1) = l.take j ++ [l[j]] := List.take_succ_eq_append_getElem h
end Go.Proofs.YtehhkkbejmhcfaaC
end
section
namespace Go.Proofs.YtehhkkbejmhcfaaC
open Go.RowKit Go.Proofs.YtehhkkbejmhcfaaW.PrintWords
set_option linter.unusedVariables false
def spec_mpGood.f (k : Nat) (l0 : List Int) : Option (Bool) := (spec_l1In.f (l0.length : Int) 1 60).bind fun t103 => (if t103 = true then ((spec_l1All.f k l0 0 (wrap64 ((l0.length : Int) - 1))).bind fun t104 => (some t104)) else (some false))
def spec_IsMap.f (k : Nat) (l0 : List Int) : Option (Bool) := (spec_mpGood.f k l0).bind fun t105 => (some t105)
def impl_IsMap.f (l0 : List Int) : Option (Bool) := (impl_areIn.f l0 0 (wrap64 ((l0.length : Int) - 1)) 1 60).bind fun t111 => (some t111)
def laws_FnExactIsMap.f (k : Nat) (l0 : List Int) : Option (Bool) := if (l0.length : Int) > 1048576 then (some true) else ((laws_toIntS.f k l0).bind fun t114 => ((spec_IsMap.f k t114).bind fun t117 => ((laws_toIntS.f k l0).bind fun t118 => ((impl_IsMap.f t118).bind fun t121 => (if (t121 != t117) = true then (some false) else ((laws_toIntS.f k l0).bind fun t122 => ((laws_eqIntS.f k t118 t122).bind fun t125 => (if t125 = true then (some true) else (some false)))))))))
def laws_FnExactIsMap.Pure : Prop := ∀ (l0 : List Int), l0.length ≤ maxLen → l0.length * 8 ≤ 140737488351232 → (∀ x ∈ l0, (Lit.int .i64 x).wf = true) → ∃ k, laws_FnExactIsMap.f k l0 = some true
def spec_mpX.f (k : Nat) (l0 : List Int) (a1 : Int) : Option (Bool) := (spec_mpGood.f k l0).bind fun t112 => (if t112 = true then ((spec_l1In.f a1 0 (wrap64 ((l0.length : Int) - 1))).bind fun t113 => (some t113)) else (some false))
def spec_mpSteps.f (a0 : Int) : Option (Bool) := (spec_l1In.f a0 0 1000000).bind fun t114 => (some t114)
def spec_mpAt.l0 : Nat → List Int → Int → Int → Option (Int)
  | 0, _, _, _ => none
  | k + 1, x0, x1, x2 => if x2 > 0 then (if 0 ≤ x1 then (if x1 < (x0.length : Int) then (spec_mpAt.l0 k x0 (rd x0 x1) (wrap64 (x2 - 1))) else (none)) else (none)) else (some x1)
def spec_mpAt.f (k : Nat) (l0 : List Int) (a1 : Int) (a2 : Int) : Option (Int) := spec_mpAt.l0 k l0 a1 a2
def spec_ApplyMap.f (k : Nat) (l0 : List Int) (a1 : Int) (a2 : Int) : Option (Int × Bool) := (spec_mpX.f k l0 a1).bind fun t116 => (if t116 = true then ((spec_mpSteps.f a2).bind fun t117 => (if t117 = true then ((spec_mpAt.f k l0 a1 a2).bind fun t118 => (some (t118, true))) else (some (0, false)))) else (some (0, false)))
def impl_asks.f (l0 : List Int) (a1 : Int) (a2 : Int) : Option (Bool) := (impl_IsMap.f l0).bind fun t120 => (if t120 = true then ((impl_in.f a1 0 (wrap64 ((l0.length : Int) - 1))).bind fun t121 => (if t121 = true then ((impl_in.f a2 0 1000000).bind fun t122 => (some t122)) else (some false))) else (some false))
def impl_ApplyMap.l0 : Nat → List Int → Int → Int → Int → Option (Int × Bool)
  | 0, _, _, _, _ => none
  | k + 1, x0, x1, x13, x14 => if x14 < x13 then (if 0 ≤ x1 then (if x1 < (x0.length : Int) then (impl_ApplyMap.l0 k x0 (rd x0 x1) x13 (wrap64 (x14 + 1))) else (none)) else (none)) else (some (x1, true))
def impl_ApplyMap.f (k : Nat) (l0 : List Int) (a1 : Int) (a2 : Int) : Option (Int × Bool) := (impl_asks.f l0 a1 a2).bind fun t123 => (if t123 = true then (impl_ApplyMap.l0 k l0 a1 a2 0) else (some (0, false)))
def laws_FnExactApplyMap.j0 : Nat → List Int → List Int → Bool → Option (Bool)
  | 0, _, _, _ => none
  | k + 1, x0, x9, x39 => if x39 = true then (some false) else ((laws_toIntS.f k x0).bind fun t135 => ((laws_eqIntS.f k x9 t135).bind fun t138 => (if t138 = true then (some true) else (some false))))
def laws_FnExactApplyMap.f (k : Nat) (l0 : List Int) (a1 : Int) (a2 : Int) : Option (Bool) := if (l0.length : Int) > 1048576 then (some true) else ((laws_toIntS.f k l0).bind fun t125 => ((spec_ApplyMap.f k t125 a1 a2).bind fun bt128 => ((laws_toIntS.f k l0).bind fun t130 => ((impl_ApplyMap.f k t130 a1 a2).bind fun bt133 => (if bt133.1 = bt128.1 then (laws_FnExactApplyMap.j0 k l0 t130 (bt133.2 != bt128.2)) else (laws_FnExactApplyMap.j0 k l0 t130 true))))))
def laws_FnExactApplyMap.Pure : Prop := ∀ (l0 : List Int) (a1 : Int) (a2 : Int), l0.length ≤ maxLen → l0.length * 8 ≤ 140737488351232 → (∀ x ∈ l0, (Lit.int .i64 x).wf = true) → (Lit.int .i64 a1).wf = true → (Lit.int .i64 a2).wf = true → ∃ k, laws_FnExactApplyMap.f k l0 a1 a2 = some true
mutual
def spec_ComposeMaps.j0 : Nat → List Int → List Int → Bool → Option (List Int × Bool)
  | 0, _, _, _ => none
  | k + 1, x0, x1, x23 => if x23 = true then (some (([] : List Int), false)) else (spec_ComposeMaps.l0 k x1 ([] : List Int) x0 (x0.length : Int) 0)
def spec_ComposeMaps.l0 : Nat → List Int → List Int → List Int → Int → Int → Option (List Int × Bool)
  | 0, _, _, _, _, _ => none
  | k + 1, x1, x6, x24, x25, x26 => if x26 < x25 then (if 0 ≤ x26 then (if x26 < (x24.length : Int) then (if 0 ≤ (rd x24 x26) then (if (rd x24 x26) < (x1.length : Int) then (if x6.length < 17592186044416 then (spec_ComposeMaps.l0 k x1 (x6 ++ [rd x1 (rd x24 x26)]) x24 x25 (wrap64 (x26 + 1))) else (none)) else (none)) else (none)) else (none)) else (none)) else (some (x6, true))
end
def spec_ComposeMaps.f (k : Nat) (l0 : List Int) (l1 : List Int) : Option (List Int × Bool) := (spec_mpGood.f k l0).bind fun t112 => (if t112 = true then ((spec_mpGood.f k l1).bind fun t113 => (if t113 = true then (spec_ComposeMaps.j0 k l0 l1 ((l0.length : Int) != (l1.length : Int))) else (spec_ComposeMaps.j0 k l0 l1 true))) else (spec_ComposeMaps.j0 k l0 l1 true))
def impl_composed.l0 : Nat → List Int → List Int → List Int → Int → Int → Option (List Int)
  | 0, _, _, _, _, _ => none
  | k + 1, x1, x5, x9, x10, x11 => if x11 < x10 then (if 0 ≤ x11 then (if x11 < (x9.length : Int) then (if 0 ≤ (rd x9 x11) then (if (rd x9 x11) < (x1.length : Int) then (if x5.length < 17592186044416 then (impl_composed.l0 k x1 (x5 ++ [rd x1 (rd x9 x11)]) x9 x10 (wrap64 (x11 + 1))) else (none)) else (none)) else (none)) else (none)) else (none)) else (some x5)
def impl_composed.f (k : Nat) (l0 : List Int) (l1 : List Int) : Option (List Int) := impl_composed.l0 k l1 (([] : List Int)) l0 (l0.length : Int) 0
def impl_ComposeMaps.f (k : Nat) (l0 : List Int) (l1 : List Int) : Option (List Int × Bool) := (impl_IsMap.f l0).bind fun t128 => (if t128 = true then ((impl_IsMap.f l1).bind fun t129 => (if t129 = true then (if (l0.length : Int) = (l1.length : Int) then ((impl_composed.f k l0 l1).bind fun t130 => (some (t130, true))) else (some (([] : List Int), false))) else (some (([] : List Int), false)))) else (some (([] : List Int), false)))
mutual
def laws_FnExactComposeMaps.j0 : Nat → List Int → List Int → List Int → Bool → List Int → List Int → List Int → Bool → Bool → Option (Bool)
  | 0, _, _, _, _, _, _, _, _, _ => none
  | k + 1, x0, x1, x5, x6, x7, x8, x9, x10, x48 => if x48 = true then (some false) else ((laws_toIntS.f k x0).bind fun t156 => ((laws_eqIntS.f k x7 t156).bind fun t159 => (if t159 = true then ((laws_toIntS.f k x1).bind fun t160 => ((laws_eqIntS.f k x8 t160).bind fun t163 => (if t163 = true then ((laws_markIntS.f k x7 1).bind fun bt164 => ((laws_markIntS.f k x8 bt164.1).bind fun bt166 => (if bt166.1 < 0 then (laws_FnExactComposeMaps.j1 k x0 x1 x5 x6 x9 true) else ((laws_eqIntS.f k x9 x5).bind fun t168 => (if t168 = true then (laws_FnExactComposeMaps.j1 k x0 x1 x5 x6 x9 (x10 != x6)) else (laws_FnExactComposeMaps.j1 k x0 x1 x5 x6 x9 true)))))) else (some false)))) else (some false))))
def laws_FnExactComposeMaps.j1 : Nat → List Int → List Int → List Int → Bool → List Int → Bool → Option (Bool)
  | 0, _, _, _, _, _, _ => none
  | k + 1, x0, x1, x5, x6, x9, x77 => if x77 = true then (some false) else ((laws_markIntS.f k x9 1).bind fun bt169 => ((laws_heldIntS.f k bt169.2 1).bind fun t171 => (if t171 < 0 then (some false) else (if t171 = bt169.1 then ((laws_toIntS.f k x0).bind fun t172 => ((laws_toIntS.f k x1).bind fun t175 => ((impl_ComposeMaps.f k t172 t175).bind fun bt178 => ((laws_eqIntS.f k bt178.1 x5).bind fun t182 => (if t182 = true then (laws_FnExactComposeMaps.j2 k bt169.2 bt169.1 (bt178.2 != x6)) else (laws_FnExactComposeMaps.j2 k bt169.2 bt169.1 true)))))) else (some false)))))
def laws_FnExactComposeMaps.j2 : Nat → List Int → Int → Bool → Option (Bool)
  | 0, _, _, _ => none
  | k + 1, x9, x12, x105 => if x105 = true then (some false) else ((laws_heldIntS.f k x9 1).bind fun t183 => (if t183 < 0 then (some false) else (if t183 = x12 then (some true) else (some false))))
end
def laws_FnExactComposeMaps.f (k : Nat) (l0 : List Int) (l1 : List Int) : Option (Bool) := if (l0.length : Int) > 1048576 then (some true) else (if (l1.length : Int) > 1048576 then (some true) else ((laws_toIntS.f k l0).bind fun t135 => ((laws_toIntS.f k l1).bind fun t138 => ((spec_ComposeMaps.f k t135 t138).bind fun bt141 => ((laws_toIntS.f k l0).bind fun t145 => ((laws_toIntS.f k l1).bind fun t148 => ((impl_ComposeMaps.f k t145 t148).bind fun bt151 => ((laws_eqIntS.f k bt151.1 bt141.1).bind fun t155 => (if t155 = true then (laws_FnExactComposeMaps.j0 k l0 l1 bt141.1 bt141.2 t145 t148 bt151.1 bt151.2 (bt151.2 != bt141.2)) else (laws_FnExactComposeMaps.j0 k l0 l1 bt141.1 bt141.2 t145 t148 bt151.1 bt151.2 true))))))))))
def laws_FnExactComposeMaps.Pure : Prop := ∀ (l0 : List Int) (l1 : List Int), l0.length ≤ maxLen → l0.length * 8 ≤ 140737488351232 → (∀ x ∈ l0, (Lit.int .i64 x).wf = true) → l1.length ≤ maxLen → l1.length * 8 ≤ 140737488351232 → (∀ x ∈ l1, (Lit.int .i64 x).wf = true) → ∃ k, laws_FnExactComposeMaps.f k l0 l1 = some true
def spec_mpBefore.l0 : Nat → Int → List Int → List Int → Int → Int → Option (List Int)
  | 0, _, _, _, _, _ => none
  | k + 1, x1, x5, x8, x9, x10 => if x10 < x9 then (if 0 ≤ x10 then (if x10 < (x8.length : Int) then (if (rd x8 x10) = x1 then (if x5.length < 17592186044416 then (spec_mpBefore.l0 k x1 (x5 ++ [x10]) x8 x9 (wrap64 (x10 + 1))) else (none)) else (spec_mpBefore.l0 k x1 x5 x8 x9 (wrap64 (x10 + 1)))) else (none)) else (none)) else (some x5)
def spec_mpBefore.f (k : Nat) (l0 : List Int) (a1 : Int) : Option (List Int) := spec_mpBefore.l0 k a1 ([] : List Int) l0 (l0.length : Int) 0
def spec_BeforeOf.f (k : Nat) (l0 : List Int) (a1 : Int) : Option (List Int × Bool) := (spec_mpX.f k l0 a1).bind fun t120 => (if t120 = true then ((spec_mpBefore.f k l0 a1).bind fun t121 => (some (t121, true))) else (some (([] : List Int), false)))
def impl_before.l0 : Nat → Int → List Int → List Int → Int → Int → Option (List Int)
  | 0, _, _, _, _, _ => none
  | k + 1, x1, x5, x9, x10, x11 => if x11 < x10 then (if 0 ≤ x11 then (if x11 < (x9.length : Int) then (if (rd x9 x11) = x1 then (if x5.length < 17592186044416 then (impl_before.l0 k x1 (x5 ++ [x11]) x9 x10 (wrap64 (x11 + 1))) else (none)) else (impl_before.l0 k x1 x5 x9 x10 (wrap64 (x11 + 1)))) else (none)) else (none)) else (some x5)
def impl_before.f (k : Nat) (l0 : List Int) (a1 : Int) : Option (List Int) := impl_before.l0 k a1 (([] : List Int)) l0 (l0.length : Int) 0
def impl_BeforeOf.f (k : Nat) (l0 : List Int) (a1 : Int) : Option (List Int × Bool) := (impl_asks.f l0 a1 0).bind fun t135 => (if t135 = true then ((impl_before.f k l0 a1).bind fun t136 => (some (t136, true))) else (some (([] : List Int), false)))
mutual
def laws_FnExactBeforeOf.j0 : Nat → List Int → Int → List Int → Bool → List Int → List Int → Bool → Bool → Option (Bool)
  | 0, _, _, _, _, _, _, _, _ => none
  | k + 1, x0, x1, x5, x6, x7, x8, x9, x41 => if x41 = true then (some false) else ((laws_toIntS.f k x0).bind fun t154 => ((laws_eqIntS.f k x7 t154).bind fun t157 => (if t157 = true then ((laws_markIntS.f k x7 1).bind fun bt158 => (if bt158.1 < 0 then (laws_FnExactBeforeOf.j1 k x0 x1 x5 x6 x8 true) else ((laws_eqIntS.f k x8 x5).bind fun t160 => (if t160 = true then (laws_FnExactBeforeOf.j1 k x0 x1 x5 x6 x8 (x9 != x6)) else (laws_FnExactBeforeOf.j1 k x0 x1 x5 x6 x8 true))))) else (some false))))
def laws_FnExactBeforeOf.j1 : Nat → List Int → Int → List Int → Bool → List Int → Bool → Option (Bool)
  | 0, _, _, _, _, _, _ => none
  | k + 1, x0, x1, x5, x6, x8, x62 => if x62 = true then (some false) else ((laws_markIntS.f k x8 1).bind fun bt161 => ((laws_heldIntS.f k bt161.2 1).bind fun t163 => (if t163 < 0 then (some false) else (if t163 = bt161.1 then ((laws_toIntS.f k x0).bind fun t164 => ((impl_BeforeOf.f k t164 x1).bind fun bt167 => ((laws_eqIntS.f k bt167.1 x5).bind fun t171 => (if t171 = true then (laws_FnExactBeforeOf.j2 k bt161.2 bt161.1 (bt167.2 != x6)) else (laws_FnExactBeforeOf.j2 k bt161.2 bt161.1 true))))) else (some false)))))
def laws_FnExactBeforeOf.j2 : Nat → List Int → Int → Bool → Option (Bool)
  | 0, _, _, _ => none
  | k + 1, x8, x11, x89 => if x89 = true then (some false) else ((laws_heldIntS.f k x8 1).bind fun t172 => (if t172 < 0 then (some false) else (if t172 = x11 then (some true) else (some false))))
end
def laws_FnExactBeforeOf.f (k : Nat) (l0 : List Int) (a1 : Int) : Option (Bool) := if (l0.length : Int) > 1048576 then (some true) else ((laws_toIntS.f k l0).bind fun t139 => ((spec_BeforeOf.f k t139 a1).bind fun bt142 => ((laws_toIntS.f k l0).bind fun t146 => ((impl_BeforeOf.f k t146 a1).bind fun bt149 => ((laws_eqIntS.f k bt149.1 bt142.1).bind fun t153 => (if t153 = true then (laws_FnExactBeforeOf.j0 k l0 a1 bt142.1 bt142.2 t146 bt149.1 bt149.2 (bt149.2 != bt142.2)) else (laws_FnExactBeforeOf.j0 k l0 a1 bt142.1 bt142.2 t146 bt149.1 bt149.2 true)))))))
def laws_FnExactBeforeOf.Pure : Prop := ∀ (l0 : List Int) (a1 : Int), l0.length ≤ maxLen → l0.length * 8 ≤ 140737488351232 → (∀ x ∈ l0, (Lit.int .i64 x).wf = true) → (Lit.int .i64 a1).wf = true → ∃ k, laws_FnExactBeforeOf.f k l0 a1 = some true
def spec_EndsOf.l0 : Nat → List Int → List Int → Int → Int → Option (List Int × Bool)
  | 0, _, _, _, _ => none
  | k + 1, x0, x4, x10, x11 => if x11 < x10 then ((spec_mpBefore.f k x0 x11).bind fun t119 => (if (t119.length : Int) = 0 then (if x4.length < 17592186044416 then (spec_EndsOf.l0 k x0 (x4 ++ [x11]) x10 (wrap64 (x11 + 1))) else (none)) else (spec_EndsOf.l0 k x0 x4 x10 (wrap64 (x11 + 1))))) else (some (x4, true))
def spec_EndsOf.f (k : Nat) (l0 : List Int) : Option (List Int × Bool) := (spec_mpGood.f k l0).bind fun t118 => (if t118 = true then (spec_EndsOf.l0 k l0 ([] : List Int) (l0.length : Int) 0) else (some (([] : List Int), false)))
def slices_Index_int_int.l0 : Nat → List Int → Int → Int → Int → Option (Int)
  | 0, _, _, _, _ => none
  | k + 1, x0, x1, x7, x8 => if x8 < x7 then (if 0 ≤ x8 then (if x8 < (x0.length : Int) then (if x1 = (rd x0 x8) then (some x8) else (slices_Index_int_int.l0 k x0 x1 x7 (wrap64 (x8 + 1)))) else (none)) else (none)) else (some (-1))
def slices_Index_int_int.f (k : Nat) (l0 : List Int) (a1 : Int) : Option (Int) := slices_Index_int_int.l0 k l0 a1 (l0.length : Int) 0
def slices_Contains_int_int.f (k : Nat) (l0 : List Int) (a1 : Int) : Option (Bool) := (slices_Index_int_int.f k l0 a1).bind fun t127 => (some (decide (t127 ≥ 0)))
def impl_EndsOf.l0 : Nat → List Int → List Int → Int → Int → Option (List Int × Bool)
  | 0, _, _, _, _ => none
  | k + 1, x0, x4, x11, x12 => if x12 < x11 then ((slices_Contains_int_int.f k x0 x12).bind fun t132 => (if t132 = true then (impl_EndsOf.l0 k x0 x4 x11 (wrap64 (x12 + 1))) else (if x4.length < 17592186044416 then (impl_EndsOf.l0 k x0 (x4 ++ [x12]) x11 (wrap64 (x12 + 1))) else (none)))) else (some (x4, true))
def impl_EndsOf.f (k : Nat) (l0 : List Int) : Option (List Int × Bool) := (impl_IsMap.f l0).bind fun t128 => (if t128 = true then (impl_EndsOf.l0 k l0 (([] : List Int)) (l0.length : Int) 0) else (some (([] : List Int), false)))
mutual
def laws_FnExactEndsOf.j0 : Nat → List Int → List Int → Bool → List Int → List Int → Bool → Bool → Option (Bool)
  | 0, _, _, _, _, _, _, _ => none
  | k + 1, x0, x3, x4, x5, x6, x7, x37 => if x37 = true then (some false) else ((laws_toIntS.f k x0).bind fun t151 => ((laws_eqIntS.f k x5 t151).bind fun t154 => (if t154 = true then ((laws_markIntS.f k x5 1).bind fun bt155 => (if bt155.1 < 0 then (laws_FnExactEndsOf.j1 k x0 x3 x4 x6 true) else ((laws_eqIntS.f k x6 x3).bind fun t157 => (if t157 = true then (laws_FnExactEndsOf.j1 k x0 x3 x4 x6 (x7 != x4)) else (laws_FnExactEndsOf.j1 k x0 x3 x4 x6 true))))) else (some false))))
def laws_FnExactEndsOf.j1 : Nat → List Int → List Int → Bool → List Int → Bool → Option (Bool)
  | 0, _, _, _, _, _ => none
  | k + 1, x0, x3, x4, x6, x58 => if x58 = true then (some false) else ((laws_markIntS.f k x6 1).bind fun bt158 => ((laws_heldIntS.f k bt158.2 1).bind fun t160 => (if t160 < 0 then (some false) else (if t160 = bt158.1 then ((laws_toIntS.f k x0).bind fun t161 => ((impl_EndsOf.f k t161).bind fun bt164 => ((laws_eqIntS.f k bt164.1 x3).bind fun t168 => (if t168 = true then (laws_FnExactEndsOf.j2 k bt158.2 bt158.1 (bt164.2 != x4)) else (laws_FnExactEndsOf.j2 k bt158.2 bt158.1 true))))) else (some false)))))
def laws_FnExactEndsOf.j2 : Nat → List Int → Int → Bool → Option (Bool)
  | 0, _, _, _ => none
  | k + 1, x6, x9, x84 => if x84 = true then (some false) else ((laws_heldIntS.f k x6 1).bind fun t169 => (if t169 < 0 then (some false) else (if t169 = x9 then (some true) else (some false))))
end
def laws_FnExactEndsOf.f (k : Nat) (l0 : List Int) : Option (Bool) := if (l0.length : Int) > 1048576 then (some true) else ((laws_toIntS.f k l0).bind fun t136 => ((spec_EndsOf.f k t136).bind fun bt139 => ((laws_toIntS.f k l0).bind fun t143 => ((impl_EndsOf.f k t143).bind fun bt146 => ((laws_eqIntS.f k bt146.1 bt139.1).bind fun t150 => (if t150 = true then (laws_FnExactEndsOf.j0 k l0 bt139.1 bt139.2 t143 bt146.1 bt146.2 (bt146.2 != bt139.2)) else (laws_FnExactEndsOf.j0 k l0 bt139.1 bt139.2 t143 bt146.1 bt146.2 true)))))))
def laws_FnExactEndsOf.Pure : Prop := ∀ (l0 : List Int), l0.length ≤ maxLen → l0.length * 8 ≤ 140737488351232 → (∀ x ∈ l0, (Lit.int .i64 x).wf = true) → ∃ k, laws_FnExactEndsOf.f k l0 = some true
end Go.Proofs.YtehhkkbejmhcfaaC
end
section
namespace Go.Proofs.YtehhkkbejmhcfaaC
open Go.RowKit Go.Proofs.YtehhkkbejmhcfaaW.PrintWords Go.Proofs.YtehhkkbejmhcfaaW.PrintMore
set_option linter.unusedVariables false
def spec_pwPower.f (a0 : Int) (a1 : Int) : Option (Bool) := (spec_l1In.f a0 1 a1).bind fun t101 => (some t101)
def spec_pwOf.l0 : Nat → Int → Int → Int → Option (Int)
  | 0, _, _, _ => none
  | k + 1, x0, x1, x5 => if x1 > 0 then (spec_pwOf.l0 k x0 (wrap64 (x1 - 1)) (wrap64 (x5 * x0))) else (some x5)
def spec_pwOf.f (k : Nat) (a0 : Int) (a1 : Int) : Option (Int) := spec_pwOf.l0 k a0 a1 1
def spec_pwSum.l0 : Nat → Int → Int → Int → Int → Option (Int)
  | 0, _, _, _, _ => none
  | k + 1, x0, x1, x2, x7 => if x0 > 0 then (if x1 = 0 then (none) else ((spec_pwOf.f k (Int.tmod x0 x1) x2).bind fun t106 => (spec_pwSum.l0 k (wrap64 (Int.tdiv x0 x1)) x1 x2 (wrap64 (x7 + t106))))) else (some x7)
def spec_pwSum.f (k : Nat) (a0 : Int) (a1 : Int) (a2 : Int) : Option (Int) := spec_pwSum.l0 k a0 a1 a2 0
def spec_PowerSum.f (k : Nat) (a0 : Int) (a1 : Int) (a2 : Int) : Option (Int × Bool) := (spec_dgAsked.f a0 a1).bind fun t107 => (if t107 = true then ((spec_pwPower.f a2 8).bind fun t108 => (if t108 = true then ((spec_pwSum.f k a0 a1 a2).bind fun t109 => (some (t109, true))) else (some (0, false)))) else (some (0, false)))
def impl_isPower.f (a0 : Int) : Option (Bool) := (impl_in.f a0 1 8).bind fun t110 => (some t110)
def impl_toPower.l0 : Nat → Int → Int → Int → Int → Option (Int)
  | 0, _, _, _, _ => none
  | k + 1, x0, x5, x6, x7 => if x7 < x6 then (impl_toPower.l0 k x0 (wrap64 (x5 * x0)) x6 (wrap64 (x7 + 1))) else (some x5)
def impl_toPower.f (k : Nat) (a0 : Int) (a1 : Int) : Option (Int) := impl_toPower.l0 k a0 1 a1 0
def impl_powerSum.l0 : Nat → Int → Int → List Int → Int → Int → Option (Int)
  | 0, _, _, _, _, _ => none
  | k + 1, x2, x7, x12, x13, x14 => if x14 < x13 then (if 0 ≤ x14 then (if x14 < (x12.length : Int) then ((impl_toPower.f k (rd x12 x14) x2).bind fun t129 => (impl_powerSum.l0 k x2 (wrap64 (x7 + t129)) x12 x13 (wrap64 (x14 + 1)))) else (none)) else (none)) else (some x7)
def impl_powerSum.f (k : Nat) (a0 : Int) (a1 : Int) (a2 : Int) : Option (Int) := (impl_digitsOf.f k a0 a1).bind fun t125 => (impl_powerSum.l0 k a2 0 t125 (t125.length : Int) 0)
def impl_PowerSum.f (k : Nat) (a0 : Int) (a1 : Int) (a2 : Int) : Option (Int × Bool) := (impl_isNumber.f a0 a1).bind fun t130 => (if t130 = true then ((impl_isPower.f a2).bind fun t131 => (if t131 = true then ((impl_powerSum.f k a0 a1 a2).bind fun t132 => (some (t132, true))) else (some (0, false)))) else (some (0, false)))
def laws_FnExactPowerSum.f (k : Nat) (a0 : Int) (a1 : Int) (a2 : Int) : Option (Bool) := (spec_PowerSum.f k a0 a1 a2).bind fun bt133 => ((impl_PowerSum.f k a0 a1 a2).bind fun bt135 => (if bt135.1 = bt133.1 then (if (bt135.2 != bt133.2) = true then (some false) else (some true)) else (some false)))
def laws_FnExactPowerSum.Pure : Prop := ∀ (a0 : Int) (a1 : Int) (a2 : Int), (Lit.int .i64 a0).wf = true → (Lit.int .i64 a1).wf = true → (Lit.int .i64 a2).wf = true → ∃ k, laws_FnExactPowerSum.f k a0 a1 a2 = some true
def spec_pwLimited.l0 : Nat → Int → Int → Int → Option (Int)
  | 0, _, _, _ => none
  | k + 1, x0, x1, x5 => if x1 > 0 then (if x0 = 0 then (none) else (if x5 > (wrap64 (Int.tdiv (1000000000000000000 : Int) x0)) then (some 1000000000000000000) else (spec_pwLimited.l0 k x0 (wrap64 (x1 - 1)) (wrap64 (x5 * x0))))) else (some x5)
def spec_pwLimited.f (k : Nat) (a0 : Int) (a1 : Int) : Option (Int) := spec_pwLimited.l0 k a0 a1 1
def spec_pwFalls.l0 : Nat → Int → Int → Int → Int → Option (Int)
  | 0, _, _, _, _ => none
  | k + 1, x0, x1, x5, x6 => if x6 ≤ 40 then ((spec_pwOf.f k (wrap64 (x0 - 1)) x1).bind fun t103 => ((spec_pwLimited.f k x0 (wrap64 (x6 - 1))).bind fun t104 => (if (wrap64 (x6 * t103)) ≥ t104 then (spec_pwFalls.l0 k x0 x1 (wrap64 (x6 + 1)) (wrap64 (x6 + 1))) else (spec_pwFalls.l0 k x0 x1 x5 (wrap64 (x6 + 1)))))) else (some x5)
def spec_pwFalls.f (k : Nat) (a0 : Int) (a1 : Int) : Option (Int) := spec_pwFalls.l0 k a0 a1 1 1
def spec_FallsFrom.f (k : Nat) (a0 : Int) (a1 : Int) : Option (Int × Bool) := (spec_dgBase.f a0).bind fun t105 => (if t105 = true then ((spec_pwPower.f a1 8).bind fun t106 => (if t106 = true then ((spec_pwFalls.f k a0 a1).bind fun t107 => (some (t107, true))) else (some (0, false)))) else (some (0, false)))
def impl_fallsFrom.l0 : Nat → Int → Int → Int → Option (Int)
  | 0, _, _, _ => none
  | k + 1, x0, x1, x5 => (impl_toPower.f k (wrap64 (x0 - 1)) x1).bind fun t110 => ((impl_toPower.f k x0 (wrap64 (x5 - 1))).bind fun t111 => (if (wrap64 (x5 * t110)) ≥ t111 then (impl_fallsFrom.l0 k x0 x1 (wrap64 (x5 + 1))) else (some x5)))
def impl_fallsFrom.f (k : Nat) (a0 : Int) (a1 : Int) : Option (Int) := impl_fallsFrom.l0 k a0 a1 1
def impl_FallsFrom.f (k : Nat) (a0 : Int) (a1 : Int) : Option (Int × Bool) := (impl_isBase.f a0).bind fun t112 => (if t112 = true then ((impl_isPower.f a1).bind fun t113 => (if t113 = true then ((impl_fallsFrom.f k a0 a1).bind fun t114 => (some (t114, true))) else (some (0, false)))) else (some (0, false)))
def laws_FnExactFallsFrom.f (k : Nat) (a0 : Int) (a1 : Int) : Option (Bool) := (spec_FallsFrom.f k a0 a1).bind fun bt115 => ((impl_FallsFrom.f k a0 a1).bind fun bt117 => (if bt117.1 = bt115.1 then (if (bt117.2 != bt115.2) = true then (some false) else (some true)) else (some false)))
def laws_FnExactFallsFrom.Pure : Prop := ∀ (a0 : Int) (a1 : Int), (Lit.int .i64 a0).wf = true → (Lit.int .i64 a1).wf = true → ∃ k, laws_FnExactFallsFrom.f k a0 a1 = some true
def spec_pwGreatest.f (k : Nat) (a0 : Int) (a1 : Int) : Option (Int) := (spec_pwFalls.f k a0 a1).bind fun t105 => ((spec_pwOf.f k (wrap64 (a0 - 1)) a1).bind fun t106 => (some (wrap64 ((wrap64 (t105 - 1)) * t106))))
def spec_GreatestSum.f (k : Nat) (a0 : Int) (a1 : Int) : Option (Int × Bool) := (spec_dgBase.f a0).bind fun t107 => (if t107 = true then ((spec_pwPower.f a1 8).bind fun t108 => (if t108 = true then ((spec_pwGreatest.f k a0 a1).bind fun t109 => (some (t109, true))) else (some (0, false)))) else (some (0, false)))
def impl_greatest.f (k : Nat) (a0 : Int) (a1 : Int) : Option (Int) := (impl_fallsFrom.f k a0 a1).bind fun t114 => ((impl_toPower.f k (wrap64 (a0 - 1)) a1).bind fun t115 => (some (wrap64 ((wrap64 (t114 - 1)) * t115))))
def impl_GreatestSum.f (k : Nat) (a0 : Int) (a1 : Int) : Option (Int × Bool) := (impl_isBase.f a0).bind fun t116 => (if t116 = true then ((impl_isPower.f a1).bind fun t117 => (if t117 = true then ((impl_greatest.f k a0 a1).bind fun t118 => (some (t118, true))) else (some (0, false)))) else (some (0, false)))
def laws_FnExactGreatestSum.f (k : Nat) (a0 : Int) (a1 : Int) : Option (Bool) := (spec_GreatestSum.f k a0 a1).bind fun bt119 => ((impl_GreatestSum.f k a0 a1).bind fun bt121 => (if bt121.1 = bt119.1 then (if (bt121.2 != bt119.2) = true then (some false) else (some true)) else (some false)))
def laws_FnExactGreatestSum.Pure : Prop := ∀ (a0 : Int) (a1 : Int), (Lit.int .i64 a0).wf = true → (Lit.int .i64 a1).wf = true → ∃ k, laws_FnExactGreatestSum.f k a0 a1 = some true
def spec_pwSpreadAsked.f (a0 : Int) (a1 : Int) : Option (Bool) := (spec_l1In.f a0 0 12).bind fun t101 => (if t101 = true then ((spec_l1In.f a1 2 10).bind fun t102 => (some t102)) else (some false))
mutual
def spec_pwSpread.l0 : Nat → Int → Int → List Int → Int → Option (List Int)
  | 0, _, _, _, _ => none
  | k + 1, x0, x1, x5, x6 => if x6 < x0 then (if 0 ≤ (x5.length : Int) then (if ((x5.length : Int) : Int).toNat ≤ 35184372088832 then (spec_pwSpread.l1 k x0 x1 x6 (List.replicate ((x5.length : Int) : Int).toNat 0) x5 (x5.length : Int) 0) else (none)) else (none)) else (some x5)
def spec_pwSpread.l1 : Nat → Int → Int → Int → List Int → List Int → Int → Int → Option (List Int)
  | 0, _, _, _, _, _, _, _ => none
  | k + 1, x0, x1, x6, x7, x30, x31, x32 => if x32 < x31 then (if 0 ≤ x32 then (if x32 < (x30.length : Int) then (spec_pwSpread.l2 k x0 x1 x6 x7 x32 (rd x30 x32) 0 x30 x31 x32) else (none)) else (none)) else (spec_pwSpread.l0 k x0 x1 x7 (wrap64 (x6 + 1)))
def spec_pwSpread.l2 : Nat → Int → Int → Int → List Int → Int → Int → Int → List Int → Int → Int → Option (List Int)
  | 0, _, _, _, _, _, _, _, _, _, _ => none
  | k + 1, x0, x1, x6, x7, x8, x9, x10, x30, x31, x32 => if x9 > 0 then (if x10 < x1 then (if 0 ≤ (wrap64 (x8 + (wrap64 (x10 * x10)))) then (if (wrap64 (x8 + (wrap64 (x10 * x10)))) < (x7.length : Int) then (spec_pwSpread.l2 k x0 x1 x6 (x7.set ((wrap64 (x8 + (wrap64 (x10 * x10)))) : Int).toNat (wrap64 ((rd x7 (wrap64 (x8 + (wrap64 (x10 * x10))))) + x9))) x8 x9 (wrap64 (x10 + 1)) x30 x31 x32) else (none)) else (none)) else (spec_pwSpread.l1 k x0 x1 x6 x7 x30 x31 (wrap64 (x32 + 1)))) else (spec_pwSpread.l1 k x0 x1 x6 x7 x30 x31 (wrap64 (x32 + 1)))
end
def spec_pwSpread.f (k : Nat) (a0 : Int) (a1 : Int) : Option (List Int) := if 0 ≤ (wrap64 ((wrap64 ((wrap64 (a0 * (wrap64 (a1 - 1)))) * (wrap64 (a1 - 1)))) + 1)) then (if (wrap64 ((wrap64 ((wrap64 (a0 * (wrap64 (a1 - 1)))) * (wrap64 (a1 - 1)))) + 1) : Int).toNat ≤ 35184372088832 then ((some (List.replicate (wrap64 ((wrap64 ((wrap64 (a0 * (wrap64 (a1 - 1)))) * (wrap64 (a1 - 1)))) + 1) : Int).toNat 0 : List Int)).bind fun y103 => (if 0 < (y103.length : Int) then (spec_pwSpread.l0 k a0 a1 (y103.set (0 : Int).toNat 1) 0) else (none))) else (none)) else (none)
def spec_SumsSpread.f (k : Nat) (a0 : Int) (a1 : Int) : Option (List Int × Bool) := (spec_pwSpreadAsked.f a0 a1).bind fun t113 => (if t113 = true then ((spec_pwSpread.f k a0 a1).bind fun t114 => (some (t114, true))) else (some (([] : List Int), false)))
def impl_isSmallBase.f (a0 : Int) : Option (Bool) := (impl_in.f a0 2 10).bind fun t117 => (some t117)
mutual
def impl_spread.l0 : Nat → Int → List Int → Int → Int → Option (List Int)
  | 0, _, _, _, _ => none
  | k + 1, x1, x5, x11, x12 => if x12 < x11 then (if 0 ≤ (wrap64 ((x5.length : Int) + (wrap64 ((wrap64 (x1 - 1)) * (wrap64 (x1 - 1)))))) then (if (wrap64 ((x5.length : Int) + (wrap64 ((wrap64 (x1 - 1)) * (wrap64 (x1 - 1))))) : Int).toNat ≤ 35184372088832 then (impl_spread.l1 k x1 (List.replicate (wrap64 ((x5.length : Int) + (wrap64 ((wrap64 (x1 - 1)) * (wrap64 (x1 - 1))))) : Int).toNat 0) x11 x12 x5 (x5.length : Int) 0) else (none)) else (none)) else (some x5)
def impl_spread.l1 : Nat → Int → List Int → Int → Int → List Int → Int → Int → Option (List Int)
  | 0, _, _, _, _, _, _, _ => none
  | k + 1, x1, x6, x11, x12, x23, x24, x25 => if x25 < x24 then (if 0 ≤ x25 then (if x25 < (x23.length : Int) then (impl_spread.l2 k x1 x6 x25 (rd x23 x25) x11 x12 x23 x24 x25 x1 0) else (none)) else (none)) else (impl_spread.l0 k x1 x6 x11 (wrap64 (x12 + 1)))
def impl_spread.l2 : Nat → Int → List Int → Int → Int → Int → Int → List Int → Int → Int → Int → Int → Option (List Int)
  | 0, _, _, _, _, _, _, _, _, _, _, _ => none
  | k + 1, x1, x6, x7, x8, x11, x12, x23, x24, x25, x30, x31 => if x31 < x30 then (if 0 ≤ (wrap64 (x7 + (wrap64 (x31 * x31)))) then (if (wrap64 (x7 + (wrap64 (x31 * x31)))) < (x6.length : Int) then (impl_spread.l2 k x1 (x6.set ((wrap64 (x7 + (wrap64 (x31 * x31)))) : Int).toNat (wrap64 ((rd x6 (wrap64 (x7 + (wrap64 (x31 * x31))))) + x8))) x7 x8 x11 x12 x23 x24 x25 x30 (wrap64 (x31 + 1))) else (none)) else (none)) else (impl_spread.l1 k x1 x6 x11 x12 x23 x24 (wrap64 (x25 + 1)))
end
def impl_spread.f (k : Nat) (a0 : Int) (a1 : Int) : Option (List Int) := impl_spread.l0 k a1 (([1] : List Int)) a0 0
def impl_SumsSpread.f (k : Nat) (a0 : Int) (a1 : Int) : Option (List Int × Bool) := (impl_isSmallBase.f a1).bind fun t127 => (if t127 = true then ((impl_in.f a0 0 12).bind fun t128 => (if t128 = true then ((impl_spread.f k a0 a1).bind fun t129 => (some (t129, true))) else (some (([] : List Int), false)))) else (some (([] : List Int), false)))
mutual
def laws_FnExactSumsSpread.j0 : Nat → Int → Int → List Int → Bool → List Int → Bool → Option (Bool)
  | 0, _, _, _, _, _, _ => none
  | k + 1, x0, x1, x5, x6, x7, x33 => if x33 = true then (some false) else ((laws_markIntS.f k x7 1).bind fun bt145 => ((laws_heldIntS.f k bt145.2 1).bind fun t147 => (if t147 < 0 then (some false) else (if t147 = bt145.1 then ((impl_SumsSpread.f k x0 x1).bind fun bt148 => ((laws_eqIntS.f k bt148.1 x5).bind fun t152 => (if t152 = true then (laws_FnExactSumsSpread.j1 k bt145.2 bt145.1 (bt148.2 != x6)) else (laws_FnExactSumsSpread.j1 k bt145.2 bt145.1 true)))) else (some false)))))
def laws_FnExactSumsSpread.j1 : Nat → List Int → Int → Bool → Option (Bool)
  | 0, _, _, _ => none
  | k + 1, x7, x9, x59 => if x59 = true then (some false) else ((laws_heldIntS.f k x7 1).bind fun t153 => (if t153 < 0 then (some false) else (if t153 = x9 then (some true) else (some false))))
end
def laws_FnExactSumsSpread.f (k : Nat) (a0 : Int) (a1 : Int) : Option (Bool) := (spec_SumsSpread.f k a0 a1).bind fun bt136 => ((impl_SumsSpread.f k a0 a1).bind fun bt140 => ((laws_eqIntS.f k bt140.1 bt136.1).bind fun t144 => (if t144 = true then (laws_FnExactSumsSpread.j0 k a0 a1 bt136.1 bt136.2 bt140.1 (bt140.2 != bt136.2)) else (laws_FnExactSumsSpread.j0 k a0 a1 bt136.1 bt136.2 bt140.1 true))))
def laws_FnExactSumsSpread.Pure : Prop := ∀ (a0 : Int) (a1 : Int), (Lit.int .i64 a0).wf = true → (Lit.int .i64 a1).wf = true → ∃ k, laws_FnExactSumsSpread.f k a0 a1 = some true
def spec_l1Least.f (a0 : Int) (a1 : Int) : Option (Int) := if a0 < a1 then (some a0) else (some a1)
mutual
def spec_LeastWithSum.j0 : Nat → Int → Int → Int → Bool → Option (Int × Bool)
  | 0, _, _, _, _ => none
  | k + 1, x0, x1, x2, x26 => if x26 = true then (some (0, false)) else (spec_LeastWithSum.l0 k x0 x1 x2 (([0] : List Int)) 1)
def spec_LeastWithSum.l0 : Nat → Int → Int → Int → List Int → Int → Option (Int × Bool)
  | 0, _, _, _, _, _ => none
  | k + 1, x0, x1, x2, x8, x9 => if x9 ≤ x0 then (spec_LeastWithSum.l1 k x0 x1 x2 x8 x9 1000000 1) else (if 0 ≤ x0 then (if x0 < (x8.length : Int) then (if (rd x8 x0) > 40 then (some (0, false)) else (spec_LeastWithSum.l2 k x0 x1 x2 x8 0)) else (none)) else (none))
def spec_LeastWithSum.l1 : Nat → Int → Int → Int → List Int → Int → Int → Int → Option (Int × Bool)
  | 0, _, _, _, _, _, _, _ => none
  | k + 1, x0, x1, x2, x8, x9, x10, x11 => if x11 < x1 then ((spec_pwOf.f k x11 x2).bind fun t109 => (spec_LeastWithSum.j3 k x0 x1 x2 x8 x9 x10 x11 (decide (t109 ≤ x9)))) else (spec_LeastWithSum.j3 k x0 x1 x2 x8 x9 x10 x11 false)
def spec_LeastWithSum.j3 : Nat → Int → Int → Int → List Int → Int → Int → Int → Bool → Option (Int × Bool)
  | 0, _, _, _, _, _, _, _, _ => none
  | k + 1, x0, x1, x2, x8, x9, x10, x11, x42 => if x42 = true then ((spec_pwOf.f k x11 x2).bind fun t110 => (if 0 ≤ (wrap64 (x9 - t110)) then (if (wrap64 (x9 - t110)) < (x8.length : Int) then ((spec_l1Least.f x10 (wrap64 (1 + (rd x8 (wrap64 (x9 - t110)))))).bind fun t112 => (spec_LeastWithSum.l1 k x0 x1 x2 x8 x9 t112 (wrap64 (x11 + 1)))) else (none)) else (none))) else (if x8.length < 17592186044416 then (spec_LeastWithSum.l0 k x0 x1 x2 (x8 ++ [x10]) (wrap64 (x9 + 1))) else (none))
def spec_LeastWithSum.l2 : Nat → Int → Int → Int → List Int → Int → Option (Int × Bool)
  | 0, _, _, _, _, _ => none
  | k + 1, x0, x1, x2, x8, x12 => if x0 > 0 then (spec_LeastWithSum.l3 k x0 x1 x2 x8 x12 1) else (some (x12, true))
def spec_LeastWithSum.l3 : Nat → Int → Int → Int → List Int → Int → Int → Option (Int × Bool)
  | 0, _, _, _, _, _, _ => none
  | k + 1, x0, x1, x2, x8, x12, x13 => (spec_pwOf.f k x13 x2).bind fun t117 => (if 0 ≤ (wrap64 (x0 - t117)) then (if (wrap64 (x0 - t117)) < (x8.length : Int) then (if 0 ≤ x0 then (if x0 < (x8.length : Int) then (if (rd x8 (wrap64 (x0 - t117))) = (wrap64 ((rd x8 x0) - 1)) then (if (wrap64 ((wrap64 (x12 * x1)) + x13)) > 1000000000000 then (some (0, false)) else ((spec_pwOf.f k x13 x2).bind fun t120 => (spec_LeastWithSum.l2 k (wrap64 (x0 - t120)) x1 x2 x8 (wrap64 ((wrap64 (x12 * x1)) + x13))))) else (spec_LeastWithSum.l3 k x0 x1 x2 x8 x12 (wrap64 (x13 + 1)))) else (none)) else (none)) else (none)) else (none))
end
def spec_LeastWithSum.f (k : Nat) (a0 : Int) (a1 : Int) (a2 : Int) : Option (Int × Bool) := (spec_l1In.f a0 0 2000).bind fun t103 => (if t103 = true then ((spec_dgBase.f a1).bind fun t104 => (if t104 = true then ((spec_pwPower.f a2 8).bind fun t105 => (spec_LeastWithSum.j0 k a0 a1 a2 (!t105))) else (spec_LeastWithSum.j0 k a0 a1 a2 true))) else (spec_LeastWithSum.j0 k a0 a1 a2 true))
mutual
def impl_LeastWithSum.j0 : Nat → Int → Int → Int → Bool → Option (Int × Bool)
  | 0, _, _, _, _ => none
  | k + 1, x0, x1, x2, x26 => if x26 = true then (some (0, false)) else (if 0 ≤ (wrap64 (x0 + 1)) then (if (wrap64 (x0 + 1) : Int).toNat ≤ 35184372088832 then (impl_LeastWithSum.l0 k x0 x1 x2 (List.replicate (wrap64 (x0 + 1) : Int).toNat 0) 1) else (none)) else (none))
def impl_LeastWithSum.l0 : Nat → Int → Int → Int → List Int → Int → Option (Int × Bool)
  | 0, _, _, _, _, _ => none
  | k + 1, x0, x1, x2, x8, x9 => if x9 ≤ x0 then (if 0 ≤ x9 then (if x9 < (x8.length : Int) then (impl_LeastWithSum.l1 k x0 x1 x2 (x8.set (x9 : Int).toNat x9) x9 2) else (none)) else (none)) else (impl_LeastWithSum.l2 k x1 x2 x8 (([] : List Int)) x0)
def impl_LeastWithSum.l1 : Nat → Int → Int → Int → List Int → Int → Int → Option (Int × Bool)
  | 0, _, _, _, _, _, _ => none
  | k + 1, x0, x1, x2, x8, x9, x10 => if x10 < x1 then ((impl_toPower.f k x10 x2).bind fun t131 => (if t131 ≤ x9 then (if 0 ≤ x9 then (if x9 < (x8.length : Int) then ((impl_toPower.f k x10 x2).bind fun t133 => (if 0 ≤ (wrap64 (x9 - t133)) then (if (wrap64 (x9 - t133)) < (x8.length : Int) then (impl_LeastWithSum.l1 k x0 x1 x2 (x8.set (x9 : Int).toNat (mn (rd x8 x9) (wrap64 ((rd x8 (wrap64 (x9 - t133))) + 1)))) x9 (wrap64 (x10 + 1))) else (none)) else (none))) else (none)) else (none)) else (impl_LeastWithSum.l0 k x0 x1 x2 x8 (wrap64 (x9 + 1))))) else (impl_LeastWithSum.l0 k x0 x1 x2 x8 (wrap64 (x9 + 1)))
def impl_LeastWithSum.l2 : Nat → Int → Int → List Int → List Int → Int → Option (Int × Bool)
  | 0, _, _, _, _, _ => none
  | k + 1, x1, x2, x8, x11, x12 => if x12 > 0 then (impl_LeastWithSum.j4 k x1 x2 x8 x11 x12 (decide ((x11.length : Int) ≤ 40))) else (impl_LeastWithSum.j4 k x1 x2 x8 x11 x12 false)
def impl_LeastWithSum.j4 : Nat → Int → Int → List Int → List Int → Int → Bool → Option (Int × Bool)
  | 0, _, _, _, _, _, _ => none
  | k + 1, x1, x2, x8, x11, x12, x76 => if x76 = true then (impl_LeastWithSum.l3 k x1 x2 x8 x11 x12 1) else ((impl_value.f k x11 x1).bind fun t139 => ((impl_told.f t139).bind fun bt140 => (some (bt140.1, bt140.2))))
def impl_LeastWithSum.l3 : Nat → Int → Int → List Int → List Int → Int → Int → Option (Int × Bool)
  | 0, _, _, _, _, _, _ => none
  | k + 1, x1, x2, x8, x11, x12, x13 => (impl_toPower.f k x13 x2).bind fun t142 => (if t142 > x12 then (impl_LeastWithSum.l3 k x1 x2 x8 x11 x12 (wrap64 (x13 + 1))) else ((impl_toPower.f k x13 x2).bind fun t143 => (if 0 ≤ (wrap64 (x12 - t143)) then (if (wrap64 (x12 - t143)) < (x8.length : Int) then (if 0 ≤ x12 then (if x12 < (x8.length : Int) then (if (rd x8 (wrap64 (x12 - t143))) = (wrap64 ((rd x8 x12) - 1)) then (if x11.length < 17592186044416 then ((impl_toPower.f k x13 x2).bind fun t149 => (impl_LeastWithSum.l2 k x1 x2 x8 (x11 ++ [x13]) (wrap64 (x12 - t149)))) else (none)) else (impl_LeastWithSum.l3 k x1 x2 x8 x11 x12 (wrap64 (x13 + 1)))) else (none)) else (none)) else (none)) else (none))))
end
def impl_LeastWithSum.f (k : Nat) (a0 : Int) (a1 : Int) (a2 : Int) : Option (Int × Bool) := (impl_in.f a0 0 2000).bind fun t124 => (if t124 = true then ((impl_isBase.f a1).bind fun t125 => (if t125 = true then ((impl_isPower.f a2).bind fun t126 => (impl_LeastWithSum.j0 k a0 a1 a2 (!t126))) else (impl_LeastWithSum.j0 k a0 a1 a2 true))) else (impl_LeastWithSum.j0 k a0 a1 a2 true))
def laws_FnExactLeastWithSum.f (k : Nat) (a0 : Int) (a1 : Int) (a2 : Int) : Option (Bool) := (spec_LeastWithSum.f k a0 a1 a2).bind fun bt150 => ((impl_LeastWithSum.f k a0 a1 a2).bind fun bt152 => (if bt152.1 = bt150.1 then (if (bt152.2 != bt150.2) = true then (some false) else (some true)) else (some false)))
def laws_FnExactLeastWithSum.Pure : Prop := ∀ (a0 : Int) (a1 : Int) (a2 : Int), (Lit.int .i64 a0).wf = true → (Lit.int .i64 a1).wf = true → (Lit.int .i64 a2).wf = true → ∃ k, laws_FnExactLeastWithSum.f k a0 a1 a2 = some true
end Go.Proofs.YtehhkkbejmhcfaaC
end
section
namespace Go.Proofs.YtehhkkbejmhcfaaC
open Go.RowKit Go.Proofs.YtehhkkbejmhcfaaW.PrintWords
set_option linter.unusedSimpArgs false
set_option linter.unusedVariables false
theorem pow_bound {x : Int} (h0 : 0 ≤ x) (h1 : x ≤ 16) : ∀ (n : Nat), 0 ≤ x ^ n ∧ x ^ n ≤ 16 ^ n
  | 0 => by simp
  | n + 1 => by
    have ih := pow_bound h0 h1 n
    rw [Int.pow_succ, Int.pow_succ]
    exact ⟨Int.mul_nonneg ih.1 h0, Int.le_trans (Int.mul_le_mul_of_nonneg_left h1 ih.1) (Int.mul_le_mul_of_nonneg_right ih.2 (by omega))⟩
theorem pow16 {n : Nat} (h : n ≤ 15) : (16 : Int) ^ n ≤ 1152921504606846976 := by
  have : n = 0 ∨ n = 1 ∨ n = 2 ∨ n = 3 ∨ n = 4 ∨ n = 5 ∨ n = 6 ∨ n = 7 ∨ n = 8 ∨ n = 9 ∨ n = 10 ∨ n = 11 ∨ n = 12 ∨ n = 13 ∨ n = 14 ∨ n = 15 := by omega
  rcases this with rfl | rfl | rfl | rfl | rfl | rfl | rfl | rfl | rfl | rfl | rfl | rfl | rfl | rfl | rfl | rfl <;> decide
theorem pow_small {x : Int} (h0 : 0 ≤ x) (h1 : x ≤ 16) {n : Nat} (h : n ≤ 15) : 0 ≤ x ^ n ∧ x ^ n ≤ 1152921504606846976 :=
  ⟨(pow_bound h0 h1 n).1, Int.le_trans (pow_bound h0 h1 n).2 (pow16 h)⟩
theorem toPower_eq {x : Int} (h0 : 0 ≤ x) (h1 : x ≤ 16) (n : Nat) (h : n ≤ 15) : ∀ k, n < k → impl_toPower.f k x (n : Int) = some (x ^ n) := by
  intro k hk
  have := run0 (fun k (s : Int × Int) => impl_toPower.l0 k x s.1 (n : Int) s.2) n 0 (fun j => (x ^ j, (j : Int))) (x ^ n)
    (fun j hj k _ => by
      show impl_toPower.l0 (k + 1) x (x ^ j) (n : Int) (j : Int) = impl_toPower.l0 k x (x ^ (j + 1)) (n : Int) ((j + 1 : Nat) : Int)
      have hb := pow_small h0 h1 (n := j + 1) (by omega)
      have e : x ^ j * x = x ^ (j + 1) := (Int.pow_succ x j).symm
      rw [impl_toPower.l0, if_pos (by omega), w64s (by omega), e, w64 (by omega) (by omega)])
    (fun k _ => by
      show impl_toPower.l0 (k + 1) x (x ^ n) (n : Int) (n : Int) = _
      rw [impl_toPower.l0, if_neg (by omega)])
    k (by omega)
  simpa [impl_toPower.f] using this
theorem pwOf_eq {x : Int} (h0 : 0 ≤ x) (h1 : x ≤ 16) (n : Nat) (h : n ≤ 15) : ∀ k, n < k → spec_pwOf.f k x (n : Int) = some (x ^ n) := by
  intro k hk
  have := run0 (fun k (s : Int × Int) => spec_pwOf.l0 k x s.1 s.2) n 0 (fun j => ((n : Int) - (j : Int), x ^ j)) (x ^ n)
    (fun j hj k _ => by
      show spec_pwOf.l0 (k + 1) x ((n : Int) - (j : Int)) (x ^ j) = spec_pwOf.l0 k x ((n : Int) - ((j + 1 : Nat) : Int)) (x ^ (j + 1))
      have hb := pow_small h0 h1 (n := j + 1) (by omega)
      have e : x ^ j * x = x ^ (j + 1) := (Int.pow_succ x j).symm
      rw [spec_pwOf.l0, if_pos (by omega), e, w64 (by omega) (by omega), w64 (by omega) (by omega)]
      congr 1; omega)
    (fun k _ => by
      show spec_pwOf.l0 (k + 1) x ((n : Int) - (n : Int)) (x ^ n) = _
      rw [spec_pwOf.l0, if_neg (by omega)])
    k (by omega)
  simpa [spec_pwOf.f] using this
def psum (p : Nat) (l : List Int) : Int := (l.map fun d => d ^ p).sum
theorem pow8 {d : Int} (h0 : 0 ≤ d) (h1 : d ≤ 16) {p : Nat} (h : p ≤ 8) : 0 ≤ d ^ p ∧ d ^ p ≤ 4294967296 := by
  refine ⟨(pow_bound h0 h1 p).1, Int.le_trans (pow_bound h0 h1 p).2 ?_⟩
  have : p = 0 ∨ p = 1 ∨ p = 2 ∨ p = 3 ∨ p = 4 ∨ p = 5 ∨ p = 6 ∨ p = 7 ∨ p = 8 := by omega
  rcases this with rfl | rfl | rfl | rfl | rfl | rfl | rfl | rfl | rfl <;> decide
theorem psum_bound {p : Nat} (hp : p ≤ 8) : ∀ (l : List Int), (∀ x ∈ l, 0 ≤ x ∧ x ≤ 16) → 0 ≤ psum p l ∧ psum p l ≤ 4294967296 * (l.length : Int)
  | [], _ => by simp [psum]
  | d :: l, h => by
    have ih := psum_bound hp l (fun x hx => h x (by simp [hx]))
    have hd := pow8 (h d (by simp)).1 (h d (by simp)).2 hp
    simp only [psum, List.map_cons, List.sum_cons, List.length_cons] at ih ⊢
    omega
theorem psum_append (p : Nat) (a b : List Int) : psum p (a ++ b) = psum p a + psum p b := by simp [psum]
theorem psum_rev (p : Nat) (l : List Int) : psum p l.reverse = psum p l := by
  induction l with
  | nil => rfl
  | cons x l ih => rw [List.reverse_cons, psum_append, ih]; simp [psum]; omega
theorem powerSum_loop {p : Nat} (hp : p ≤ 8) (l : List Int) (hl : l.length ≤ 1000) (hr : ∀ x ∈ l, 0 ≤ x ∧ x ≤ 16) : ∀ k, l.length + 9 < k → impl_powerSum.l0 k (p : Int) 0 l (l.length : Int) 0 = some (psum p l) := by
  intro k hk
  have := run0 (fun k (s : Int × Int) => impl_powerSum.l0 k (p : Int) s.1 l (l.length : Int) s.2) l.length 9 (fun j => (psum p (l.take j), (j : Int))) (psum p l)
    (fun j hj k hk => by
      show impl_powerSum.l0 (k + 1) (p : Int) (psum p (l.take j)) l (l.length : Int) (j : Int) = impl_powerSum.l0 k (p : Int) (psum p (l.take (j + 1))) l (l.length : Int) ((j + 1 : Nat) : Int)
      have hx := hr l[j] (List.getElem_mem hj)
      have hb := psum_bound hp (l.take (j + 1)) (fun x hx => hr x (List.mem_of_mem_take hx))
      have hlen : (l.take (j + 1)).length ≤ 1000 := by simp; omega
      have e : psum p (l.take (j + 1)) = psum p (l.take j) + l[j] ^ p := by rw [take_s hj, psum_append]; simp [psum]
      rw [impl_powerSum.l0, if_pos (by omega), if_pos (by omega), if_pos (by omega), rd_get hj, toPower_eq hx.1 hx.2 p (by omega) k (by omega), w64s (by omega)]
      simp only [Option.bind_some]
      rw [← e, w64 (by omega) (by omega)])
    (fun k _ => by
      show impl_powerSum.l0 (k + 1) (p : Int) (psum p (l.take l.length)) l (l.length : Int) (l.length : Int) = _
      rw [impl_powerSum.l0, if_neg (by omega), List.take_length])
    k (by omega)
  simpa [psum] using this
theorem pwSum_loop {b p : Nat} (hb : 2 ≤ b) (hb2 : b ≤ 16) (hp : p ≤ 8) : ∀ (n : Nat), n ≤ 9223372036854775807 → ∀ (s : Int) (k : Nat), 0 ≤ s → s + 4294967296 * ((lsd b n).length : Int) ≤ 4611686018427387904 → n + 9 < k →
    spec_pwSum.l0 k (n : Int) (b : Int) (p : Int) s = some (s + psum p (lsd b n)) := by
  intro n
  induction n using Nat.strongRecOn with
  | ind n ih =>
    intro hn s k h0 hs hk
    obtain ⟨k, rfl⟩ : ∃ m, k = m + 1 := ⟨k - 1, by omega⟩
    rcases Nat.eq_zero_or_pos n with rfl | hpos
    · rw [spec_pwSum.l0, if_neg (by omega), lsd_zero]; simp [psum]
    · have hlt := Nat.div_lt_self hpos hb
      have e := lsd_pos hb hpos
      have hm := Nat.mod_lt n (show b > 0 by omega)
      rw [e] at hs
      simp only [List.length_cons] at hs
      rw [spec_pwSum.l0, if_pos (by omega), if_neg (by omega), tmod_nat, tdiv_nat, w64n (Nat.le_trans (Nat.div_le_self _ _) hn)]
      generalize n % b = r at *
      generalize hq : n / b = q at *
      have hd := pow8 (d := (r : Int)) (by omega) (by omega) hp
      rw [pwOf_eq (x := (r : Int)) (by omega) (by omega) p (by omega) k (by omega)]
      simp only [Option.bind_some]
      rw [w64 (by omega) (by omega), ih q hlt (by omega) _ k (by omega) (by omega) (by omega), e]
      simp [psum]
      omega
theorem psum_dg {b n p : Nat} (hb : 2 ≤ b) (hp : 1 ≤ p) : psum p (dg b n) = psum p (lsd b n) := by
  unfold dg
  split
  · rename_i h; subst h; rw [lsd_zero]
    obtain ⟨q, rfl⟩ : ∃ q, p = q + 1 := ⟨p - 1, by omega⟩
    simp [psum, Int.pow_succ]
  · exact psum_rev p _
def pws (b p n : Nat) : Int := psum p (lsd b n)
theorem pwSum_eq {b p n : Nat} (hb : 2 ≤ b) (hb2 : b ≤ 16) (hp : p ≤ 8) (hn : n ≤ 9223372036854775807) : ∀ k, n + 9 < k → spec_pwSum.f k (n : Int) (b : Int) (p : Int) = some (pws b p n) := by
  intro k hk
  have hl := lsd_length hb 63 n (by omega)
  have := pwSum_loop hb hb2 hp n hn 0 k (by omega) (by omega) hk
  simpa [spec_pwSum.f, pws] using this
theorem powerSum_eq {b p n : Nat} (hb : 2 ≤ b) (hb2 : b ≤ 16) (hp1 : 1 ≤ p) (hp : p ≤ 8) (hn : n ≤ 9223372036854775807) : ∀ k, n + 200 < k → impl_powerSum.f k (n : Int) (b : Int) (p : Int) = some (pws b p n) := by
  intro k hk
  have hs := dg_short (c := b) (m := n) hb hn
  have hr : ∀ x ∈ dg b n, 0 ≤ x ∧ x ≤ 16 := fun x hx => by have := dg_range hb n x hx; omega
  have := powerSum_loop hp (dg b n) (by omega) hr k (by omega)
  unfold impl_powerSum.f
  rw [digitsOf_now hb (by omega) hn (by omega)]
  simp only [Option.bind_some]
  rw [this, psum_dg hb hp1]; rfl
theorem isPower_eq (p : Int) : impl_isPower.f p = some (decide (1 ≤ p ∧ p ≤ 8)) := by simp [impl_isPower.f, in_eq]
theorem pwPower_eq (p q : Int) : spec_pwPower.f p q = some (decide (1 ≤ p ∧ p ≤ q)) := by simp [spec_pwPower.f, l1In_eq]
end Go.Proofs.YtehhkkbejmhcfaaC
end
section
namespace Go.Proofs.YtehhkkbejmhcfaaC
set_option linter.unusedSimpArgs false
open Go.RowKit Go.Proofs.YtehhkkbejmhcfaaW.PrintWords
theorem idxF_any {p : Int → Bool} : ∀ (a : List Int) (i : Int), 0 ≤ i → (decide (0 ≤ idxF p a i)) = a.any p
  | [], _, _ => by simp [idxF]
  | y :: a, i, h => by
    rw [idxF]
    cases hy : p y with
    | true => simp [hy, h]
    | false => rw [if_neg (by decide), idxF_any a (i + 1) (by omega)]; simp [hy]
theorem Index_loop (x : Int) (xs : List Int) (hx : xs.length ≤ 4611686018427387904) : ∀ (suf pre : List Int) (k : Nat), xs = pre ++ suf → suf.length < k →
    slices_Index_int_int.l0 k xs x (xs.length : Int) (pre.length : Int) = some (idxF (fun y => decide (x = y)) suf (pre.length : Int)) := by
  intro suf
  induction suf with
  | nil =>
    intro pre k h hk
    obtain ⟨k, rfl⟩ : ∃ m, k = m + 1 := ⟨k - 1, by omega⟩
    subst h; rw [slices_Index_int_int.l0, if_neg (by simp)]; rfl
  | cons y suf ih =>
    intro pre k h hk
    simp only [List.length_cons] at hk
    obtain ⟨k, rfl⟩ : ∃ m, k = m + 1 := ⟨k - 1, by omega⟩
    have hl : xs.length = pre.length + suf.length + 1 := by subst h; simp; omega
    have e : rd xs (pre.length : Int) = y := by subst h; exact rd_mid _ _ _
    rw [slices_Index_int_int.l0, if_pos (by omega), if_pos (by omega), if_pos (by omega), e, idxF]
    by_cases hc : x = y
    · rw [if_pos hc, if_pos (by simpa using hc)]
    · rw [if_neg hc, if_neg (by simpa using hc), w64 (by omega) (by omega)]
      have := ih (pre ++ [y]) k (by simp [h]) (by omega)
      simpa using this
theorem Index_eq (l : List Int) (x : Int) (hl : l.length ≤ 4611686018427387904) {k : Nat} (hk : l.length < k) : slices_Index_int_int.f k l x = some (idxF (fun y => decide (x = y)) l 0) := by
  have := Index_loop x l hl l [] k rfl hk
  simpa [slices_Index_int_int.f] using this
end Go.Proofs.YtehhkkbejmhcfaaC
end
section
namespace Go.Proofs.YtehhkkbejmhcfaaC
set_option linter.unusedSimpArgs false
set_option linter.unusedVariables false
theorem nodup_le : ∀ (l m : List Int), l.Nodup → (∀ x ∈ l, x ∈ m) → l.length ≤ m.length
  | [], m, _, _ => by simp
  | a :: l, m, hn, h => by
    rw [List.nodup_cons] at hn
    have ha := h a (by simp)
    have := nodup_le l (m.erase a) hn.2 (fun x hx => (List.mem_erase_of_ne (show x ≠ a from fun e => hn.1 (by rw [← e]; exact hx))).2 (h x (by simp [hx])))
    rw [List.length_erase_of_mem ha] at this
    have : 0 < m.length := List.length_pos_of_mem ha
    simp only [List.length_cons]; omega
def it (f : Int → Int) (x : Int) : Nat → Int
  | 0 => x
  | k + 1 => f (it f x k)
theorem it_add (f : Int → Int) (x : Int) (a : Nat) : ∀ b, it f x (a + b) = it f (it f x a) b
  | 0 => rfl
  | b + 1 => by
    show f (it f x (a + b)) = f (it f (it f x a) b)
    rw [it_add f x a b]
theorem it_one (f : Int → Int) (x : Int) (k : Nat) : it f (f x) k = it f x (k + 1) := by
  rw [show k + 1 = 1 + k by omega, it_add]; rfl
def orbit (f : Int → Int) (x : Int) (m : Nat) : List Int := (List.range m).map (it f x)
theorem orbit_length (f : Int → Int) (x : Int) (m : Nat) : (orbit f x m).length = m := by simp [orbit]
theorem orbit_succ (f : Int → Int) (x : Int) (m : Nat) : orbit f x (m + 1) = orbit f x m ++ [it f x m] := by simp [orbit, List.range_succ]
theorem orbit_get (f : Int → Int) (x : Int) (m i : Nat) (h : i < (orbit f x m).length) : (orbit f x m)[i] = it f x i := by simp [orbit]
theorem mem_orbit {f : Int → Int} {x : Int} {m : Nat} {y : Int} : y ∈ orbit f x m ↔ ∃ i, i < m ∧ it f x i = y := by simp [orbit]
theorem orbit_cons (f : Int → Int) (x : Int) (m : Nat) : orbit f x (m + 1) = x :: orbit f (f x) m := by
  apply List.ext_getElem
  · simp [orbit_length]
  · intro i h1 h2
    rw [orbit_get]
    cases i with
    | zero => rfl
    | succ i => rw [List.getElem_cons_succ, orbit_get, it_one]
theorem orbit_drop (f : Int → Int) (x : Int) (m k : Nat) : (orbit f x m).drop k = orbit f (it f x k) (m - k) := by
  apply List.ext_getElem
  · simp [orbit_length]
  · intro i h1 h2
    rw [List.getElem_drop, orbit_get, orbit_get, it_add]
theorem orbit_take (f : Int → Int) (x : Int) (m k : Nat) (h : k ≤ m) : (orbit f x m).take k = orbit f x k := by
  apply List.ext_getElem
  · simp [orbit_length]; omega
  · intro i h1 h2
    rw [List.getElem_take, orbit_get, orbit_get]
structure Rho (f : Int → Int) (x : Int) (m a : Nat) : Prop where
  lt : a < m
  back : it f x m = it f x a
  inj : ∀ i j, i < m → j < m → it f x i = it f x j → i = j
theorem Rho.fresh {f : Int → Int} {x : Int} {m a : Nat} (h : Rho f x m a) {i : Nat} (hi : i < m) : it f x i ∉ orbit f x i := fun hm => by
  obtain ⟨j, hj, e⟩ := mem_orbit.1 hm
  have := h.inj j i (by omega) hi e
  omega
theorem Rho.round {f : Int → Int} {x : Int} {m a : Nat} (h : Rho f x m a) : ∀ i, a ≤ i → it f x (i + (m - a)) = it f x i := by
  intro i hi
  obtain ⟨d, rfl⟩ := Nat.exists_eq_add_of_le hi
  rw [show a + d + (m - a) = m + d by have := h.lt; omega, it_add, h.back, ← it_add]
theorem Rho.rounds {f : Int → Int} {x : Int} {m a : Nat} (h : Rho f x m a) (i : Nat) (hi : a ≤ i) : ∀ q, it f x (i + q * (m - a)) = it f x i
  | 0 => by simp
  | q + 1 => by
    rw [Nat.succ_mul, ← Nat.add_assoc, h.round _ (by omega), h.rounds i hi q]
theorem Rho.mod {f : Int → Int} {x : Int} {m a : Nat} (h : Rho f x m a) (i : Nat) (hi : a ≤ i) : it f x i = it f x (a + (i - a) % (m - a)) := by
  have := h.rounds (a + (i - a) % (m - a)) (by omega) ((i - a) / (m - a))
  rw [← this]
  congr 1
  have := Nat.mod_add_div (i - a) (m - a)
  rw [Nat.mul_comm] at this
  omega
theorem Rho.all {f : Int → Int} {x : Int} {m a : Nat} (h : Rho f x m a) (i : Nat) : ∃ j, j < m ∧ it f x i = it f x j := by
  have hl := h.lt
  by_cases hi : i < m
  · exact ⟨i, hi, rfl⟩
  · exact ⟨a + (i - a) % (m - a), by have := Nat.mod_lt (i - a) (show 0 < m - a by omega); omega, h.mod i (by omega)⟩
theorem Rho.unique {f : Int → Int} {x : Int} {m a m' a' : Nat} (h : Rho f x m a) (h' : Rho f x m' a') : m = m' ∧ a = a' := by
  have hm : m = m' := by
    rcases Nat.lt_trichotomy m m' with hlt | rfl | hlt
    · have := h'.inj m a hlt (by have := h.lt; omega) h.back
      have := h.lt; omega
    · rfl
    · have := h.inj m' a' hlt (by have := h'.lt; omega) h'.back
      have := h'.lt; omega
  subst hm
  exact ⟨rfl, h.inj a a' h.lt h'.lt (h.back.symm.trans h'.back)⟩
end Go.Proofs.YtehhkkbejmhcfaaC
end
section
namespace Go.Proofs.YtehhkkbejmhcfaaC
open Go.RowKit Go.Proofs.YtehhkkbejmhcfaaW.PrintWords Go.Proofs.YtehhkkbejmhcfaaW.PrintMore
set_option linter.unusedSimpArgs false
set_option linter.unusedVariables false
def wayF (f : Int → Int) : Nat → List Int → Int → List Int × Nat
  | 0, out, _ => (out, 0)
  | k + 1, out, n => if n ∈ out then (out, out.idxOf n) else wayF f k (out ++ [n]) (f n)
theorem idxOf_orbit {f : Int → Int} {x : Int} {m : Nat} (h : ∀ i j, i < m → j < m → it f x i = it f x j → i = j) {i : Nat} (hi : i < m) : (orbit f x m).idxOf (it f x i) = i := by
  have hm : it f x i ∈ orbit f x m := mem_orbit.2 ⟨i, hi, rfl⟩
  have hl : (orbit f x m).idxOf (it f x i) < (orbit f x m).length := List.idxOf_lt_length_iff.2 hm
  have := List.getElem_idxOf hl
  rw [orbit_get] at this
  rw [orbit_length] at hl
  exact h _ _ hl hi this
def way (l : List Int) (x : Int) : List Int × Nat := wayF (rd l) (l.length + 1) [] x
def rA (l : List Int) (x : Int) : Nat := (way l x).2
def cyc (l : List Int) (x : Int) : Bool := decide (rA l x = 0)
end Go.Proofs.YtehhkkbejmhcfaaC
end
