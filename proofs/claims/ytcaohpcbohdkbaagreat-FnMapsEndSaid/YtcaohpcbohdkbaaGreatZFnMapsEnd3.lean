/- Plain texts of FnMapsEnd, merged by a program: what Go functions compute, lemmas of the walk, and proofs. No conditions. -/
import Derived.Test.YtcaohpcbohdkbaaGreatZFnMapsEnd1
import Derived.Test.YtcaohpcbohdkbaaGreatZFnMapsEnd2
section
namespace Go.Proofs.YtcaohpcbohdkbaaGreatC
open Go.RowKit Go.Proofs.YtcaohpcbohdkbaaGreatW.PrintWords
set_option linter.unusedVariables false
def laws_FnExactConstants.f  : Option (Bool) := some true
def laws_FnExactConstants.Pure : Prop := laws_FnExactConstants.f  = some true
def spec_l1In.f (a0 : Int) (a1 : Int) (a2 : Int) : Option (Bool) := if a0 ≥ a1 then (some (decide (a0 ≤ a2))) else (some false)
def spec_dgBase.f (a0 : Int) : Option (Bool) := (spec_l1In.f a0 2 16).bind fun t101 => (some t101)
def spec_dgNumber.f (a0 : Int) : Option (Bool) := (spec_l1In.f a0 0 1000000000000).bind fun t102 => (some t102)
def spec_dgAsked.f (a0 : Int) (a1 : Int) : Option (Bool) := (spec_dgNumber.f a0).bind fun t103 => (if t103 = true then ((spec_dgBase.f a1).bind fun t104 => (some t104)) else (some false))
def spec_dgOf.l0 : Nat → Int → Int → List Int → Option (List Int)
  | 0, _, _, _ => none
  | k + 1, x0, x1, x5 => if x0 > 0 then (if x1 = 0 then (none) else ((some (([Int.tmod x0 x1] : List Int) : List Int)).bind fun y108 => (if y108.length + x5.length < 17592186044416 then (spec_dgOf.l0 k (wrap64 (Int.tdiv x0 x1)) x1 (y108 ++ x5)) else (none)))) else (some x5)
def spec_dgOf.f (k : Nat) (a0 : Int) (a1 : Int) : Option (List Int) := if a0 = 0 then (some (([0] : List Int))) else (spec_dgOf.l0 k a0 a1 ([] : List Int))
def spec_CountDigits.f (k : Nat) (a0 : Int) (a1 : Int) : Option (Int × Bool) := (spec_dgAsked.f a0 a1).bind fun t114 => (if t114 = true then ((spec_dgOf.f k a0 a1).bind fun t115 => (some ((t115.length : Int), true))) else (some (0, false)))
def impl_in.f (a0 : Int) (a1 : Int) (a2 : Int) : Option (Bool) := if a1 ≤ a0 then (some (decide (a0 ≤ a2))) else (some false)
def impl_isBase.f (a0 : Int) : Option (Bool) := (impl_in.f a0 2 16).bind fun t118 => (some t118)
def impl_isNumber.f (a0 : Int) (a1 : Int) : Option (Bool) := (impl_in.f a0 0 1000000000000).bind fun t119 => (if t119 = true then ((impl_isBase.f a1).bind fun t120 => (some t120)) else (some false))
def slices_Reverse_int_int.l0 : Nat → List Int → Int → Int → Option (List Int)
  | 0, _, _, _ => none
  | k + 1, x0, x2, x3 => if x2 < x3 then (if 0 ≤ x3 then (if x3 < (x0.length : Int) then (if 0 ≤ x2 then (if x2 < (x0.length : Int) then (slices_Reverse_int_int.l0 k ((x0.set (x2 : Int).toNat (rd x0 x3)).set (x3 : Int).toNat (rd x0 x2)) (wrap64 (x2 + 1)) (wrap64 (x3 - 1))) else (none)) else (none)) else (none)) else (none)) else (some x0)
def slices_Reverse_int_int.f (k : Nat) (l0 : List Int) : Option (List Int) := slices_Reverse_int_int.l0 k l0 0 (wrap64 ((l0.length : Int) - 1))
def impl_digitsOf.l0 : Nat → Int → Int → List Int → Option (List Int)
  | 0, _, _, _ => none
  | k + 1, x0, x1, x5 => if x0 > 0 then (if x1 = 0 then (none) else (if x5.length < 17592186044416 then (impl_digitsOf.l0 k (wrap64 (Int.tdiv x0 x1)) x1 (x5 ++ [Int.tmod x0 x1])) else (none))) else ((slices_Reverse_int_int.f k x5).bind fun t131 => (some t131))
def impl_digitsOf.f (k : Nat) (a0 : Int) (a1 : Int) : Option (List Int) := if a1 = 0 then (none) else (impl_digitsOf.l0 k (wrap64 (Int.tdiv a0 a1)) a1 (([Int.tmod a0 a1] : List Int)))
def impl_CountDigits.f (k : Nat) (a0 : Int) (a1 : Int) : Option (Int × Bool) := (impl_isNumber.f a0 a1).bind fun t132 => (if t132 = true then ((impl_digitsOf.f k a0 a1).bind fun t133 => (some ((t133.length : Int), true))) else (some (0, false)))
def laws_FnExactCountDigits.f (k : Nat) (a0 : Int) (a1 : Int) : Option (Bool) := (spec_CountDigits.f k a0 a1).bind fun bt136 => ((impl_CountDigits.f k a0 a1).bind fun bt138 => (if bt138.1 = bt136.1 then (if (bt138.2 != bt136.2) = true then (some false) else (some true)) else (some false)))
def laws_FnExactCountDigits.Pure : Prop := ∀ (a0 : Int) (a1 : Int), (Lit.int .i64 a0).wf = true → (Lit.int .i64 a1).wf = true → ∃ k, laws_FnExactCountDigits.f k a0 a1 = some true
def spec_dgProduct.l0 : Nat → Int → List Int → Int → Int → Option (Int)
  | 0, _, _, _, _ => none
  | k + 1, x3, x6, x7, x8 => if x8 < x7 then (if 0 ≤ x8 then (if x8 < (x6.length : Int) then (spec_dgProduct.l0 k (wrap64 (x3 * (rd x6 x8))) x6 x7 (wrap64 (x8 + 1))) else (none)) else (none)) else (some x3)
def spec_dgProduct.f (k : Nat) (l0 : List Int) : Option (Int) := spec_dgProduct.l0 k 1 l0 (l0.length : Int) 0
def spec_DigitProduct.f (k : Nat) (a0 : Int) (a1 : Int) : Option (Int × Bool) := (spec_dgAsked.f a0 a1).bind fun t115 => (if t115 = true then ((spec_dgOf.f k a0 a1).bind fun t116 => ((spec_dgProduct.f k t116).bind fun t119 => (some (t119, true)))) else (some (0, false)))
def impl_digitProduct.l0 : Nat → Int → List Int → Int → Int → Option (Int)
  | 0, _, _, _, _ => none
  | k + 1, x5, x10, x11, x12 => if x12 < x11 then (if 0 ≤ x12 then (if x12 < (x10.length : Int) then (impl_digitProduct.l0 k (wrap64 (x5 * (rd x10 x12))) x10 x11 (wrap64 (x12 + 1))) else (none)) else (none)) else (some x5)
def impl_digitProduct.f (k : Nat) (a0 : Int) (a1 : Int) : Option (Int) := (impl_digitsOf.f k a0 a1).bind fun t134 => (impl_digitProduct.l0 k 1 t134 (t134.length : Int) 0)
def impl_DigitProduct.f (k : Nat) (a0 : Int) (a1 : Int) : Option (Int × Bool) := (impl_isNumber.f a0 a1).bind fun t138 => (if t138 = true then ((impl_digitProduct.f k a0 a1).bind fun t139 => (some (t139, true))) else (some (0, false)))
def laws_FnExactDigitProduct.f (k : Nat) (a0 : Int) (a1 : Int) : Option (Bool) := (spec_DigitProduct.f k a0 a1).bind fun bt140 => ((impl_DigitProduct.f k a0 a1).bind fun bt142 => (if bt142.1 = bt140.1 then (if (bt142.2 != bt140.2) = true then (some false) else (some true)) else (some false)))
def laws_FnExactDigitProduct.Pure : Prop := ∀ (a0 : Int) (a1 : Int), (Lit.int .i64 a0).wf = true → (Lit.int .i64 a1).wf = true → ∃ k, laws_FnExactDigitProduct.f k a0 a1 = some true
def spec_dgSum.l0 : Nat → Int → List Int → Int → Int → Option (Int)
  | 0, _, _, _, _ => none
  | k + 1, x3, x6, x7, x8 => if x8 < x7 then (if 0 ≤ x8 then (if x8 < (x6.length : Int) then (spec_dgSum.l0 k (wrap64 (x3 + (rd x6 x8))) x6 x7 (wrap64 (x8 + 1))) else (none)) else (none)) else (some x3)
def spec_dgSum.f (k : Nat) (l0 : List Int) : Option (Int) := spec_dgSum.l0 k 0 l0 (l0.length : Int) 0
def spec_DigitSum.f (k : Nat) (a0 : Int) (a1 : Int) : Option (Int × Bool) := (spec_dgAsked.f a0 a1).bind fun t115 => (if t115 = true then ((spec_dgOf.f k a0 a1).bind fun t116 => ((spec_dgSum.f k t116).bind fun t119 => (some (t119, true)))) else (some (0, false)))
def impl_digitSum.l0 : Nat → Int → List Int → Int → Int → Option (Int)
  | 0, _, _, _, _ => none
  | k + 1, x5, x10, x11, x12 => if x12 < x11 then (if 0 ≤ x12 then (if x12 < (x10.length : Int) then (impl_digitSum.l0 k (wrap64 (x5 + (rd x10 x12))) x10 x11 (wrap64 (x12 + 1))) else (none)) else (none)) else (some x5)
def impl_digitSum.f (k : Nat) (a0 : Int) (a1 : Int) : Option (Int) := (impl_digitsOf.f k a0 a1).bind fun t134 => (impl_digitSum.l0 k 0 t134 (t134.length : Int) 0)
def impl_DigitSum.f (k : Nat) (a0 : Int) (a1 : Int) : Option (Int × Bool) := (impl_isNumber.f a0 a1).bind fun t138 => (if t138 = true then ((impl_digitSum.f k a0 a1).bind fun t139 => (some (t139, true))) else (some (0, false)))
def laws_FnExactDigitSum.f (k : Nat) (a0 : Int) (a1 : Int) : Option (Bool) := (spec_DigitSum.f k a0 a1).bind fun bt140 => ((impl_DigitSum.f k a0 a1).bind fun bt142 => (if bt142.1 = bt140.1 then (if (bt142.2 != bt140.2) = true then (some false) else (some true)) else (some false)))
def laws_FnExactDigitSum.Pure : Prop := ∀ (a0 : Int) (a1 : Int), (Lit.int .i64 a0).wf = true → (Lit.int .i64 a1).wf = true → ∃ k, laws_FnExactDigitSum.f k a0 a1 = some true
def spec_dgText.l0 : Nat → ByteArray → List Int → Int → Int → Option (ByteArray)
  | 0, _, _, _, _ => none
  | k + 1, x5, x10, x11, x12 => if x12 < x11 then (if 0 ≤ x12 then (if x12 < (x10.length : Int) then (if 0 ≤ (rd x10 x12) then (if (rd x10 x12) ≤ (wrap64 ((rd x10 x12) + 1)) then (if (wrap64 ((rd x10 x12) + 1)) ≤ 16 then (if x5.size + ((⟨#[48, 49, 50, 51, 52, 53, 54, 55, 56, 57, 97, 98, 99, 100, 101, 102]⟩ : ByteArray).extract ((rd x10 x12) : Int).toNat ((wrap64 ((rd x10 x12) + 1)) : Int).toNat).size ≤ 9223372036854775807 then (spec_dgText.l0 k (x5 ++ ((⟨#[48, 49, 50, 51, 52, 53, 54, 55, 56, 57, 97, 98, 99, 100, 101, 102]⟩ : ByteArray).extract ((rd x10 x12) : Int).toNat ((wrap64 ((rd x10 x12) + 1)) : Int).toNat)) x10 x11 (wrap64 (x12 + 1))) else (none)) else (none)) else (none)) else (none)) else (none)) else (none)) else (some x5)
def spec_dgText.f (k : Nat) (a0 : Int) (a1 : Int) : Option (ByteArray) := (spec_dgOf.f k a0 a1).bind fun t114 => (spec_dgText.l0 k (⟨#[]⟩ : ByteArray) t114 (t114.length : Int) 0)
def spec_NumberText.f (k : Nat) (a0 : Int) (a1 : Int) : Option (ByteArray × Bool) := (spec_dgAsked.f a0 a1).bind fun t118 => (if t118 = true then ((spec_dgText.f k a0 a1).bind fun t119 => (some (t119, true))) else (some ((⟨#[]⟩ : ByteArray), false)))
def impl_textOf.l0 : Nat → List Int → List Int → Int → Int → Option (ByteArray)
  | 0, _, _, _, _ => none
  | k + 1, x5, x11, x12, x13 => if x13 < x12 then (if 0 ≤ x13 then (if x13 < (x11.length : Int) then (if 0 ≤ (rd x11 x13) then (if (rd x11 x13) < 16 then (if x5.length < 140737488355328 then (impl_textOf.l0 k (x5 ++ [bt (⟨#[48, 49, 50, 51, 52, 53, 54, 55, 56, 57, 97, 98, 99, 100, 101, 102]⟩ : ByteArray) (rd x11 x13)]) x11 x12 (wrap64 (x13 + 1))) else (none)) else (none)) else (none)) else (none)) else (none)) else (some (strOfNums x5))
def impl_textOf.f (k : Nat) (a0 : Int) (a1 : Int) : Option (ByteArray) := (impl_digitsOf.f k a0 a1).bind fun t137 => (impl_textOf.l0 k (([] : List Int)) t137 (t137.length : Int) 0)
def impl_NumberText.f (k : Nat) (a0 : Int) (a1 : Int) : Option (ByteArray × Bool) := (impl_isNumber.f a0 a1).bind fun t144 => (if t144 = true then ((impl_textOf.f k a0 a1).bind fun t145 => (some (t145, true))) else (some ((⟨#[]⟩ : ByteArray), false)))
def laws_FnExactNumberText.f (k : Nat) (a0 : Int) (a1 : Int) : Option (Bool) := (spec_NumberText.f k a0 a1).bind fun bt146 => ((impl_NumberText.f k a0 a1).bind fun bt148 => (if bt148.1.toList = bt146.1.toList then (if (bt148.2 != bt146.2) = true then (some false) else (some true)) else (some false)))
def laws_FnExactNumberText.Pure : Prop := ∀ (a0 : Int) (a1 : Int), (Lit.int .i64 a0).wf = true → (Lit.int .i64 a1).wf = true → ∃ k, laws_FnExactNumberText.f k a0 a1 = some true
def spec_DigitalRoot.l0 : Nat → Int → Int → Option (Int × Bool)
  | 0, _, _ => none
  | k + 1, x0, x1 => if x0 ≥ x1 then ((spec_dgOf.f k x0 x1).bind fun t116 => ((spec_dgSum.f k t116).bind fun t119 => (spec_DigitalRoot.l0 k t119 x1))) else (some (x0, true))
def spec_DigitalRoot.f (k : Nat) (a0 : Int) (a1 : Int) : Option (Int × Bool) := (spec_dgAsked.f a0 a1).bind fun t115 => (if t115 = true then (spec_DigitalRoot.l0 k a0 a1) else (some (0, false)))
def impl_DigitalRoot.l0 : Nat → Int → Int → Option (Int × Bool)
  | 0, _, _ => none
  | k + 1, x0, x1 => if x0 ≥ x1 then ((impl_digitSum.f k x0 x1).bind fun t139 => (impl_DigitalRoot.l0 k t139 x1)) else (some (x0, true))
def impl_DigitalRoot.f (k : Nat) (a0 : Int) (a1 : Int) : Option (Int × Bool) := (impl_isNumber.f a0 a1).bind fun t138 => (if t138 = true then (impl_DigitalRoot.l0 k a0 a1) else (some (0, false)))
def laws_FnExactDigitalRoot.f (k : Nat) (a0 : Int) (a1 : Int) : Option (Bool) := (spec_DigitalRoot.f k a0 a1).bind fun bt140 => ((impl_DigitalRoot.f k a0 a1).bind fun bt142 => (if bt142.1 = bt140.1 then (if (bt142.2 != bt140.2) = true then (some false) else (some true)) else (some false)))
def laws_FnExactDigitalRoot.Pure : Prop := ∀ (a0 : Int) (a1 : Int), (Lit.int .i64 a0).wf = true → (Lit.int .i64 a1).wf = true → ∃ k, laws_FnExactDigitalRoot.f k a0 a1 = some true
def laws_eqIntS.l0 : Nat → List Int → List Int → Int → Option (Bool)
  | 0, _, _, _ => none
  | k + 1, x0, x1, x5 => if x5 < (x0.length : Int) then (if 0 ≤ x5 then (if x5 < (x1.length : Int) then (if (rd x0 x5) = (rd x1 x5) then (laws_eqIntS.l0 k x0 x1 (wrap64 (x5 + 1))) else (some false)) else (none)) else (none)) else (some true)
def laws_eqIntS.f (k : Nat) (l0 : List Int) (l1 : List Int) : Option (Bool) := if (l0.length : Int) = (l1.length : Int) then (laws_eqIntS.l0 k l0 l1 0) else (some false)
def spec_DigitsOf.f (k : Nat) (a0 : Int) (a1 : Int) : Option (List Int × Bool) := (spec_dgAsked.f a0 a1).bind fun t116 => (if t116 = true then ((spec_dgOf.f k a0 a1).bind fun t117 => (some (t117, true))) else (some (([] : List Int), false)))
def impl_DigitsOf.f (k : Nat) (a0 : Int) (a1 : Int) : Option (List Int × Bool) := (impl_isNumber.f a0 a1).bind fun t134 => (if t134 = true then ((impl_digitsOf.f k a0 a1).bind fun t135 => (some (t135, true))) else (some (([] : List Int), false)))
def laws_markIntS.l0 : Nat → List Int → Int → Int → Option (Int × List Int)
  | 0, _, _, _ => none
  | k + 1, x0, x1, x5 => if x5 < (x0.length : Int) then (if 0 ≤ x5 then (laws_markIntS.l0 k (x0.set (x5 : Int).toNat x1) (wrap64 (x1 + 1)) (wrap64 (x5 + 1))) else (none)) else (some (x1, x0))
def laws_markIntS.f (k : Nat) (l0 : List Int) (a1 : Int) : Option (Int × List Int) := laws_markIntS.l0 k l0 a1 0
def laws_heldIntS.l0 : Nat → List Int → Int → Int → Option (Int)
  | 0, _, _, _ => none
  | k + 1, x0, x1, x5 => if x5 < (x0.length : Int) then (if 0 ≤ x5 then (if (rd x0 x5) = x1 then (laws_heldIntS.l0 k x0 (wrap64 (x1 + 1)) (wrap64 (x5 + 1))) else (some (-1))) else (none)) else (some x1)
def laws_heldIntS.f (k : Nat) (l0 : List Int) (a1 : Int) : Option (Int) := laws_heldIntS.l0 k l0 a1 0
mutual
def laws_FnExactDigitsOf.j0 : Nat → Int → Int → List Int → Bool → List Int → Bool → Option (Bool)
  | 0, _, _, _, _, _, _ => none
  | k + 1, x0, x1, x5, x6, x7, x33 => if x33 = true then (some false) else ((laws_markIntS.f k x7 1).bind fun bt149 => ((laws_heldIntS.f k bt149.2 1).bind fun t151 => (if t151 < 0 then (some false) else (if t151 = bt149.1 then ((impl_DigitsOf.f k x0 x1).bind fun bt152 => ((laws_eqIntS.f k bt152.1 x5).bind fun t156 => (if t156 = true then (laws_FnExactDigitsOf.j1 k bt149.2 bt149.1 (bt152.2 != x6)) else (laws_FnExactDigitsOf.j1 k bt149.2 bt149.1 true)))) else (some false)))))
def laws_FnExactDigitsOf.j1 : Nat → List Int → Int → Bool → Option (Bool)
  | 0, _, _, _ => none
  | k + 1, x7, x9, x59 => if x59 = true then (some false) else ((laws_heldIntS.f k x7 1).bind fun t157 => (if t157 < 0 then (some false) else (if t157 = x9 then (some true) else (some false))))
end
def laws_FnExactDigitsOf.f (k : Nat) (a0 : Int) (a1 : Int) : Option (Bool) := (spec_DigitsOf.f k a0 a1).bind fun bt140 => ((impl_DigitsOf.f k a0 a1).bind fun bt144 => ((laws_eqIntS.f k bt144.1 bt140.1).bind fun t148 => (if t148 = true then (laws_FnExactDigitsOf.j0 k a0 a1 bt140.1 bt140.2 bt144.1 (bt144.2 != bt140.2)) else (laws_FnExactDigitsOf.j0 k a0 a1 bt140.1 bt140.2 bt144.1 true))))
def laws_FnExactDigitsOf.Pure : Prop := ∀ (a0 : Int) (a1 : Int), (Lit.int .i64 a0).wf = true → (Lit.int .i64 a1).wf = true → ∃ k, laws_FnExactDigitsOf.f k a0 a1 = some true
def spec_dgCounts.l0 : Nat → List Int → List Int → Int → Int → Option (List Int)
  | 0, _, _, _, _ => none
  | k + 1, x5, x10, x11, x12 => if x12 < x11 then (if 0 ≤ x12 then (if x12 < (x10.length : Int) then (if 0 ≤ (rd x10 x12) then (if (rd x10 x12) < (x5.length : Int) then (spec_dgCounts.l0 k (x5.set ((rd x10 x12) : Int).toNat (wrap64 ((rd x5 (rd x10 x12)) + 1))) x10 x11 (wrap64 (x12 + 1))) else (none)) else (none)) else (none)) else (none)) else (some x5)
def spec_dgCounts.f (k : Nat) (l0 : List Int) (a1 : Int) : Option (List Int) := if 0 ≤ a1 then (if (a1 : Int).toNat ≤ 35184372088832 then (spec_dgCounts.l0 k (List.replicate (a1 : Int).toNat 0) l0 (l0.length : Int) 0) else (none)) else (none)
def spec_DigitCounts.f (k : Nat) (a0 : Int) (a1 : Int) : Option (List Int × Bool) := (spec_dgAsked.f a0 a1).bind fun t124 => (if t124 = true then ((spec_dgOf.f k a0 a1).bind fun t125 => ((spec_dgCounts.f k t125 a1).bind fun t128 => (some (t128, true)))) else (some (([] : List Int), false)))
def impl_countsOf.l0 : Nat → List Int → List Int → Int → Int → Option (List Int)
  | 0, _, _, _, _ => none
  | k + 1, x5, x10, x11, x12 => if x12 < x11 then (if 0 ≤ x12 then (if x12 < (x10.length : Int) then (if 0 ≤ (rd x10 x12) then (if (rd x10 x12) < (x5.length : Int) then (impl_countsOf.l0 k (x5.set ((rd x10 x12) : Int).toNat (wrap64 ((rd x5 (rd x10 x12)) + 1))) x10 x11 (wrap64 (x12 + 1))) else (none)) else (none)) else (none)) else (none)) else (some x5)
def impl_countsOf.f (k : Nat) (l0 : List Int) (a1 : Int) : Option (List Int) := if 0 ≤ a1 then (if (a1 : Int).toNat ≤ 35184372088832 then (impl_countsOf.l0 k (List.replicate (a1 : Int).toNat 0) l0 (l0.length : Int) 0) else (none)) else (none)
def impl_DigitCounts.f (k : Nat) (a0 : Int) (a1 : Int) : Option (List Int × Bool) := (impl_isNumber.f a0 a1).bind fun t151 => (if t151 = true then ((impl_digitsOf.f k a0 a1).bind fun t152 => ((impl_countsOf.f k t152 a1).bind fun t155 => (some (t155, true)))) else (some (([] : List Int), false)))
mutual
def laws_FnExactDigitCounts.j0 : Nat → Int → Int → List Int → Bool → List Int → Bool → Option (Bool)
  | 0, _, _, _, _, _, _ => none
  | k + 1, x0, x1, x5, x6, x7, x33 => if x33 = true then (some false) else ((laws_markIntS.f k x7 1).bind fun bt167 => ((laws_heldIntS.f k bt167.2 1).bind fun t169 => (if t169 < 0 then (some false) else (if t169 = bt167.1 then ((impl_DigitCounts.f k x0 x1).bind fun bt170 => ((laws_eqIntS.f k bt170.1 x5).bind fun t174 => (if t174 = true then (laws_FnExactDigitCounts.j1 k bt167.2 bt167.1 (bt170.2 != x6)) else (laws_FnExactDigitCounts.j1 k bt167.2 bt167.1 true)))) else (some false)))))
def laws_FnExactDigitCounts.j1 : Nat → List Int → Int → Bool → Option (Bool)
  | 0, _, _, _ => none
  | k + 1, x7, x9, x59 => if x59 = true then (some false) else ((laws_heldIntS.f k x7 1).bind fun t175 => (if t175 < 0 then (some false) else (if t175 = x9 then (some true) else (some false))))
end
def laws_FnExactDigitCounts.f (k : Nat) (a0 : Int) (a1 : Int) : Option (Bool) := (spec_DigitCounts.f k a0 a1).bind fun bt158 => ((impl_DigitCounts.f k a0 a1).bind fun bt162 => ((laws_eqIntS.f k bt162.1 bt158.1).bind fun t166 => (if t166 = true then (laws_FnExactDigitCounts.j0 k a0 a1 bt158.1 bt158.2 bt162.1 (bt162.2 != bt158.2)) else (laws_FnExactDigitCounts.j0 k a0 a1 bt158.1 bt158.2 bt162.1 true))))
def laws_FnExactDigitCounts.Pure : Prop := ∀ (a0 : Int) (a1 : Int), (Lit.int .i64 a0).wf = true → (Lit.int .i64 a1).wf = true → ∃ k, laws_FnExactDigitCounts.f k a0 a1 = some true
end Go.Proofs.YtcaohpcbohdkbaaGreatC
end
section
namespace Go.Proofs.YtcaohpcbohdkbaaGreatC
open Go.RowKit Go.Proofs.YtcaohpcbohdkbaaGreatW.PrintWords
theorem w64 {n : Int} (h : -9223372036854775808 ≤ n) (h' : n ≤ 9223372036854775807) : wrap64 n = n := by unfold wrap64; omega
theorem w64n {n : Nat} (h' : n ≤ 9223372036854775807) : wrap64 (n : Int) = (n : Int) := w64 (by omega) (by omega)
theorem rd_mid (a c : List Int) (x : Int) : rd (a ++ x :: c) (a.length : Int) = x := by
  simp [rd]
theorem tdiv_nat (n b : Nat) : Int.tdiv (n : Int) (b : Int) = ((n / b : Nat) : Int) := (Int.ofNat_tdiv n b).symm
theorem tmod_nat (n b : Nat) : Int.tmod (n : Int) (b : Int) = ((n % b : Nat) : Int) := (Int.ofNat_tmod n b).symm
theorem l1In_eq (a b c : Int) : spec_l1In.f a b c = some (decide (b ≤ a ∧ a ≤ c)) := by
  unfold spec_l1In.f
  by_cases h : a ≥ b
  · rw [if_pos h]; congr 1; by_cases h2 : a ≤ c <;> simp [h2, show b ≤ a from h]
  · rw [if_neg h]; congr 1; simp [show ¬ b ≤ a from h]
theorem in_eq (a b c : Int) : impl_in.f a b c = some (decide (b ≤ a ∧ a ≤ c)) := by
  unfold impl_in.f
  by_cases h : b ≤ a
  · rw [if_pos h]; congr 1; by_cases h2 : a ≤ c <;> simp [h2, h]
  · rw [if_neg h]; congr 1; simp [h]
end Go.Proofs.YtcaohpcbohdkbaaGreatC
end
section
namespace Go.Proofs.YtcaohpcbohdkbaaGreatC
open Go.RowKit Go.Proofs.YtcaohpcbohdkbaaGreatW.PrintWords
set_option linter.unusedVariables false
def spec_l1All.l0 : Nat → Int → Int → List Int → Int → Int → Option (Bool)
  | 0, _, _, _, _, _ => none
  | k + 1, x1, x2, x9, x10, x11 => if x11 < x10 then (if 0 ≤ x11 then (if x11 < (x9.length : Int) then ((spec_l1In.f (rd x9 x11) x1 x2).bind fun t103 => (if t103 = true then (spec_l1All.l0 k x1 x2 x9 x10 (wrap64 (x11 + 1))) else (some false))) else (none)) else (none)) else (some true)
def spec_l1All.f (k : Nat) (l0 : List Int) (a1 : Int) (a2 : Int) : Option (Bool) := spec_l1All.l0 k a1 a2 l0 (l0.length : Int) 0
def spec_dgAre.f (k : Nat) (l0 : List Int) (a1 : Int) : Option (Bool) := (spec_l1In.f (l0.length : Int) 1 40).bind fun t104 => (if t104 = true then ((spec_l1All.f k l0 0 (wrap64 (a1 - 1))).bind fun t105 => (if t105 = true then (if 0 < (l0.length : Int) then (if (rd l0 0) > 0 then (some true) else (some ((l0.length : Int) == 1))) else (none)) else (some false))) else (some false))
def spec_AreDigits.f (k : Nat) (l0 : List Int) (a1 : Int) : Option (Bool × Bool) := (spec_dgBase.f a1).bind fun t107 => (if t107 = true then (if (l0.length : Int) > 40 then (some (false, false)) else ((spec_dgAre.f k l0 a1).bind fun t108 => (some (t108, true)))) else (some (false, false)))
def laws_toIntS.l0 : Nat → List Int → List Int → Int → Option (List Int)
  | 0, _, _, _ => none
  | k + 1, x0, x3, x4 => if x4 < (x0.length : Int) then (if 0 ≤ x4 then (if x4 < (x3.length : Int) then (laws_toIntS.l0 k x0 (x3.set (x4 : Int).toNat (rd x0 x4)) (wrap64 (x4 + 1))) else (none)) else (none)) else (some x3)
def laws_toIntS.f (k : Nat) (l0 : List Int) : Option (List Int) := if 0 ≤ (l0.length : Int) then (if ((l0.length : Int) : Int).toNat ≤ 35184372088832 then (laws_toIntS.l0 k l0 (List.replicate ((l0.length : Int) : Int).toNat 0) 0) else (none)) else (none)
def idxF (p : Int → Bool) : List Int → Int → Int
  | [], _ => -1
  | x :: xs, i => if p x then i else idxF p xs (i + 1)
def impl_areIn.f (l0 : List Int) (a1 : Int) (a2 : Int) (a3 : Int) (a4 : Int) : Option (Bool) := some (decide (a3 ≤ (l0.length : Int) ∧ (l0.length : Int) ≤ a4) && l0.all (fun x => decide (a1 ≤ x ∧ x ≤ a2)))
def impl_areDigits.f (l0 : List Int) (a1 : Int) : Option (Bool) := (impl_areIn.f l0 0 (wrap64 (a1 - 1)) 1 40).bind fun t115 => (if t115 = true then (if 0 < (l0.length : Int) then (if (rd l0 0) > 0 then (some true) else (some ((l0.length : Int) == 1))) else (none)) else (some false))
def impl_AreDigits.f (l0 : List Int) (a1 : Int) : Option (Bool × Bool) := (impl_isBase.f a1).bind fun t117 => (if t117 = true then (if (l0.length : Int) > 40 then (some (false, false)) else ((impl_areDigits.f l0 a1).bind fun t118 => (some (t118, true)))) else (some (false, false)))
def laws_FnExactAreDigits.j0 : Nat → List Int → List Int → Bool → Option (Bool)
  | 0, _, _, _ => none
  | k + 1, x0, x7, x35 => if x35 = true then (some false) else ((laws_toIntS.f k x0).bind fun t131 => ((laws_eqIntS.f k x7 t131).bind fun t134 => (if t134 = true then (some true) else (some false))))
def laws_FnExactAreDigits.f (k : Nat) (l0 : List Int) (a1 : Int) : Option (Bool) := if (l0.length : Int) > 1048576 then (some true) else ((laws_toIntS.f k l0).bind fun t121 => ((spec_AreDigits.f k t121 a1).bind fun bt124 => ((laws_toIntS.f k l0).bind fun t126 => ((impl_AreDigits.f t126 a1).bind fun bt129 => (if (bt129.1 != bt124.1) = true then (laws_FnExactAreDigits.j0 k l0 t126 true) else (laws_FnExactAreDigits.j0 k l0 t126 (bt129.2 != bt124.2)))))))
def laws_FnExactAreDigits.Pure : Prop := ∀ (l0 : List Int) (a1 : Int), l0.length ≤ maxLen → l0.length * 8 ≤ 140737488351232 → (∀ x ∈ l0, (Lit.int .i64 x).wf = true) → (Lit.int .i64 a1).wf = true → ∃ k, laws_FnExactAreDigits.f k l0 a1 = some true
def spec_dgFrom.l0 : Nat → Int → Int → List Int → Int → Int → Option (Int × Bool)
  | 0, _, _, _, _, _ => none
  | k + 1, x1, x6, x9, x10, x11 => if x11 < x10 then (if 0 ≤ x11 then (if x11 < (x9.length : Int) then (if (wrap64 ((wrap64 (x6 * x1)) + (rd x9 x11))) > 1000000000000 then (some (0, false)) else (spec_dgFrom.l0 k x1 (wrap64 ((wrap64 (x6 * x1)) + (rd x9 x11))) x9 x10 (wrap64 (x11 + 1)))) else (none)) else (none)) else (some (x6, true))
def spec_dgFrom.f (k : Nat) (l0 : List Int) (a1 : Int) : Option (Int × Bool) := spec_dgFrom.l0 k a1 0 l0 (l0.length : Int) 0
def spec_NumberOf.f (k : Nat) (l0 : List Int) (a1 : Int) : Option (Int × Bool) := (spec_dgBase.f a1).bind fun t115 => (if t115 = true then ((spec_dgAre.f k l0 a1).bind fun t116 => (if t116 = true then ((spec_dgFrom.f k l0 a1).bind fun bt117 => (some (bt117.1, bt117.2))) else (some (0, false)))) else (some (0, false)))
def impl_told.f (a0 : Int) : Option (Int × Bool) := if a0 > 1000000000000 then (some (0, false)) else (some (a0, true))
def impl_value.l0 : Nat → Int → Int → List Int → Int → Int → Option (Int)
  | 0, _, _, _, _, _ => none
  | k + 1, x1, x5, x8, x9, x10 => if x10 < x9 then (if 0 ≤ x10 then (if x10 < (x8.length : Int) then (if (wrap64 ((wrap64 (x5 * x1)) + (rd x8 x10))) > 1000000000000 then (some 1000000000001) else (impl_value.l0 k x1 (wrap64 ((wrap64 (x5 * x1)) + (rd x8 x10))) x8 x9 (wrap64 (x10 + 1)))) else (none)) else (none)) else (some x5)
def impl_value.f (k : Nat) (l0 : List Int) (a1 : Int) : Option (Int) := impl_value.l0 k a1 0 l0 (l0.length : Int) 0
def impl_NumberOf.j0 : Nat → List Int → Int → Bool → Option (Int × Bool)
  | 0, _, _, _ => none
  | k + 1, x0, x1, x14 => if x14 = true then (some (0, false)) else ((impl_value.f k x0 x1).bind fun t125 => ((impl_told.f t125).bind fun bt126 => (some (bt126.1, bt126.2))))
def impl_NumberOf.f (k : Nat) (l0 : List Int) (a1 : Int) : Option (Int × Bool) := (impl_isBase.f a1).bind fun t123 => (if t123 = true then ((impl_areDigits.f l0 a1).bind fun t124 => (impl_NumberOf.j0 k l0 a1 (!t124))) else (impl_NumberOf.j0 k l0 a1 true))
def laws_FnExactNumberOf.j0 : Nat → List Int → List Int → Bool → Option (Bool)
  | 0, _, _, _ => none
  | k + 1, x0, x7, x35 => if x35 = true then (some false) else ((laws_toIntS.f k x0).bind fun t138 => ((laws_eqIntS.f k x7 t138).bind fun t141 => (if t141 = true then (some true) else (some false))))
def laws_FnExactNumberOf.f (k : Nat) (l0 : List Int) (a1 : Int) : Option (Bool) := if (l0.length : Int) > 1048576 then (some true) else ((laws_toIntS.f k l0).bind fun t128 => ((spec_NumberOf.f k t128 a1).bind fun bt131 => ((laws_toIntS.f k l0).bind fun t133 => ((impl_NumberOf.f k t133 a1).bind fun bt136 => (if bt136.1 = bt131.1 then (laws_FnExactNumberOf.j0 k l0 t133 (bt136.2 != bt131.2)) else (laws_FnExactNumberOf.j0 k l0 t133 true))))))
def laws_FnExactNumberOf.Pure : Prop := ∀ (l0 : List Int) (a1 : Int), l0.length ≤ maxLen → l0.length * 8 ≤ 140737488351232 → (∀ x ∈ l0, (Lit.int .i64 x).wf = true) → (Lit.int .i64 a1).wf = true → ∃ k, laws_FnExactNumberOf.f k l0 a1 = some true
def spec_dgBack.l0 : Nat → List Int → List Int → Int → Option (List Int)
  | 0, _, _, _ => none
  | k + 1, x0, x3, x4 => if x4 ≥ 0 then (if 0 ≤ x4 then (if x4 < (x0.length : Int) then (if x3.length < 17592186044416 then (spec_dgBack.l0 k x0 (x3 ++ [rd x0 x4]) (wrap64 (x4 - 1))) else (none)) else (none)) else (none)) else (some x3)
def spec_dgBack.f (k : Nat) (l0 : List Int) : Option (List Int) := spec_dgBack.l0 k l0 ([] : List Int) (wrap64 ((l0.length : Int) - 1))
def spec_l1Same.l0 : Nat → List Int → List Int → Int → Int → Option (Bool)
  | 0, _, _, _, _ => none
  | k + 1, x0, x1, x12, x13 => if x13 < x12 then (if 0 ≤ x13 then (if x13 < (x0.length : Int) then (if x13 < (x1.length : Int) then (if (rd x0 x13) = (rd x1 x13) then (spec_l1Same.l0 k x0 x1 x12 (wrap64 (x13 + 1))) else (some false)) else (none)) else (none)) else (none)) else (some true)
def spec_l1Same.f (k : Nat) (l0 : List Int) (l1 : List Int) : Option (Bool) := if (l0.length : Int) = (l1.length : Int) then (spec_l1Same.l0 k l0 l1 (l0.length : Int) 0) else (some false)
def spec_dgPalindrome.f (k : Nat) (l0 : List Int) : Option (Bool) := (spec_dgBack.f k l0).bind fun t120 => ((spec_l1Same.f k l0 t120).bind fun t123 => (some t123))
def spec_IsPalindrome.f (k : Nat) (a0 : Int) (a1 : Int) : Option (Bool × Bool) := (spec_dgAsked.f a0 a1).bind fun t124 => (if t124 = true then ((spec_dgOf.f k a0 a1).bind fun t125 => ((spec_dgPalindrome.f k t125).bind fun t128 => (some (t128, true)))) else (some (false, false)))
def slices_Clone_int_int.f (l0 : List Int) : Option (List Int) := if l0.length < 17592186044416 then some l0 else none
def impl_reversed.f (k : Nat) (l0 : List Int) : Option (List Int) := (slices_Clone_int_int.f l0).bind fun t143 => ((slices_Reverse_int_int.f k t143).bind fun t146 => (some t146))
def slices_Equal_int_int.l0 : Nat → List Int → List Int → Int → Int → Option (Bool)
  | 0, _, _, _, _ => none
  | k + 1, x0, x1, x12, x13 => if x13 < x12 then (if 0 ≤ x13 then (if x13 < (x0.length : Int) then (if x13 < (x1.length : Int) then (if (rd x0 x13) = (rd x1 x13) then (slices_Equal_int_int.l0 k x0 x1 x12 (wrap64 (x13 + 1))) else (some false)) else (none)) else (none)) else (none)) else (some true)
def slices_Equal_int_int.f (k : Nat) (l0 : List Int) (l1 : List Int) : Option (Bool) := if (l0.length : Int) = (l1.length : Int) then (slices_Equal_int_int.l0 k l0 l1 (l0.length : Int) 0) else (some false)
def impl_isSymmetric.f (k : Nat) (l0 : List Int) : Option (Bool) := (impl_reversed.f k l0).bind fun t149 => ((slices_Equal_int_int.f k l0 t149).bind fun t152 => (some t152))
def impl_IsPalindrome.f (k : Nat) (a0 : Int) (a1 : Int) : Option (Bool × Bool) := (impl_isNumber.f a0 a1).bind fun t153 => (if t153 = true then ((impl_digitsOf.f k a0 a1).bind fun t154 => ((impl_isSymmetric.f k t154).bind fun t157 => (some (t157, true)))) else (some (false, false)))
def laws_FnExactIsPalindrome.f (k : Nat) (a0 : Int) (a1 : Int) : Option (Bool) := (spec_IsPalindrome.f k a0 a1).bind fun bt158 => ((impl_IsPalindrome.f k a0 a1).bind fun bt160 => (if (bt160.1 != bt158.1) = true then (some false) else (if (bt160.2 != bt158.2) = true then (some false) else (some true))))
def laws_FnExactIsPalindrome.Pure : Prop := ∀ (a0 : Int) (a1 : Int), (Lit.int .i64 a0).wf = true → (Lit.int .i64 a1).wf = true → ∃ k, laws_FnExactIsPalindrome.f k a0 a1 = some true
def spec_ReverseNumber.f (k : Nat) (a0 : Int) (a1 : Int) : Option (Int × Bool) := (spec_dgAsked.f a0 a1).bind fun t119 => (if t119 = true then ((spec_dgOf.f k a0 a1).bind fun t120 => ((spec_dgBack.f k t120).bind fun t123 => ((spec_dgFrom.f k t123 a1).bind fun bt126 => (some (bt126.1, bt126.2))))) else (some (0, false)))
def impl_ReverseNumber.f (k : Nat) (a0 : Int) (a1 : Int) : Option (Int × Bool) := (impl_isNumber.f a0 a1).bind fun t147 => (if t147 = true then ((impl_digitsOf.f k a0 a1).bind fun t148 => ((impl_reversed.f k t148).bind fun t151 => ((impl_value.f k t151 a1).bind fun t154 => ((impl_told.f t154).bind fun bt155 => (some (bt155.1, bt155.2)))))) else (some (0, false)))
def laws_FnExactReverseNumber.f (k : Nat) (a0 : Int) (a1 : Int) : Option (Bool) := (spec_ReverseNumber.f k a0 a1).bind fun bt157 => ((impl_ReverseNumber.f k a0 a1).bind fun bt159 => (if bt159.1 = bt157.1 then (if (bt159.2 != bt157.2) = true then (some false) else (some true)) else (some false)))
def laws_FnExactReverseNumber.Pure : Prop := ∀ (a0 : Int) (a1 : Int), (Lit.int .i64 a0).wf = true → (Lit.int .i64 a1).wf = true → ∃ k, laws_FnExactReverseNumber.f k a0 a1 = some true
end Go.Proofs.YtcaohpcbohdkbaaGreatC
end
section
namespace Go.Proofs.YtcaohpcbohdkbaaGreatC
open Go.RowKit Go.Proofs.YtcaohpcbohdkbaaGreatW.PrintWords
theorem run_loop {σ ρ : Type} (L : Nat → σ → Option ρ) (st : Nat → σ) (r : ρ) : ∀ (m K : Nat) (j0 : Nat), (∀ j, j0 ≤ j → j < j0 + m → ∀ k, K ≤ k → L (k + 1) (st j) = L k (st (j + 1))) → (∀ k, K ≤ k → L (k + 1) (st (j0 + m)) = some r) →
    ∀ k, K + m < k → L k (st j0) = some r := by
  intro m
  induction m with
  | zero =>
    intro K j0 _ hf k hk
    obtain ⟨k, rfl⟩ : ∃ q, k = q + 1 := ⟨k - 1, by omega⟩
    exact hf k (by omega)
  | succ m ih =>
    intro K j0 hs hf k hk
    obtain ⟨k, rfl⟩ : ∃ q, k = q + 1 := ⟨k - 1, by omega⟩
    rw [hs j0 (by omega) (by omega) k (by omega)]
    refine ih K (j0 + 1) (fun j h1 h2 => hs j (by omega) (by omega)) ?_ k (by omega)
    rw [show j0 + 1 + m = j0 + (m + 1) by omega]
    exact hf
theorem run0 {σ ρ : Type} (L : Nat → σ → Option ρ) (m K : Nat) (st : Nat → σ) (r : ρ) (hs : ∀ j, j < m → ∀ k, K ≤ k → L (k + 1) (st j) = L k (st (j + 1))) (hf : ∀ k, K ≤ k → L (k + 1) (st m) = some r) :
    ∀ k, K + m < k → L k (st 0) = some r :=
  run_loop L st r m K 0 (fun j _ h => hs j (by omega)) (by simpa using hf)
theorem rd_get {xs : List Int} {j : Nat} (h : j < xs.length) : rd xs (j : Int) = xs[j] := by
  simp [rd, h]
theorem w64s {j : Nat} (h : j ≤ 4611686018427387904) : wrap64 ((j : Int) + 1) = ((j + 1 : Nat) : Int) := by rw [w64 (by omega) (by omega)]; omega
theorem take_s {α : Type} {l : List α} {j : Nat} (h : j < l.length) : l.take (j + 1) = l.take j ++ [l[j]] := List.take_succ_eq_append_getElem h
def between (a b : Int) (l : List Int) : Bool := l.all fun x => decide (a ≤ x ∧ x ≤ b)
theorem l1All_loop (a b : Int) (xs : List Int) (hx : xs.length ≤ 4611686018427387904) : ∀ (suf pre : List Int) (k : Nat), xs = pre ++ suf → suf.length < k → spec_l1All.l0 k a b xs (xs.length : Int) (pre.length : Int) = some (between a b suf) := by
  intro suf
  induction suf with
  | nil =>
    intro pre k h hk
    obtain ⟨k, rfl⟩ : ∃ m, k = m + 1 := ⟨k - 1, by omega⟩
    subst h; rw [spec_l1All.l0, if_neg (by simp)]; rfl
  | cons x suf ih =>
    intro pre k h hk
    simp only [List.length_cons] at hk
    obtain ⟨k, rfl⟩ : ∃ m, k = m + 1 := ⟨k - 1, by omega⟩
    have hl : xs.length = pre.length + suf.length + 1 := by subst h; simp; omega
    have e : rd xs (pre.length : Int) = x := by subst h; exact rd_mid _ _ _
    rw [spec_l1All.l0, if_pos (by omega), if_pos (by omega), if_pos (by omega), e, l1In_eq, w64 (by omega) (by omega)]
    have := ih (pre ++ [x]) k (by simp [h]) (by omega)
    simp only [List.length_append, List.length_singleton, Int.natCast_add, Int.natCast_one] at this
    simp only [Option.bind_some]
    by_cases hc : a ≤ x ∧ x ≤ b
    · rw [if_pos (by simpa using hc), this]; simp [between, hc]
    · rw [if_neg (by simpa using hc)]; simp [between, hc]
theorem l1All_eq (l : List Int) (a b : Int) (hl : l.length ≤ 4611686018427387904) {k : Nat} (hk : l.length < k) : spec_l1All.f k l a b = some (between a b l) := by
  have := l1All_loop a b l hl l [] k rfl hk
  simpa [spec_l1All.f] using this
theorem areIn_eq (l : List Int) (a b c d : Int) : impl_areIn.f l a b c d = some (decide (c ≤ (l.length : Int) ∧ (l.length : Int) ≤ d) && between a b l) := rfl
theorem between_mem {a b : Int} {l : List Int} (h : between a b l = true) : ∀ x ∈ l, a ≤ x ∧ x ≤ b := by
  simpa [between] using h
end Go.Proofs.YtcaohpcbohdkbaaGreatC
end
section
namespace Go.Proofs.YtcaohpcbohdkbaaGreatC
open Go.RowKit Go.Proofs.YtcaohpcbohdkbaaGreatW.PrintWords
set_option linter.unusedVariables false
def spec_mpGood.f (k : Nat) (l0 : List Int) : Option (Bool) := (spec_l1In.f (l0.length : Int) 1 60).bind fun t103 => (if t103 = true then ((spec_l1All.f k l0 0 (wrap64 ((l0.length : Int) - 1))).bind fun t104 => (some t104)) else (some false))
def spec_IsMap.f (k : Nat) (l0 : List Int) : Option (Bool) := (spec_mpGood.f k l0).bind fun t105 => (some t105)
def impl_IsMap.f (l0 : List Int) : Option (Bool) := (impl_areIn.f l0 0 (wrap64 ((l0.length : Int) - 1)) 1 60).bind fun t111 => (some t111)
def laws_FnExactIsMap.f (k : Nat) (l0 : List Int) : Option (Bool) := if (l0.length : Int) > 1048576 then (some true) else ((laws_toIntS.f k l0).bind fun t114 => ((spec_IsMap.f k t114).bind fun t117 => ((laws_toIntS.f k l0).bind fun t118 => ((impl_IsMap.f t118).bind fun t121 => (if (t121 != t117) = true then (some false) else ((laws_toIntS.f k l0).bind fun t122 => ((laws_eqIntS.f k t118 t122).bind fun t125 => (if t125 = true then (some true) else (some false)))))))))
def laws_FnExactIsMap.Pure : Prop := ∀ (l0 : List Int), l0.length ≤ maxLen → l0.length * 8 ≤ 140737488351232 → (∀ x ∈ l0, (Lit.int .i64 x).wf = true) → ∃ k, laws_FnExactIsMap.f k l0 = some true
def spec_mpX.f (k : Nat) (l0 : List Int) (a1 : Int) : Option (Bool) := (spec_mpGood.f k l0).bind fun t112 => (if t112 = true then ((spec_l1In.f a1 0 (wrap64 ((l0.length : Int) - 1))).bind fun t113 => (some t113)) else (some false))
def spec_mpSteps.f (a0 : Int) : Option (Bool) := (spec_l1In.f a0 0 1000000).bind fun t114 => (some t114)
def spec_mpAt.l0 : Nat → List Int → Int → Int → Option (Int)
  | 0, _, _, _ => none
  | k + 1, x0, x1, x2 => if x2 > 0 then (if 0 ≤ x1 then (if x1 < (x0.length : Int) then (spec_mpAt.l0 k x0 (rd x0 x1) (wrap64 (x2 - 1))) else (none)) else (none)) else (some x1)
def spec_mpAt.f (k : Nat) (l0 : List Int) (a1 : Int) (a2 : Int) : Option (Int) := spec_mpAt.l0 k l0 a1 a2
def spec_ApplyMap.f (k : Nat) (l0 : List Int) (a1 : Int) (a2 : Int) : Option (Int × Bool) := (spec_mpX.f k l0 a1).bind fun t116 => (if t116 = true then ((spec_mpSteps.f a2).bind fun t117 => (if t117 = true then ((spec_mpAt.f k l0 a1 a2).bind fun t118 => (some (t118, true))) else (some (0, false)))) else (some (0, false)))
def impl_asks.f (l0 : List Int) (a1 : Int) (a2 : Int) : Option (Bool) := (impl_IsMap.f l0).bind fun t120 => (if t120 = true then ((impl_in.f a1 0 (wrap64 ((l0.length : Int) - 1))).bind fun t121 => (if t121 = true then ((impl_in.f a2 0 1000000).bind fun t122 => (some t122)) else (some false))) else (some false))
def impl_ApplyMap.l0 : Nat → List Int → Int → Int → Int → Option (Int × Bool)
  | 0, _, _, _, _ => none
  | k + 1, x0, x1, x13, x14 => if x14 < x13 then (if 0 ≤ x1 then (if x1 < (x0.length : Int) then (impl_ApplyMap.l0 k x0 (rd x0 x1) x13 (wrap64 (x14 + 1))) else (none)) else (none)) else (some (x1, true))
def impl_ApplyMap.f (k : Nat) (l0 : List Int) (a1 : Int) (a2 : Int) : Option (Int × Bool) := (impl_asks.f l0 a1 a2).bind fun t123 => (if t123 = true then (impl_ApplyMap.l0 k l0 a1 a2 0) else (some (0, false)))
def laws_FnExactApplyMap.j0 : Nat → List Int → List Int → Bool → Option (Bool)
  | 0, _, _, _ => none
  | k + 1, x0, x9, x39 => if x39 = true then (some false) else ((laws_toIntS.f k x0).bind fun t135 => ((laws_eqIntS.f k x9 t135).bind fun t138 => (if t138 = true then (some true) else (some false))))
def laws_FnExactApplyMap.f (k : Nat) (l0 : List Int) (a1 : Int) (a2 : Int) : Option (Bool) := if (l0.length : Int) > 1048576 then (some true) else ((laws_toIntS.f k l0).bind fun t125 => ((spec_ApplyMap.f k t125 a1 a2).bind fun bt128 => ((laws_toIntS.f k l0).bind fun t130 => ((impl_ApplyMap.f k t130 a1 a2).bind fun bt133 => (if bt133.1 = bt128.1 then (laws_FnExactApplyMap.j0 k l0 t130 (bt133.2 != bt128.2)) else (laws_FnExactApplyMap.j0 k l0 t130 true))))))
def laws_FnExactApplyMap.Pure : Prop := ∀ (l0 : List Int) (a1 : Int) (a2 : Int), l0.length ≤ maxLen → l0.length * 8 ≤ 140737488351232 → (∀ x ∈ l0, (Lit.int .i64 x).wf = true) → (Lit.int .i64 a1).wf = true → (Lit.int .i64 a2).wf = true → ∃ k, laws_FnExactApplyMap.f k l0 a1 a2 = some true
mutual
def spec_ComposeMaps.j0 : Nat → List Int → List Int → Bool → Option (List Int × Bool)
  | 0, _, _, _ => none
  | k + 1, x0, x1, x23 => if x23 = true then (some (([] : List Int), false)) else (spec_ComposeMaps.l0 k x1 ([] : List Int) x0 (x0.length : Int) 0)
def spec_ComposeMaps.l0 : Nat → List Int → List Int → List Int → Int → Int → Option (List Int × Bool)
  | 0, _, _, _, _, _ => none
  | k + 1, x1, x6, x24, x25, x26 => if x26 < x25 then (if 0 ≤ x26 then (if x26 < (x24.length : Int) then (if 0 ≤ (rd x24 x26) then (if (rd x24 x26) < (x1.length : Int) then (if x6.length < 17592186044416 then (spec_ComposeMaps.l0 k x1 (x6 ++ [rd x1 (rd x24 x26)]) x24 x25 (wrap64 (x26 + 1))) else (none)) else (none)) else (none)) else (none)) else (none)) else (some (x6, true))
end
def spec_ComposeMaps.f (k : Nat) (l0 : List Int) (l1 : List Int) : Option (List Int × Bool) := (spec_mpGood.f k l0).bind fun t112 => (if t112 = true then ((spec_mpGood.f k l1).bind fun t113 => (if t113 = true then (spec_ComposeMaps.j0 k l0 l1 ((l0.length : Int) != (l1.length : Int))) else (spec_ComposeMaps.j0 k l0 l1 true))) else (spec_ComposeMaps.j0 k l0 l1 true))
def impl_composed.l0 : Nat → List Int → List Int → List Int → Int → Int → Option (List Int)
  | 0, _, _, _, _, _ => none
  | k + 1, x1, x5, x9, x10, x11 => if x11 < x10 then (if 0 ≤ x11 then (if x11 < (x9.length : Int) then (if 0 ≤ (rd x9 x11) then (if (rd x9 x11) < (x1.length : Int) then (if x5.length < 17592186044416 then (impl_composed.l0 k x1 (x5 ++ [rd x1 (rd x9 x11)]) x9 x10 (wrap64 (x11 + 1))) else (none)) else (none)) else (none)) else (none)) else (none)) else (some x5)
def impl_composed.f (k : Nat) (l0 : List Int) (l1 : List Int) : Option (List Int) := impl_composed.l0 k l1 (([] : List Int)) l0 (l0.length : Int) 0
def impl_ComposeMaps.f (k : Nat) (l0 : List Int) (l1 : List Int) : Option (List Int × Bool) := (impl_IsMap.f l0).bind fun t128 => (if t128 = true then ((impl_IsMap.f l1).bind fun t129 => (if t129 = true then (if (l0.length : Int) = (l1.length : Int) then ((impl_composed.f k l0 l1).bind fun t130 => (some (t130, true))) else (some (([] : List Int), false))) else (some (([] : List Int), false)))) else (some (([] : List Int), false)))
mutual
def laws_FnExactComposeMaps.j0 : Nat → List Int → List Int → List Int → Bool → List Int → List Int → List Int → Bool → Bool → Option (Bool)
  | 0, _, _, _, _, _, _, _, _, _ => none
  | k + 1, x0, x1, x5, x6, x7, x8, x9, x10, x48 => if x48 = true then (some false) else ((laws_toIntS.f k x0).bind fun t156 => ((laws_eqIntS.f k x7 t156).bind fun t159 => (if t159 = true then ((laws_toIntS.f k x1).bind fun t160 => ((laws_eqIntS.f k x8 t160).bind fun t163 => (if t163 = true then ((laws_markIntS.f k x7 1).bind fun bt164 => ((laws_markIntS.f k x8 bt164.1).bind fun bt166 => (if bt166.1 < 0 then (laws_FnExactComposeMaps.j1 k x0 x1 x5 x6 x9 true) else ((laws_eqIntS.f k x9 x5).bind fun t168 => (if t168 = true then (laws_FnExactComposeMaps.j1 k x0 x1 x5 x6 x9 (x10 != x6)) else (laws_FnExactComposeMaps.j1 k x0 x1 x5 x6 x9 true)))))) else (some false)))) else (some false))))
def laws_FnExactComposeMaps.j1 : Nat → List Int → List Int → List Int → Bool → List Int → Bool → Option (Bool)
  | 0, _, _, _, _, _, _ => none
  | k + 1, x0, x1, x5, x6, x9, x77 => if x77 = true then (some false) else ((laws_markIntS.f k x9 1).bind fun bt169 => ((laws_heldIntS.f k bt169.2 1).bind fun t171 => (if t171 < 0 then (some false) else (if t171 = bt169.1 then ((laws_toIntS.f k x0).bind fun t172 => ((laws_toIntS.f k x1).bind fun t175 => ((impl_ComposeMaps.f k t172 t175).bind fun bt178 => ((laws_eqIntS.f k bt178.1 x5).bind fun t182 => (if t182 = true then (laws_FnExactComposeMaps.j2 k bt169.2 bt169.1 (bt178.2 != x6)) else (laws_FnExactComposeMaps.j2 k bt169.2 bt169.1 true)))))) else (some false)))))
def laws_FnExactComposeMaps.j2 : Nat → List Int → Int → Bool → Option (Bool)
  | 0, _, _, _ => none
  | k + 1, x9, x12, x105 => if x105 = true then (some false) else ((laws_heldIntS.f k x9 1).bind fun t183 => (if t183 < 0 then (some false) else (if t183 = x12 then (some true) else (some false))))
end
def laws_FnExactComposeMaps.f (k : Nat) (l0 : List Int) (l1 : List Int) : Option (Bool) := if (l0.length : Int) > 1048576 then (some true) else (if (l1.length : Int) > 1048576 then (some true) else ((laws_toIntS.f k l0).bind fun t135 => ((laws_toIntS.f k l1).bind fun t138 => ((spec_ComposeMaps.f k t135 t138).bind fun bt141 => ((laws_toIntS.f k l0).bind fun t145 => ((laws_toIntS.f k l1).bind fun t148 => ((impl_ComposeMaps.f k t145 t148).bind fun bt151 => ((laws_eqIntS.f k bt151.1 bt141.1).bind fun t155 => (if t155 = true then (laws_FnExactComposeMaps.j0 k l0 l1 bt141.1 bt141.2 t145 t148 bt151.1 bt151.2 (bt151.2 != bt141.2)) else (laws_FnExactComposeMaps.j0 k l0 l1 bt141.1 bt141.2 t145 t148 bt151.1 bt151.2 true))))))))))
def laws_FnExactComposeMaps.Pure : Prop := ∀ (l0 : List Int) (l1 : List Int), l0.length ≤ maxLen → l0.length * 8 ≤ 140737488351232 → (∀ x ∈ l0, (Lit.int .i64 x).wf = true) → l1.length ≤ maxLen → l1.length * 8 ≤ 140737488351232 → (∀ x ∈ l1, (Lit.int .i64 x).wf = true) → ∃ k, laws_FnExactComposeMaps.f k l0 l1 = some true
def spec_mpBefore.l0 : Nat → Int → List Int → List Int → Int → Int → Option (List Int)
  | 0, _, _, _, _, _ => none
  | k + 1, x1, x5, x8, x9, x10 => if x10 < x9 then (if 0 ≤ x10 then (if x10 < (x8.length : Int) then (if (rd x8 x10) = x1 then (if x5.length < 17592186044416 then (spec_mpBefore.l0 k x1 (x5 ++ [x10]) x8 x9 (wrap64 (x10 + 1))) else (none)) else (spec_mpBefore.l0 k x1 x5 x8 x9 (wrap64 (x10 + 1)))) else (none)) else (none)) else (some x5)
def spec_mpBefore.f (k : Nat) (l0 : List Int) (a1 : Int) : Option (List Int) := spec_mpBefore.l0 k a1 ([] : List Int) l0 (l0.length : Int) 0
def spec_BeforeOf.f (k : Nat) (l0 : List Int) (a1 : Int) : Option (List Int × Bool) := (spec_mpX.f k l0 a1).bind fun t120 => (if t120 = true then ((spec_mpBefore.f k l0 a1).bind fun t121 => (some (t121, true))) else (some (([] : List Int), false)))
def impl_before.l0 : Nat → Int → List Int → List Int → Int → Int → Option (List Int)
  | 0, _, _, _, _, _ => none
  | k + 1, x1, x5, x9, x10, x11 => if x11 < x10 then (if 0 ≤ x11 then (if x11 < (x9.length : Int) then (if (rd x9 x11) = x1 then (if x5.length < 17592186044416 then (impl_before.l0 k x1 (x5 ++ [x11]) x9 x10 (wrap64 (x11 + 1))) else (none)) else (impl_before.l0 k x1 x5 x9 x10 (wrap64 (x11 + 1)))) else (none)) else (none)) else (some x5)
def impl_before.f (k : Nat) (l0 : List Int) (a1 : Int) : Option (List Int) := impl_before.l0 k a1 (([] : List Int)) l0 (l0.length : Int) 0
def impl_BeforeOf.f (k : Nat) (l0 : List Int) (a1 : Int) : Option (List Int × Bool) := (impl_asks.f l0 a1 0).bind fun t135 => (if t135 = true then ((impl_before.f k l0 a1).bind fun t136 => (some (t136, true))) else (some (([] : List Int), false)))
mutual
def laws_FnExactBeforeOf.j0 : Nat → List Int → Int → List Int → Bool → List Int → List Int → Bool → Bool → Option (Bool)
  | 0, _, _, _, _, _, _, _, _ => none
  | k + 1, x0, x1, x5, x6, x7, x8, x9, x41 => if x41 = true then (some false) else ((laws_toIntS.f k x0).bind fun t154 => ((laws_eqIntS.f k x7 t154).bind fun t157 => (if t157 = true then ((laws_markIntS.f k x7 1).bind fun bt158 => (if bt158.1 < 0 then (laws_FnExactBeforeOf.j1 k x0 x1 x5 x6 x8 true) else ((laws_eqIntS.f k x8 x5).bind fun t160 => (if t160 = true then (laws_FnExactBeforeOf.j1 k x0 x1 x5 x6 x8 (x9 != x6)) else (laws_FnExactBeforeOf.j1 k x0 x1 x5 x6 x8 true))))) else (some false))))
def laws_FnExactBeforeOf.j1 : Nat → List Int → Int → List Int → Bool → List Int → Bool → Option (Bool)
  | 0, _, _, _, _, _, _ => none
  | k + 1, x0, x1, x5, x6, x8, x62 => if x62 = true then (some false) else ((laws_markIntS.f k x8 1).bind fun bt161 => ((laws_heldIntS.f k bt161.2 1).bind fun t163 => (if t163 < 0 then (some false) else (if t163 = bt161.1 then ((laws_toIntS.f k x0).bind fun t164 => ((impl_BeforeOf.f k t164 x1).bind fun bt167 => ((laws_eqIntS.f k bt167.1 x5).bind fun t171 => (if t171 = true then (laws_FnExactBeforeOf.j2 k bt161.2 bt161.1 (bt167.2 != x6)) else (laws_FnExactBeforeOf.j2 k bt161.2 bt161.1 true))))) else (some false)))))
def laws_FnExactBeforeOf.j2 : Nat → List Int → Int → Bool → Option (Bool)
  | 0, _, _, _ => none
  | k + 1, x8, x11, x89 => if x89 = true then (some false) else ((laws_heldIntS.f k x8 1).bind fun t172 => (if t172 < 0 then (some false) else (if t172 = x11 then (some true) else (some false))))
end
def laws_FnExactBeforeOf.f (k : Nat) (l0 : List Int) (a1 : Int) : Option (Bool) := if (l0.length : Int) > 1048576 then (some true) else ((laws_toIntS.f k l0).bind fun t139 => ((spec_BeforeOf.f k t139 a1).bind fun bt142 => ((laws_toIntS.f k l0).bind fun t146 => ((impl_BeforeOf.f k t146 a1).bind fun bt149 => ((laws_eqIntS.f k bt149.1 bt142.1).bind fun t153 => (if t153 = true then (laws_FnExactBeforeOf.j0 k l0 a1 bt142.1 bt142.2 t146 bt149.1 bt149.2 (bt149.2 != bt142.2)) else (laws_FnExactBeforeOf.j0 k l0 a1 bt142.1 bt142.2 t146 bt149.1 bt149.2 true)))))))
def laws_FnExactBeforeOf.Pure : Prop := ∀ (l0 : List Int) (a1 : Int), l0.length ≤ maxLen → l0.length * 8 ≤ 140737488351232 → (∀ x ∈ l0, (Lit.int .i64 x).wf = true) → (Lit.int .i64 a1).wf = true → ∃ k, laws_FnExactBeforeOf.f k l0 a1 = some true
def spec_EndsOf.l0 : Nat → List Int → List Int → Int → Int → Option (List Int × Bool)
  | 0, _, _, _, _ => none
  | k + 1, x0, x4, x10, x11 => if x11 < x10 then ((spec_mpBefore.f k x0 x11).bind fun t119 => (if (t119.length : Int) = 0 then (if x4.length < 17592186044416 then (spec_EndsOf.l0 k x0 (x4 ++ [x11]) x10 (wrap64 (x11 + 1))) else (none)) else (spec_EndsOf.l0 k x0 x4 x10 (wrap64 (x11 + 1))))) else (some (x4, true))
def spec_EndsOf.f (k : Nat) (l0 : List Int) : Option (List Int × Bool) := (spec_mpGood.f k l0).bind fun t118 => (if t118 = true then (spec_EndsOf.l0 k l0 ([] : List Int) (l0.length : Int) 0) else (some (([] : List Int), false)))
def slices_Index_int_int.l0 : Nat → List Int → Int → Int → Int → Option (Int)
  | 0, _, _, _, _ => none
  | k + 1, x0, x1, x7, x8 => if x8 < x7 then (if 0 ≤ x8 then (if x8 < (x0.length : Int) then (if x1 = (rd x0 x8) then (some x8) else (slices_Index_int_int.l0 k x0 x1 x7 (wrap64 (x8 + 1)))) else (none)) else (none)) else (some (-1))
def slices_Index_int_int.f (k : Nat) (l0 : List Int) (a1 : Int) : Option (Int) := slices_Index_int_int.l0 k l0 a1 (l0.length : Int) 0
def slices_Contains_int_int.f (k : Nat) (l0 : List Int) (a1 : Int) : Option (Bool) := (slices_Index_int_int.f k l0 a1).bind fun t127 => (some (decide (t127 ≥ 0)))
def impl_EndsOf.l0 : Nat → List Int → List Int → Int → Int → Option (List Int × Bool)
  | 0, _, _, _, _ => none
  | k + 1, x0, x4, x11, x12 => if x12 < x11 then ((slices_Contains_int_int.f k x0 x12).bind fun t132 => (if t132 = true then (impl_EndsOf.l0 k x0 x4 x11 (wrap64 (x12 + 1))) else (if x4.length < 17592186044416 then (impl_EndsOf.l0 k x0 (x4 ++ [x12]) x11 (wrap64 (x12 + 1))) else (none)))) else (some (x4, true))
def impl_EndsOf.f (k : Nat) (l0 : List Int) : Option (List Int × Bool) := (impl_IsMap.f l0).bind fun t128 => (if t128 = true then (impl_EndsOf.l0 k l0 (([] : List Int)) (l0.length : Int) 0) else (some (([] : List Int), false)))
mutual
def laws_FnExactEndsOf.j0 : Nat → List Int → List Int → Bool → List Int → List Int → Bool → Bool → Option (Bool)
  | 0, _, _, _, _, _, _, _ => none
  | k + 1, x0, x3, x4, x5, x6, x7, x37 => if x37 = true then (some false) else ((laws_toIntS.f k x0).bind fun t151 => ((laws_eqIntS.f k x5 t151).bind fun t154 => (if t154 = true then ((laws_markIntS.f k x5 1).bind fun bt155 => (if bt155.1 < 0 then (laws_FnExactEndsOf.j1 k x0 x3 x4 x6 true) else ((laws_eqIntS.f k x6 x3).bind fun t157 => (if t157 = true then (laws_FnExactEndsOf.j1 k x0 x3 x4 x6 (x7 != x4)) else (laws_FnExactEndsOf.j1 k x0 x3 x4 x6 true))))) else (some false))))
def laws_FnExactEndsOf.j1 : Nat → List Int → List Int → Bool → List Int → Bool → Option (Bool)
  | 0, _, _, _, _, _ => none
  | k + 1, x0, x3, x4, x6, x58 => if x58 = true then (some false) else ((laws_markIntS.f k x6 1).bind fun bt158 => ((laws_heldIntS.f k bt158.2 1).bind fun t160 => (if t160 < 0 then (some false) else (if t160 = bt158.1 then ((laws_toIntS.f k x0).bind fun t161 => ((impl_EndsOf.f k t161).bind fun bt164 => ((laws_eqIntS.f k bt164.1 x3).bind fun t168 => (if t168 = true then (laws_FnExactEndsOf.j2 k bt158.2 bt158.1 (bt164.2 != x4)) else (laws_FnExactEndsOf.j2 k bt158.2 bt158.1 true))))) else (some false)))))
def laws_FnExactEndsOf.j2 : Nat → List Int → Int → Bool → Option (Bool)
  | 0, _, _, _ => none
  | k + 1, x6, x9, x84 => if x84 = true then (some false) else ((laws_heldIntS.f k x6 1).bind fun t169 => (if t169 < 0 then (some false) else (if t169 = x9 then (some true) else (some false))))
end
def laws_FnExactEndsOf.f (k : Nat) (l0 : List Int) : Option (Bool) := if (l0.length : Int) > 1048576 then (some true) else ((laws_toIntS.f k l0).bind fun t136 => ((spec_EndsOf.f k t136).bind fun bt139 => ((laws_toIntS.f k l0).bind fun t143 => ((impl_EndsOf.f k t143).bind fun bt146 => ((laws_eqIntS.f k bt146.1 bt139.1).bind fun t150 => (if t150 = true then (laws_FnExactEndsOf.j0 k l0 bt139.1 bt139.2 t143 bt146.1 bt146.2 (bt146.2 != bt139.2)) else (laws_FnExactEndsOf.j0 k l0 bt139.1 bt139.2 t143 bt146.1 bt146.2 true)))))))
def laws_FnExactEndsOf.Pure : Prop := ∀ (l0 : List Int), l0.length ≤ maxLen → l0.length * 8 ≤ 140737488351232 → (∀ x ∈ l0, (Lit.int .i64 x).wf = true) → ∃ k, laws_FnExactEndsOf.f k l0 = some true
end Go.Proofs.YtcaohpcbohdkbaaGreatC
end
section
namespace Go.Proofs.YtcaohpcbohdkbaaGreatC
set_option linter.unusedSimpArgs false
open Go.RowKit Go.Proofs.YtcaohpcbohdkbaaGreatW.PrintWords
def isMapB (l : List Int) : Bool := decide (1 ≤ (l.length : Int) ∧ (l.length : Int) ≤ 60) && between 0 ((l.length : Int) - 1) l
theorem mpGood_eq (l : List Int) (hl : l.length ≤ 1048576) {k : Nat} (hk : l.length < k) : spec_mpGood.f k l = some (isMapB l) := by
  unfold spec_mpGood.f isMapB
  rw [l1In_eq, w64 (by omega) (by omega)]
  simp only [Option.bind_some]
  by_cases h : 1 ≤ (l.length : Int) ∧ (l.length : Int) ≤ 60
  · rw [if_pos (by simpa using h), l1All_eq l _ _ (by omega) hk]; simp [h]
  · rw [if_neg (by simpa using h)]; simp [h]
theorem IsMap_eq (l : List Int) (hl : l.length ≤ 1048576) : impl_IsMap.f l = some (isMapB l) := by
  unfold impl_IsMap.f isMapB
  rw [areIn_eq, w64 (by omega) (by omega)]; rfl
theorem isMap_range {l : List Int} (h : isMapB l = true) : 1 ≤ l.length ∧ l.length ≤ 60 ∧ ∀ x ∈ l, 0 ≤ x ∧ x < (l.length : Int) := by
  simp only [isMapB, Bool.and_eq_true, decide_eq_true_eq] at h
  exact ⟨by omega, by omega, fun x hx => by have := between_mem h.2 x hx; omega⟩
theorem rd_range {l : List Int} {n : Int} (h : ∀ x ∈ l, 0 ≤ x ∧ x < n) {i : Int} (h0 : 0 ≤ i) (h1 : i < (l.length : Int)) : 0 ≤ rd l i ∧ rd l i < n := by
  obtain ⟨j, rfl⟩ := Int.eq_ofNat_of_zero_le h0
  have hj : j < l.length := by omega
  rw [rd_get hj]
  exact h _ (List.getElem_mem hj)
def stepN (l : List Int) : Nat → Int → Int
  | 0, x => x
  | n + 1, x => rd l (stepN l n x)
theorem stepN_range {l : List Int} (h : ∀ x ∈ l, 0 ≤ x ∧ x < (l.length : Int)) {x : Int} (h0 : 0 ≤ x) (h1 : x < (l.length : Int)) : ∀ n, 0 ≤ stepN l n x ∧ stepN l n x < (l.length : Int)
  | 0 => ⟨h0, h1⟩
  | n + 1 => by
    have ih := stepN_range h h0 h1 n
    exact rd_range h ih.1 ih.2
theorem mpAt_eq {l : List Int} (h : ∀ x ∈ l, 0 ≤ x ∧ x < (l.length : Int)) {x : Int} (h0 : 0 ≤ x) (h1 : x < (l.length : Int)) (n : Nat) (hn : n ≤ 1000000000) : ∀ k, n < k → spec_mpAt.f k l x (n : Int) = some (stepN l n x) := by
  intro k hk
  have := run0 (fun k (s : Int × Int) => spec_mpAt.l0 k l s.1 s.2) n 0 (fun j => (stepN l j x, (n : Int) - (j : Int))) (stepN l n x)
    (fun j hj k _ => by
      have hr := stepN_range h h0 h1 j
      show spec_mpAt.l0 (k + 1) l (stepN l j x) ((n : Int) - (j : Int)) = spec_mpAt.l0 k l (stepN l (j + 1) x) ((n : Int) - ((j + 1 : Nat) : Int))
      rw [spec_mpAt.l0, if_pos (by omega), if_pos hr.1, if_pos hr.2, w64 (by omega) (by omega)]
      congr 1; omega)
    (fun k _ => by
      show spec_mpAt.l0 (k + 1) l (stepN l n x) ((n : Int) - (n : Int)) = _
      rw [spec_mpAt.l0, if_neg (by omega)])
    k (by omega)
  simpa [spec_mpAt.f, stepN] using this
theorem Apply_loop {l : List Int} (h : ∀ x ∈ l, 0 ≤ x ∧ x < (l.length : Int)) {x : Int} (h0 : 0 ≤ x) (h1 : x < (l.length : Int)) (n : Nat) (hn : n ≤ 1000000000) : ∀ k, n < k → impl_ApplyMap.l0 k l x (n : Int) 0 = some (stepN l n x, true) := by
  intro k hk
  have := run0 (fun k (s : Int × Int) => impl_ApplyMap.l0 k l s.1 (n : Int) s.2) n 0 (fun j => (stepN l j x, (j : Int))) (stepN l n x, true)
    (fun j hj k _ => by
      have hr := stepN_range h h0 h1 j
      show impl_ApplyMap.l0 (k + 1) l (stepN l j x) (n : Int) (j : Int) = impl_ApplyMap.l0 k l (stepN l (j + 1) x) (n : Int) ((j + 1 : Nat) : Int)
      rw [impl_ApplyMap.l0, if_pos (by omega), if_pos hr.1, if_pos hr.2, w64s (by omega)]; rfl)
    (fun k _ => by
      show impl_ApplyMap.l0 (k + 1) l (stepN l n x) (n : Int) (n : Int) = _
      rw [impl_ApplyMap.l0, if_neg (by omega)])
    k (by omega)
  simpa [stepN] using this
def asksB (l : List Int) (x : Int) : Bool := isMapB l && decide (0 ≤ x ∧ x ≤ (l.length : Int) - 1)
theorem mpX_eq (l : List Int) (x : Int) (hl : l.length ≤ 1048576) {k : Nat} (hk : l.length < k) : spec_mpX.f k l x = some (asksB l x) := by
  unfold spec_mpX.f asksB
  rw [mpGood_eq l hl hk, w64 (by omega) (by omega), l1In_eq]
  cases h : isMapB l <;> simp
theorem asks_eq (l : List Int) (x n : Int) (hl : l.length ≤ 1048576) : impl_asks.f l x n = some (asksB l x && decide (0 ≤ n ∧ n ≤ 1000000)) := by
  unfold impl_asks.f asksB
  rw [IsMap_eq l hl, w64 (by omega) (by omega), in_eq, in_eq]
  cases h : isMapB l with
  | false => simp
  | true => by_cases h2 : 0 ≤ x ∧ x ≤ (l.length : Int) - 1 <;> simp [h2]
theorem asks_range {l : List Int} {x : Int} (h : asksB l x = true) : isMapB l = true ∧ 0 ≤ x ∧ x < (l.length : Int) := by
  simp only [asksB, Bool.and_eq_true, decide_eq_true_eq] at h
  exact ⟨h.1, by omega, by omega⟩
theorem ApplyMap_both (l : List Int) (x n : Int) (hl : l.length ≤ 1048576) : ∃ (K : Nat) (v : Int × Bool), ∀ k, K ≤ k → spec_ApplyMap.f k l x n = some v ∧ impl_ApplyMap.f k l x n = some v := by
  cases ha : asksB l x with
  | false => exact ⟨l.length + 1, (0, false), fun k hk => ⟨by simp [spec_ApplyMap.f, mpX_eq l x hl (show l.length < k by omega), ha], by simp [impl_ApplyMap.f, asks_eq l x n hl, ha]⟩⟩
  | true =>
    by_cases hn : 0 ≤ n ∧ n ≤ 1000000
    · obtain ⟨hm, h0, h1⟩ := asks_range ha
      obtain ⟨_, _, hr⟩ := isMap_range hm
      obtain ⟨m, rfl⟩ := Int.eq_ofNat_of_zero_le hn.1
      refine ⟨l.length + m + 1, (stepN l m x, true), fun k hk => ⟨?_, ?_⟩⟩
      · simp [spec_ApplyMap.f, mpX_eq l x hl (show l.length < k by omega), ha, spec_mpSteps.f, l1In_eq, hn, mpAt_eq hr h0 h1 m (by omega) k (by omega)]
      · simp [impl_ApplyMap.f, asks_eq l x m hl, ha, Apply_loop hr h0 h1 m (by omega) k (by omega)]
        omega
    · exact ⟨l.length + 1, (0, false), fun k hk => ⟨by simp [spec_ApplyMap.f, mpX_eq l x hl (show l.length < k by omega), ha, spec_mpSteps.f, l1In_eq, hn], by simp [impl_ApplyMap.f, asks_eq l x n hl, ha, hn]⟩⟩
theorem composed_loops {f g : List Int} (hf : ∀ x ∈ f, 0 ≤ x ∧ x < (g.length : Int)) (hl : f.length ≤ 1048576) : ∀ k, f.length < k →
    impl_composed.l0 k g [] f (f.length : Int) 0 = some (f.map (rd g)) ∧ spec_ComposeMaps.l0 k g [] f (f.length : Int) 0 = some (f.map (rd g), true) := by
  intro k hk
  have st : ∀ j, j < f.length → 0 ≤ rd f (j : Int) ∧ rd f (j : Int) < (g.length : Int) := fun j hj => rd_range hf (by omega) (by omega)
  constructor
  · have := run0 (fun k (s : List Int × Int) => impl_composed.l0 k g s.1 f (f.length : Int) s.2) f.length 0 (fun j => ((f.take j).map (rd g), (j : Int))) (f.map (rd g))
      (fun j hj k _ => by
        show impl_composed.l0 (k + 1) g ((f.take j).map (rd g)) f (f.length : Int) (j : Int) = impl_composed.l0 k g ((f.take (j + 1)).map (rd g)) f (f.length : Int) ((j + 1 : Nat) : Int)
        rw [impl_composed.l0, if_pos (by omega), if_pos (by omega), if_pos (by omega), if_pos (st j hj).1, if_pos (st j hj).2, if_pos (by simp; omega), w64s (by omega), take_s hj, List.map_append, rd_get hj]; rfl)
      (fun k _ => by
        show impl_composed.l0 (k + 1) g ((f.take f.length).map (rd g)) f (f.length : Int) (f.length : Int) = _
        rw [impl_composed.l0, if_neg (by omega), List.take_length])
      k (by omega)
    simpa using this
  · have := run0 (fun k (s : List Int × Int) => spec_ComposeMaps.l0 k g s.1 f (f.length : Int) s.2) f.length 0 (fun j => ((f.take j).map (rd g), (j : Int))) (f.map (rd g), true)
      (fun j hj k _ => by
        show spec_ComposeMaps.l0 (k + 1) g ((f.take j).map (rd g)) f (f.length : Int) (j : Int) = spec_ComposeMaps.l0 k g ((f.take (j + 1)).map (rd g)) f (f.length : Int) ((j + 1 : Nat) : Int)
        rw [spec_ComposeMaps.l0, if_pos (by omega), if_pos (by omega), if_pos (by omega), if_pos (st j hj).1, if_pos (st j hj).2, if_pos (by simp; omega), w64s (by omega), take_s hj, List.map_append, rd_get hj]; rfl)
      (fun k _ => by
        show spec_ComposeMaps.l0 (k + 1) g ((f.take f.length).map (rd g)) f (f.length : Int) (f.length : Int) = _
        rw [spec_ComposeMaps.l0, if_neg (by omega), List.take_length])
      k (by omega)
    simpa using this
def bef (l : List Int) (x : Int) (n : Nat) : List Int := ((List.range n).filter fun (y : Nat) => decide (rd l (y : Int) = x)).map fun (y : Nat) => (y : Int)
theorem bef_s (l : List Int) (x : Int) (n : Nat) : bef l x (n + 1) = bef l x n ++ (if rd l (n : Int) = x then [(n : Int)] else []) := by
  unfold bef
  rw [List.range_succ, List.filter_append, List.map_append]
  by_cases h : rd l (n : Int) = x <;> simp [h]
theorem bef_length (l : List Int) (x : Int) (n : Nat) : (bef l x n).length ≤ n := by
  unfold bef
  rw [List.length_map]
  exact Nat.le_trans (List.length_filter_le _ _) (by simp)
theorem before_loop_eq : ∀ (k : Nat) (x : Int) (s l : List Int) (n i : Int), impl_before.l0 k x s l n i = spec_mpBefore.l0 k x s l n i := by
  intro k
  induction k with
  | zero => intros; rfl
  | succ k ih => intro x s l n i; simp only [impl_before.l0, spec_mpBefore.l0, ih]
theorem mpBefore_eq (l : List Int) (x : Int) (hl : l.length ≤ 1048576) {k : Nat} (hk : l.length < k) : spec_mpBefore.f k l x = some (bef l x l.length) := by
  have := run0 (fun k (s : List Int × Int) => spec_mpBefore.l0 k x s.1 l (l.length : Int) s.2) l.length 0 (fun j => (bef l x j, (j : Int))) (bef l x l.length)
    (fun j hj k _ => by
      show spec_mpBefore.l0 (k + 1) x (bef l x j) l (l.length : Int) (j : Int) = spec_mpBefore.l0 k x (bef l x (j + 1)) l (l.length : Int) ((j + 1 : Nat) : Int)
      have hb := bef_length l x j
      rw [spec_mpBefore.l0, if_pos (by omega), if_pos (by omega), if_pos (by omega), bef_s, w64s (by omega)]
      by_cases h : rd l (j : Int) = x
      · rw [if_pos h, if_pos h, if_pos (by omega)]
      · rw [if_neg h, if_neg h, List.append_nil])
    (fun k _ => by
      show spec_mpBefore.l0 (k + 1) x (bef l x l.length) l (l.length : Int) (l.length : Int) = _
      rw [spec_mpBefore.l0, if_neg (by omega)])
    k (by omega)
  simpa [spec_mpBefore.f, bef] using this
theorem before_eq (k : Nat) (l : List Int) (x : Int) : impl_before.f k l x = spec_mpBefore.f k l x := by
  unfold impl_before.f spec_mpBefore.f
  rw [before_loop_eq]
theorem BeforeOf_both (l : List Int) (x : Int) (hl : l.length ≤ 1048576) : ∃ (K : Nat) (r : List Int) (ok : Bool), r.length ≤ 1000 ∧ ∀ k, K ≤ k → spec_BeforeOf.f k l x = some (r, ok) ∧ impl_BeforeOf.f k l x = some (r, ok) := by
  cases ha : asksB l x with
  | false => exact ⟨l.length + 1, [], false, by simp, fun k hk => ⟨by simp [spec_BeforeOf.f, mpX_eq l x hl (show l.length < k by omega), ha], by simp [impl_BeforeOf.f, asks_eq l x 0 hl, ha]⟩⟩
  | true =>
    obtain ⟨hm, h0, h1⟩ := asks_range ha
    obtain ⟨_, h60, _⟩ := isMap_range hm
    have hb := bef_length l x l.length
    exact ⟨l.length + 1, bef l x l.length, true, by omega, fun k hk => ⟨by simp [spec_BeforeOf.f, mpX_eq l x hl (show l.length < k by omega), ha, mpBefore_eq l x hl (show l.length < k by omega)],
      by simp [impl_BeforeOf.f, asks_eq l x 0 hl, ha, before_eq, mpBefore_eq l x hl (show l.length < k by omega)]⟩⟩
theorem idxF_any {p : Int → Bool} : ∀ (a : List Int) (i : Int), 0 ≤ i → (decide (0 ≤ idxF p a i)) = a.any p
  | [], _, _ => by simp [idxF]
  | y :: a, i, h => by
    rw [idxF]
    cases hy : p y with
    | true => simp [hy, h]
    | false => rw [if_neg (by decide), idxF_any a (i + 1) (by omega)]; simp [hy]
theorem Index_loop (x : Int) (xs : List Int) (hx : xs.length ≤ 4611686018427387904) : ∀ (suf pre : List Int) (k : Nat), xs = pre ++ suf → suf.length < k →
    slices_Index_int_int.l0 k xs x (xs.length : Int) (pre.length : Int) = some (idxF (fun y => decide (x = y)) suf (pre.length : Int)) := by
  intro suf
  induction suf with
  | nil =>
    intro pre k h hk
    obtain ⟨k, rfl⟩ : ∃ m, k = m + 1 := ⟨k - 1, by omega⟩
    subst h; rw [slices_Index_int_int.l0, if_neg (by simp)]; rfl
  | cons y suf ih =>
    intro pre k h hk
    simp only [List.length_cons] at hk
    obtain ⟨k, rfl⟩ : ∃ m, k = m + 1 := ⟨k - 1, by omega⟩
    have hl : xs.length = pre.length + suf.length + 1 := by subst h; simp; omega
    have e : rd xs (pre.length : Int) = y := by subst h; exact rd_mid _ _ _
    rw [slices_Index_int_int.l0, if_pos (by omega), if_pos (by omega), if_pos (by omega), e, idxF]
    by_cases hc : x = y
    · rw [if_pos hc, if_pos (by simpa using hc)]
    · rw [if_neg hc, if_neg (by simpa using hc), w64 (by omega) (by omega)]
      have := ih (pre ++ [y]) k (by simp [h]) (by omega)
      simpa using this
theorem Index_eq (l : List Int) (x : Int) (hl : l.length ≤ 4611686018427387904) {k : Nat} (hk : l.length < k) : slices_Index_int_int.f k l x = some (idxF (fun y => decide (x = y)) l 0) := by
  have := Index_loop x l hl l [] k rfl hk
  simpa [slices_Index_int_int.f] using this
theorem Contains_eq (l : List Int) (x : Int) (hl : l.length ≤ 4611686018427387904) {k : Nat} (hk : l.length < k) : slices_Contains_int_int.f k l x = some (decide (x ∈ l)) := by
  unfold slices_Contains_int_int.f
  rw [Index_eq l x hl hk]
  simp only [Option.bind_some, ge_iff_le]
  rw [idxF_any l 0 (by omega)]
  congr 1
  rw [Bool.eq_iff_iff]
  simp
theorem bef_none (l : List Int) (x : Int) : (bef l x l.length).length = 0 ↔ ¬ x ∈ l := by
  unfold bef
  rw [List.length_map, List.length_eq_zero_iff, List.filter_eq_nil_iff]
  constructor
  · intro h hx
    obtain ⟨j, hj, rfl⟩ := List.mem_iff_getElem.1 hx
    exact h j (by simpa using hj) (by simp [rd_get hj])
  · intro h j hj hc
    have hj' : j < l.length := by simpa using hj
    apply h
    simp only [decide_eq_true_eq] at hc
    rw [← hc, rd_get hj']
    exact List.getElem_mem hj'
def ends (l : List Int) (n : Nat) : List Int := ((List.range n).filter fun (y : Nat) => decide (¬ (y : Int) ∈ l)).map fun (y : Nat) => (y : Int)
theorem ends_s (l : List Int) (n : Nat) : ends l (n + 1) = ends l n ++ (if (n : Int) ∈ l then [] else [(n : Int)]) := by
  unfold ends
  rw [List.range_succ, List.filter_append, List.map_append]
  by_cases h : (n : Int) ∈ l <;> simp [h]
theorem ends_length (l : List Int) (n : Nat) : (ends l n).length ≤ n := by
  unfold ends
  rw [List.length_map]
  exact Nat.le_trans (List.length_filter_le _ _) (by simp)
theorem Ends_loops (l : List Int) (hl : l.length ≤ 1048576) : ∀ k, 2 * l.length + 2 < k → spec_EndsOf.l0 k l [] (l.length : Int) 0 = some (ends l l.length, true) ∧ impl_EndsOf.l0 k l [] (l.length : Int) 0 = some (ends l l.length, true) := by
  intro k hk
  constructor
  · have := run0 (fun k (s : List Int × Int) => spec_EndsOf.l0 k l s.1 (l.length : Int) s.2) l.length (l.length + 1) (fun j => (ends l j, (j : Int))) (ends l l.length, true)
      (fun j hj k hk => by
        show spec_EndsOf.l0 (k + 1) l (ends l j) (l.length : Int) (j : Int) = spec_EndsOf.l0 k l (ends l (j + 1)) (l.length : Int) ((j + 1 : Nat) : Int)
        have hb := ends_length l j
        have hn := bef_none l (j : Int)
        rw [spec_EndsOf.l0, if_pos (by omega), mpBefore_eq l (j : Int) hl (by omega), w64s (by omega), ends_s]
        simp only [Option.bind_some]
        by_cases h : (j : Int) ∈ l
        · rw [if_neg (by intro h2; exact (hn.1 (by omega)) h), if_pos h, List.append_nil]
        · rw [if_pos (by have := hn.2 h; omega), if_neg h, if_pos (by omega)])
      (fun k _ => by
        show spec_EndsOf.l0 (k + 1) l (ends l l.length) (l.length : Int) (l.length : Int) = _
        rw [spec_EndsOf.l0, if_neg (by omega)])
      k (by omega)
    simpa [ends] using this
  · have := run0 (fun k (s : List Int × Int) => impl_EndsOf.l0 k l s.1 (l.length : Int) s.2) l.length (l.length + 1) (fun j => (ends l j, (j : Int))) (ends l l.length, true)
      (fun j hj k hk => by
        show impl_EndsOf.l0 (k + 1) l (ends l j) (l.length : Int) (j : Int) = impl_EndsOf.l0 k l (ends l (j + 1)) (l.length : Int) ((j + 1 : Nat) : Int)
        have hb := ends_length l j
        rw [impl_EndsOf.l0, if_pos (by omega), Contains_eq l (j : Int) (by omega) (by omega), w64s (by omega), ends_s]
        simp only [Option.bind_some]
        by_cases h : (j : Int) ∈ l
        · rw [if_pos (by simpa using h), if_pos h, List.append_nil]
        · rw [if_neg (by simpa using h), if_neg h, if_pos (by omega)])
      (fun k _ => by
        show impl_EndsOf.l0 (k + 1) l (ends l l.length) (l.length : Int) (l.length : Int) = _
        rw [impl_EndsOf.l0, if_neg (by omega)])
      k (by omega)
    simpa [ends] using this
end Go.Proofs.YtcaohpcbohdkbaaGreatC
end
section
namespace Go.Proofs.YtcaohpcbohdkbaaGreatC
set_option linter.unusedSimpArgs false
set_option linter.unusedVariables false
theorem nodup_le : ∀ (l m : List Int), l.Nodup → (∀ x ∈ l, x ∈ m) → l.length ≤ m.length
  | [], m, _, _ => by simp
  | a :: l, m, hn, h => by
    rw [List.nodup_cons] at hn
    have ha := h a (by simp)
    have := nodup_le l (m.erase a) hn.2 (fun x hx => (List.mem_erase_of_ne (show x ≠ a from fun e => hn.1 (by rw [← e]; exact hx))).2 (h x (by simp [hx])))
    rw [List.length_erase_of_mem ha] at this
    have : 0 < m.length := List.length_pos_of_mem ha
    simp only [List.length_cons]; omega
def it (f : Int → Int) (x : Int) : Nat → Int
  | 0 => x
  | k + 1 => f (it f x k)
theorem it_add (f : Int → Int) (x : Int) (a : Nat) : ∀ b, it f x (a + b) = it f (it f x a) b
  | 0 => rfl
  | b + 1 => by
    show f (it f x (a + b)) = f (it f (it f x a) b)
    rw [it_add f x a b]
theorem it_one (f : Int → Int) (x : Int) (k : Nat) : it f (f x) k = it f x (k + 1) := by
  rw [show k + 1 = 1 + k by omega, it_add]; rfl
def orbit (f : Int → Int) (x : Int) (m : Nat) : List Int := (List.range m).map (it f x)
theorem orbit_length (f : Int → Int) (x : Int) (m : Nat) : (orbit f x m).length = m := by simp [orbit]
theorem orbit_succ (f : Int → Int) (x : Int) (m : Nat) : orbit f x (m + 1) = orbit f x m ++ [it f x m] := by simp [orbit, List.range_succ]
theorem orbit_get (f : Int → Int) (x : Int) (m i : Nat) (h : i < (orbit f x m).length) : (orbit f x m)[i] = it f x i := by simp [orbit]
theorem mem_orbit {f : Int → Int} {x : Int} {m : Nat} {y : Int} : y ∈ orbit f x m ↔ ∃ i, i < m ∧ it f x i = y := by simp [orbit]
theorem orbit_cons (f : Int → Int) (x : Int) (m : Nat) : orbit f x (m + 1) = x :: orbit f (f x) m := by
  apply List.ext_getElem
  · simp [orbit_length]
  · intro i h1 h2
    rw [orbit_get]
    cases i with
    | zero => rfl
    | succ i => rw [List.getElem_cons_succ, orbit_get, it_one]
theorem orbit_drop (f : Int → Int) (x : Int) (m k : Nat) : (orbit f x m).drop k = orbit f (it f x k) (m - k) := by
  apply List.ext_getElem
  · simp [orbit_length]
  · intro i h1 h2
    rw [List.getElem_drop, orbit_get, orbit_get, it_add]
structure Rho (f : Int → Int) (x : Int) (m a : Nat) : Prop where
  lt : a < m
  back : it f x m = it f x a
  inj : ∀ i j, i < m → j < m → it f x i = it f x j → i = j
theorem rho_or (f : Int → Int) (x : Int) : ∀ m, (∀ i j, i < m → j < m → it f x i = it f x j → i = j) ∨ ∃ m' a, m' < m ∧ Rho f x m' a
  | 0 => .inl (fun i j h => by omega)
  | m + 1 => by
    rcases rho_or f x m with h | ⟨m', a, h1, h2⟩
    · by_cases hm : ∃ a, a < m ∧ it f x m = it f x a
      · obtain ⟨a, ha, he⟩ := hm
        exact .inr ⟨m, a, by omega, ha, he, h⟩
      · refine .inl (fun i j hi hj e => ?_)
        by_cases hi2 : i = m
        · by_cases hj2 : j = m
          · omega
          · subst hi2; exact absurd ⟨j, by omega, e⟩ hm
        · by_cases hj2 : j = m
          · subst hj2; exact absurd ⟨i, by omega, e.symm⟩ hm
          · exact h i j (by omega) (by omega) e
    · exact .inr ⟨m', a, by omega, h2⟩
theorem rho_exists (f : Int → Int) (x : Int) (M : Nat) (h : ∀ i, 0 ≤ it f x i ∧ it f x i < (M : Int)) : ∃ m a, m ≤ M ∧ Rho f x m a := by
  rcases rho_or f x (M + 1) with hi | ⟨m, a, h1, h2⟩
  · exfalso
    have hn : (orbit f x (M + 1)).Nodup := by
      rw [List.nodup_iff_pairwise_ne, List.pairwise_iff_getElem]
      intro i j h1 h2 hij e
      rw [orbit_get, orbit_get] at e
      have := hi i j (by simpa [orbit_length] using h1) (by simpa [orbit_length] using h2) e
      omega
    have := nodup_le _ ((List.range M).map Int.ofNat) hn (fun y hy => by
      obtain ⟨i, _, rfl⟩ := mem_orbit.1 hy
      have := h i
      rw [List.mem_map]
      exact ⟨(it f x i).toNat, by rw [List.mem_range]; omega, by simp; omega⟩)
    rw [orbit_length] at this
    simp at this
    omega
  · exact ⟨m, a, by omega, h2⟩
theorem Rho.fresh {f : Int → Int} {x : Int} {m a : Nat} (h : Rho f x m a) {i : Nat} (hi : i < m) : it f x i ∉ orbit f x i := fun hm => by
  obtain ⟨j, hj, e⟩ := mem_orbit.1 hm
  have := h.inj j i (by omega) hi e
  omega
theorem Rho.round {f : Int → Int} {x : Int} {m a : Nat} (h : Rho f x m a) : ∀ i, a ≤ i → it f x (i + (m - a)) = it f x i := by
  intro i hi
  obtain ⟨d, rfl⟩ := Nat.exists_eq_add_of_le hi
  rw [show a + d + (m - a) = m + d by have := h.lt; omega, it_add, h.back, ← it_add]
theorem Rho.rounds {f : Int → Int} {x : Int} {m a : Nat} (h : Rho f x m a) (i : Nat) (hi : a ≤ i) : ∀ q, it f x (i + q * (m - a)) = it f x i
  | 0 => by simp
  | q + 1 => by
    rw [Nat.succ_mul, ← Nat.add_assoc, h.round _ (by omega), h.rounds i hi q]
theorem Rho.mod {f : Int → Int} {x : Int} {m a : Nat} (h : Rho f x m a) (i : Nat) (hi : a ≤ i) : it f x i = it f x (a + (i - a) % (m - a)) := by
  have := h.rounds (a + (i - a) % (m - a)) (by omega) ((i - a) / (m - a))
  rw [← this]
  congr 1
  have := Nat.mod_add_div (i - a) (m - a)
  rw [Nat.mul_comm] at this
  omega
theorem Rho.all {f : Int → Int} {x : Int} {m a : Nat} (h : Rho f x m a) (i : Nat) : ∃ j, j < m ∧ it f x i = it f x j := by
  have hl := h.lt
  by_cases hi : i < m
  · exact ⟨i, hi, rfl⟩
  · exact ⟨a + (i - a) % (m - a), by have := Nat.mod_lt (i - a) (show 0 < m - a by omega); omega, h.mod i (by omega)⟩
theorem Rho.unique {f : Int → Int} {x : Int} {m a m' a' : Nat} (h : Rho f x m a) (h' : Rho f x m' a') : m = m' ∧ a = a' := by
  have hm : m = m' := by
    rcases Nat.lt_trichotomy m m' with hlt | rfl | hlt
    · have := h'.inj m a hlt (by have := h.lt; omega) h.back
      have := h.lt; omega
    · rfl
    · have := h.inj m' a' hlt (by have := h'.lt; omega) h'.back
      have := h'.lt; omega
  subst hm
  exact ⟨rfl, h.inj a a' h.lt h'.lt (h.back.symm.trans h'.back)⟩
end Go.Proofs.YtcaohpcbohdkbaaGreatC
end
section
namespace Go.Proofs.YtcaohpcbohdkbaaGreatC
open Go.RowKit Go.Proofs.YtcaohpcbohdkbaaGreatW.PrintWords Go.Proofs.YtcaohpcbohdkbaaGreatW.PrintMore
set_option linter.unusedSimpArgs false
set_option linter.unusedVariables false
theorem Rho.next_tail {f : Int → Int} {x : Int} {m a : Nat} (h : Rho f x m (a + 1)) : Rho f (f x) (m - 1) a := by
  have hl := h.lt
  refine ⟨by omega, ?_, fun i j hi hj e => ?_⟩
  · rw [it_one, it_one, show m - 1 + 1 = m by omega]; exact h.back
  · rw [it_one, it_one] at e
    have := h.inj (i + 1) (j + 1) (by omega) (by omega) e
    omega
theorem Rho.next_cycle {f : Int → Int} {x : Int} {m : Nat} (h : Rho f x m 0) : Rho f (f x) m 0 := by
  have hl := h.lt
  have hb : it f x m = x := h.back
  refine ⟨hl, ?_, fun i j hi hj e => ?_⟩
  · rw [it_one]
    show f (it f x m) = f x
    rw [hb]
  · rw [it_one, it_one] at e
    by_cases h1 : i + 1 < m
    · by_cases h2 : j + 1 < m
      · have := h.inj (i + 1) (j + 1) h1 h2 e
        omega
      · have ej : j + 1 = m := by omega
        rw [ej, hb] at e
        have := h.inj (i + 1) 0 h1 hl e
        omega
    · have ei : i + 1 = m := by omega
      by_cases h2 : j + 1 < m
      · rw [ei, hb] at e
        have := h.inj (j + 1) 0 h2 hl e.symm
        omega
      · omega
def wayF (f : Int → Int) : Nat → List Int → Int → List Int × Nat
  | 0, out, _ => (out, 0)
  | k + 1, out, n => if n ∈ out then (out, out.idxOf n) else wayF f k (out ++ [n]) (f n)
theorem idxOf_orbit {f : Int → Int} {x : Int} {m : Nat} (h : ∀ i j, i < m → j < m → it f x i = it f x j → i = j) {i : Nat} (hi : i < m) : (orbit f x m).idxOf (it f x i) = i := by
  have hm : it f x i ∈ orbit f x m := mem_orbit.2 ⟨i, hi, rfl⟩
  have hl : (orbit f x m).idxOf (it f x i) < (orbit f x m).length := List.idxOf_lt_length_iff.2 hm
  have := List.getElem_idxOf hl
  rw [orbit_get] at this
  rw [orbit_length] at hl
  exact h _ _ hl hi this
theorem wayF_eq {f : Int → Int} {x : Int} {m a : Nat} (h : Rho f x m a) : ∀ (k i : Nat), i ≤ m → m < i + k → wayF f k (orbit f x i) (it f x i) = (orbit f x m, a)
  | 0, i, h1, h2 => by omega
  | k + 1, i, h1, h2 => by
    rw [wayF]
    by_cases hi : i = m
    · subst hi
      rw [if_pos (by rw [h.back]; exact mem_orbit.2 ⟨a, h.lt, rfl⟩), h.back, idxOf_orbit h.inj h.lt]
    · rw [if_neg (h.fresh (by omega)), ← orbit_succ]
      exact wayF_eq h k (i + 1) (by omega) (by omega)
def way (l : List Int) (x : Int) : List Int × Nat := wayF (rd l) (l.length + 1) [] x
def rM (l : List Int) (x : Int) : Nat := (way l x).1.length
def rA (l : List Int) (x : Int) : Nat := (way l x).2
def per (l : List Int) (x : Int) : Nat := rM l x - rA l x
def MapL (l : List Int) : Prop := ∀ x ∈ l, 0 ≤ x ∧ x < (l.length : Int)
def Has (l : List Int) (x : Int) : Prop := 0 ≤ x ∧ x < (l.length : Int)
theorem rd_has {l : List Int} (h : MapL l) {x : Int} (hx : Has l x) : Has l (rd l x) := by
  obtain ⟨n, rfl⟩ := Int.eq_ofNat_of_zero_le hx.1
  have hn : n < l.length := by have := hx.2; omega
  have e : rd l (n : Int) = l[n] := by simp [rd, List.getD_eq_getElem?_getD, List.getElem?_eq_getElem hn]
  rw [e]
  exact h _ (List.getElem_mem hn)
theorem it_has {l : List Int} (h : MapL l) {x : Int} (hx : Has l x) : ∀ k, Has l (it (rd l) x k)
  | 0 => hx
  | k + 1 => rd_has h (it_has h hx k)
theorem rho_map {l : List Int} (h : MapL l) {x : Int} (hx : Has l x) : Rho (rd l) x (rM l x) (rA l x) ∧ rM l x ≤ l.length ∧ way l x = (orbit (rd l) x (rM l x), rA l x) := by
  obtain ⟨m, a, h1, h2⟩ := rho_exists (rd l) x l.length (fun i => it_has h hx i)
  have e : way l x = (orbit (rd l) x m, a) := wayF_eq h2 (l.length + 1) 0 (by omega) (by omega)
  have em : rM l x = m := by rw [rM, e]; exact orbit_length _ _ _
  have ea : rA l x = a := by rw [rA, e]
  rw [em, ea]
  exact ⟨h2, h1, e⟩
theorem rho_is {l : List Int} (h : MapL l) {x : Int} (hx : Has l x) {m a : Nat} (hr : Rho (rd l) x m a) : rM l x = m ∧ rA l x = a := (rho_map h hx).1.unique hr
theorem rA_next {l : List Int} (h : MapL l) {x : Int} (hx : Has l x) : rA l (rd l x) = rA l x - 1 ∧ per l (rd l x) = per l x := by
  obtain ⟨hr, _⟩ := rho_map h hx
  have hl := hr.lt
  unfold per
  cases ha : rA l x with
  | zero =>
    rw [ha] at hr
    obtain ⟨e1, e2⟩ := rho_is h (rd_has h hx) hr.next_cycle
    rw [e1, e2]
    omega
  | succ a =>
    rw [ha] at hr
    obtain ⟨e1, e2⟩ := rho_is h (rd_has h hx) hr.next_tail
    rw [e1, e2]
    omega
theorem rA_it {l : List Int} (h : MapL l) {x : Int} (hx : Has l x) : ∀ k, rA l (it (rd l) x k) = rA l x - k ∧ per l (it (rd l) x k) = per l x
  | 0 => ⟨rfl, rfl⟩
  | k + 1 => by
    obtain ⟨h1, h2⟩ := rA_next h (it_has h hx k)
    obtain ⟨h3, h4⟩ := rA_it h hx k
    show rA l (rd l (it (rd l) x k)) = _ ∧ per l (rd l (it (rd l) x k)) = _
    rw [h1, h2, h3, h4]
    omega
theorem per_pos {l : List Int} (h : MapL l) {x : Int} (hx : Has l x) : 0 < per l x := by
  have := (rho_map h hx).1.lt
  unfold per; omega
theorem rA_lt {l : List Int} (h : MapL l) {x : Int} (hx : Has l x) : rA l x + per l x ≤ l.length := by
  obtain ⟨h1, h2, _⟩ := rho_map h hx
  have := h1.lt
  unfold per; omega
def cyc (l : List Int) (x : Int) : Bool := decide (rA l x = 0)
theorem cyc_round {l : List Int} (h : MapL l) {x : Int} (hx : Has l x) (hc : cyc l x = true) : Rho (rd l) x (per l x) 0 ∧ it (rd l) x (per l x) = x := by
  have h0 : rA l x = 0 := by simpa [cyc] using hc
  obtain ⟨h1, h2, _⟩ := rho_map h hx
  rw [h0] at h1
  have e : per l x = rM l x := by unfold per; omega
  rw [e]
  exact ⟨h1, h1.back⟩
theorem cyc_of_round {l : List Int} (h : MapL l) {x : Int} (hx : Has l x) {p : Nat} (hp : 0 < p) (e : it (rd l) x p = x) : cyc l x = true := by
  have h1 := (rA_it h hx p).1
  rw [e] at h1
  simp only [cyc, decide_eq_true_eq]
  omega
theorem cyc_it {l : List Int} (h : MapL l) {x : Int} (hx : Has l x) (k : Nat) : cyc l (it (rd l) x k) = decide (rA l x ≤ k) := by
  have h1 := (rA_it h hx k).1
  simp only [cyc, h1]
  apply decide_eq_decide.2
  omega
theorem cyc_next {l : List Int} (h : MapL l) {x : Int} (hx : Has l x) (hc : cyc l x = true) : cyc l (rd l x) = true := by
  have h1 := (rA_next h hx).1
  simp only [cyc, decide_eq_true_eq] at hc ⊢
  omega
theorem cyc_from {l : List Int} (h : MapL l) {x : Int} (hx : Has l x) (hc : cyc l x = true) (k : Nat) : ∃ y, Has l y ∧ cyc l y = true ∧ it (rd l) y k = x := by
  obtain ⟨hr, _⟩ := cyc_round h hx hc
  have hp := hr.lt
  refine ⟨it (rd l) x (k * per l x - k), it_has h hx _, by rw [cyc_it h hx]; simp only [cyc, decide_eq_true_eq] at hc; simp; omega, ?_⟩
  rw [← it_add]
  have hk : k ≤ k * per l x := Nat.le_mul_of_pos_right _ hp
  have h2 := hr.rounds 0 (by omega) k
  rw [Nat.sub_zero, Nat.zero_add] at h2
  rw [show k * per l x - k + k = k * per l x by omega]
  exact h2
end Go.Proofs.YtcaohpcbohdkbaaGreatC
end
section
namespace Go.Proofs.YtcaohpcbohdkbaaGreatC
open Go.RowKit Go.Proofs.YtcaohpcbohdkbaaGreatW.PrintWords Go.Proofs.YtcaohpcbohdkbaaGreatW.PrintMore
set_option linter.unusedSimpArgs false
set_option linter.unusedVariables false
def cyL (l : List Int) (x : Int) : List Int := orbit (rd l) x (per l x)
theorem mem_cyL {l : List Int} (h : MapL l) {x : Int} (hx : Has l x) (hc : cyc l x = true) (y : Int) : y ∈ cyL l x ↔ ∃ k, it (rd l) x k = y := by
  obtain ⟨hr, _⟩ := cyc_round h hx hc
  constructor
  · intro hy
    obtain ⟨i, _, e⟩ := mem_orbit.1 hy
    exact ⟨i, e⟩
  · rintro ⟨k, rfl⟩
    obtain ⟨j, hj, e⟩ := hr.all k
    exact mem_orbit.2 ⟨j, hj, e.symm⟩
theorem cyL_self {l : List Int} (h : MapL l) {x : Int} (hx : Has l x) (hc : cyc l x = true) : x ∈ cyL l x := (mem_cyL h hx hc x).2 ⟨0, rfl⟩
theorem cyL_has {l : List Int} (h : MapL l) {x : Int} (hx : Has l x) (hc : cyc l x = true) {y : Int} (hy : y ∈ cyL l x) : Has l y ∧ cyc l y = true ∧ per l y = per l x := by
  obtain ⟨k, rfl⟩ := (mem_cyL h hx hc y).1 hy
  refine ⟨it_has h hx k, ?_, (rA_it h hx k).2⟩
  rw [cyc_it h hx]
  simp only [cyc, decide_eq_true_eq] at hc
  simp; omega
theorem cyL_sym {l : List Int} (h : MapL l) {x : Int} (hx : Has l x) (hc : cyc l x = true) {y : Int} (hy : y ∈ cyL l x) : x ∈ cyL l y := by
  obtain ⟨hyh, hyc, _⟩ := cyL_has h hx hc hy
  obtain ⟨k, rfl⟩ := (mem_cyL h hx hc y).1 hy
  obtain ⟨hr, _⟩ := cyc_round h hx hc
  refine (mem_cyL h hyh hyc x).2 ⟨k * per l x - k, ?_⟩
  rw [← it_add]
  have hk : k ≤ k * per l x := Nat.le_mul_of_pos_right _ hr.lt
  have h2 := hr.rounds 0 (by omega) k
  rw [Nat.sub_zero, Nat.zero_add] at h2
  rw [show k + (k * per l x - k) = k * per l x by omega]
  exact h2
theorem cyL_trans {l : List Int} (h : MapL l) {x : Int} (hx : Has l x) (hc : cyc l x = true) {y z : Int} (hy : y ∈ cyL l x) (hz : z ∈ cyL l y) : z ∈ cyL l x := by
  obtain ⟨hyh, hyc, _⟩ := cyL_has h hx hc hy
  obtain ⟨k, rfl⟩ := (mem_cyL h hx hc y).1 hy
  obtain ⟨j, rfl⟩ := (mem_cyL h hyh hyc z).1 hz
  exact (mem_cyL h hx hc _).2 ⟨k + j, it_add _ _ _ _⟩
theorem cyL_same {l : List Int} (h : MapL l) {x : Int} (hx : Has l x) (hc : cyc l x = true) {y : Int} (hy : y ∈ cyL l x) (z : Int) : z ∈ cyL l y ↔ z ∈ cyL l x := by
  obtain ⟨hyh, hyc, _⟩ := cyL_has h hx hc hy
  exact ⟨fun hz => cyL_trans h hx hc hy hz, fun hz => cyL_trans h hyh hyc (cyL_sym h hx hc hy) hz⟩
theorem cyL_length (l : List Int) (x : Int) : (cyL l x).length = per l x := orbit_length _ _ _
theorem cyL_nodup {l : List Int} (h : MapL l) {x : Int} (hx : Has l x) (hc : cyc l x = true) : (cyL l x).Nodup := by
  obtain ⟨hr, _⟩ := cyc_round h hx hc
  rw [List.nodup_iff_pairwise_ne, List.pairwise_iff_getElem]
  intro i j h1 h2 hij e
  unfold cyL at e h1 h2
  rw [orbit_get, orbit_get] at e
  rw [orbit_length] at h1 h2
  have := hr.inj i j h1 h2 e
  omega
def lead (l : List Int) (x : Int) : Bool := cyc l x && (cyL l x).all (fun y => decide (x ≤ y))
def cycs (l : List Int) : Nat → List (List Int)
  | 0 => []
  | n + 1 => cycs l n ++ (if lead l (n : Int) = true then [cyL l (n : Int)] else [])
theorem cycs_length (l : List Int) : ∀ n, (cycs l n).length ≤ n
  | 0 => by simp [cycs]
  | n + 1 => by
    have := cycs_length l n
    rw [cycs, List.length_append]
    split <;> simp <;> omega
theorem mem_cycs {l : List Int} {c : List Int} : ∀ {n : Nat}, c ∈ cycs l n ↔ ∃ i : Nat, i < n ∧ lead l (i : Int) = true ∧ c = cyL l (i : Int)
  | 0 => by simp [cycs]
  | n + 1 => by
    rw [cycs, List.mem_append, mem_cycs (n := n)]
    constructor
    · rintro (⟨i, h1, h2, h3⟩ | hc)
      · exact ⟨i, by omega, h2, h3⟩
      · split at hc
        · rename_i hl
          exact ⟨n, by omega, hl, List.mem_singleton.1 hc⟩
        · simp at hc
    · rintro ⟨i, h1, h2, h3⟩
      by_cases hi : i = n
      · subst hi
        right
        rw [if_pos h2, h3]
        simp
      · exact .inl ⟨i, by omega, h2, h3⟩
def seenB (l : List Int) (n : Nat) (y : Int) : Bool := cyc l y && (cyL l y).any (fun z => decide (z < (n : Int)))
theorem seenB_zero {l : List Int} (h : MapL l) {y : Int} (hy : Has l y) : seenB l 0 y = false := by
  unfold seenB
  cases hc : cyc l y with
  | false => rfl
  | true =>
    rw [Bool.true_and, List.any_eq_false]
    intro z hz
    have := (cyL_has h hy hc hz).1.1
    simp; omega
theorem lead_seen (l : List Int) (n : Nat) : (cyc l (n : Int) && !(seenB l n (n : Int))) = lead l (n : Int) := by
  unfold seenB lead
  cases hc : cyc l (n : Int) with
  | false => rfl
  | true =>
    simp only [Bool.true_and]
    rw [List.not_any_eq_all_not]
    congr 1
    funext z
    by_cases hz : z < (n : Int)
    · rw [decide_eq_true hz, decide_eq_false (by omega)]; rfl
    · rw [decide_eq_false hz, decide_eq_true (by omega)]; rfl
theorem seenB_lead {l : List Int} (h : MapL l) {n : Nat} (hn : n < l.length) (hl : lead l (n : Int) = true) {y : Int} (hy : Has l y) : seenB l (n + 1) y = (seenB l n y || decide (y ∈ cyL l (n : Int))) := by
  have hx : Has l (n : Int) := ⟨by omega, by omega⟩
  have hlc : cyc l (n : Int) = true := by
    unfold lead at hl
    rw [Bool.and_eq_true] at hl
    exact hl.1
  apply Bool.eq_iff_iff.2
  unfold seenB
  simp only [Bool.or_eq_true, Bool.and_eq_true, List.any_eq_true, decide_eq_true_eq]
  constructor
  · rintro ⟨hc, z, hz, hlt⟩
    by_cases hzn : z < (n : Int)
    · exact .inl ⟨hc, z, hz, hzn⟩
    · have : z = (n : Int) := by omega
      subst this
      exact .inr (cyL_sym h hy hc hz)
  · rintro (⟨hc, z, hz, hlt⟩ | hm)
    · exact ⟨hc, z, hz, by omega⟩
    · obtain ⟨_, hc, _⟩ := cyL_has h hx hlc hm
      exact ⟨hc, (n : Int), cyL_sym h hx hlc hm, by omega⟩
theorem seenB_not {l : List Int} (h : MapL l) {n : Nat} (hn : n < l.length) (hl : lead l (n : Int) = false) {y : Int} (hy : Has l y) : seenB l (n + 1) y = seenB l n y := by
  have hx : Has l (n : Int) := ⟨by omega, by omega⟩
  apply Bool.eq_iff_iff.2
  unfold seenB
  simp only [Bool.and_eq_true, List.any_eq_true, decide_eq_true_eq]
  constructor
  · rintro ⟨hc, z, hz, hlt⟩
    by_cases hzn : z < (n : Int)
    · exact ⟨hc, z, hz, hzn⟩
    · have : z = (n : Int) := by omega
      subst this
      obtain ⟨_, hcn, _⟩ := cyL_has h hy hc hz
      unfold lead at hl
      rw [hcn, Bool.true_and, List.all_eq_false] at hl
      obtain ⟨u, hu, hlt2⟩ := hl
      exact ⟨hc, u, cyL_trans h hy hc hz hu, by simpa using hlt2⟩
  · rintro ⟨hc, z, hz, hlt⟩
    exact ⟨hc, z, hz, by omega⟩
end Go.Proofs.YtcaohpcbohdkbaaGreatC
end
