/- Plain Lean functions: what Go functions of these statements compute, as the kit's print tells it (each function once). No conditions. -/
import Derived.Test.YtehhkkbejmhcfaaCDg
namespace Go.Proofs.YtehhkkbejmhcfaaC
open Go.RowKit Go.Proofs.YtehhkkbejmhcfaaW.PrintWords
set_option linter.unusedVariables false
def spec_l1All.l0 : Nat → Int → Int → List Int → Int → Int → Option (Bool)
  | 0, _, _, _, _, _ => none
  | k + 1, x1, x2, x9, x10, x11 => if x11 < x10 then (if 0 ≤ x11 then (if x11 < (x9.length : Int) then ((spec_l1In.f (rd x9 x11) x1 x2).bind fun t103 => (if t103 = true then (spec_l1All.l0 k x1 x2 x9 x10 (wrap64 (x11 + 1))) else (some false))) else (none)) else (none)) else (some true)
def spec_l1All.f (k : Nat) (l0 : List Int) (a1 : Int) (a2 : Int) : Option (Bool) := spec_l1All.l0 k a1 a2 l0 (l0.length : Int) 0
def spec_dgAre.f (k : Nat) (l0 : List Int) (a1 : Int) : Option (Bool) := (spec_l1In.f (l0.length : Int) 1 40).bind fun t104 => (if t104 = true then ((spec_l1All.f k l0 0 (wrap64 (a1 - 1))).bind fun t105 => (if t105 = true then (if 0 < (l0.length : Int) then (if (rd l0 0) > 0 then (some true) else (some ((l0.length : Int) == 1))) else (none)) else (some false))) else (some false))
def spec_AreDigits.f (k : Nat) (l0 : List Int) (a1 : Int) : Option (Bool × Bool) := (spec_dgBase.f a1).bind fun t107 => (if t107 = true then (if (l0.length : Int) > 40 then (some (false, false)) else ((spec_dgAre.f k l0 a1).bind fun t108 => (some (t108, true)))) else (some (false, false)))
def laws_toIntS.l0 : Nat → List Int → List Int → Int → Option (List Int)
  | 0, _, _, _ => none
  | k + 1, x0, x3, x4 => if x4 < (x0.length : Int) then (if 0 ≤ x4 then (if x4 < (x3.length : Int) then (laws_toIntS.l0 k x0 (x3.set (x4 : Int).toNat (rd x0 x4)) (wrap64 (x4 + 1))) else (none)) else (none)) else (some x3)
def laws_toIntS.f (k : Nat) (l0 : List Int) : Option (List Int) := if 0 ≤ (l0.length : Int) then (if ((l0.length : Int) : Int).toNat ≤ 35184372088832 then (laws_toIntS.l0 k l0 (List.replicate ((l0.length : Int) : Int).toNat 0) 0) else (none)) else (none)
def idxF (p : Int → Bool) : List Int → Int → Int
  | [], _ => -1
  | x :: xs, i => if p x then i else idxF p xs (i + 1)
def impl_areIn.f (l0 : List Int) (a1 : Int) (a2 : Int) (a3 : Int) (a4 : Int) : Option (Bool) := some (decide (a3 ≤ (l0.length : Int) ∧ (l0.length : Int) ≤ a4) && l0.all (fun x => decide (a1 ≤ x ∧ x ≤ a2)))
def impl_areDigits.f (l0 : List Int) (a1 : Int) : Option (Bool) := (impl_areIn.f l0 0 (wrap64 (a1 - 1)) 1 40).bind fun t115 => (if t115 = true then (if 0 < (l0.length : Int) then (if (rd l0 0) > 0 then (some true) else (some ((l0.length : Int) == 1))) else (none)) else (some false))
def impl_AreDigits.f (l0 : List Int) (a1 : Int) : Option (Bool × Bool) := (impl_isBase.f a1).bind fun t117 => (if t117 = true then (if (l0.length : Int) > 40 then (some (false, false)) else ((impl_areDigits.f l0 a1).bind fun t118 => (some (t118, true)))) else (some (false, false)))
def laws_FnExactAreDigits.j0 : Nat → List Int → List Int → Bool → Option (Bool)
  | 0, _, _, _ => none
  | k + 1, x0, x7, x35 => if x35 = true then (some false) else ((laws_toIntS.f k x0).bind fun t131 => ((laws_eqIntS.f k x7 t131).bind fun t134 => (if t134 = true then (some true) else (some false))))
def laws_FnExactAreDigits.f (k : Nat) (l0 : List Int) (a1 : Int) : Option (Bool) := if (l0.length : Int) > 1048576 then (some true) else ((laws_toIntS.f k l0).bind fun t121 => ((spec_AreDigits.f k t121 a1).bind fun bt124 => ((laws_toIntS.f k l0).bind fun t126 => ((impl_AreDigits.f t126 a1).bind fun bt129 => (if (bt129.1 != bt124.1) = true then (laws_FnExactAreDigits.j0 k l0 t126 true) else (laws_FnExactAreDigits.j0 k l0 t126 (bt129.2 != bt124.2)))))))
def laws_FnExactAreDigits.Pure : Prop := ∀ (l0 : List Int) (a1 : Int), l0.length ≤ maxLen → l0.length * 8 ≤ 140737488351232 → (∀ x ∈ l0, (Lit.int .i64 x).wf = true) → (Lit.int .i64 a1).wf = true → ∃ k, laws_FnExactAreDigits.f k l0 a1 = some true
def spec_dgFrom.l0 : Nat → Int → Int → List Int → Int → Int → Option (Int × Bool)
  | 0, _, _, _, _, _ => none
  | k + 1, x1, x6, x9, x10, x11 => if x11 < x10 then (if 0 ≤ x11 then (if x11 < (x9.length : Int) then (if (wrap64 ((wrap64 (x6 * x1)) + (rd x9 x11))) > 1000000000000 then (some (0, false)) else (spec_dgFrom.l0 k x1 (wrap64 ((wrap64 (x6 * x1)) + (rd x9 x11))) x9 x10 (wrap64 (x11 + 1)))) else (none)) else (none)) else (some (x6, true))
def spec_dgFrom.f (k : Nat) (l0 : List Int) (a1 : Int) : Option (Int × Bool) := spec_dgFrom.l0 k a1 0 l0 (l0.length : Int) 0
def spec_NumberOf.f (k : Nat) (l0 : List Int) (a1 : Int) : Option (Int × Bool) := (spec_dgBase.f a1).bind fun t115 => (if t115 = true then ((spec_dgAre.f k l0 a1).bind fun t116 => (if t116 = true then ((spec_dgFrom.f k l0 a1).bind fun bt117 => (some (bt117.1, bt117.2))) else (some (0, false)))) else (some (0, false)))
def impl_told.f (a0 : Int) : Option (Int × Bool) := if a0 > 1000000000000 then (some (0, false)) else (some (a0, true))
def impl_value.l0 : Nat → Int → Int → List Int → Int → Int → Option (Int)
  | 0, _, _, _, _, _ => none
  | k + 1, x1, x5, x8, x9, x10 => if x10 < x9 then (if 0 ≤ x10 then (if x10 < (x8.length : Int) then (if (wrap64 ((wrap64 (x5 * x1)) + (rd x8 x10))) > 1000000000000 then (some 1000000000001) else (impl_value.l0 k x1 (wrap64 ((wrap64 (x5 * x1)) + (rd x8 x10))) x8 x9 (wrap64 (x10 + 1)))) else (none)) else (none)) else (some x5)
def impl_value.f (k : Nat) (l0 : List Int) (a1 : Int) : Option (Int) := impl_value.l0 k a1 0 l0 (l0.length : Int) 0
def impl_NumberOf.j0 : Nat → List Int → Int → Bool → Option (Int × Bool)
  | 0, _, _, _ => none
  | k + 1, x0, x1, x14 => if x14 = true then (some (0, false)) else ((impl_value.f k x0 x1).bind fun t125 => ((impl_told.f t125).bind fun bt126 => (some (bt126.1, bt126.2))))
def impl_NumberOf.f (k : Nat) (l0 : List Int) (a1 : Int) : Option (Int × Bool) := (impl_isBase.f a1).bind fun t123 => (if t123 = true then ((impl_areDigits.f l0 a1).bind fun t124 => (impl_NumberOf.j0 k l0 a1 (!t124))) else (impl_NumberOf.j0 k l0 a1 true))
def laws_FnExactNumberOf.j0 : Nat → List Int → List Int → Bool → Option (Bool)
  | 0, _, _, _ => none
  | k + 1, x0, x7, x35 => if x35 = true then (some false) else ((laws_toIntS.f k x0).bind fun t138 => ((laws_eqIntS.f k x7 t138).bind fun t141 => (if t141 = true then (some true) else (some false))))
def laws_FnExactNumberOf.f (k : Nat) (l0 : List Int) (a1 : Int) : Option (Bool) := if (l0.length : Int) > 1048576 then (some true) else ((laws_toIntS.f k l0).bind fun t128 => ((spec_NumberOf.f k t128 a1).bind fun bt131 => ((laws_toIntS.f k l0).bind fun t133 => ((impl_NumberOf.f k t133 a1).bind fun bt136 => (if bt136.1 = bt131.1 then (laws_FnExactNumberOf.j0 k l0 t133 (bt136.2 != bt131.2)) else (laws_FnExactNumberOf.j0 k l0 t133 true))))))
def laws_FnExactNumberOf.Pure : Prop := ∀ (l0 : List Int) (a1 : Int), l0.length ≤ maxLen → l0.length * 8 ≤ 140737488351232 → (∀ x ∈ l0, (Lit.int .i64 x).wf = true) → (Lit.int .i64 a1).wf = true → ∃ k, laws_FnExactNumberOf.f k l0 a1 = some true
def spec_dgBack.l0 : Nat → List Int → List Int → Int → Option (List Int)
  | 0, _, _, _ => none
  | k + 1, x0, x3, x4 => if x4 ≥ 0 then (if 0 ≤ x4 then (if x4 < (x0.length : Int) then (if x3.length < 17592186044416 then (spec_dgBack.l0 k x0 (x3 ++ [rd x0 x4]) (wrap64 (x4 - 1))) else (none)) else (none)) else (none)) else (some x3)
def spec_dgBack.f (k : Nat) (l0 : List Int) : Option (List Int) := spec_dgBack.l0 k l0 ([] : List Int) (wrap64 ((l0.length : Int) - 1))
def spec_l1Same.l0 : Nat → List Int → List Int → Int → Int → Option (Bool)
  | 0, _, _, _, _ => none
  | k + 1, x0, x1, x12, x13 => if x13 < x12 then (if 0 ≤ x13 then (if x13 < (x0.length : Int) then (if x13 < (x1.length : Int) then (if (rd x0 x13) = (rd x1 x13) then (spec_l1Same.l0 k x0 x1 x12 (wrap64 (x13 + 1))) else (some false)) else (none)) else (none)) else (none)) else (some true)
def spec_l1Same.f (k : Nat) (l0 : List Int) (l1 : List Int) : Option (Bool) := if (l0.length : Int) = (l1.length : Int) then (spec_l1Same.l0 k l0 l1 (l0.length : Int) 0) else (some false)
def spec_dgPalindrome.f (k : Nat) (l0 : List Int) : Option (Bool) := (spec_dgBack.f k l0).bind fun t120 => ((spec_l1Same.f k l0 t120).bind fun t123 => (some t123))
def spec_IsPalindrome.f (k : Nat) (a0 : Int) (a1 : Int) : Option (Bool × Bool) := (spec_dgAsked.f a0 a1).bind fun t124 => (if t124 = true then ((spec_dgOf.f k a0 a1).bind fun t125 => ((spec_dgPalindrome.f k t125).bind fun t128 => (some (t128, true)))) else (some (false, false)))
def slices_Clone_int_int.f (l0 : List Int) : Option (List Int) := if l0.length < 17592186044416 then some l0 else none
def impl_reversed.f (k : Nat) (l0 : List Int) : Option (List Int) := (slices_Clone_int_int.f l0).bind fun t143 => ((slices_Reverse_int_int.f k t143).bind fun t146 => (some t146))
def slices_Equal_int_int.l0 : Nat → List Int → List Int → Int → Int → Option (Bool)
  | 0, _, _, _, _ => none
  | k + 1, x0, x1, x12, x13 => if x13 < x12 then (if 0 ≤ x13 then (if x13 < (x0.length : Int) then (if x13 < (x1.length : Int) then (if (rd x0 x13) = (rd x1 x13) then (slices_Equal_int_int.l0 k x0 x1 x12 (wrap64 (x13 + 1))) else (some false)) else (none)) else (none)) else (none)) else (some true)
def slices_Equal_int_int.f (k : Nat) (l0 : List Int) (l1 : List Int) : Option (Bool) := if (l0.length : Int) = (l1.length : Int) then (slices_Equal_int_int.l0 k l0 l1 (l0.length : Int) 0) else (some false)
def impl_isSymmetric.f (k : Nat) (l0 : List Int) : Option (Bool) := (impl_reversed.f k l0).bind fun t149 => ((slices_Equal_int_int.f k l0 t149).bind fun t152 => (some t152))
def impl_IsPalindrome.f (k : Nat) (a0 : Int) (a1 : Int) : Option (Bool × Bool) := (impl_isNumber.f a0 a1).bind fun t153 => (if t153 = true then ((impl_digitsOf.f k a0 a1).bind fun t154 => ((impl_isSymmetric.f k t154).bind fun t157 => (some (t157, true)))) else (some (false, false)))
def laws_FnExactIsPalindrome.f (k : Nat) (a0 : Int) (a1 : Int) : Option (Bool) := (spec_IsPalindrome.f k a0 a1).bind fun bt158 => ((impl_IsPalindrome.f k a0 a1).bind fun bt160 => (if (bt160.1 != bt158.1) = true then (some false) else (if (bt160.2 != bt158.2) = true then (some false) else (some true))))
def laws_FnExactIsPalindrome.Pure : Prop := ∀ (a0 : Int) (a1 : Int), (Lit.int .i64 a0).wf = true → (Lit.int .i64 a1).wf = true → ∃ k, laws_FnExactIsPalindrome.f k a0 a1 = some true
def spec_ReverseNumber.f (k : Nat) (a0 : Int) (a1 : Int) : Option (Int × Bool) := (spec_dgAsked.f a0 a1).bind fun t119 => (if t119 = true then ((spec_dgOf.f k a0 a1).bind fun t120 => ((spec_dgBack.f k t120).bind fun t123 => ((spec_dgFrom.f k t123 a1).bind fun bt126 => (some (bt126.1, bt126.2))))) else (some (0, false)))
def impl_ReverseNumber.f (k : Nat) (a0 : Int) (a1 : Int) : Option (Int × Bool) := (impl_isNumber.f a0 a1).bind fun t147 => (if t147 = true then ((impl_digitsOf.f k a0 a1).bind fun t148 => ((impl_reversed.f k t148).bind fun t151 => ((impl_value.f k t151 a1).bind fun t154 => ((impl_told.f t154).bind fun bt155 => (some (bt155.1, bt155.2)))))) else (some (0, false)))
def laws_FnExactReverseNumber.f (k : Nat) (a0 : Int) (a1 : Int) : Option (Bool) := (spec_ReverseNumber.f k a0 a1).bind fun bt157 => ((impl_ReverseNumber.f k a0 a1).bind fun bt159 => (if bt159.1 = bt157.1 then (if (bt159.2 != bt157.2) = true then (some false) else (some true)) else (some false)))
def laws_FnExactReverseNumber.Pure : Prop := ∀ (a0 : Int) (a1 : Int), (Lit.int .i64 a0).wf = true → (Lit.int .i64 a1).wf = true → ∃ k, laws_FnExactReverseNumber.f k a0 a1 = some true

end Go.Proofs.YtehhkkbejmhcfaaC
