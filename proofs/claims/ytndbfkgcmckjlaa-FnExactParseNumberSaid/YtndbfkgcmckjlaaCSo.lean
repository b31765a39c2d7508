/- Plain Lean functions: what Go functions of these statements compute, as the kit's print tells it (each function once). No conditions. -/
import Derived.Test.YtndbfkgcmckjlaaWMore
import Derived.Test.YtndbfkgcmckjlaaCGp
namespace Go.Proofs.YtndbfkgcmckjlaaC
open Go.RowKit Go.Proofs.YtndbfkgcmckjlaaW.PrintWords Go.Proofs.YtndbfkgcmckjlaaW.PrintMore
set_option linter.unusedVariables false
def spec_SortedUp.f (k : Nat) (a0 : Int) (a1 : Int) : Option (Int × Bool) := (spec_dgAsked.f a0 a1).bind fun t157 => (if t157 = true then ((spec_dgOf.f k a0 a1).bind fun t158 => ((spec_dgSorted.f k t158).bind fun t161 => ((spec_dgFrom.f k t161 a1).bind fun bt164 => (some (bt164.1, bt164.2))))) else (some (0, false)))
def slices_Sort_int_int.f (l0 : List Int) : Option (List Int) := if l0.length < 4611686018427387904 then some (l0.mergeSort fun x y => decide (x ≤ y)) else none
def impl_sorted.f (k : Nat) (a0 : Int) (a1 : Int) : Option (List Int) := (impl_digitsOf.f k a0 a1).bind fun t181 => ((slices_Sort_int_int.f t181).bind fun t184 => (some t184))
def impl_SortedUp.f (k : Nat) (a0 : Int) (a1 : Int) : Option (Int × Bool) := (impl_isNumber.f a0 a1).bind fun t185 => (if t185 = true then ((impl_sorted.f k a0 a1).bind fun t186 => ((impl_value.f k t186 a1).bind fun t189 => (some (t189, true)))) else (some (0, false)))
def laws_FnExactSortedUp.f (k : Nat) (a0 : Int) (a1 : Int) : Option (Bool) := (spec_SortedUp.f k a0 a1).bind fun bt190 => ((impl_SortedUp.f k a0 a1).bind fun bt192 => (if bt192.1 = bt190.1 then (if (bt192.2 != bt190.2) = true then (some false) else (some true)) else (some false)))
def laws_FnExactSortedUp.Pure : Prop := ∀ (a0 : Int) (a1 : Int), (Lit.int .i64 a0).wf = true → (Lit.int .i64 a1).wf = true → ∃ k, laws_FnExactSortedUp.f k a0 a1 = some true
def spec_SortedDown.f (k : Nat) (a0 : Int) (a1 : Int) : Option (Int × Bool) := (spec_dgAsked.f a0 a1).bind fun t161 => (if t161 = true then ((spec_dgOf.f k a0 a1).bind fun t162 => ((spec_dgSorted.f k t162).bind fun t165 => ((spec_dgBack.f k t165).bind fun t168 => ((spec_dgFrom.f k t168 a1).bind fun bt171 => (some (bt171.1, bt171.2)))))) else (some (0, false)))
def impl_SortedDown.f (k : Nat) (a0 : Int) (a1 : Int) : Option (Int × Bool) := (impl_isNumber.f a0 a1).bind fun t196 => (if t196 = true then ((impl_sorted.f k a0 a1).bind fun t197 => ((impl_reversed.f k t197).bind fun t200 => ((impl_value.f k t200 a1).bind fun t203 => ((impl_told.f t203).bind fun bt204 => (some (bt204.1, bt204.2)))))) else (some (0, false)))
def laws_FnExactSortedDown.f (k : Nat) (a0 : Int) (a1 : Int) : Option (Bool) := (spec_SortedDown.f k a0 a1).bind fun bt206 => ((impl_SortedDown.f k a0 a1).bind fun bt208 => (if bt208.1 = bt206.1 then (if (bt208.2 != bt206.2) = true then (some false) else (some true)) else (some false)))
def laws_FnExactSortedDown.Pure : Prop := ∀ (a0 : Int) (a1 : Int), (Lit.int .i64 a0).wf = true → (Lit.int .i64 a1).wf = true → ∃ k, laws_FnExactSortedDown.f k a0 a1 = some true
def spec_SameDigits.j0 : Nat → Int → Int → Int → Bool → Option (Bool × Bool)
  | 0, _, _, _, _ => none
  | k + 1, x0, x1, x2, x16 => if x16 = true then (some (false, false)) else ((spec_dgOf.f k x0 x2).bind fun t124 => ((spec_dgCounts.f k t124 x2).bind fun t127 => ((spec_dgOf.f k x1 x2).bind fun t130 => ((spec_dgCounts.f k t130 x2).bind fun t133 => ((spec_l1Same.f k t127 t133).bind fun t136 => (some (t136, true)))))))
def spec_SameDigits.f (k : Nat) (a0 : Int) (a1 : Int) (a2 : Int) : Option (Bool × Bool) := (spec_dgAsked.f a0 a2).bind fun t122 => (if t122 = true then ((spec_dgNumber.f a1).bind fun t123 => (spec_SameDigits.j0 k a0 a1 a2 (!t123))) else (spec_SameDigits.j0 k a0 a1 a2 true))
def impl_SameDigits.j0 : Nat → Int → Int → Int → Bool → Option (Bool × Bool)
  | 0, _, _, _, _ => none
  | k + 1, x0, x1, x2, x17 => if x17 = true then (some (false, false)) else ((impl_sorted.f k x0 x2).bind fun t159 => ((impl_sorted.f k x1 x2).bind fun t162 => ((slices_Equal_int_int.f k t159 t162).bind fun t165 => (some (t165, true)))))
def impl_SameDigits.f (k : Nat) (a0 : Int) (a1 : Int) (a2 : Int) : Option (Bool × Bool) := (impl_isNumber.f a0 a2).bind fun t157 => (if t157 = true then ((impl_isNumber.f a1 a2).bind fun t158 => (impl_SameDigits.j0 k a0 a1 a2 (!t158))) else (impl_SameDigits.j0 k a0 a1 a2 true))
def laws_FnExactSameDigits.f (k : Nat) (a0 : Int) (a1 : Int) (a2 : Int) : Option (Bool) := (spec_SameDigits.f k a0 a1 a2).bind fun bt166 => ((impl_SameDigits.f k a0 a1 a2).bind fun bt168 => (if (bt168.1 != bt166.1) = true then (some false) else (if (bt168.2 != bt166.2) = true then (some false) else (some true))))
def laws_FnExactSameDigits.Pure : Prop := ∀ (a0 : Int) (a1 : Int) (a2 : Int), (Lit.int .i64 a0).wf = true → (Lit.int .i64 a1).wf = true → (Lit.int .i64 a2).wf = true → ∃ k, laws_FnExactSameDigits.f k a0 a1 a2 = some true

end Go.Proofs.YtndbfkgcmckjlaaC
