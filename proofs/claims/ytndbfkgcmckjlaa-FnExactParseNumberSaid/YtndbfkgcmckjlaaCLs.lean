/- Plain Lean functions: what Go functions of these statements compute, as the kit's print tells it (each function once). No conditions. -/
import Derived.Test.YtndbfkgcmckjlaaWMore
import Derived.Test.YtndbfkgcmckjlaaCSo
namespace Go.Proofs.YtndbfkgcmckjlaaC
open Go.RowKit Go.Proofs.YtndbfkgcmckjlaaW.PrintWords Go.Proofs.YtndbfkgcmckjlaaW.PrintMore
set_option linter.unusedVariables false
mutual
def spec_dgLeast.j0 : Nat → List Int → Bool → Option (List Int)
  | 0, _, _ => none
  | k + 1, x0, x15 => if x15 = true then (some (([0] : List Int))) else (spec_dgLeast.l0 k x0 1)
def spec_dgLeast.j2 : Nat → List Int → Int → Option (List Int)
  | 0, _, _ => none
  | k + 1, x0, x3 => if x3 = (x0.length : Int) then (some ([] : List Int)) else (spec_dgLeast.l1 k x3 (([x3] : List Int)) x0 (x0.length : Int) 0)
def spec_dgLeast.l1 : Nat → Int → List Int → List Int → Int → Int → Option (List Int)
  | 0, _, _, _, _, _ => none
  | k + 1, x3, x4, x36, x37, x38 => if x38 < x37 then (if 0 ≤ x38 then (if x38 < (x36.length : Int) then (if x38 = x3 then (spec_dgLeast.j4 k x3 x4 x38 (wrap64 ((rd x36 x38) - 1)) x36 x37 x38) else (spec_dgLeast.j4 k x3 x4 x38 (rd x36 x38) x36 x37 x38)) else (none)) else (none)) else (some x4)
def spec_dgLeast.j4 : Nat → Int → List Int → Int → Int → List Int → Int → Int → Option (List Int)
  | 0, _, _, _, _, _, _, _ => none
  | k + 1, x3, x4, x5, x6, x36, x37, x38 => spec_dgLeast.l2 k x3 x4 x5 x6 x36 x37 x38
def spec_dgLeast.l2 : Nat → Int → List Int → Int → Int → List Int → Int → Int → Option (List Int)
  | 0, _, _, _, _, _, _, _ => none
  | k + 1, x3, x4, x5, x6, x36, x37, x38 => if x6 > 0 then (if x4.length < 17592186044416 then (spec_dgLeast.l2 k x3 (x4 ++ [x5]) x5 (wrap64 (x6 - 1)) x36 x37 x38) else (none)) else (spec_dgLeast.l1 k x3 x4 x36 x37 (wrap64 (x38 + 1)))
def spec_dgLeast.l0 : Nat → List Int → Int → Option (List Int)
  | 0, _, _ => none
  | k + 1, x0, x3 => if x3 < (x0.length : Int) then (if 0 ≤ x3 then (if (rd x0 x3) = 0 then (spec_dgLeast.l0 k x0 (wrap64 (x3 + 1))) else (spec_dgLeast.j2 k x0 x3)) else (none)) else (spec_dgLeast.j2 k x0 x3)
end
def spec_dgLeast.f (k : Nat) (l0 : List Int) : Option (List Int) := (spec_dgSum.f k l0).bind fun t106 => (if t106 = 1 then (if 0 < (l0.length : Int) then (spec_dgLeast.j0 k l0 ((rd l0 0) == 1)) else (none)) else (spec_dgLeast.j0 k l0 false))
def spec_LeastWith.j0 : Nat → List Int → Int → Bool → Option (Int × Bool)
  | 0, _, _, _ => none
  | k + 1, x0, x1, x25 => if x25 = true then (some (0, false)) else ((spec_dgLeast.f k x0).bind fun t122 => (if (t122.length : Int) = 0 then (some (0, false)) else ((spec_dgFrom.f k t122 x1).bind fun bt125 => (some (bt125.1, bt125.2)))))
def spec_LeastWith.f (k : Nat) (l0 : List Int) (a1 : Int) : Option (Int × Bool) := (spec_dgBase.f a1).bind fun t119 => (if t119 = true then (if (l0.length : Int) = a1 then ((spec_l1All.f k l0 0 40).bind fun t120 => (if t120 = true then ((spec_dgSum.f k l0).bind fun t121 => (spec_LeastWith.j0 k l0 a1 (decide (t121 > 40)))) else (spec_LeastWith.j0 k l0 a1 true))) else (spec_LeastWith.j0 k l0 a1 true)) else (spec_LeastWith.j0 k l0 a1 true))
def bits_Mul32.f (a0 : Int) (a1 : Int) : Option (Int × Int) := some (((IntKind.u64.wrap ((IntKind.u64.wrap (a0)) * (IntKind.u64.wrap (a1)))) / 4294967296) % 4294967296, (IntKind.u64.wrap ((IntKind.u64.wrap (a0)) * (IntKind.u64.wrap (a1)))) % 4294967296)
def bits_Mul64.f (a0 : Int) (a1 : Int) : Option (Int × Int) := some (IntKind.u64.wrap ((IntKind.u64.wrap ((IntKind.u64.wrap ((a0 / 4294967296) * (a1 / 4294967296))) + ((IntKind.u64.wrap ((IntKind.u64.wrap ((a0 / 4294967296) * (Go.bits .and .u64 a1 4294967295))) + ((IntKind.u64.wrap ((Go.bits .and .u64 a0 4294967295) * (Go.bits .and .u64 a1 4294967295))) / 4294967296))) / 4294967296))) + ((IntKind.u64.wrap ((Go.bits .and .u64 (IntKind.u64.wrap ((IntKind.u64.wrap ((a0 / 4294967296) * (Go.bits .and .u64 a1 4294967295))) + ((IntKind.u64.wrap ((Go.bits .and .u64 a0 4294967295) * (Go.bits .and .u64 a1 4294967295))) / 4294967296))) 4294967295) + (IntKind.u64.wrap ((Go.bits .and .u64 a0 4294967295) * (a1 / 4294967296))))) / 4294967296)), IntKind.u64.wrap (a0 * a1))
def bits_Mul.f (a0 : Int) (a1 : Int) : Option (Int × Int) := (bits_Mul64.f a0 a1).bind fun bt134 => (some (bt134.1, bt134.2))
def slices_Repeat_int_int.f (l0 : List Int) (a1 : Int) : Option (List Int) := if l0.length = 1 ∧ 0 ≤ a1 ∧ a1 ≤ 60 then some (List.replicate a1.toNat (rd l0 0)) else none
def slices_IndexFunc_int_int.f (l0 : List Int) : Option (Int) := some (idxF (fun d => decide (0 < d)) l0 0)
mutual
def impl_LeastWith.j0 : Nat → List Int → Int → Bool → Option (Int × Bool)
  | 0, _, _, _ => none
  | k + 1, x0, x1, x19 => if x19 = true then (some (0, false)) else (impl_LeastWith.l0 k x1 (([] : List Int)) x0 (x0.length : Int) 0)
def impl_LeastWith.l0 : Nat → Int → List Int → List Int → Int → Int → Option (Int × Bool)
  | 0, _, _, _, _, _ => none
  | k + 1, x1, x6, x21, x22, x23 => if x23 < x22 then (if 0 ≤ x23 then (if x23 < (x21.length : Int) then ((slices_Repeat_int_int.f (([x23] : List Int)) (rd x21 x23)).bind fun t147 => (if x6.length + t147.length < 17592186044416 then (impl_LeastWith.l0 k x1 (x6 ++ t147) x21 x22 (wrap64 (x23 + 1))) else (none))) else (none)) else (none)) else ((slices_IndexFunc_int_int.f x6).bind fun t153 => (if t153 > 0 then (if 0 ≤ t153 then (if t153 < (x6.length : Int) then (if 0 < (x6.length : Int) then (impl_LeastWith.j2 k x1 ((x6.set (0 : Int).toNat (rd x6 t153)).set (t153 : Int).toNat (rd x6 0))) else (none)) else (none)) else (none)) else (impl_LeastWith.j2 k x1 x6)))
def impl_LeastWith.j2 : Nat → Int → List Int → Option (Int × Bool)
  | 0, _, _ => none
  | k + 1, x1, x6 => (impl_areDigits.f x6 x1).bind fun t158 => (if t158 = true then ((impl_value.f k x6 x1).bind fun t159 => ((impl_told.f t159).bind fun bt160 => (some (bt160.1, bt160.2)))) else (some (0, false)))
end
def impl_LeastWith.f (k : Nat) (l0 : List Int) (a1 : Int) : Option (Int × Bool) := (impl_isBase.f a1).bind fun t138 => (if t138 = true then ((impl_areIn.f l0 0 40 a1 a1).bind fun t139 => (impl_LeastWith.j0 k l0 a1 (!t139))) else (impl_LeastWith.j0 k l0 a1 true))
def laws_FnExactLeastWith.j0 : Nat → List Int → List Int → Bool → Option (Bool)
  | 0, _, _, _ => none
  | k + 1, x0, x7, x35 => if x35 = true then (some false) else ((laws_toIntS.f k x0).bind fun t174 => ((laws_eqIntS.f k x7 t174).bind fun t177 => (if t177 = true then (some true) else (some false))))
def laws_FnExactLeastWith.f (k : Nat) (l0 : List Int) (a1 : Int) : Option (Bool) := if (l0.length : Int) > 1048576 then (some true) else ((laws_toIntS.f k l0).bind fun t164 => ((spec_LeastWith.f k t164 a1).bind fun bt167 => ((laws_toIntS.f k l0).bind fun t169 => ((impl_LeastWith.f k t169 a1).bind fun bt172 => (if bt172.1 = bt167.1 then (laws_FnExactLeastWith.j0 k l0 t169 (bt172.2 != bt167.2)) else (laws_FnExactLeastWith.j0 k l0 t169 true))))))
def laws_FnExactLeastWith.Pure : Prop := ∀ (l0 : List Int) (a1 : Int), l0.length ≤ maxLen → l0.length * 8 ≤ 140737488351232 → (∀ x ∈ l0, (Lit.int .i64 x).wf = true) → (Lit.int .i64 a1).wf = true → ∃ k, laws_FnExactLeastWith.f k l0 a1 = some true
mutual
def spec_ParseNumber.j0 : Nat → ByteArray → Int → Bool → Option (Int × Bool)
  | 0, _, _, _ => none
  | k + 1, x0, x1, x17 => if x17 = true then (some (0, false)) else (spec_ParseNumber.l0 k x0 x1 ([] : List Int) 0)
def spec_ParseNumber.l0 : Nat → ByteArray → Int → List Int → Int → Option (Int × Bool)
  | 0, _, _, _, _ => none
  | k + 1, x0, x1, x6, x7 => if x7 < (x0.size : Int) then (spec_ParseNumber.l1 k x0 x1 x6 x7 0) else ((spec_dgAre.f k x6 x1).bind fun t116 => (if t116 = true then ((spec_dgFrom.f k x6 x1).bind fun bt117 => (some (bt117.1, bt117.2))) else (some (0, false))))
def spec_ParseNumber.l1 : Nat → ByteArray → Int → List Int → Int → Int → Option (Int × Bool)
  | 0, _, _, _, _, _ => none
  | k + 1, x0, x1, x6, x7, x8 => if x8 < x1 then (if 0 ≤ x8 then (if x8 < 16 then (if 0 ≤ x7 then (if x7 < (x0.size : Int) then (if (bt (⟨#[48, 49, 50, 51, 52, 53, 54, 55, 56, 57, 97, 98, 99, 100, 101, 102]⟩ : ByteArray) x8) = (bt x0 x7) then (if x6.length < 17592186044416 then (spec_ParseNumber.l0 k x0 x1 (x6 ++ [x8]) (wrap64 (x7 + 1))) else (none)) else (spec_ParseNumber.l1 k x0 x1 x6 x7 (wrap64 (x8 + 1)))) else (none)) else (none)) else (none)) else (none)) else (if x6.length < 17592186044416 then (spec_ParseNumber.l0 k x0 x1 (x6 ++ [x8]) (wrap64 (x7 + 1))) else (none))
end
def spec_ParseNumber.f (k : Nat) (a0 : ByteArray) (a1 : Int) : Option (Int × Bool) := (spec_dgBase.f a1).bind fun t108 => (if t108 = true then ((spec_l1In.f (a0.size : Int) 1 40).bind fun t109 => (spec_ParseNumber.j0 k a0 a1 (!t109))) else (spec_ParseNumber.j0 k a0 a1 true))
def slices_Index_byte_byte.l0 : Nat → List Int → Int → Int → Int → Option (Int)
  | 0, _, _, _, _ => none
  | k + 1, x0, x1, x7, x8 => if x8 < x7 then (if 0 ≤ x8 then (if x8 < (x0.length : Int) then (if x1 = (rd x0 x8) then (some x8) else (slices_Index_byte_byte.l0 k x0 x1 x7 (wrap64 (x8 + 1)))) else (none)) else (none)) else (some (-1))
def slices_Index_byte_byte.f (k : Nat) (l0 : List Int) (a1 : Int) : Option (Int) := slices_Index_byte_byte.l0 k l0 a1 (l0.length : Int) 0
def impl_ParseNumber.l0 : Nat → ByteArray → Int → List Int → Int → Option (Int × Bool)
  | 0, _, _, _, _ => none
  | k + 1, x0, x1, x6, x7 => if x7 < (x0.size : Int) then (if x7 ≤ 40 then (if 0 ≤ x7 then ((slices_Index_byte_byte.f k (([48, 49, 50, 51, 52, 53, 54, 55, 56, 57, 97, 98, 99, 100, 101, 102] : List Int)) (bt x0 x7)).bind fun t135 => (if x6.length < 17592186044416 then (impl_ParseNumber.l0 k x0 x1 (x6 ++ [t135]) (wrap64 (x7 + 1))) else (none))) else (none)) else ((impl_NumberOf.f k x6 x1).bind fun bt139 => (some (bt139.1, bt139.2)))) else ((impl_NumberOf.f k x6 x1).bind fun bt141 => (some (bt141.1, bt141.2)))
def impl_ParseNumber.f (k : Nat) (a0 : ByteArray) (a1 : Int) : Option (Int × Bool) := impl_ParseNumber.l0 k a0 a1 (([] : List Int)) 0
def laws_FnExactParseNumber.f (k : Nat) (a0 : ByteArray) (a1 : Int) : Option (Bool) := if (a0.size : Int) > 1048576 then (some true) else ((spec_ParseNumber.f k a0 a1).bind fun bt143 => ((impl_ParseNumber.f k a0 a1).bind fun bt145 => (if bt145.1 = bt143.1 then (if (bt145.2 != bt143.2) = true then (some false) else (some true)) else (some false))))
def laws_FnExactParseNumber.Pure : Prop := ∀ (a0 : ByteArray) (a1 : Int), a0.size ≤ 140737488351232 → (Lit.int .i64 a1).wf = true → ∃ k, laws_FnExactParseNumber.f k a0 a1 = some true

end Go.Proofs.YtndbfkgcmckjlaaC
