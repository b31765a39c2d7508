/- Plain Lean functions: what Go functions of these statements compute, as the kit's print tells it (each function once). No conditions. -/
import Derived.Test.YtcaohpcbohdkbaaWMore
import Derived.Test.YtcaohpcbohdkbaaCMb
namespace Go.Proofs.YtcaohpcbohdkbaaC
open Go.RowKit Go.Proofs.YtcaohpcbohdkbaaW.PrintWords Go.Proofs.YtcaohpcbohdkbaaW.PrintMore
set_option linter.unusedVariables false
def spec_mpGcd.f : Nat → Int → Int → Option (Int)
  | 0, _, _ => none
  | k + 1, a0, a1 => if a1 = 0 then (some a0) else ((spec_mpGcd.f k a1 (Int.tmod a0 a1)).bind fun t138 => (some t138))
def spec_l1Most.f (a0 : Int) (a1 : Int) : Option (Int) := if a0 > a1 then (some a0) else (some a1)
def spec_mpDeepest.l0 : Nat → Int → List Int → Int → Int → Option (Int)
  | 0, _, _, _, _ => none
  | k + 1, x3, x7, x8, x9 => if x9 < x8 then (if 0 ≤ x9 then (if x9 < (x7.length : Int) then ((spec_l1Most.f x3 (rd x7 x9)).bind fun t152 => (spec_mpDeepest.l0 k t152 x7 x8 (wrap64 (x9 + 1)))) else (none)) else (none)) else (some x3)
def spec_mpDeepest.f (k : Nat) (l0 : List Int) : Option (Int) := (spec_mpDepths.f k l0).bind fun t148 => (spec_mpDeepest.l0 k 0 t148 (t148.length : Int) 0)
def spec_WhenSteady.l0 : Nat → List Int → Int → List (List Int) → Int → Int → Option (Int × Int × Bool)
  | 0, _, _, _, _, _ => none
  | k + 1, x0, x5, x13, x14, x15 => if x15 < x14 then (if 0 ≤ x15 then (if x15 < (x13.length : Int) then ((spec_mpGcd.f k x5 ((rd_L2 x13 x15).length : Int)).bind fun t159 => (if t159 = 0 then (none) else (if ((rd_L2 x13 x15).length : Int) = 0 then (none) else (if (wrap64 (Int.tdiv x5 t159)) > (wrap64 (Int.tdiv (1000000000000000 : Int) ((rd_L2 x13 x15).length : Int))) then (some (0, 0, false)) else ((spec_mpGcd.f k x5 ((rd_L2 x13 x15).length : Int)).bind fun t160 => (if t160 = 0 then (none) else (spec_WhenSteady.l0 k x0 (wrap64 ((wrap64 (Int.tdiv x5 t160)) * ((rd_L2 x13 x15).length : Int))) x13 x14 (wrap64 (x15 + 1))))))))) else (none)) else (none)) else ((spec_mpDeepest.f k x0).bind fun t157 => (some (t157, x5, true)))
def spec_WhenSteady.f (k : Nat) (l0 : List Int) : Option (Int × Int × Bool) := (spec_mpGood.f k l0).bind fun t153 => (if t153 = true then ((spec_mpCycles.f k l0).bind fun t154 => (spec_WhenSteady.l0 k l0 1 t154 (t154.length : Int) 0)) else (some (0, 0, false)))
def impl_gcd.l0 : Nat → Int → Int → Option (Int)
  | 0, _, _ => none
  | k + 1, x0, x1 => if x1 = 0 then (some x0) else (impl_gcd.l0 k x1 (Int.tmod x0 x1))
def impl_gcd.f (k : Nat) (a0 : Int) (a1 : Int) : Option (Int) := impl_gcd.l0 k a0 a1
def slices_Max_int_int.l0 : Nat → List Int → Int → Int → Option (Int)
  | 0, _, _, _ => none
  | k + 1, x0, x3, x4 => if x4 < (x0.length : Int) then (if 0 ≤ x4 then (slices_Max_int_int.l0 k x0 (mx x3 (rd x0 x4)) (wrap64 (x4 + 1))) else (none)) else (some x3)
def slices_Max_int_int.f (k : Nat) (l0 : List Int) : Option (Int) := if (l0.length : Int) < 1 then (none) else (if 0 < (l0.length : Int) then (slices_Max_int_int.l0 k l0 (rd l0 0) 1) else (none))
def impl_WhenSteady.l0 : Nat → List Int → Int → List (List Int) → Int → Int → Option (Int × Int × Bool)
  | 0, _, _, _, _, _ => none
  | k + 1, x0, x5, x12, x13, x14 => if x14 < x13 then (if 0 ≤ x14 then (if x14 < (x12.length : Int) then ((impl_gcd.f k x5 ((rd_L2 x12 x14).length : Int)).bind fun t233 => (if t233 = 0 then (none) else (if (wrap64 ((wrap64 (Int.tdiv x5 t233)) * ((rd_L2 x12 x14).length : Int))) > 1000000000000000 then (some (0, 0, false)) else (impl_WhenSteady.l0 k x0 (wrap64 ((wrap64 (Int.tdiv x5 t233)) * ((rd_L2 x12 x14).length : Int))) x12 x13 (wrap64 (x14 + 1)))))) else (none)) else (none)) else ((impl_depths.f k x0).bind fun t234 => ((slices_Max_int_int.f k t234).bind fun t237 => (some (t237, x5, true))))
def impl_WhenSteady.f (k : Nat) (l0 : List Int) : Option (Int × Int × Bool) := (impl_IsMap.f l0).bind fun t228 => (if t228 = true then ((impl_cycles.f k l0).bind fun t229 => (impl_WhenSteady.l0 k l0 1 t229 (t229.length : Int) 0)) else (some (0, 0, false)))
def laws_FnExactWhenSteady.j0 : Nat → List Int → List Int → Bool → Option (Bool)
  | 0, _, _, _ => none
  | k + 1, x0, x6, x40 => if x40 = true then (some false) else ((laws_toIntS.f k x0).bind fun t252 => ((laws_eqIntS.f k x6 t252).bind fun t255 => (if t255 = true then (some true) else (some false))))
def laws_FnExactWhenSteady.f (k : Nat) (l0 : List Int) : Option (Bool) := if (l0.length : Int) > 1048576 then (some true) else ((laws_toIntS.f k l0).bind fun t240 => ((spec_WhenSteady.f k t240).bind fun bt243 => ((laws_toIntS.f k l0).bind fun t246 => ((impl_WhenSteady.f k t246).bind fun bt249 => (if bt249.1 = bt243.1 then (if bt249.2.1 = bt243.2.1 then (laws_FnExactWhenSteady.j0 k l0 t246 (bt249.2.2 != bt243.2.2)) else (laws_FnExactWhenSteady.j0 k l0 t246 true)) else (laws_FnExactWhenSteady.j0 k l0 t246 true))))))
def laws_FnExactWhenSteady.Pure : Prop := ∀ (l0 : List Int), l0.length ≤ maxLen → l0.length * 8 ≤ 140737488351232 → (∀ x ∈ l0, (Lit.int .i64 x).wf = true) → ∃ k, laws_FnExactWhenSteady.f k l0 = some true

end Go.Proofs.YtcaohpcbohdkbaaC
