/- Plain Lean functions: what Go functions of these statements compute, as the kit's print tells it (each function once). No conditions. -/
import Derived.Test.YtcaohpcbohdkbaaWMore
import Derived.Test.YtcaohpcbohdkbaaCWs
import Derived.Lib.SlicesCompact
namespace Go.Proofs.YtcaohpcbohdkbaaC
open Go.RowKit Go.Proofs.YtcaohpcbohdkbaaW.PrintWords Go.Proofs.YtcaohpcbohdkbaaW.PrintMore
set_option linter.unusedVariables false
def spec_mpPower.l0 : Nat → List Int → Int → List Int → Int → Int → Option (List Int)
  | 0, _, _, _, _, _ => none
  | k + 1, x0, x1, x5, x8, x9 => if x9 < x8 then ((spec_mpAt.f k x0 x9 x1).bind fun t136 => (if x5.length < 17592186044416 then (spec_mpPower.l0 k x0 x1 (x5 ++ [t136]) x8 (wrap64 (x9 + 1))) else (none))) else (some x5)
def spec_mpPower.f (k : Nat) (l0 : List Int) (a1 : Int) : Option (List Int) := spec_mpPower.l0 k l0 a1 ([] : List Int) (l0.length : Int) 0
def spec_l1Put.l0 : Nat → List Int → Int → Int → Option (List Int)
  | 0, _, _, _ => none
  | k + 1, x0, x1, x5 => if x5 < (x0.length : Int) then (if 0 ≤ x5 then (if (rd x0 x5) < x1 then (spec_l1Put.l0 k x0 x1 (wrap64 (x5 + 1))) else (if (rd x0 x5) = x1 then (some x0) else ((some (([] : List Int) : List Int)).bind fun y142 => (if x5 ≤ (x0.length : Int) then ((some (x0.take (x5 : Int).toNat : List Int)).bind fun y145 => (if y142.length + y145.length < 17592186044416 then ((some (y142 ++ y145 : List Int)).bind fun y149 => (if y149.length < 17592186044416 then ((some (y149 ++ [x1] : List Int)).bind fun y152 => ((some (x0.drop (x5 : Int).toNat : List Int)).bind fun y155 => (if y152.length + y155.length < 17592186044416 then (some (y152 ++ y155)) else (none)))) else (none))) else (none))) else (none))))) else (none)) else ((some (([] : List Int) : List Int)).bind fun y162 => (if 0 ≤ x5 then (if x5 ≤ (x0.length : Int) then ((some (x0.take (x5 : Int).toNat : List Int)).bind fun y165 => (if y162.length + y165.length < 17592186044416 then ((some (y162 ++ y165 : List Int)).bind fun y169 => (if y169.length < 17592186044416 then ((some (y169 ++ [x1] : List Int)).bind fun y172 => ((some (x0.drop (x5 : Int).toNat : List Int)).bind fun y175 => (if y172.length + y175.length < 17592186044416 then (some (y172 ++ y175)) else (none)))) else (none))) else (none))) else (none)) else (none)))
def spec_l1Put.f (k : Nat) (l0 : List Int) (a1 : Int) : Option (List Int) := spec_l1Put.l0 k l0 a1 0
mutual
def spec_ImagesOf.l0 : Nat → List Int → List Int → Int → Option (List Int × Bool)
  | 0, _, _, _ => none
  | k + 1, x0, x4, x5 => (spec_mpDeepest.f k x0).bind fun t183 => (if x5 ≤ t183 then ((spec_mpPower.f k x0 x5).bind fun t184 => (spec_ImagesOf.l1 k x0 x4 x5 ([] : List Int) t184 (t184.length : Int) 0)) else (some (x4, true)))
def spec_ImagesOf.l1 : Nat → List Int → List Int → Int → List Int → List Int → Int → Int → Option (List Int × Bool)
  | 0, _, _, _, _, _, _, _ => none
  | k + 1, x0, x4, x5, x6, x20, x21, x22 => if x22 < x21 then (if 0 ≤ x22 then (if x22 < (x20.length : Int) then ((spec_l1Put.f k x6 (rd x20 x22)).bind fun t188 => (spec_ImagesOf.l1 k x0 x4 x5 t188 x20 x21 (wrap64 (x22 + 1)))) else (none)) else (none)) else (if x4.length < 17592186044416 then (spec_ImagesOf.l0 k x0 (x4 ++ [(x6.length : Int)]) (wrap64 (x5 + 1))) else (none))
end
def spec_ImagesOf.f (k : Nat) (l0 : List Int) : Option (List Int × Bool) := (spec_mpGood.f k l0).bind fun t182 => (if t182 = true then (spec_ImagesOf.l0 k l0 ([] : List Int) 0) else (some (([] : List Int), false)))
def slices_Sort_int_int.f (l0 : List Int) : Option (List Int) := if l0.length < 4611686018427387904 then some (l0.mergeSort fun x y => decide (x ≤ y)) else none
def slices_Compact_int_int.f (l0 : List Int) : Option (List Int) := if l0.length < 4611686018427387904 then some (Lib.compact l0) else none
def impl_ImagesOf.l0 : Nat → List Int → List Int → Int → Int → Option (List Int × Bool)
  | 0, _, _, _, _ => none
  | k + 1, x0, x4, x14, x15 => if x15 < x14 then ((impl_power.f k x0 x15).bind fun t256 => ((slices_Sort_int_int.f t256).bind fun t259 => ((slices_Compact_int_int.f t259).bind fun t260 => (if x4.length < 17592186044416 then (impl_ImagesOf.l0 k x0 (x4 ++ [(t260.length : Int)]) x14 (wrap64 (x15 + 1))) else (none))))) else (some (x4, true))
def impl_ImagesOf.f (k : Nat) (l0 : List Int) : Option (List Int × Bool) := (impl_IsMap.f l0).bind fun t248 => (if t248 = true then ((impl_depths.f k l0).bind fun t252 => ((slices_Max_int_int.f k t252).bind fun t255 => (impl_ImagesOf.l0 k l0 (([] : List Int)) (wrap64 (t255 + 1)) 0))) else (some (([] : List Int), false)))
mutual
def laws_FnExactImagesOf.j0 : Nat → List Int → List Int → Bool → List Int → List Int → Bool → Bool → Option (Bool)
  | 0, _, _, _, _, _, _, _ => none
  | k + 1, x0, x3, x4, x5, x6, x7, x37 => if x37 = true then (some false) else ((laws_toIntS.f k x0).bind fun t282 => ((laws_eqIntS.f k x5 t282).bind fun t285 => (if t285 = true then ((laws_markIntS.f k x5 1).bind fun bt286 => (if bt286.1 < 0 then (laws_FnExactImagesOf.j1 k x0 x3 x4 x6 true) else ((laws_eqIntS.f k x6 x3).bind fun t288 => (if t288 = true then (laws_FnExactImagesOf.j1 k x0 x3 x4 x6 (x7 != x4)) else (laws_FnExactImagesOf.j1 k x0 x3 x4 x6 true))))) else (some false))))
def laws_FnExactImagesOf.j1 : Nat → List Int → List Int → Bool → List Int → Bool → Option (Bool)
  | 0, _, _, _, _, _ => none
  | k + 1, x0, x3, x4, x6, x58 => if x58 = true then (some false) else ((laws_markIntS.f k x6 1).bind fun bt289 => ((laws_heldIntS.f k bt289.2 1).bind fun t291 => (if t291 < 0 then (some false) else (if t291 = bt289.1 then ((laws_toIntS.f k x0).bind fun t292 => ((impl_ImagesOf.f k t292).bind fun bt295 => ((laws_eqIntS.f k bt295.1 x3).bind fun t299 => (if t299 = true then (laws_FnExactImagesOf.j2 k bt289.2 bt289.1 (bt295.2 != x4)) else (laws_FnExactImagesOf.j2 k bt289.2 bt289.1 true))))) else (some false)))))
def laws_FnExactImagesOf.j2 : Nat → List Int → Int → Bool → Option (Bool)
  | 0, _, _, _ => none
  | k + 1, x6, x9, x84 => if x84 = true then (some false) else ((laws_heldIntS.f k x6 1).bind fun t300 => (if t300 < 0 then (some false) else (if t300 = x9 then (some true) else (some false))))
end
def laws_FnExactImagesOf.f (k : Nat) (l0 : List Int) : Option (Bool) := if (l0.length : Int) > 1048576 then (some true) else ((laws_toIntS.f k l0).bind fun t267 => ((spec_ImagesOf.f k t267).bind fun bt270 => ((laws_toIntS.f k l0).bind fun t274 => ((impl_ImagesOf.f k t274).bind fun bt277 => ((laws_eqIntS.f k bt277.1 bt270.1).bind fun t281 => (if t281 = true then (laws_FnExactImagesOf.j0 k l0 bt270.1 bt270.2 t274 bt277.1 bt277.2 (bt277.2 != bt270.2)) else (laws_FnExactImagesOf.j0 k l0 bt270.1 bt270.2 t274 bt277.1 bt277.2 true)))))))
def laws_FnExactImagesOf.Pure : Prop := ∀ (l0 : List Int), l0.length ≤ maxLen → l0.length * 8 ≤ 140737488351232 → (∀ x ∈ l0, (Lit.int .i64 x).wf = true) → ∃ k, laws_FnExactImagesOf.f k l0 = some true

end Go.Proofs.YtcaohpcbohdkbaaC
