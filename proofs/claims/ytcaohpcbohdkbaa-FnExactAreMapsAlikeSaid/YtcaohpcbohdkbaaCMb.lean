/- Plain Lean functions: what Go functions of these statements compute, as the kit's print tells it (each function once). No conditions. -/
import Derived.Test.YtcaohpcbohdkbaaWMore
import Derived.Test.YtcaohpcbohdkbaaCMq
namespace Go.Proofs.YtcaohpcbohdkbaaC
open Go.RowKit Go.Proofs.YtcaohpcbohdkbaaW.PrintWords Go.Proofs.YtcaohpcbohdkbaaW.PrintMore
set_option linter.unusedVariables false
mutual
def spec_BasinsOf.l0 : Nat → List Int → List (List Int) → List Int → Int → Int → Option (List Int × Bool)
  | 0, _, _, _, _, _ => none
  | k + 1, x0, x4, x5, x15, x16 => if x16 < x15 then ((spec_mpAt.f k x0 x16 (x0.length : Int)).bind fun t152 => (spec_BasinsOf.l1 k x0 x4 x5 t152 0 x15 x16)) else (some (x5, true))
def spec_BasinsOf.l1 : Nat → List Int → List (List Int) → List Int → Int → Int → Int → Int → Option (List Int × Bool)
  | 0, _, _, _, _, _, _, _ => none
  | k + 1, x0, x4, x5, x7, x8, x15, x16 => if 0 ≤ x8 then (if x8 < (x4.length : Int) then ((spec_l1Has.f k (rd_L2 x4 x8) x7).bind fun t154 => (if t154 = true then (if x5.length < 17592186044416 then (spec_BasinsOf.l0 k x0 x4 (x5 ++ [x8]) x15 (wrap64 (x16 + 1))) else (none)) else (spec_BasinsOf.l1 k x0 x4 x5 x7 (wrap64 (x8 + 1)) x15 x16))) else (none)) else (none)
end
def spec_BasinsOf.f (k : Nat) (l0 : List Int) : Option (List Int × Bool) := (spec_mpGood.f k l0).bind fun t148 => (if t148 = true then ((spec_mpCycles.f k l0).bind fun t149 => (spec_BasinsOf.l0 k l0 t149 ([] : List Int) (l0.length : Int) 0)) else (some (([] : List Int), false)))
def slices_Min_int_int.l0 : Nat → List Int → Int → Int → Option (Int)
  | 0, _, _, _ => none
  | k + 1, x0, x3, x4 => if x4 < (x0.length : Int) then (if 0 ≤ x4 then (slices_Min_int_int.l0 k x0 (mn x3 (rd x0 x4)) (wrap64 (x4 + 1))) else (none)) else (some x3)
def slices_Min_int_int.f (k : Nat) (l0 : List Int) : Option (Int) := if (l0.length : Int) < 1 then (none) else (if 0 < (l0.length : Int) then (slices_Min_int_int.l0 k l0 (rd l0 0) 1) else (none))
def slices_Concat_int_int.f (l0 : List (List Int)) : Option (List Int) := if l0.length ≤ 1000 ∧ l0.flatten.length ≤ 1000000 then some l0.flatten else none
def impl_leastFirst.f (k : Nat) (l0 : List Int) : Option (List Int) := (slices_Min_int_int.f k l0).bind fun t180 => ((slices_Index_int_int.f k l0 t180).bind fun t181 => (if 0 ≤ t181 then (if t181 ≤ (l0.length : Int) then ((slices_Concat_int_int.f (([(l0.drop (t181 : Int).toNat), (l0.take (t181 : Int).toNat)] : List (List Int)))).bind fun t195 => (some t195)) else (none)) else (none)))
def impl_cycleAt.f (k : Nat) (l0 : List Int) (a1 : Int) : Option (List Int) := (impl_wayOf.f k l0 a1).bind fun t => if 0 ≤ t.2 ∧ t.2 ≤ (t.1.length : Int) then impl_leastFirst.f k (t.1.drop t.2.toNat) else none
def impl_cycles.l0 : Nat → List Int → List (List Int) → Int → Int → Option ((List (List Int)))
  | 0, _, _, _, _ => none
  | k + 1, x0, x3, x8, x9 => if x9 < x8 then ((impl_cycleAt.f k x0 x9).bind fun t201 => (if 0 < (t201.length : Int) then (if (rd t201 0) = x9 then (if x3.length < 5864062014805 then (impl_cycles.l0 k x0 (x3 ++ [t201]) x8 (wrap64 (x9 + 1))) else (none)) else (impl_cycles.l0 k x0 x3 x8 (wrap64 (x9 + 1)))) else (none))) else (some x3)
def impl_cycles.f (k : Nat) (l0 : List Int) : Option ((List (List Int))) := impl_cycles.l0 k l0 (([] : List (List Int))) (l0.length : Int) 0
def idxL (x : Int) : List (List Int) → Int → Int
  | [], _ => -1
  | c :: cs, i => if rd c 0 = x then i else idxL x cs (i + 1)
def basL (k0 : Nat) (l0 : List Int) (all : List (List Int)) : Nat → List Int → Int → Option (List Int)
  | 0, _, _ => none
  | k + 1, out, i => if i < (l0.length : Int) then (impl_cycleAt.f k0 l0 i).bind fun c => if 0 < c.length ∧ out.length < 1000 then basL k0 l0 all k (out ++ [idxL (rd c 0) all 0]) (wrap64 (i + 1)) else none else some out
def impl_BasinsOf.f (k : Nat) (l0 : List Int) : Option (List Int × Bool) := (impl_IsMap.f l0).bind fun b => if b = true then (impl_cycles.f k l0).bind fun all => if all.length ≤ 1000 ∧ (∀ c ∈ all, 0 < c.length) then (basL k l0 all k [] 0).bind fun out => some (out, true) else none else some ([], false)
mutual
def laws_FnExactBasinsOf.j0 : Nat → List Int → List Int → Bool → List Int → List Int → Bool → Bool → Option (Bool)
  | 0, _, _, _, _, _, _, _ => none
  | k + 1, x0, x3, x4, x5, x6, x7, x37 => if x37 = true then (some false) else ((laws_toIntS.f k x0).bind fun t223 => ((laws_eqIntS.f k x5 t223).bind fun t226 => (if t226 = true then ((laws_markIntS.f k x5 1).bind fun bt227 => (if bt227.1 < 0 then (laws_FnExactBasinsOf.j1 k x0 x3 x4 x6 true) else ((laws_eqIntS.f k x6 x3).bind fun t229 => (if t229 = true then (laws_FnExactBasinsOf.j1 k x0 x3 x4 x6 (x7 != x4)) else (laws_FnExactBasinsOf.j1 k x0 x3 x4 x6 true))))) else (some false))))
def laws_FnExactBasinsOf.j1 : Nat → List Int → List Int → Bool → List Int → Bool → Option (Bool)
  | 0, _, _, _, _, _ => none
  | k + 1, x0, x3, x4, x6, x58 => if x58 = true then (some false) else ((laws_markIntS.f k x6 1).bind fun bt230 => ((laws_heldIntS.f k bt230.2 1).bind fun t232 => (if t232 < 0 then (some false) else (if t232 = bt230.1 then ((laws_toIntS.f k x0).bind fun t233 => ((impl_BasinsOf.f k t233).bind fun bt236 => ((laws_eqIntS.f k bt236.1 x3).bind fun t240 => (if t240 = true then (laws_FnExactBasinsOf.j2 k bt230.2 bt230.1 (bt236.2 != x4)) else (laws_FnExactBasinsOf.j2 k bt230.2 bt230.1 true))))) else (some false)))))
def laws_FnExactBasinsOf.j2 : Nat → List Int → Int → Bool → Option (Bool)
  | 0, _, _, _ => none
  | k + 1, x6, x9, x84 => if x84 = true then (some false) else ((laws_heldIntS.f k x6 1).bind fun t241 => (if t241 < 0 then (some false) else (if t241 = x9 then (some true) else (some false))))
end
def laws_FnExactBasinsOf.f (k : Nat) (l0 : List Int) : Option (Bool) := if (l0.length : Int) > 1048576 then (some true) else ((laws_toIntS.f k l0).bind fun t208 => ((spec_BasinsOf.f k t208).bind fun bt211 => ((laws_toIntS.f k l0).bind fun t215 => ((impl_BasinsOf.f k t215).bind fun bt218 => ((laws_eqIntS.f k bt218.1 bt211.1).bind fun t222 => (if t222 = true then (laws_FnExactBasinsOf.j0 k l0 bt211.1 bt211.2 t215 bt218.1 bt218.2 (bt218.2 != bt211.2)) else (laws_FnExactBasinsOf.j0 k l0 bt211.1 bt211.2 t215 bt218.1 bt218.2 true)))))))
def laws_FnExactBasinsOf.Pure : Prop := ∀ (l0 : List Int), l0.length ≤ maxLen → l0.length * 8 ≤ 140737488351232 → (∀ x ∈ l0, (Lit.int .i64 x).wf = true) → ∃ k, laws_FnExactBasinsOf.f k l0 = some true

end Go.Proofs.YtcaohpcbohdkbaaC
