/- Plain Lean functions: what Go functions of these statements compute, as the kit's print tells it (each function once). No conditions. -/
import Derived.Test.YtehhkkbejmhcfaaCD2
namespace Go.Proofs.YtehhkkbejmhcfaaC
open Go.RowKit Go.Proofs.YtehhkkbejmhcfaaW.PrintWords
set_option linter.unusedVariables false
def spec_mpGood.f (k : Nat) (l0 : List Int) : Option (Bool) := (spec_l1In.f (l0.length : Int) 1 60).bind fun t103 => (if t103 = true then ((spec_l1All.f k l0 0 (wrap64 ((l0.length : Int) - 1))).bind fun t104 => (some t104)) else (some false))
def spec_IsMap.f (k : Nat) (l0 : List Int) : Option (Bool) := (spec_mpGood.f k l0).bind fun t105 => (some t105)
def impl_IsMap.f (l0 : List Int) : Option (Bool) := (impl_areIn.f l0 0 (wrap64 ((l0.length : Int) - 1)) 1 60).bind fun t111 => (some t111)
def laws_FnExactIsMap.f (k : Nat) (l0 : List Int) : Option (Bool) := if (l0.length : Int) > 1048576 then (some true) else ((laws_toIntS.f k l0).bind fun t114 => ((spec_IsMap.f k t114).bind fun t117 => ((laws_toIntS.f k l0).bind fun t118 => ((impl_IsMap.f t118).bind fun t121 => (if (t121 != t117) = true then (some false) else ((laws_toIntS.f k l0).bind fun t122 => ((laws_eqIntS.f k t118 t122).bind fun t125 => (if t125 = true then (some true) else (some false)))))))))
def laws_FnExactIsMap.Pure : Prop := ∀ (l0 : List Int), l0.length ≤ maxLen → l0.length * 8 ≤ 140737488351232 → (∀ x ∈ l0, (Lit.int .i64 x).wf = true) → ∃ k, laws_FnExactIsMap.f k l0 = some true
def spec_mpX.f (k : Nat) (l0 : List Int) (a1 : Int) : Option (Bool) := (spec_mpGood.f k l0).bind fun t112 => (if t112 = true then ((spec_l1In.f a1 0 (wrap64 ((l0.length : Int) - 1))).bind fun t113 => (some t113)) else (some false))
def spec_mpSteps.f (a0 : Int) : Option (Bool) := (spec_l1In.f a0 0 1000000).bind fun t114 => (some t114)
def spec_mpAt.l0 : Nat → List Int → Int → Int → Option (Int)
  | 0, _, _, _ => none
  | k + 1, x0, x1, x2 => if x2 > 0 then (if 0 ≤ x1 then (if x1 < (x0.length : Int) then (spec_mpAt.l0 k x0 (rd x0 x1) (wrap64 (x2 - 1))) else (none)) else (none)) else (some x1)
def spec_mpAt.f (k : Nat) (l0 : List Int) (a1 : Int) (a2 : Int) : Option (Int) := spec_mpAt.l0 k l0 a1 a2
def spec_ApplyMap.f (k : Nat) (l0 : List Int) (a1 : Int) (a2 : Int) : Option (Int × Bool) := (spec_mpX.f k l0 a1).bind fun t116 => (if t116 = true then ((spec_mpSteps.f a2).bind fun t117 => (if t117 = true then ((spec_mpAt.f k l0 a1 a2).bind fun t118 => (some (t118, true))) else (some (0, false)))) else (some (0, false)))
def impl_asks.f (l0 : List Int) (a1 : Int) (a2 : Int) : Option (Bool) := (impl_IsMap.f l0).bind fun t120 => (if t120 = true then ((impl_in.f a1 0 (wrap64 ((l0.length : Int) - 1))).bind fun t121 => (if t121 = true then ((impl_in.f a2 0 1000000).bind fun t122 => (some t122)) else (some false))) else (some false))
def impl_ApplyMap.l0 : Nat → List Int → Int → Int → Int → Option (Int × Bool)
  | 0, _, _, _, _ => none
  | k + 1, x0, x1, x13, x14 => if x14 < x13 then (if 0 ≤ x1 then (if x1 < (x0.length : Int) then (impl_ApplyMap.l0 k x0 (rd x0 x1) x13 (wrap64 (x14 + 1))) else (none)) else (none)) else (some (x1, true))
def impl_ApplyMap.f (k : Nat) (l0 : List Int) (a1 : Int) (a2 : Int) : Option (Int × Bool) := (impl_asks.f l0 a1 a2).bind fun t123 => (if t123 = true then (impl_ApplyMap.l0 k l0 a1 a2 0) else (some (0, false)))
def laws_FnExactApplyMap.j0 : Nat → List Int → List Int → Bool → Option (Bool)
  | 0, _, _, _ => none
  | k + 1, x0, x9, x39 => if x39 = true then (some false) else ((laws_toIntS.f k x0).bind fun t135 => ((laws_eqIntS.f k x9 t135).bind fun t138 => (if t138 = true then (some true) else (some false))))
def laws_FnExactApplyMap.f (k : Nat) (l0 : List Int) (a1 : Int) (a2 : Int) : Option (Bool) := if (l0.length : Int) > 1048576 then (some true) else ((laws_toIntS.f k l0).bind fun t125 => ((spec_ApplyMap.f k t125 a1 a2).bind fun bt128 => ((laws_toIntS.f k l0).bind fun t130 => ((impl_ApplyMap.f k t130 a1 a2).bind fun bt133 => (if bt133.1 = bt128.1 then (laws_FnExactApplyMap.j0 k l0 t130 (bt133.2 != bt128.2)) else (laws_FnExactApplyMap.j0 k l0 t130 true))))))
def laws_FnExactApplyMap.Pure : Prop := ∀ (l0 : List Int) (a1 : Int) (a2 : Int), l0.length ≤ maxLen → l0.length * 8 ≤ 140737488351232 → (∀ x ∈ l0, (Lit.int .i64 x).wf = true) → (Lit.int .i64 a1).wf = true → (Lit.int .i64 a2).wf = true → ∃ k, laws_FnExactApplyMap.f k l0 a1 a2 = some true
mutual
def spec_ComposeMaps.j0 : Nat → List Int → List Int → Bool → Option (List Int × Bool)
  | 0, _, _, _ => none
  | k + 1, x0, x1, x23 => if x23 = true then (some (([] : List Int), false)) else (spec_ComposeMaps.l0 k x1 ([] : List Int) x0 (x0.length : Int) 0)
def spec_ComposeMaps.l0 : Nat → List Int → List Int → List Int → Int → Int → Option (List Int × Bool)
  | 0, _, _, _, _, _ => none
  | k + 1, x1, x6, x24, x25, x26 => if x26 < x25 then (if 0 ≤ x26 then (if x26 < (x24.length : Int) then (if 0 ≤ (rd x24 x26) then (if (rd x24 x26) < (x1.length : Int) then (if x6.length < 17592186044416 then (spec_ComposeMaps.l0 k x1 (x6 ++ [rd x1 (rd x24 x26)]) x24 x25 (wrap64 (x26 + 1))) else (none)) else (none)) else (none)) else (none)) else (none)) else (some (x6, true))
end
def spec_ComposeMaps.f (k : Nat) (l0 : List Int) (l1 : List Int) : Option (List Int × Bool) := (spec_mpGood.f k l0).bind fun t112 => (if t112 = true then ((spec_mpGood.f k l1).bind fun t113 => (if t113 = true then (spec_ComposeMaps.j0 k l0 l1 ((l0.length : Int) != (l1.length : Int))) else (spec_ComposeMaps.j0 k l0 l1 true))) else (spec_ComposeMaps.j0 k l0 l1 true))
def impl_composed.l0 : Nat → List Int → List Int → List Int → Int → Int → Option (List Int)
  | 0, _, _, _, _, _ => none
  | k + 1, x1, x5, x9, x10, x11 => if x11 < x10 then (if 0 ≤ x11 then (if x11 < (x9.length : Int) then (if 0 ≤ (rd x9 x11) then (if (rd x9 x11) < (x1.length : Int) then (if x5.length < 17592186044416 then (impl_composed.l0 k x1 (x5 ++ [rd x1 (rd x9 x11)]) x9 x10 (wrap64 (x11 + 1))) else (none)) else (none)) else (none)) else (none)) else (none)) else (some x5)
def impl_composed.f (k : Nat) (l0 : List Int) (l1 : List Int) : Option (List Int) := impl_composed.l0 k l1 (([] : List Int)) l0 (l0.length : Int) 0
def impl_ComposeMaps.f (k : Nat) (l0 : List Int) (l1 : List Int) : Option (List Int × Bool) := (impl_IsMap.f l0).bind fun t128 => (if t128 = true then ((impl_IsMap.f l1).bind fun t129 => (if t129 = true then (if (l0.length : Int) = (l1.length : Int) then ((impl_composed.f k l0 l1).bind fun t130 => (some (t130, true))) else (some (([] : List Int), false))) else (some (([] : List Int), false)))) else (some (([] : List Int), false)))
mutual
def laws_FnExactComposeMaps.j0 : Nat → List Int → List Int → List Int → Bool → List Int → List Int → List Int → Bool → Bool → Option (Bool)
  | 0, _, _, _, _, _, _, _, _, _ => none
  | k + 1, x0, x1, x5, x6, x7, x8, x9, x10, x48 => if x48 = true then (some false) else ((laws_toIntS.f k x0).bind fun t156 => ((laws_eqIntS.f k x7 t156).bind fun t159 => (if t159 = true then ((laws_toIntS.f k x1).bind fun t160 => ((laws_eqIntS.f k x8 t160).bind fun t163 => (if t163 = true then ((laws_markIntS.f k x7 1).bind fun bt164 => ((laws_markIntS.f k x8 bt164.1).bind fun bt166 => (if bt166.1 < 0 then (laws_FnExactComposeMaps.j1 k x0 x1 x5 x6 x9 true) else ((laws_eqIntS.f k x9 x5).bind fun t168 => (if t168 = true then (laws_FnExactComposeMaps.j1 k x0 x1 x5 x6 x9 (x10 != x6)) else (laws_FnExactComposeMaps.j1 k x0 x1 x5 x6 x9 true)))))) else (some false)))) else (some false))))
def laws_FnExactComposeMaps.j1 : Nat → List Int → List Int → List Int → Bool → List Int → Bool → Option (Bool)
  | 0, _, _, _, _, _, _ => none
  | k + 1, x0, x1, x5, x6, x9, x77 => if x77 = true then (some false) else ((laws_markIntS.f k x9 1).bind fun bt169 => ((laws_heldIntS.f k bt169.2 1).bind fun t171 => (if t171 < 0 then (some false) else (if t171 = bt169.1 then ((laws_toIntS.f k x0).bind fun t172 => ((laws_toIntS.f k x1).bind fun t175 => ((impl_ComposeMaps.f k t172 t175).bind fun bt178 => ((laws_eqIntS.f k bt178.1 x5).bind fun t182 => (if t182 = true then (laws_FnExactComposeMaps.j2 k bt169.2 bt169.1 (bt178.2 != x6)) else (laws_FnExactComposeMaps.j2 k bt169.2 bt169.1 true)))))) else (some false)))))
def laws_FnExactComposeMaps.j2 : Nat → List Int → Int → Bool → Option (Bool)
  | 0, _, _, _ => none
  | k + 1, x9, x12, x105 => if x105 = true then (some false) else ((laws_heldIntS.f k x9 1).bind fun t183 => (if t183 < 0 then (some false) else (if t183 = x12 then (some true) else (some false))))
end
def laws_FnExactComposeMaps.f (k : Nat) (l0 : List Int) (l1 : List Int) : Option (Bool) := if (l0.length : Int) > 1048576 then (some true) else (if (l1.length : Int) > 1048576 then (some true) else ((laws_toIntS.f k l0).bind fun t135 => ((laws_toIntS.f k l1).bind fun t138 => ((spec_ComposeMaps.f k t135 t138).bind fun bt141 => ((laws_toIntS.f k l0).bind fun t145 => ((laws_toIntS.f k l1).bind fun t148 => ((impl_ComposeMaps.f k t145 t148).bind fun bt151 => ((laws_eqIntS.f k bt151.1 bt141.1).bind fun t155 => (if t155 = true then (laws_FnExactComposeMaps.j0 k l0 l1 bt141.1 bt141.2 t145 t148 bt151.1 bt151.2 (bt151.2 != bt141.2)) else (laws_FnExactComposeMaps.j0 k l0 l1 bt141.1 bt141.2 t145 t148 bt151.1 bt151.2 true))))))))))
def laws_FnExactComposeMaps.Pure : Prop := ∀ (l0 : List Int) (l1 : List Int), l0.length ≤ maxLen → l0.length * 8 ≤ 140737488351232 → (∀ x ∈ l0, (Lit.int .i64 x).wf = true) → l1.length ≤ maxLen → l1.length * 8 ≤ 140737488351232 → (∀ x ∈ l1, (Lit.int .i64 x).wf = true) → ∃ k, laws_FnExactComposeMaps.f k l0 l1 = some true
def spec_mpBefore.l0 : Nat → Int → List Int → List Int → Int → Int → Option (List Int)
  | 0, _, _, _, _, _ => none
  | k + 1, x1, x5, x8, x9, x10 => if x10 < x9 then (if 0 ≤ x10 then (if x10 < (x8.length : Int) then (if (rd x8 x10) = x1 then (if x5.length < 17592186044416 then (spec_mpBefore.l0 k x1 (x5 ++ [x10]) x8 x9 (wrap64 (x10 + 1))) else (none)) else (spec_mpBefore.l0 k x1 x5 x8 x9 (wrap64 (x10 + 1)))) else (none)) else (none)) else (some x5)
def spec_mpBefore.f (k : Nat) (l0 : List Int) (a1 : Int) : Option (List Int) := spec_mpBefore.l0 k a1 ([] : List Int) l0 (l0.length : Int) 0
def spec_BeforeOf.f (k : Nat) (l0 : List Int) (a1 : Int) : Option (List Int × Bool) := (spec_mpX.f k l0 a1).bind fun t120 => (if t120 = true then ((spec_mpBefore.f k l0 a1).bind fun t121 => (some (t121, true))) else (some (([] : List Int), false)))
def impl_before.l0 : Nat → Int → List Int → List Int → Int → Int → Option (List Int)
  | 0, _, _, _, _, _ => none
  | k + 1, x1, x5, x9, x10, x11 => if x11 < x10 then (if 0 ≤ x11 then (if x11 < (x9.length : Int) then (if (rd x9 x11) = x1 then (if x5.length < 17592186044416 then (impl_before.l0 k x1 (x5 ++ [x11]) x9 x10 (wrap64 (x11 + 1))) else (none)) else (impl_before.l0 k x1 x5 x9 x10 (wrap64 (x11 + 1)))) else (none)) else (none)) else (some x5)
def impl_before.f (k : Nat) (l0 : List Int) (a1 : Int) : Option (List Int) := impl_before.l0 k a1 (([] : List Int)) l0 (l0.length : Int) 0
def impl_BeforeOf.f (k : Nat) (l0 : List Int) (a1 : Int) : Option (List Int × Bool) := (impl_asks.f l0 a1 0).bind fun t135 => (if t135 = true then ((impl_before.f k l0 a1).bind fun t136 => (some (t136, true))) else (some (([] : List Int), false)))
mutual
def laws_FnExactBeforeOf.j0 : Nat → List Int → Int → List Int → Bool → List Int → List Int → Bool → Bool → Option (Bool)
  | 0, _, _, _, _, _, _, _, _ => none
  | k + 1, x0, x1, x5, x6, x7, x8, x9, x41 => if x41 = true then (some false) else ((laws_toIntS.f k x0).bind fun t154 => ((laws_eqIntS.f k x7 t154).bind fun t157 => (if t157 = true then ((laws_markIntS.f k x7 1).bind fun bt158 => (if bt158.1 < 0 then (laws_FnExactBeforeOf.j1 k x0 x1 x5 x6 x8 true) else ((laws_eqIntS.f k x8 x5).bind fun t160 => (if t160 = true then (laws_FnExactBeforeOf.j1 k x0 x1 x5 x6 x8 (x9 != x6)) else (laws_FnExactBeforeOf.j1 k x0 x1 x5 x6 x8 true))))) else (some false))))
def laws_FnExactBeforeOf.j1 : Nat → List Int → Int → List Int → Bool → List Int → Bool → Option (Bool)
  | 0, _, _, _, _, _, _ => none
  | k + 1, x0, x1, x5, x6, x8, x62 => if x62 = true then (some false) else ((laws_markIntS.f k x8 1).bind fun bt161 => ((laws_heldIntS.f k bt161.2 1).bind fun t163 => (if t163 < 0 then (some false) else (if t163 = bt161.1 then ((laws_toIntS.f k x0).bind fun t164 => ((impl_BeforeOf.f k t164 x1).bind fun bt167 => ((laws_eqIntS.f k bt167.1 x5).bind fun t171 => (if t171 = true then (laws_FnExactBeforeOf.j2 k bt161.2 bt161.1 (bt167.2 != x6)) else (laws_FnExactBeforeOf.j2 k bt161.2 bt161.1 true))))) else (some false)))))
def laws_FnExactBeforeOf.j2 : Nat → List Int → Int → Bool → Option (Bool)
  | 0, _, _, _ => none
  | k + 1, x8, x11, x89 => if x89 = true then (some false) else ((laws_heldIntS.f k x8 1).bind fun t172 => (if t172 < 0 then (some false) else (if t172 = x11 then (some true) else (some false))))
end
def laws_FnExactBeforeOf.f (k : Nat) (l0 : List Int) (a1 : Int) : Option (Bool) := if (l0.length : Int) > 1048576 then (some true) else ((laws_toIntS.f k l0).bind fun t139 => ((spec_BeforeOf.f k t139 a1).bind fun bt142 => ((laws_toIntS.f k l0).bind fun t146 => ((impl_BeforeOf.f k t146 a1).bind fun bt149 => ((laws_eqIntS.f k bt149.1 bt142.1).bind fun t153 => (if t153 = true then (laws_FnExactBeforeOf.j0 k l0 a1 bt142.1 bt142.2 t146 bt149.1 bt149.2 (bt149.2 != bt142.2)) else (laws_FnExactBeforeOf.j0 k l0 a1 bt142.1 bt142.2 t146 bt149.1 bt149.2 true)))))))
def laws_FnExactBeforeOf.Pure : Prop := ∀ (l0 : List Int) (a1 : Int), l0.length ≤ maxLen → l0.length * 8 ≤ 140737488351232 → (∀ x ∈ l0, (Lit.int .i64 x).wf = true) → (Lit.int .i64 a1).wf = true → ∃ k, laws_FnExactBeforeOf.f k l0 a1 = some true
def spec_EndsOf.l0 : Nat → List Int → List Int → Int → Int → Option (List Int × Bool)
  | 0, _, _, _, _ => none
  | k + 1, x0, x4, x10, x11 => if x11 < x10 then ((spec_mpBefore.f k x0 x11).bind fun t119 => (if (t119.length : Int) = 0 then (if x4.length < 17592186044416 then (spec_EndsOf.l0 k x0 (x4 ++ [x11]) x10 (wrap64 (x11 + 1))) else (none)) else (spec_EndsOf.l0 k x0 x4 x10 (wrap64 (x11 + 1))))) else (some (x4, true))
def spec_EndsOf.f (k : Nat) (l0 : List Int) : Option (List Int × Bool) := (spec_mpGood.f k l0).bind fun t118 => (if t118 = true then (spec_EndsOf.l0 k l0 ([] : List Int) (l0.length : Int) 0) else (some (([] : List Int), false)))
def slices_Index_int_int.l0 : Nat → List Int → Int → Int → Int → Option (Int)
  | 0, _, _, _, _ => none
  | k + 1, x0, x1, x7, x8 => if x8 < x7 then (if 0 ≤ x8 then (if x8 < (x0.length : Int) then (if x1 = (rd x0 x8) then (some x8) else (slices_Index_int_int.l0 k x0 x1 x7 (wrap64 (x8 + 1)))) else (none)) else (none)) else (some (-1))
def slices_Index_int_int.f (k : Nat) (l0 : List Int) (a1 : Int) : Option (Int) := slices_Index_int_int.l0 k l0 a1 (l0.length : Int) 0
def slices_Contains_int_int.f (k : Nat) (l0 : List Int) (a1 : Int) : Option (Bool) := (slices_Index_int_int.f k l0 a1).bind fun t127 => (some (decide (t127 ≥ 0)))
def impl_EndsOf.l0 : Nat → List Int → List Int → Int → Int → Option (List Int × Bool)
  | 0, _, _, _, _ => none
  | k + 1, x0, x4, x11, x12 => if x12 < x11 then ((slices_Contains_int_int.f k x0 x12).bind fun t132 => (if t132 = true then (impl_EndsOf.l0 k x0 x4 x11 (wrap64 (x12 + 1))) else (if x4.length < 17592186044416 then (impl_EndsOf.l0 k x0 (x4 ++ [x12]) x11 (wrap64 (x12 + 1))) else (none)))) else (some (x4, true))
def impl_EndsOf.f (k : Nat) (l0 : List Int) : Option (List Int × Bool) := (impl_IsMap.f l0).bind fun t128 => (if t128 = true then (impl_EndsOf.l0 k l0 (([] : List Int)) (l0.length : Int) 0) else (some (([] : List Int), false)))
mutual
def laws_FnExactEndsOf.j0 : Nat → List Int → List Int → Bool → List Int → List Int → Bool → Bool → Option (Bool)
  | 0, _, _, _, _, _, _, _ => none
  | k + 1, x0, x3, x4, x5, x6, x7, x37 => if x37 = true then (some false) else ((laws_toIntS.f k x0).bind fun t151 => ((laws_eqIntS.f k x5 t151).bind fun t154 => (if t154 = true then ((laws_markIntS.f k x5 1).bind fun bt155 => (if bt155.1 < 0 then (laws_FnExactEndsOf.j1 k x0 x3 x4 x6 true) else ((laws_eqIntS.f k x6 x3).bind fun t157 => (if t157 = true then (laws_FnExactEndsOf.j1 k x0 x3 x4 x6 (x7 != x4)) else (laws_FnExactEndsOf.j1 k x0 x3 x4 x6 true))))) else (some false))))
def laws_FnExactEndsOf.j1 : Nat → List Int → List Int → Bool → List Int → Bool → Option (Bool)
  | 0, _, _, _, _, _ => none
  | k + 1, x0, x3, x4, x6, x58 => if x58 = true then (some false) else ((laws_markIntS.f k x6 1).bind fun bt158 => ((laws_heldIntS.f k bt158.2 1).bind fun t160 => (if t160 < 0 then (some false) else (if t160 = bt158.1 then ((laws_toIntS.f k x0).bind fun t161 => ((impl_EndsOf.f k t161).bind fun bt164 => ((laws_eqIntS.f k bt164.1 x3).bind fun t168 => (if t168 = true then (laws_FnExactEndsOf.j2 k bt158.2 bt158.1 (bt164.2 != x4)) else (laws_FnExactEndsOf.j2 k bt158.2 bt158.1 true))))) else (some false)))))
def laws_FnExactEndsOf.j2 : Nat → List Int → Int → Bool → Option (Bool)
  | 0, _, _, _ => none
  | k + 1, x6, x9, x84 => if x84 = true then (some false) else ((laws_heldIntS.f k x6 1).bind fun t169 => (if t169 < 0 then (some false) else (if t169 = x9 then (some true) else (some false))))
end
def laws_FnExactEndsOf.f (k : Nat) (l0 : List Int) : Option (Bool) := if (l0.length : Int) > 1048576 then (some true) else ((laws_toIntS.f k l0).bind fun t136 => ((spec_EndsOf.f k t136).bind fun bt139 => ((laws_toIntS.f k l0).bind fun t143 => ((impl_EndsOf.f k t143).bind fun bt146 => ((laws_eqIntS.f k bt146.1 bt139.1).bind fun t150 => (if t150 = true then (laws_FnExactEndsOf.j0 k l0 bt139.1 bt139.2 t143 bt146.1 bt146.2 (bt146.2 != bt139.2)) else (laws_FnExactEndsOf.j0 k l0 bt139.1 bt139.2 t143 bt146.1 bt146.2 true)))))))
def laws_FnExactEndsOf.Pure : Prop := ∀ (l0 : List Int), l0.length ≤ maxLen → l0.length * 8 ≤ 140737488351232 → (∀ x ∈ l0, (Lit.int .i64 x).wf = true) → ∃ k, laws_FnExactEndsOf.f k l0 = some true

end Go.Proofs.YtehhkkbejmhcfaaC
