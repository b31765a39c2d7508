/- Plain Lean functions: what Go functions of these statements compute, as the kit's print tells it (each function once). No conditions. -/
import Derived.Test.YtcaohpcbohdkbaaWMore
import Derived.Test.YtcaohpcbohdkbaaCMp
namespace Go.Proofs.YtcaohpcbohdkbaaC
open Go.RowKit Go.Proofs.YtcaohpcbohdkbaaW.PrintWords Go.Proofs.YtcaohpcbohdkbaaW.PrintMore
set_option linter.unusedVariables false
mutual
def spec_mpCyclic.l0 : Nat → List Int → List Bool → Int → Int → Option (List Bool)
  | 0, _, _, _, _ => none
  | k + 1, x0, x3, x12, x13 => if x13 < x12 then ((spec_mpAt.f k x0 x13 (x0.length : Int)).bind fun t118 => (if 0 ≤ t118 then (if t118 < (x3.length : Int) then (spec_mpCyclic.l0 k x0 (x3.set (t118 : Int).toNat true) x12 (wrap64 (x13 + 1))) else (none)) else (none))) else (spec_mpCyclic.l1 k x0 x3 0)
def spec_mpCyclic.l1 : Nat → List Int → List Bool → Int → Option (List Bool)
  | 0, _, _, _ => none
  | k + 1, x0, x3, x5 => if x5 < (x0.length : Int) then (spec_mpCyclic.l2 k x0 x3 x5 (x3.length : Int) 0) else (some x3)
def spec_mpCyclic.l2 : Nat → List Int → List Bool → Int → Int → Int → Option (List Bool)
  | 0, _, _, _, _, _ => none
  | k + 1, x0, x3, x5, x31, x32 => if x32 < x31 then (if 0 ≤ x32 then (if x32 < (x3.length : Int) then (if rdOf false x3 x32 = true then (if x32 < (x0.length : Int) then (if 0 ≤ (rd x0 x32) then (if (rd x0 x32) < (x3.length : Int) then (spec_mpCyclic.l2 k x0 (x3.set ((rd x0 x32) : Int).toNat true) x5 x31 (wrap64 (x32 + 1))) else (none)) else (none)) else (none)) else (spec_mpCyclic.l2 k x0 x3 x5 x31 (wrap64 (x32 + 1)))) else (none)) else (none)) else (spec_mpCyclic.l1 k x0 x3 (wrap64 (x5 + 1)))
end
def spec_mpCyclic.f (k : Nat) (l0 : List Int) : Option (List Bool) := if 0 ≤ (l0.length : Int) then (if ((l0.length : Int) : Int).toNat ≤ 281474976710656 then (spec_mpCyclic.l0 k l0 (List.replicate ((l0.length : Int) : Int).toNat false) (l0.length : Int) 0) else (none)) else (none)
def spec_mpDepth.l0 : Nat → List Int → List Bool → Int → Int → Option (Int)
  | 0, _, _, _, _ => none
  | k + 1, x0, x1, x2, x7 => if 0 ≤ x2 then (if x2 < (x1.length : Int) then (if rdOf false x1 x2 = true then (some x7) else (if x2 < (x0.length : Int) then (spec_mpDepth.l0 k x0 x1 (rd x0 x2) (wrap64 (x7 + 1))) else (none))) else (none)) else (none)
def spec_mpDepth.f (k : Nat) (l0 : List Int) (l1 : List Bool) (a2 : Int) : Option (Int) := spec_mpDepth.l0 k l0 l1 a2 0
def spec_mpDepths.l0 : Nat → List Int → List Bool → List Int → Int → Int → Option (List Int)
  | 0, _, _, _, _, _ => none
  | k + 1, x0, x3, x4, x9, x10 => if x10 < x9 then ((spec_mpDepth.f k x0 x3 x10).bind fun t128 => (if x4.length < 17592186044416 then (spec_mpDepths.l0 k x0 x3 (x4 ++ [t128]) x9 (wrap64 (x10 + 1))) else (none))) else (some x4)
def spec_mpDepths.f (k : Nat) (l0 : List Int) : Option (List Int) := (spec_mpCyclic.f k l0).bind fun t125 => (spec_mpDepths.l0 k l0 t125 ([] : List Int) (l0.length : Int) 0)
def spec_DepthsOf.f (k : Nat) (l0 : List Int) : Option (List Int × Bool) := (spec_mpGood.f k l0).bind fun t132 => (if t132 = true then ((spec_mpDepths.f k l0).bind fun t133 => (some (t133, true))) else (some (([] : List Int), false)))
def bits_Mul32.f (a0 : Int) (a1 : Int) : Option (Int × Int) := some (((IntKind.u64.wrap ((IntKind.u64.wrap (a0)) * (IntKind.u64.wrap (a1)))) / 4294967296) % 4294967296, (IntKind.u64.wrap ((IntKind.u64.wrap (a0)) * (IntKind.u64.wrap (a1)))) % 4294967296)
def bits_Mul64.f (a0 : Int) (a1 : Int) : Option (Int × Int) := some (IntKind.u64.wrap ((IntKind.u64.wrap ((IntKind.u64.wrap ((a0 / 4294967296) * (a1 / 4294967296))) + ((IntKind.u64.wrap ((IntKind.u64.wrap ((a0 / 4294967296) * (Go.bits .and .u64 a1 4294967295))) + ((IntKind.u64.wrap ((Go.bits .and .u64 a0 4294967295) * (Go.bits .and .u64 a1 4294967295))) / 4294967296))) / 4294967296))) + ((IntKind.u64.wrap ((Go.bits .and .u64 (IntKind.u64.wrap ((IntKind.u64.wrap ((a0 / 4294967296) * (Go.bits .and .u64 a1 4294967295))) + ((IntKind.u64.wrap ((Go.bits .and .u64 a0 4294967295) * (Go.bits .and .u64 a1 4294967295))) / 4294967296))) 4294967295) + (IntKind.u64.wrap ((Go.bits .and .u64 a0 4294967295) * (a1 / 4294967296))))) / 4294967296)), IntKind.u64.wrap (a0 * a1))
def bits_Mul.f (a0 : Int) (a1 : Int) : Option (Int × Int) := (bits_Mul64.f a0 a1).bind fun bt137 => (some (bt137.1, bt137.2))
def slices_Repeat_int_int.f (l0 : List Int) (a1 : Int) : Option (List Int) := if l0.length = 1 ∧ 0 ≤ a1 ∧ a1 ≤ 60 then some (List.replicate a1.toNat (rd l0 0)) else none
def impl_wayOf.l0 : Nat → List Int → Int → List Int → List Int → Option (List Int × Int)
  | 0, _, _, _, _ => none
  | k + 1, x0, x1, x6, x7 => if 0 ≤ x1 then (if x1 < (x6.length : Int) then (if (rd x6 x1) < 0 then (if x7.length < 17592186044416 then (if x1 < (x0.length : Int) then (impl_wayOf.l0 k x0 (rd x0 x1) (x6.set (x1 : Int).toNat (x7.length : Int)) (x7 ++ [x1])) else (none)) else (none)) else (some (x7, rd x6 x1))) else (none)) else (none)
def impl_wayOf.f (k : Nat) (l0 : List Int) (a1 : Int) : Option (List Int × Int) := (slices_Repeat_int_int.f (([(-1)] : List Int)) (l0.length : Int)).bind fun t142 => (impl_wayOf.l0 k l0 a1 t142 (([] : List Int)))
def impl_depths.l0 : Nat → List Int → List Int → Int → Int → Option (List Int)
  | 0, _, _, _, _ => none
  | k + 1, x0, x3, x9, x10 => if x10 < x9 then ((impl_wayOf.f k x0 x10).bind fun bt158 => (if x3.length < 17592186044416 then (impl_depths.l0 k x0 (x3 ++ [bt158.2]) x9 (wrap64 (x10 + 1))) else (none))) else (some x3)
def impl_depths.f (k : Nat) (l0 : List Int) : Option (List Int) := impl_depths.l0 k l0 (([] : List Int)) (l0.length : Int) 0
def impl_DepthsOf.f (k : Nat) (l0 : List Int) : Option (List Int × Bool) := (impl_IsMap.f l0).bind fun t165 => (if t165 = true then ((impl_depths.f k l0).bind fun t166 => (some (t166, true))) else (some (([] : List Int), false)))
mutual
def laws_FnExactDepthsOf.j0 : Nat → List Int → List Int → Bool → List Int → List Int → Bool → Bool → Option (Bool)
  | 0, _, _, _, _, _, _, _ => none
  | k + 1, x0, x3, x4, x5, x6, x7, x37 => if x37 = true then (some false) else ((laws_toIntS.f k x0).bind fun t184 => ((laws_eqIntS.f k x5 t184).bind fun t187 => (if t187 = true then ((laws_markIntS.f k x5 1).bind fun bt188 => (if bt188.1 < 0 then (laws_FnExactDepthsOf.j1 k x0 x3 x4 x6 true) else ((laws_eqIntS.f k x6 x3).bind fun t190 => (if t190 = true then (laws_FnExactDepthsOf.j1 k x0 x3 x4 x6 (x7 != x4)) else (laws_FnExactDepthsOf.j1 k x0 x3 x4 x6 true))))) else (some false))))
def laws_FnExactDepthsOf.j1 : Nat → List Int → List Int → Bool → List Int → Bool → Option (Bool)
  | 0, _, _, _, _, _ => none
  | k + 1, x0, x3, x4, x6, x58 => if x58 = true then (some false) else ((laws_markIntS.f k x6 1).bind fun bt191 => ((laws_heldIntS.f k bt191.2 1).bind fun t193 => (if t193 < 0 then (some false) else (if t193 = bt191.1 then ((laws_toIntS.f k x0).bind fun t194 => ((impl_DepthsOf.f k t194).bind fun bt197 => ((laws_eqIntS.f k bt197.1 x3).bind fun t201 => (if t201 = true then (laws_FnExactDepthsOf.j2 k bt191.2 bt191.1 (bt197.2 != x4)) else (laws_FnExactDepthsOf.j2 k bt191.2 bt191.1 true))))) else (some false)))))
def laws_FnExactDepthsOf.j2 : Nat → List Int → Int → Bool → Option (Bool)
  | 0, _, _, _ => none
  | k + 1, x6, x9, x84 => if x84 = true then (some false) else ((laws_heldIntS.f k x6 1).bind fun t202 => (if t202 < 0 then (some false) else (if t202 = x9 then (some true) else (some false))))
end
def laws_FnExactDepthsOf.f (k : Nat) (l0 : List Int) : Option (Bool) := if (l0.length : Int) > 1048576 then (some true) else ((laws_toIntS.f k l0).bind fun t169 => ((spec_DepthsOf.f k t169).bind fun bt172 => ((laws_toIntS.f k l0).bind fun t176 => ((impl_DepthsOf.f k t176).bind fun bt179 => ((laws_eqIntS.f k bt179.1 bt172.1).bind fun t183 => (if t183 = true then (laws_FnExactDepthsOf.j0 k l0 bt172.1 bt172.2 t176 bt179.1 bt179.2 (bt179.2 != bt172.2)) else (laws_FnExactDepthsOf.j0 k l0 bt172.1 bt172.2 t176 bt179.1 bt179.2 true)))))))
def laws_FnExactDepthsOf.Pure : Prop := ∀ (l0 : List Int), l0.length ≤ maxLen → l0.length * 8 ≤ 140737488351232 → (∀ x ∈ l0, (Lit.int .i64 x).wf = true) → ∃ k, laws_FnExactDepthsOf.f k l0 = some true
def spec_mpRound.l0 : Nat → List Int → Int → List Int → Int → Option (List Int)
  | 0, _, _, _, _ => none
  | k + 1, x0, x1, x5, x6 => if x6 = x1 then (some x5) else (if x5.length < 17592186044416 then (if 0 ≤ x6 then (if x6 < (x0.length : Int) then (spec_mpRound.l0 k x0 x1 (x5 ++ [x6]) (rd x0 x6)) else (none)) else (none)) else (none))
def spec_mpRound.f (k : Nat) (l0 : List Int) (a1 : Int) : Option (List Int) := if 0 ≤ a1 then (if a1 < (l0.length : Int) then (spec_mpRound.l0 k l0 a1 (([a1] : List Int)) (rd l0 a1)) else (none)) else (none)
def spec_TailAndCycle.f (k : Nat) (l0 : List Int) (a1 : Int) : Option (Int × Int × Bool) := (spec_mpX.f k l0 a1).bind fun t133 => (if t133 = true then ((spec_mpCyclic.f k l0).bind fun t134 => ((spec_mpDepth.f k l0 t134 a1).bind fun t137 => ((spec_mpAt.f k l0 a1 t137).bind fun t138 => ((spec_mpRound.f k l0 t138).bind fun t139 => (some (t137, (t139.length : Int), true)))))) else (some (0, 0, false)))
def impl_TailAndCycle.f (k : Nat) (l0 : List Int) (a1 : Int) : Option (Int × Int × Bool) := (impl_asks.f l0 a1 0).bind fun t164 => (if t164 = true then ((impl_wayOf.f k l0 a1).bind fun bt165 => (some (bt165.2, wrap64 ((bt165.1.length : Int) - bt165.2), true))) else (some (0, 0, false)))
def laws_FnExactTailAndCycle.j0 : Nat → List Int → List Int → Bool → Option (Bool)
  | 0, _, _, _ => none
  | k + 1, x0, x8, x44 => if x44 = true then (some false) else ((laws_toIntS.f k x0).bind fun t181 => ((laws_eqIntS.f k x8 t181).bind fun t184 => (if t184 = true then (some true) else (some false))))
def laws_FnExactTailAndCycle.f (k : Nat) (l0 : List Int) (a1 : Int) : Option (Bool) := if (l0.length : Int) > 1048576 then (some true) else ((laws_toIntS.f k l0).bind fun t169 => ((spec_TailAndCycle.f k t169 a1).bind fun bt172 => ((laws_toIntS.f k l0).bind fun t175 => ((impl_TailAndCycle.f k t175 a1).bind fun bt178 => (if bt178.1 = bt172.1 then (if bt178.2.1 = bt172.2.1 then (laws_FnExactTailAndCycle.j0 k l0 t175 (bt178.2.2 != bt172.2.2)) else (laws_FnExactTailAndCycle.j0 k l0 t175 true)) else (laws_FnExactTailAndCycle.j0 k l0 t175 true))))))
def laws_FnExactTailAndCycle.Pure : Prop := ∀ (l0 : List Int) (a1 : Int), l0.length ≤ maxLen → l0.length * 8 ≤ 140737488351232 → (∀ x ∈ l0, (Lit.int .i64 x).wf = true) → (Lit.int .i64 a1).wf = true → ∃ k, laws_FnExactTailAndCycle.f k l0 a1 = some true
mutual
def spec_PowerOfMap.j0 : Nat → List Int → Int → Bool → Option (List Int × Bool)
  | 0, _, _, _ => none
  | k + 1, x0, x1, x19 => if x19 = true then (some (([] : List Int), false)) else ((spec_mpDepths.f k x0).bind fun t143 => ((spec_mpCyclic.f k x0).bind fun t146 => (spec_PowerOfMap.l0 k x0 x1 t143 t146 ([] : List Int) (x0.length : Int) 0)))
def spec_PowerOfMap.l0 : Nat → List Int → Int → List Int → List Bool → List Int → Int → Int → Option (List Int × Bool)
  | 0, _, _, _, _, _, _, _ => none
  | k + 1, x0, x1, x6, x7, x8, x25, x26 => if x26 < x25 then (if 0 ≤ x26 then (if x26 < (x6.length : Int) then (if x1 > (rd x6 x26) then ((spec_mpAt.f k x0 x26 (rd x6 x26)).bind fun t151 => (if 0 ≤ t151 then (if t151 < (x7.length : Int) then (if rdOf false x7 t151 = true then ((spec_mpRound.f k x0 t151).bind fun t155 => (if (t155.length : Int) = 0 then (none) else ((spec_mpAt.f k x0 x26 (wrap64 ((rd x6 x26) + (Int.tmod (wrap64 (x1 - (rd x6 x26))) (t155.length : Int))))).bind fun t158 => (if x8.length < 17592186044416 then (spec_PowerOfMap.l0 k x0 x1 x6 x7 (x8 ++ [t158]) x25 (wrap64 (x26 + 1))) else (none))))) else ((spec_mpAt.f k x0 x26 (rd x6 x26)).bind fun t162 => (if x8.length < 17592186044416 then (spec_PowerOfMap.l0 k x0 x1 x6 x7 (x8 ++ [t162]) x25 (wrap64 (x26 + 1))) else (none)))) else (none)) else (none))) else ((spec_mpAt.f k x0 x26 x1).bind fun t166 => (if x8.length < 17592186044416 then (spec_PowerOfMap.l0 k x0 x1 x6 x7 (x8 ++ [t166]) x25 (wrap64 (x26 + 1))) else (none)))) else (none)) else (none)) else (some (x8, true))
end
def spec_PowerOfMap.f (k : Nat) (l0 : List Int) (a1 : Int) : Option (List Int × Bool) := (spec_mpGood.f k l0).bind fun t141 => (if t141 = true then ((spec_mpSteps.f a1).bind fun t142 => (spec_PowerOfMap.j0 k l0 a1 (!t142))) else (spec_PowerOfMap.j0 k l0 a1 true))
mutual
def impl_power.l0 : Nat → List Int → Int → List Int → Int → Int → Option (List Int)
  | 0, _, _, _, _, _ => none
  | k + 1, x0, x1, x5, x9, x10 => if x10 < x9 then (if x5.length < 17592186044416 then (impl_power.l0 k x0 x1 (x5 ++ [x10]) x9 (wrap64 (x10 + 1))) else (none)) else (impl_power.l1 k x0 x1 x5)
def impl_power.l1 : Nat → List Int → Int → List Int → Option (List Int)
  | 0, _, _, _ => none
  | k + 1, x0, x1, x5 => if x1 > 0 then (if (Int.tmod x1 2) = 1 then ((impl_composed.f k x5 x0).bind fun t188 => ((impl_composed.f k x0 x0).bind fun t191 => (impl_power.l1 k t191 (wrap64 (Int.tdiv x1 2)) t188))) else ((impl_composed.f k x0 x0).bind fun t194 => (impl_power.l1 k t194 (wrap64 (Int.tdiv x1 2)) x5))) else (some x5)
end
def impl_power.f (k : Nat) (l0 : List Int) (a1 : Int) : Option (List Int) := impl_power.l0 k l0 a1 (([] : List Int)) (l0.length : Int) 0
def impl_PowerOfMap.f (k : Nat) (l0 : List Int) (a1 : Int) : Option (List Int × Bool) := (impl_asks.f l0 0 a1).bind fun t197 => (if t197 = true then ((impl_power.f k l0 a1).bind fun t198 => (some (t198, true))) else (some (([] : List Int), false)))
mutual
def laws_FnExactPowerOfMap.j0 : Nat → List Int → Int → List Int → Bool → List Int → List Int → Bool → Bool → Option (Bool)
  | 0, _, _, _, _, _, _, _, _ => none
  | k + 1, x0, x1, x5, x6, x7, x8, x9, x41 => if x41 = true then (some false) else ((laws_toIntS.f k x0).bind fun t216 => ((laws_eqIntS.f k x7 t216).bind fun t219 => (if t219 = true then ((laws_markIntS.f k x7 1).bind fun bt220 => (if bt220.1 < 0 then (laws_FnExactPowerOfMap.j1 k x0 x1 x5 x6 x8 true) else ((laws_eqIntS.f k x8 x5).bind fun t222 => (if t222 = true then (laws_FnExactPowerOfMap.j1 k x0 x1 x5 x6 x8 (x9 != x6)) else (laws_FnExactPowerOfMap.j1 k x0 x1 x5 x6 x8 true))))) else (some false))))
def laws_FnExactPowerOfMap.j1 : Nat → List Int → Int → List Int → Bool → List Int → Bool → Option (Bool)
  | 0, _, _, _, _, _, _ => none
  | k + 1, x0, x1, x5, x6, x8, x62 => if x62 = true then (some false) else ((laws_markIntS.f k x8 1).bind fun bt223 => ((laws_heldIntS.f k bt223.2 1).bind fun t225 => (if t225 < 0 then (some false) else (if t225 = bt223.1 then ((laws_toIntS.f k x0).bind fun t226 => ((impl_PowerOfMap.f k t226 x1).bind fun bt229 => ((laws_eqIntS.f k bt229.1 x5).bind fun t233 => (if t233 = true then (laws_FnExactPowerOfMap.j2 k bt223.2 bt223.1 (bt229.2 != x6)) else (laws_FnExactPowerOfMap.j2 k bt223.2 bt223.1 true))))) else (some false)))))
def laws_FnExactPowerOfMap.j2 : Nat → List Int → Int → Bool → Option (Bool)
  | 0, _, _, _ => none
  | k + 1, x8, x11, x89 => if x89 = true then (some false) else ((laws_heldIntS.f k x8 1).bind fun t234 => (if t234 < 0 then (some false) else (if t234 = x11 then (some true) else (some false))))
end
def laws_FnExactPowerOfMap.f (k : Nat) (l0 : List Int) (a1 : Int) : Option (Bool) := if (l0.length : Int) > 1048576 then (some true) else ((laws_toIntS.f k l0).bind fun t201 => ((spec_PowerOfMap.f k t201 a1).bind fun bt204 => ((laws_toIntS.f k l0).bind fun t208 => ((impl_PowerOfMap.f k t208 a1).bind fun bt211 => ((laws_eqIntS.f k bt211.1 bt204.1).bind fun t215 => (if t215 = true then (laws_FnExactPowerOfMap.j0 k l0 a1 bt204.1 bt204.2 t208 bt211.1 bt211.2 (bt211.2 != bt204.2)) else (laws_FnExactPowerOfMap.j0 k l0 a1 bt204.1 bt204.2 t208 bt211.1 bt211.2 true)))))))
def laws_FnExactPowerOfMap.Pure : Prop := ∀ (l0 : List Int) (a1 : Int), l0.length ≤ maxLen → l0.length * 8 ≤ 140737488351232 → (∀ x ∈ l0, (Lit.int .i64 x).wf = true) → (Lit.int .i64 a1).wf = true → ∃ k, laws_FnExactPowerOfMap.f k l0 a1 = some true
def spec_l1Has.l0 : Nat → Int → List Int → Int → Int → Option (Bool)
  | 0, _, _, _, _ => none
  | k + 1, x1, x7, x8, x9 => if x9 < x8 then (if 0 ≤ x9 then (if x9 < (x7.length : Int) then (if (rd x7 x9) = x1 then (some true) else (spec_l1Has.l0 k x1 x7 x8 (wrap64 (x9 + 1)))) else (none)) else (none)) else (some false)
def spec_l1Has.f (k : Nat) (l0 : List Int) (a1 : Int) : Option (Bool) := spec_l1Has.l0 k a1 l0 (l0.length : Int) 0
mutual
def spec_mpNames.j0 : Nat → List Int → Bool → Option (Bool)
  | 0, _, _ => none
  | k + 1, x0, x17 => if x17 = true then (some false) else (spec_mpNames.l0 k x0 x0 (x0.length : Int) 0)
def spec_mpNames.l0 : Nat → List Int → List Int → Int → Int → Option (Bool)
  | 0, _, _, _, _ => none
  | k + 1, x0, x18, x19, x20 => if x20 < x19 then (if 0 ≤ x20 then (if x20 < (x18.length : Int) then (if x20 ≤ (x0.length : Int) then ((spec_l1Has.f k (x0.take (x20 : Int).toNat) (rd x18 x20)).bind fun t118 => (if t118 = true then (some false) else (spec_mpNames.l0 k x0 x18 x19 (wrap64 (x20 + 1))))) else (none)) else (none)) else (none)) else (some true)
end
def spec_mpNames.f (k : Nat) (l0 : List Int) (a1 : Int) : Option (Bool) := if (l0.length : Int) = a1 then ((spec_l1All.f k l0 0 (wrap64 (a1 - 1))).bind fun t115 => (spec_mpNames.j0 k l0 (!t115))) else (spec_mpNames.j0 k l0 true)
mutual
def spec_RenameMap.j0 : Nat → List Int → List Int → Bool → Option (List Int × Bool)
  | 0, _, _, _ => none
  | k + 1, x0, x1, x18 => if x18 = true then (some (([] : List Int), false)) else (if 0 ≤ (x0.length : Int) then (if ((x0.length : Int) : Int).toNat ≤ 35184372088832 then (spec_RenameMap.l0 k x1 (List.replicate ((x0.length : Int) : Int).toNat 0) x0 (x0.length : Int) 0) else (none)) else (none))
def spec_RenameMap.l0 : Nat → List Int → List Int → List Int → Int → Int → Option (List Int × Bool)
  | 0, _, _, _, _, _ => none
  | k + 1, x1, x6, x22, x23, x24 => if x24 < x23 then (if 0 ≤ x24 then (if x24 < (x22.length : Int) then (if x24 < (x1.length : Int) then (if 0 ≤ (rd x22 x24) then (if (rd x22 x24) < (x1.length : Int) then (if 0 ≤ (rd x1 x24) then (if (rd x1 x24) < (x6.length : Int) then (spec_RenameMap.l0 k x1 (x6.set ((rd x1 x24) : Int).toNat (rd x1 (rd x22 x24))) x22 x23 (wrap64 (x24 + 1))) else (none)) else (none)) else (none)) else (none)) else (none)) else (none)) else (none)) else (some (x6, true))
end
def spec_RenameMap.f (k : Nat) (l0 : List Int) (l1 : List Int) : Option (List Int × Bool) := (spec_mpGood.f k l0).bind fun t119 => (if t119 = true then ((spec_mpNames.f k l1 (l0.length : Int)).bind fun t120 => (spec_RenameMap.j0 k l0 l1 (!t120))) else (spec_RenameMap.j0 k l0 l1 true))
mutual
def impl_RenameMap.j0 : Nat → List Int → List Int → Bool → Option (List Int × Bool)
  | 0, _, _, _ => none
  | k + 1, x0, x1, x30 => if x30 = true then (some (([] : List Int), false)) else ((slices_Repeat_int_int.f (([(-1)] : List Int)) (x0.length : Int)).bind fun t148 => (impl_RenameMap.l0 k x1 t148 x0 (x0.length : Int) 0))
def impl_RenameMap.l0 : Nat → List Int → List Int → List Int → Int → Int → Option (List Int × Bool)
  | 0, _, _, _, _, _ => none
  | k + 1, x1, x6, x35, x36, x37 => if x37 < x36 then (if 0 ≤ x37 then (if x37 < (x35.length : Int) then (if x37 < (x1.length : Int) then (if 0 ≤ (rd x35 x37) then (if (rd x35 x37) < (x1.length : Int) then (if 0 ≤ (rd x1 x37) then (if (rd x1 x37) < (x6.length : Int) then (impl_RenameMap.l0 k x1 (x6.set ((rd x1 x37) : Int).toNat (rd x1 (rd x35 x37))) x35 x36 (wrap64 (x37 + 1))) else (none)) else (none)) else (none)) else (none)) else (none)) else (none)) else (none)) else (some (x6, true))
end
def impl_RenameMap.f (k : Nat) (l0 : List Int) (l1 : List Int) : Option (List Int × Bool) := (impl_IsMap.f l0).bind fun t139 => (if t139 = true then ((impl_areIn.f l1 0 (wrap64 ((l0.length : Int) - 1)) (l0.length : Int) (l0.length : Int)).bind fun t140 => (if t140 = true then ((impl_countsOf.f k l1 (l0.length : Int)).bind fun t141 => ((slices_Contains_int_int.f k t141 0).bind fun t144 => (impl_RenameMap.j0 k l0 l1 t144))) else (impl_RenameMap.j0 k l0 l1 true))) else (impl_RenameMap.j0 k l0 l1 true))
mutual
def laws_FnExactRenameMap.j0 : Nat → List Int → List Int → List Int → Bool → List Int → List Int → List Int → Bool → Bool → Option (Bool)
  | 0, _, _, _, _, _, _, _, _, _ => none
  | k + 1, x0, x1, x5, x6, x7, x8, x9, x10, x48 => if x48 = true then (some false) else ((laws_toIntS.f k x0).bind fun t176 => ((laws_eqIntS.f k x7 t176).bind fun t179 => (if t179 = true then ((laws_toIntS.f k x1).bind fun t180 => ((laws_eqIntS.f k x8 t180).bind fun t183 => (if t183 = true then ((laws_markIntS.f k x7 1).bind fun bt184 => ((laws_markIntS.f k x8 bt184.1).bind fun bt186 => (if bt186.1 < 0 then (laws_FnExactRenameMap.j1 k x0 x1 x5 x6 x9 true) else ((laws_eqIntS.f k x9 x5).bind fun t188 => (if t188 = true then (laws_FnExactRenameMap.j1 k x0 x1 x5 x6 x9 (x10 != x6)) else (laws_FnExactRenameMap.j1 k x0 x1 x5 x6 x9 true)))))) else (some false)))) else (some false))))
def laws_FnExactRenameMap.j1 : Nat → List Int → List Int → List Int → Bool → List Int → Bool → Option (Bool)
  | 0, _, _, _, _, _, _ => none
  | k + 1, x0, x1, x5, x6, x9, x77 => if x77 = true then (some false) else ((laws_markIntS.f k x9 1).bind fun bt189 => ((laws_heldIntS.f k bt189.2 1).bind fun t191 => (if t191 < 0 then (some false) else (if t191 = bt189.1 then ((laws_toIntS.f k x0).bind fun t192 => ((laws_toIntS.f k x1).bind fun t195 => ((impl_RenameMap.f k t192 t195).bind fun bt198 => ((laws_eqIntS.f k bt198.1 x5).bind fun t202 => (if t202 = true then (laws_FnExactRenameMap.j2 k bt189.2 bt189.1 (bt198.2 != x6)) else (laws_FnExactRenameMap.j2 k bt189.2 bt189.1 true)))))) else (some false)))))
def laws_FnExactRenameMap.j2 : Nat → List Int → Int → Bool → Option (Bool)
  | 0, _, _, _ => none
  | k + 1, x9, x12, x105 => if x105 = true then (some false) else ((laws_heldIntS.f k x9 1).bind fun t203 => (if t203 < 0 then (some false) else (if t203 = x12 then (some true) else (some false))))
end
def laws_FnExactRenameMap.f (k : Nat) (l0 : List Int) (l1 : List Int) : Option (Bool) := if (l0.length : Int) > 1048576 then (some true) else (if (l1.length : Int) > 1048576 then (some true) else ((laws_toIntS.f k l0).bind fun t155 => ((laws_toIntS.f k l1).bind fun t158 => ((spec_RenameMap.f k t155 t158).bind fun bt161 => ((laws_toIntS.f k l0).bind fun t165 => ((laws_toIntS.f k l1).bind fun t168 => ((impl_RenameMap.f k t165 t168).bind fun bt171 => ((laws_eqIntS.f k bt171.1 bt161.1).bind fun t175 => (if t175 = true then (laws_FnExactRenameMap.j0 k l0 l1 bt161.1 bt161.2 t165 t168 bt171.1 bt171.2 (bt171.2 != bt161.2)) else (laws_FnExactRenameMap.j0 k l0 l1 bt161.1 bt161.2 t165 t168 bt171.1 bt171.2 true))))))))))
def laws_FnExactRenameMap.Pure : Prop := ∀ (l0 : List Int) (l1 : List Int), l0.length ≤ maxLen → l0.length * 8 ≤ 140737488351232 → (∀ x ∈ l0, (Lit.int .i64 x).wf = true) → l1.length ≤ maxLen → l1.length * 8 ≤ 140737488351232 → (∀ x ∈ l1, (Lit.int .i64 x).wf = true) → ∃ k, laws_FnExactRenameMap.f k l0 l1 = some true
def rd_L2 (xs : List (List Int)) (i : Int) : (List Int) := xs.getD i.toNat ([] : List Int)
mutual
def spec_mpCycles.l0 : Nat → List Int → List Bool → List Bool → List (List Int) → Int → Int → Option ((List (List Int)))
  | 0, _, _, _, _, _, _ => none
  | k + 1, x0, x3, x4, x5, x16, x17 => if x17 < x16 then (if 0 ≤ x17 then (if x17 < (x3.length : Int) then (if rdOf false x3 x17 = true then (if x17 < (x4.length : Int) then (spec_mpCycles.j1 k x0 x3 x4 x5 x17 x16 x17 (!(rdOf false x4 x17))) else (none)) else (spec_mpCycles.j1 k x0 x3 x4 x5 x17 x16 x17 false)) else (none)) else (none)) else (some x5)
def spec_mpCycles.j1 : Nat → List Int → List Bool → List Bool → List (List Int) → Int → Int → Int → Bool → Option ((List (List Int)))
  | 0, _, _, _, _, _, _, _, _ => none
  | k + 1, x0, x3, x4, x5, x6, x16, x17, x30 => if x30 = true then ((spec_mpRound.f k x0 x6).bind fun t138 => (spec_mpCycles.l1 k x0 x3 x4 x5 t138 x16 x17 (t138.length : Int) 0)) else (spec_mpCycles.l0 k x0 x3 x4 x5 x16 (wrap64 (x17 + 1)))
def spec_mpCycles.l1 : Nat → List Int → List Bool → List Bool → List (List Int) → List Int → Int → Int → Int → Int → Option ((List (List Int)))
  | 0, _, _, _, _, _, _, _, _, _ => none
  | k + 1, x0, x3, x4, x5, x7, x16, x17, x35, x36 => if x36 < x35 then (if 0 ≤ x36 then (if x36 < (x7.length : Int) then (if 0 ≤ (rd x7 x36) then (if (rd x7 x36) < (x4.length : Int) then (spec_mpCycles.l1 k x0 x3 (x4.set ((rd x7 x36) : Int).toNat true) x5 x7 x16 x17 x35 (wrap64 (x36 + 1))) else (none)) else (none)) else (none)) else (none)) else (if x5.length < 5864062014805 then (spec_mpCycles.l0 k x0 x3 x4 (x5 ++ [x7]) x16 (wrap64 (x17 + 1))) else (none))
end
def spec_mpCycles.f (k : Nat) (l0 : List Int) : Option ((List (List Int))) := (spec_mpCyclic.f k l0).bind fun t130 => (if 0 ≤ (l0.length : Int) then (if ((l0.length : Int) : Int).toNat ≤ 281474976710656 then (spec_mpCycles.l0 k l0 t130 (List.replicate ((l0.length : Int) : Int).toNat false) ([] : List (List Int)) (l0.length : Int) 0) else (none)) else (none))
mutual
def spec_CountFixedBy.j0 : Nat → List Int → Int → Bool → Option (Int × Bool)
  | 0, _, _, _ => none
  | k + 1, x0, x1, x16 => if x16 = true then (some (0, false)) else (if x1 = 0 then (some ((x0.length : Int), true)) else ((spec_mpCycles.f k x0).bind fun t148 => (spec_CountFixedBy.l0 k x1 0 t148 (t148.length : Int) 0)))
def spec_CountFixedBy.l0 : Nat → Int → Int → List (List Int) → Int → Int → Option (Int × Bool)
  | 0, _, _, _, _, _ => none
  | k + 1, x1, x6, x22, x23, x24 => if x24 < x23 then (if 0 ≤ x24 then (if x24 < (x22.length : Int) then (if ((rd_L2 x22 x24).length : Int) = 0 then (none) else (if (Int.tmod x1 ((rd_L2 x22 x24).length : Int)) = 0 then (spec_CountFixedBy.l0 k x1 (wrap64 (x6 + ((rd_L2 x22 x24).length : Int))) x22 x23 (wrap64 (x24 + 1))) else (spec_CountFixedBy.l0 k x1 x6 x22 x23 (wrap64 (x24 + 1))))) else (none)) else (none)) else (some (x6, true))
end
def spec_CountFixedBy.f (k : Nat) (l0 : List Int) (a1 : Int) : Option (Int × Bool) := (spec_mpGood.f k l0).bind fun t146 => (if t146 = true then ((spec_mpSteps.f a1).bind fun t147 => (spec_CountFixedBy.j0 k l0 a1 (!t147))) else (spec_CountFixedBy.j0 k l0 a1 true))
def impl_CountFixedBy.l0 : Nat → Int → List Int → Int → Int → Option (Int × Bool)
  | 0, _, _, _, _ => none
  | k + 1, x6, x15, x16, x17 => if x17 < x16 then (if 0 ≤ x17 then (if x17 < (x15.length : Int) then (if x17 = (rd x15 x17) then (impl_CountFixedBy.l0 k (wrap64 (x6 + 1)) x15 x16 (wrap64 (x17 + 1))) else (impl_CountFixedBy.l0 k x6 x15 x16 (wrap64 (x17 + 1)))) else (none)) else (none)) else (some (x6, true))
def impl_CountFixedBy.f (k : Nat) (l0 : List Int) (a1 : Int) : Option (Int × Bool) := (impl_asks.f l0 0 a1).bind fun t179 => (if t179 = true then ((impl_power.f k l0 a1).bind fun t180 => (impl_CountFixedBy.l0 k 0 t180 (t180.length : Int) 0)) else (some (0, false)))
def laws_FnExactCountFixedBy.j0 : Nat → List Int → List Int → Bool → Option (Bool)
  | 0, _, _, _ => none
  | k + 1, x0, x7, x35 => if x35 = true then (some false) else ((laws_toIntS.f k x0).bind fun t194 => ((laws_eqIntS.f k x7 t194).bind fun t197 => (if t197 = true then (some true) else (some false))))
def laws_FnExactCountFixedBy.f (k : Nat) (l0 : List Int) (a1 : Int) : Option (Bool) := if (l0.length : Int) > 1048576 then (some true) else ((laws_toIntS.f k l0).bind fun t184 => ((spec_CountFixedBy.f k t184 a1).bind fun bt187 => ((laws_toIntS.f k l0).bind fun t189 => ((impl_CountFixedBy.f k t189 a1).bind fun bt192 => (if bt192.1 = bt187.1 then (laws_FnExactCountFixedBy.j0 k l0 t189 (bt192.2 != bt187.2)) else (laws_FnExactCountFixedBy.j0 k l0 t189 true))))))
def laws_FnExactCountFixedBy.Pure : Prop := ∀ (l0 : List Int) (a1 : Int), l0.length ≤ maxLen → l0.length * 8 ≤ 140737488351232 → (∀ x ∈ l0, (Lit.int .i64 x).wf = true) → (Lit.int .i64 a1).wf = true → ∃ k, laws_FnExactCountFixedBy.f k l0 a1 = some true

end Go.Proofs.YtcaohpcbohdkbaaC
