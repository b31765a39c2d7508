/- Plain texts of FnMapsEnd, merged by a program: what Go functions compute, lemmas of the walk, and proofs. No conditions. -/
import Derived.Test.YtcaohpcbohdkbaaGreatZFnMapsEnd2
import Derived.Test.YtcaohpcbohdkbaaGreatZFnMapsEnd3
section
namespace Go.Proofs.YtcaohpcbohdkbaaGreatC
open Go.RowKit Go.Proofs.YtcaohpcbohdkbaaGreatW.PrintWords Go.Proofs.YtcaohpcbohdkbaaGreatW.PrintMore
set_option linter.unusedVariables false
mutual
def spec_mpCyclic.l0 : Nat → List Int → List Bool → Int → Int → Option (List Bool)
  | 0, _, _, _, _ => none
  | k + 1, x0, x3, x12, x13 => if x13 < x12 then ((spec_mpAt.f k x0 x13 (x0.length : Int)).bind fun t118 => (if 0 ≤ t118 then (if t118 < (x3.length : Int) then (spec_mpCyclic.l0 k x0 (x3.set (t118 : Int).toNat true) x12 (wrap64 (x13 + 1))) else (none)) else (none))) else (spec_mpCyclic.l1 k x0 x3 0)
def spec_mpCyclic.l1 : Nat → List Int → List Bool → Int → Option (List Bool)
  | 0, _, _, _ => none
  | k + 1, x0, x3, x5 => if x5 < (x0.length : Int) then (spec_mpCyclic.l2 k x0 x3 x5 (x3.length : Int) 0) else (some x3)
def spec_mpCyclic.l2 : Nat → List Int → List Bool → Int → Int → Int → Option (List Bool)
  | 0, _, _, _, _, _ => none
  | k + 1, x0, x3, x5, x31, x32 => if x32 < x31 then (if 0 ≤ x32 then (if x32 < (x3.length : Int) then (if rdOf false x3 x32 = true then (if x32 < (x0.length : Int) then (if 0 ≤ (rd x0 x32) then (if (rd x0 x32) < (x3.length : Int) then (spec_mpCyclic.l2 k x0 (x3.set ((rd x0 x32) : Int).toNat true) x5 x31 (wrap64 (x32 + 1))) else (none)) else (none)) else (none)) else (spec_mpCyclic.l2 k x0 x3 x5 x31 (wrap64 (x32 + 1)))) else (none)) else (none)) else (spec_mpCyclic.l1 k x0 x3 (wrap64 (x5 + 1)))
end
def spec_mpCyclic.f (k : Nat) (l0 : List Int) : Option (List Bool) := if 0 ≤ (l0.length : Int) then (if ((l0.length : Int) : Int).toNat ≤ 281474976710656 then (spec_mpCyclic.l0 k l0 (List.replicate ((l0.length : Int) : Int).toNat false) (l0.length : Int) 0) else (none)) else (none)
def spec_mpDepth.l0 : Nat → List Int → List Bool → Int → Int → Option (Int)
  | 0, _, _, _, _ => none
  | k + 1, x0, x1, x2, x7 => if 0 ≤ x2 then (if x2 < (x1.length : Int) then (if rdOf false x1 x2 = true then (some x7) else (if x2 < (x0.length : Int) then (spec_mpDepth.l0 k x0 x1 (rd x0 x2) (wrap64 (x7 + 1))) else (none))) else (none)) else (none)
def spec_mpDepth.f (k : Nat) (l0 : List Int) (l1 : List Bool) (a2 : Int) : Option (Int) := spec_mpDepth.l0 k l0 l1 a2 0
def spec_mpDepths.l0 : Nat → List Int → List Bool → List Int → Int → Int → Option (List Int)
  | 0, _, _, _, _, _ => none
  | k + 1, x0, x3, x4, x9, x10 => if x10 < x9 then ((spec_mpDepth.f k x0 x3 x10).bind fun t128 => (if x4.length < 17592186044416 then (spec_mpDepths.l0 k x0 x3 (x4 ++ [t128]) x9 (wrap64 (x10 + 1))) else (none))) else (some x4)
def spec_mpDepths.f (k : Nat) (l0 : List Int) : Option (List Int) := (spec_mpCyclic.f k l0).bind fun t125 => (spec_mpDepths.l0 k l0 t125 ([] : List Int) (l0.length : Int) 0)
def spec_DepthsOf.f (k : Nat) (l0 : List Int) : Option (List Int × Bool) := (spec_mpGood.f k l0).bind fun t132 => (if t132 = true then ((spec_mpDepths.f k l0).bind fun t133 => (some (t133, true))) else (some (([] : List Int), false)))
def bits_Mul32.f (a0 : Int) (a1 : Int) : Option (Int × Int) := some (((IntKind.u64.wrap ((IntKind.u64.wrap (a0)) * (IntKind.u64.wrap (a1)))) / 4294967296) % 4294967296, (IntKind.u64.wrap ((IntKind.u64.wrap (a0)) * (IntKind.u64.wrap (a1)))) % 4294967296)
def bits_Mul64.f (a0 : Int) (a1 : Int) : Option (Int × Int) := some (IntKind.u64.wrap ((IntKind.u64.wrap ((IntKind.u64.wrap ((a0 / 4294967296) * (a1 / 4294967296))) + ((IntKind.u64.wrap ((IntKind.u64.wrap ((a0 / 4294967296) * (Go.bits .and .u64 a1 4294967295))) + ((IntKind.u64.wrap ((Go.bits .and .u64 a0 4294967295) * (Go.bits .and .u64 a1 4294967295))) / 4294967296))) / 4294967296))) + ((IntKind.u64.wrap ((Go.bits .and .u64 (IntKind.u64.wrap ((IntKind.u64.wrap ((a0 / 4294967296) * (Go.bits .and .u64 a1 4294967295))) + ((IntKind.u64.wrap ((Go.bits .and .u64 a0 4294967295) * (Go.bits .and .u64 a1 4294967295))) / 4294967296))) 4294967295) + (IntKind.u64.wrap ((Go.bits .and .u64 a0 4294967295) * (a1 / 4294967296))))) / 4294967296)), IntKind.u64.wrap (a0 * a1))
def bits_Mul.f (a0 : Int) (a1 : Int) : Option (Int × Int) := (bits_Mul64.f a0 a1).bind fun bt137 => (some (bt137.1, bt137.2))
def slices_Repeat_int_int.f (l0 : List Int) (a1 : Int) : Option (List Int) := if l0.length = 1 ∧ 0 ≤ a1 ∧ a1 ≤ 60 then some (List.replicate a1.toNat (rd l0 0)) else none
def impl_wayOf.l0 : Nat → List Int → Int → List Int → List Int → Option (List Int × Int)
  | 0, _, _, _, _ => none
  | k + 1, x0, x1, x6, x7 => if 0 ≤ x1 then (if x1 < (x6.length : Int) then (if (rd x6 x1) < 0 then (if x7.length < 17592186044416 then (if x1 < (x0.length : Int) then (impl_wayOf.l0 k x0 (rd x0 x1) (x6.set (x1 : Int).toNat (x7.length : Int)) (x7 ++ [x1])) else (none)) else (none)) else (some (x7, rd x6 x1))) else (none)) else (none)
def impl_wayOf.f (k : Nat) (l0 : List Int) (a1 : Int) : Option (List Int × Int) := (slices_Repeat_int_int.f (([(-1)] : List Int)) (l0.length : Int)).bind fun t142 => (impl_wayOf.l0 k l0 a1 t142 (([] : List Int)))
def impl_depths.l0 : Nat → List Int → List Int → Int → Int → Option (List Int)
  | 0, _, _, _, _ => none
  | k + 1, x0, x3, x9, x10 => if x10 < x9 then ((impl_wayOf.f k x0 x10).bind fun bt158 => (if x3.length < 17592186044416 then (impl_depths.l0 k x0 (x3 ++ [bt158.2]) x9 (wrap64 (x10 + 1))) else (none))) else (some x3)
def impl_depths.f (k : Nat) (l0 : List Int) : Option (List Int) := impl_depths.l0 k l0 (([] : List Int)) (l0.length : Int) 0
def impl_DepthsOf.f (k : Nat) (l0 : List Int) : Option (List Int × Bool) := (impl_IsMap.f l0).bind fun t165 => (if t165 = true then ((impl_depths.f k l0).bind fun t166 => (some (t166, true))) else (some (([] : List Int), false)))
mutual
def laws_FnExactDepthsOf.j0 : Nat → List Int → List Int → Bool → List Int → List Int → Bool → Bool → Option (Bool)
  | 0, _, _, _, _, _, _, _ => none
  | k + 1, x0, x3, x4, x5, x6, x7, x37 => if x37 = true then (some false) else ((laws_toIntS.f k x0).bind fun t184 => ((laws_eqIntS.f k x5 t184).bind fun t187 => (if t187 = true then ((laws_markIntS.f k x5 1).bind fun bt188 => (if bt188.1 < 0 then (laws_FnExactDepthsOf.j1 k x0 x3 x4 x6 true) else ((laws_eqIntS.f k x6 x3).bind fun t190 => (if t190 = true then (laws_FnExactDepthsOf.j1 k x0 x3 x4 x6 (x7 != x4)) else (laws_FnExactDepthsOf.j1 k x0 x3 x4 x6 true))))) else (some false))))
def laws_FnExactDepthsOf.j1 : Nat → List Int → List Int → Bool → List Int → Bool → Option (Bool)
  | 0, _, _, _, _, _ => none
  | k + 1, x0, x3, x4, x6, x58 => if x58 = true then (some false) else ((laws_markIntS.f k x6 1).bind fun bt191 => ((laws_heldIntS.f k bt191.2 1).bind fun t193 => (if t193 < 0 then (some false) else (if t193 = bt191.1 then ((laws_toIntS.f k x0).bind fun t194 => ((impl_DepthsOf.f k t194).bind fun bt197 => ((laws_eqIntS.f k bt197.1 x3).bind fun t201 => (if t201 = true then (laws_FnExactDepthsOf.j2 k bt191.2 bt191.1 (bt197.2 != x4)) else (laws_FnExactDepthsOf.j2 k bt191.2 bt191.1 true))))) else (some false)))))
def laws_FnExactDepthsOf.j2 : Nat → List Int → Int → Bool → Option (Bool)
  | 0, _, _, _ => none
  | k + 1, x6, x9, x84 => if x84 = true then (some false) else ((laws_heldIntS.f k x6 1).bind fun t202 => (if t202 < 0 then (some false) else (if t202 = x9 then (some true) else (some false))))
end
def laws_FnExactDepthsOf.f (k : Nat) (l0 : List Int) : Option (Bool) := if (l0.length : Int) > 1048576 then (some true) else ((laws_toIntS.f k l0).bind fun t169 => ((spec_DepthsOf.f k t169).bind fun bt172 => ((laws_toIntS.f k l0).bind fun t176 => ((impl_DepthsOf.f k t176).bind fun bt179 => ((laws_eqIntS.f k bt179.1 bt172.1).bind fun t183 => (if t183 = true then (laws_FnExactDepthsOf.j0 k l0 bt172.1 bt172.2 t176 bt179.1 bt179.2 (bt179.2 != bt172.2)) else (laws_FnExactDepthsOf.j0 k l0 bt172.1 bt172.2 t176 bt179.1 bt179.2 true)))))))
def laws_FnExactDepthsOf.Pure : Prop := ∀ (l0 : List Int), l0.length ≤ maxLen → l0.length * 8 ≤ 140737488351232 → (∀ x ∈ l0, (Lit.int .i64 x).wf = true) → ∃ k, laws_FnExactDepthsOf.f k l0 = some true
def spec_mpRound.l0 : Nat → List Int → Int → List Int → Int → Option (List Int)
  | 0, _, _, _, _ => none
  | k + 1, x0, x1, x5, x6 => if x6 = x1 then (some x5) else (if x5.length < 17592186044416 then (if 0 ≤ x6 then (if x6 < (x0.length : Int) then (spec_mpRound.l0 k x0 x1 (x5 ++ [x6]) (rd x0 x6)) else (none)) else (none)) else (none))
def spec_mpRound.f (k : Nat) (l0 : List Int) (a1 : Int) : Option (List Int) := if 0 ≤ a1 then (if a1 < (l0.length : Int) then (spec_mpRound.l0 k l0 a1 (([a1] : List Int)) (rd l0 a1)) else (none)) else (none)
def spec_TailAndCycle.f (k : Nat) (l0 : List Int) (a1 : Int) : Option (Int × Int × Bool) := (spec_mpX.f k l0 a1).bind fun t133 => (if t133 = true then ((spec_mpCyclic.f k l0).bind fun t134 => ((spec_mpDepth.f k l0 t134 a1).bind fun t137 => ((spec_mpAt.f k l0 a1 t137).bind fun t138 => ((spec_mpRound.f k l0 t138).bind fun t139 => (some (t137, (t139.length : Int), true)))))) else (some (0, 0, false)))
def impl_TailAndCycle.f (k : Nat) (l0 : List Int) (a1 : Int) : Option (Int × Int × Bool) := (impl_asks.f l0 a1 0).bind fun t164 => (if t164 = true then ((impl_wayOf.f k l0 a1).bind fun bt165 => (some (bt165.2, wrap64 ((bt165.1.length : Int) - bt165.2), true))) else (some (0, 0, false)))
def laws_FnExactTailAndCycle.j0 : Nat → List Int → List Int → Bool → Option (Bool)
  | 0, _, _, _ => none
  | k + 1, x0, x8, x44 => if x44 = true then (some false) else ((laws_toIntS.f k x0).bind fun t181 => ((laws_eqIntS.f k x8 t181).bind fun t184 => (if t184 = true then (some true) else (some false))))
def laws_FnExactTailAndCycle.f (k : Nat) (l0 : List Int) (a1 : Int) : Option (Bool) := if (l0.length : Int) > 1048576 then (some true) else ((laws_toIntS.f k l0).bind fun t169 => ((spec_TailAndCycle.f k t169 a1).bind fun bt172 => ((laws_toIntS.f k l0).bind fun t175 => ((impl_TailAndCycle.f k t175 a1).bind fun bt178 => (if bt178.1 = bt172.1 then (if bt178.2.1 = bt172.2.1 then (laws_FnExactTailAndCycle.j0 k l0 t175 (bt178.2.2 != bt172.2.2)) else (laws_FnExactTailAndCycle.j0 k l0 t175 true)) else (laws_FnExactTailAndCycle.j0 k l0 t175 true))))))
def laws_FnExactTailAndCycle.Pure : Prop := ∀ (l0 : List Int) (a1 : Int), l0.length ≤ maxLen → l0.length * 8 ≤ 140737488351232 → (∀ x ∈ l0, (Lit.int .i64 x).wf = true) → (Lit.int .i64 a1).wf = true → ∃ k, laws_FnExactTailAndCycle.f k l0 a1 = some true
mutual
def spec_PowerOfMap.j0 : Nat → List Int → Int → Bool → Option (List Int × Bool)
  | 0, _, _, _ => none
  | k + 1, x0, x1, x19 => if x19 = true then (some (([] : List Int), false)) else ((spec_mpDepths.f k x0).bind fun t143 => ((spec_mpCyclic.f k x0).bind fun t146 => (spec_PowerOfMap.l0 k x0 x1 t143 t146 ([] : List Int) (x0.length : Int) 0)))
def spec_PowerOfMap.l0 : Nat → List Int → Int → List Int → List Bool → List Int → Int → Int → Option (List Int × Bool)
  | 0, _, _, _, _, _, _, _ => none
  | k + 1, x0, x1, x6, x7, x8, x25, x26 => if x26 < x25 then (if 0 ≤ x26 then (if x26 < (x6.length : Int) then (if x1 > (rd x6 x26) then ((spec_mpAt.f k x0 x26 (rd x6 x26)).bind fun t151 => (if 0 ≤ t151 then (if t151 < (x7.length : Int) then (if rdOf false x7 t151 = true then ((spec_mpRound.f k x0 t151).bind fun t155 => (if (t155.length : Int) = 0 then (none) else ((spec_mpAt.f k x0 x26 (wrap64 ((rd x6 x26) + (Int.tmod (wrap64 (x1 - (rd x6 x26))) (t155.length : Int))))).bind fun t158 => (if x8.length < 17592186044416 then (spec_PowerOfMap.l0 k x0 x1 x6 x7 (x8 ++ [t158]) x25 (wrap64 (x26 + 1))) else (none))))) else ((spec_mpAt.f k x0 x26 (rd x6 x26)).bind fun t162 => (if x8.length < 17592186044416 then (spec_PowerOfMap.l0 k x0 x1 x6 x7 (x8 ++ [t162]) x25 (wrap64 (x26 + 1))) else (none)))) else (none)) else (none))) else ((spec_mpAt.f k x0 x26 x1).bind fun t166 => (if x8.length < 17592186044416 then (spec_PowerOfMap.l0 k x0 x1 x6 x7 (x8 ++ [t166]) x25 (wrap64 (x26 + 1))) else (none)))) else (none)) else (none)) else (some (x8, true))
end
def spec_PowerOfMap.f (k : Nat) (l0 : List Int) (a1 : Int) : Option (List Int × Bool) := (spec_mpGood.f k l0).bind fun t141 => (if t141 = true then ((spec_mpSteps.f a1).bind fun t142 => (spec_PowerOfMap.j0 k l0 a1 (!t142))) else (spec_PowerOfMap.j0 k l0 a1 true))
mutual
def impl_power.l0 : Nat → List Int → Int → List Int → Int → Int → Option (List Int)
  | 0, _, _, _, _, _ => none
  | k + 1, x0, x1, x5, x9, x10 => if x10 < x9 then (if x5.length < 17592186044416 then (impl_power.l0 k x0 x1 (x5 ++ [x10]) x9 (wrap64 (x10 + 1))) else (none)) else (impl_power.l1 k x0 x1 x5)
def impl_power.l1 : Nat → List Int → Int → List Int → Option (List Int)
  | 0, _, _, _ => none
  | k + 1, x0, x1, x5 => if x1 > 0 then (if (Int.tmod x1 2) = 1 then ((impl_composed.f k x5 x0).bind fun t188 => ((impl_composed.f k x0 x0).bind fun t191 => (impl_power.l1 k t191 (wrap64 (Int.tdiv x1 2)) t188))) else ((impl_composed.f k x0 x0).bind fun t194 => (impl_power.l1 k t194 (wrap64 (Int.tdiv x1 2)) x5))) else (some x5)
end
def impl_power.f (k : Nat) (l0 : List Int) (a1 : Int) : Option (List Int) := impl_power.l0 k l0 a1 (([] : List Int)) (l0.length : Int) 0
def impl_PowerOfMap.f (k : Nat) (l0 : List Int) (a1 : Int) : Option (List Int × Bool) := (impl_asks.f l0 0 a1).bind fun t197 => (if t197 = true then ((impl_power.f k l0 a1).bind fun t198 => (some (t198, true))) else (some (([] : List Int), false)))
mutual
def laws_FnExactPowerOfMap.j0 : Nat → List Int → Int → List Int → Bool → List Int → List Int → Bool → Bool → Option (Bool)
  | 0, _, _, _, _, _, _, _, _ => none
  | k + 1, x0, x1, x5, x6, x7, x8, x9, x41 => if x41 = true then (some false) else ((laws_toIntS.f k x0).bind fun t216 => ((laws_eqIntS.f k x7 t216).bind fun t219 => (if t219 = true then ((laws_markIntS.f k x7 1).bind fun bt220 => (if bt220.1 < 0 then (laws_FnExactPowerOfMap.j1 k x0 x1 x5 x6 x8 true) else ((laws_eqIntS.f k x8 x5).bind fun t222 => (if t222 = true then (laws_FnExactPowerOfMap.j1 k x0 x1 x5 x6 x8 (x9 != x6)) else (laws_FnExactPowerOfMap.j1 k x0 x1 x5 x6 x8 true))))) else (some false))))
def laws_FnExactPowerOfMap.j1 : Nat → List Int → Int → List Int → Bool → List Int → Bool → Option (Bool)
  | 0, _, _, _, _, _, _ => none
  | k + 1, x0, x1, x5, x6, x8, x62 => if x62 = true then (some false) else ((laws_markIntS.f k x8 1).bind fun bt223 => ((laws_heldIntS.f k bt223.2 1).bind fun t225 => (if t225 < 0 then (some false) else (if t225 = bt223.1 then ((laws_toIntS.f k x0).bind fun t226 => ((impl_PowerOfMap.f k t226 x1).bind fun bt229 => ((laws_eqIntS.f k bt229.1 x5).bind fun t233 => (if t233 = true then (laws_FnExactPowerOfMap.j2 k bt223.2 bt223.1 (bt229.2 != x6)) else (laws_FnExactPowerOfMap.j2 k bt223.2 bt223.1 true))))) else (some false)))))
def laws_FnExactPowerOfMap.j2 : Nat → List Int → Int → Bool → Option (Bool)
  | 0, _, _, _ => none
  | k + 1, x8, x11, x89 => if x89 = true then (some false) else ((laws_heldIntS.f k x8 1).bind fun t234 => (if t234 < 0 then (some false) else (if t234 = x11 then (some true) else (some false))))
end
def laws_FnExactPowerOfMap.f (k : Nat) (l0 : List Int) (a1 : Int) : Option (Bool) := if (l0.length : Int) > 1048576 then (some true) else ((laws_toIntS.f k l0).bind fun t201 => ((spec_PowerOfMap.f k t201 a1).bind fun bt204 => ((laws_toIntS.f k l0).bind fun t208 => ((impl_PowerOfMap.f k t208 a1).bind fun bt211 => ((laws_eqIntS.f k bt211.1 bt204.1).bind fun t215 => (if t215 = true then (laws_FnExactPowerOfMap.j0 k l0 a1 bt204.1 bt204.2 t208 bt211.1 bt211.2 (bt211.2 != bt204.2)) else (laws_FnExactPowerOfMap.j0 k l0 a1 bt204.1 bt204.2 t208 bt211.1 bt211.2 true)))))))
def laws_FnExactPowerOfMap.Pure : Prop := ∀ (l0 : List Int) (a1 : Int), l0.length ≤ maxLen → l0.length * 8 ≤ 140737488351232 → (∀ x ∈ l0, (Lit.int .i64 x).wf = true) → (Lit.int .i64 a1).wf = true → ∃ k, laws_FnExactPowerOfMap.f k l0 a1 = some true
def spec_l1Has.l0 : Nat → Int → List Int → Int → Int → Option (Bool)
  | 0, _, _, _, _ => none
  | k + 1, x1, x7, x8, x9 => if x9 < x8 then (if 0 ≤ x9 then (if x9 < (x7.length : Int) then (if (rd x7 x9) = x1 then (some true) else (spec_l1Has.l0 k x1 x7 x8 (wrap64 (x9 + 1)))) else (none)) else (none)) else (some false)
def spec_l1Has.f (k : Nat) (l0 : List Int) (a1 : Int) : Option (Bool) := spec_l1Has.l0 k a1 l0 (l0.length : Int) 0
mutual
def spec_mpNames.j0 : Nat → List Int → Bool → Option (Bool)
  | 0, _, _ => none
  | k + 1, x0, x17 => if x17 = true then (some false) else (spec_mpNames.l0 k x0 x0 (x0.length : Int) 0)
def spec_mpNames.l0 : Nat → List Int → List Int → Int → Int → Option (Bool)
  | 0, _, _, _, _ => none
  | k + 1, x0, x18, x19, x20 => if x20 < x19 then (if 0 ≤ x20 then (if x20 < (x18.length : Int) then (if x20 ≤ (x0.length : Int) then ((spec_l1Has.f k (x0.take (x20 : Int).toNat) (rd x18 x20)).bind fun t118 => (if t118 = true then (some false) else (spec_mpNames.l0 k x0 x18 x19 (wrap64 (x20 + 1))))) else (none)) else (none)) else (none)) else (some true)
end
def spec_mpNames.f (k : Nat) (l0 : List Int) (a1 : Int) : Option (Bool) := if (l0.length : Int) = a1 then ((spec_l1All.f k l0 0 (wrap64 (a1 - 1))).bind fun t115 => (spec_mpNames.j0 k l0 (!t115))) else (spec_mpNames.j0 k l0 true)
mutual
def spec_RenameMap.j0 : Nat → List Int → List Int → Bool → Option (List Int × Bool)
  | 0, _, _, _ => none
  | k + 1, x0, x1, x18 => if x18 = true then (some (([] : List Int), false)) else (if 0 ≤ (x0.length : Int) then (if ((x0.length : Int) : Int).toNat ≤ 35184372088832 then (spec_RenameMap.l0 k x1 (List.replicate ((x0.length : Int) : Int).toNat 0) x0 (x0.length : Int) 0) else (none)) else (none))
def spec_RenameMap.l0 : Nat → List Int → List Int → List Int → Int → Int → Option (List Int × Bool)
  | 0, _, _, _, _, _ => none
  | k + 1, x1, x6, x22, x23, x24 => if x24 < x23 then (if 0 ≤ x24 then (if x24 < (x22.length : Int) then (if x24 < (x1.length : Int) then (if 0 ≤ (rd x22 x24) then (if (rd x22 x24) < (x1.length : Int) then (if 0 ≤ (rd x1 x24) then (if (rd x1 x24) < (x6.length : Int) then (spec_RenameMap.l0 k x1 (x6.set ((rd x1 x24) : Int).toNat (rd x1 (rd x22 x24))) x22 x23 (wrap64 (x24 + 1))) else (none)) else (none)) else (none)) else (none)) else (none)) else (none)) else (none)) else (some (x6, true))
end
def spec_RenameMap.f (k : Nat) (l0 : List Int) (l1 : List Int) : Option (List Int × Bool) := (spec_mpGood.f k l0).bind fun t119 => (if t119 = true then ((spec_mpNames.f k l1 (l0.length : Int)).bind fun t120 => (spec_RenameMap.j0 k l0 l1 (!t120))) else (spec_RenameMap.j0 k l0 l1 true))
mutual
def impl_RenameMap.j0 : Nat → List Int → List Int → Bool → Option (List Int × Bool)
  | 0, _, _, _ => none
  | k + 1, x0, x1, x30 => if x30 = true then (some (([] : List Int), false)) else ((slices_Repeat_int_int.f (([(-1)] : List Int)) (x0.length : Int)).bind fun t148 => (impl_RenameMap.l0 k x1 t148 x0 (x0.length : Int) 0))
def impl_RenameMap.l0 : Nat → List Int → List Int → List Int → Int → Int → Option (List Int × Bool)
  | 0, _, _, _, _, _ => none
  | k + 1, x1, x6, x35, x36, x37 => if x37 < x36 then (if 0 ≤ x37 then (if x37 < (x35.length : Int) then (if x37 < (x1.length : Int) then (if 0 ≤ (rd x35 x37) then (if (rd x35 x37) < (x1.length : Int) then (if 0 ≤ (rd x1 x37) then (if (rd x1 x37) < (x6.length : Int) then (impl_RenameMap.l0 k x1 (x6.set ((rd x1 x37) : Int).toNat (rd x1 (rd x35 x37))) x35 x36 (wrap64 (x37 + 1))) else (none)) else (none)) else (none)) else (none)) else (none)) else (none)) else (none)) else (some (x6, true))
end
def impl_RenameMap.f (k : Nat) (l0 : List Int) (l1 : List Int) : Option (List Int × Bool) := (impl_IsMap.f l0).bind fun t139 => (if t139 = true then ((impl_areIn.f l1 0 (wrap64 ((l0.length : Int) - 1)) (l0.length : Int) (l0.length : Int)).bind fun t140 => (if t140 = true then ((impl_countsOf.f k l1 (l0.length : Int)).bind fun t141 => ((slices_Contains_int_int.f k t141 0).bind fun t144 => (impl_RenameMap.j0 k l0 l1 t144))) else (impl_RenameMap.j0 k l0 l1 true))) else (impl_RenameMap.j0 k l0 l1 true))
mutual
def laws_FnExactRenameMap.j0 : Nat → List Int → List Int → List Int → Bool → List Int → List Int → List Int → Bool → Bool → Option (Bool)
  | 0, _, _, _, _, _, _, _, _, _ => none
  | k + 1, x0, x1, x5, x6, x7, x8, x9, x10, x48 => if x48 = true then (some false) else ((laws_toIntS.f k x0).bind fun t176 => ((laws_eqIntS.f k x7 t176).bind fun t179 => (if t179 = true then ((laws_toIntS.f k x1).bind fun t180 => ((laws_eqIntS.f k x8 t180).bind fun t183 => (if t183 = true then ((laws_markIntS.f k x7 1).bind fun bt184 => ((laws_markIntS.f k x8 bt184.1).bind fun bt186 => (if bt186.1 < 0 then (laws_FnExactRenameMap.j1 k x0 x1 x5 x6 x9 true) else ((laws_eqIntS.f k x9 x5).bind fun t188 => (if t188 = true then (laws_FnExactRenameMap.j1 k x0 x1 x5 x6 x9 (x10 != x6)) else (laws_FnExactRenameMap.j1 k x0 x1 x5 x6 x9 true)))))) else (some false)))) else (some false))))
def laws_FnExactRenameMap.j1 : Nat → List Int → List Int → List Int → Bool → List Int → Bool → Option (Bool)
  | 0, _, _, _, _, _, _ => none
  | k + 1, x0, x1, x5, x6, x9, x77 => if x77 = true then (some false) else ((laws_markIntS.f k x9 1).bind fun bt189 => ((laws_heldIntS.f k bt189.2 1).bind fun t191 => (if t191 < 0 then (some false) else (if t191 = bt189.1 then ((laws_toIntS.f k x0).bind fun t192 => ((laws_toIntS.f k x1).bind fun t195 => ((impl_RenameMap.f k t192 t195).bind fun bt198 => ((laws_eqIntS.f k bt198.1 x5).bind fun t202 => (if t202 = true then (laws_FnExactRenameMap.j2 k bt189.2 bt189.1 (bt198.2 != x6)) else (laws_FnExactRenameMap.j2 k bt189.2 bt189.1 true)))))) else (some false)))))
def laws_FnExactRenameMap.j2 : Nat → List Int → Int → Bool → Option (Bool)
  | 0, _, _, _ => none
  | k + 1, x9, x12, x105 => if x105 = true then (some false) else ((laws_heldIntS.f k x9 1).bind fun t203 => (if t203 < 0 then (some false) else (if t203 = x12 then (some true) else (some false))))
end
def laws_FnExactRenameMap.f (k : Nat) (l0 : List Int) (l1 : List Int) : Option (Bool) := if (l0.length : Int) > 1048576 then (some true) else (if (l1.length : Int) > 1048576 then (some true) else ((laws_toIntS.f k l0).bind fun t155 => ((laws_toIntS.f k l1).bind fun t158 => ((spec_RenameMap.f k t155 t158).bind fun bt161 => ((laws_toIntS.f k l0).bind fun t165 => ((laws_toIntS.f k l1).bind fun t168 => ((impl_RenameMap.f k t165 t168).bind fun bt171 => ((laws_eqIntS.f k bt171.1 bt161.1).bind fun t175 => (if t175 = true then (laws_FnExactRenameMap.j0 k l0 l1 bt161.1 bt161.2 t165 t168 bt171.1 bt171.2 (bt171.2 != bt161.2)) else (laws_FnExactRenameMap.j0 k l0 l1 bt161.1 bt161.2 t165 t168 bt171.1 bt171.2 true))))))))))
def laws_FnExactRenameMap.Pure : Prop := ∀ (l0 : List Int) (l1 : List Int), l0.length ≤ maxLen → l0.length * 8 ≤ 140737488351232 → (∀ x ∈ l0, (Lit.int .i64 x).wf = true) → l1.length ≤ maxLen → l1.length * 8 ≤ 140737488351232 → (∀ x ∈ l1, (Lit.int .i64 x).wf = true) → ∃ k, laws_FnExactRenameMap.f k l0 l1 = some true
def rd_L2 (xs : List (List Int)) (i : Int) : (List Int) := xs.getD i.toNat ([] : List Int)
mutual
def spec_mpCycles.l0 : Nat → List Int → List Bool → List Bool → List (List Int) → Int → Int → Option ((List (List Int)))
  | 0, _, _, _, _, _, _ => none
  | k + 1, x0, x3, x4, x5, x16, x17 => if x17 < x16 then (if 0 ≤ x17 then (if x17 < (x3.length : Int) then (if rdOf false x3 x17 = true then (if x17 < (x4.length : Int) then (spec_mpCycles.j1 k x0 x3 x4 x5 x17 x16 x17 (!(rdOf false x4 x17))) else (none)) else (spec_mpCycles.j1 k x0 x3 x4 x5 x17 x16 x17 false)) else (none)) else (none)) else (some x5)
def spec_mpCycles.j1 : Nat → List Int → List Bool → List Bool → List (List Int) → Int → Int → Int → Bool → Option ((List (List Int)))
  | 0, _, _, _, _, _, _, _, _ => none
  | k + 1, x0, x3, x4, x5, x6, x16, x17, x30 => if x30 = true then ((spec_mpRound.f k x0 x6).bind fun t138 => (spec_mpCycles.l1 k x0 x3 x4 x5 t138 x16 x17 (t138.length : Int) 0)) else (spec_mpCycles.l0 k x0 x3 x4 x5 x16 (wrap64 (x17 + 1)))
def spec_mpCycles.l1 : Nat → List Int → List Bool → List Bool → List (List Int) → List Int → Int → Int → Int → Int → Option ((List (List Int)))
  | 0, _, _, _, _, _, _, _, _, _ => none
  | k + 1, x0, x3, x4, x5, x7, x16, x17, x35, x36 => if x36 < x35 then (if 0 ≤ x36 then (if x36 < (x7.length : Int) then (if 0 ≤ (rd x7 x36) then (if (rd x7 x36) < (x4.length : Int) then (spec_mpCycles.l1 k x0 x3 (x4.set ((rd x7 x36) : Int).toNat true) x5 x7 x16 x17 x35 (wrap64 (x36 + 1))) else (none)) else (none)) else (none)) else (none)) else (if x5.length < 5864062014805 then (spec_mpCycles.l0 k x0 x3 x4 (x5 ++ [x7]) x16 (wrap64 (x17 + 1))) else (none))
end
def spec_mpCycles.f (k : Nat) (l0 : List Int) : Option ((List (List Int))) := (spec_mpCyclic.f k l0).bind fun t130 => (if 0 ≤ (l0.length : Int) then (if ((l0.length : Int) : Int).toNat ≤ 281474976710656 then (spec_mpCycles.l0 k l0 t130 (List.replicate ((l0.length : Int) : Int).toNat false) ([] : List (List Int)) (l0.length : Int) 0) else (none)) else (none))
mutual
def spec_CountFixedBy.j0 : Nat → List Int → Int → Bool → Option (Int × Bool)
  | 0, _, _, _ => none
  | k + 1, x0, x1, x16 => if x16 = true then (some (0, false)) else (if x1 = 0 then (some ((x0.length : Int), true)) else ((spec_mpCycles.f k x0).bind fun t148 => (spec_CountFixedBy.l0 k x1 0 t148 (t148.length : Int) 0)))
def spec_CountFixedBy.l0 : Nat → Int → Int → List (List Int) → Int → Int → Option (Int × Bool)
  | 0, _, _, _, _, _ => none
  | k + 1, x1, x6, x22, x23, x24 => if x24 < x23 then (if 0 ≤ x24 then (if x24 < (x22.length : Int) then (if ((rd_L2 x22 x24).length : Int) = 0 then (none) else (if (Int.tmod x1 ((rd_L2 x22 x24).length : Int)) = 0 then (spec_CountFixedBy.l0 k x1 (wrap64 (x6 + ((rd_L2 x22 x24).length : Int))) x22 x23 (wrap64 (x24 + 1))) else (spec_CountFixedBy.l0 k x1 x6 x22 x23 (wrap64 (x24 + 1))))) else (none)) else (none)) else (some (x6, true))
end
def spec_CountFixedBy.f (k : Nat) (l0 : List Int) (a1 : Int) : Option (Int × Bool) := (spec_mpGood.f k l0).bind fun t146 => (if t146 = true then ((spec_mpSteps.f a1).bind fun t147 => (spec_CountFixedBy.j0 k l0 a1 (!t147))) else (spec_CountFixedBy.j0 k l0 a1 true))
def impl_CountFixedBy.l0 : Nat → Int → List Int → Int → Int → Option (Int × Bool)
  | 0, _, _, _, _ => none
  | k + 1, x6, x15, x16, x17 => if x17 < x16 then (if 0 ≤ x17 then (if x17 < (x15.length : Int) then (if x17 = (rd x15 x17) then (impl_CountFixedBy.l0 k (wrap64 (x6 + 1)) x15 x16 (wrap64 (x17 + 1))) else (impl_CountFixedBy.l0 k x6 x15 x16 (wrap64 (x17 + 1)))) else (none)) else (none)) else (some (x6, true))
def impl_CountFixedBy.f (k : Nat) (l0 : List Int) (a1 : Int) : Option (Int × Bool) := (impl_asks.f l0 0 a1).bind fun t179 => (if t179 = true then ((impl_power.f k l0 a1).bind fun t180 => (impl_CountFixedBy.l0 k 0 t180 (t180.length : Int) 0)) else (some (0, false)))
def laws_FnExactCountFixedBy.j0 : Nat → List Int → List Int → Bool → Option (Bool)
  | 0, _, _, _ => none
  | k + 1, x0, x7, x35 => if x35 = true then (some false) else ((laws_toIntS.f k x0).bind fun t194 => ((laws_eqIntS.f k x7 t194).bind fun t197 => (if t197 = true then (some true) else (some false))))
def laws_FnExactCountFixedBy.f (k : Nat) (l0 : List Int) (a1 : Int) : Option (Bool) := if (l0.length : Int) > 1048576 then (some true) else ((laws_toIntS.f k l0).bind fun t184 => ((spec_CountFixedBy.f k t184 a1).bind fun bt187 => ((laws_toIntS.f k l0).bind fun t189 => ((impl_CountFixedBy.f k t189 a1).bind fun bt192 => (if bt192.1 = bt187.1 then (laws_FnExactCountFixedBy.j0 k l0 t189 (bt192.2 != bt187.2)) else (laws_FnExactCountFixedBy.j0 k l0 t189 true))))))
def laws_FnExactCountFixedBy.Pure : Prop := ∀ (l0 : List Int) (a1 : Int), l0.length ≤ maxLen → l0.length * 8 ≤ 140737488351232 → (∀ x ∈ l0, (Lit.int .i64 x).wf = true) → (Lit.int .i64 a1).wf = true → ∃ k, laws_FnExactCountFixedBy.f k l0 a1 = some true
end Go.Proofs.YtcaohpcbohdkbaaGreatC
end
section
namespace Go.Proofs.YtcaohpcbohdkbaaGreatC
open Go.RowKit Go.Proofs.YtcaohpcbohdkbaaGreatW.PrintWords Go.Proofs.YtcaohpcbohdkbaaGreatW.PrintMore
set_option linter.unusedSimpArgs false
set_option linter.unusedVariables false
theorem stepN_it (l : List Int) (x : Int) : ∀ n, stepN l n x = it (rd l) x n
  | 0 => rfl
  | n + 1 => by
    show rd l (stepN l n x) = rd l (it (rd l) x n)
    rw [stepN_it l x n]
theorem at_eq {l : List Int} (h : MapL l) {x : Int} (hx : Has l x) (n : Nat) (hn : n ≤ 1000000000) {k : Nat} (hk : n < k) : spec_mpAt.f k l x (n : Int) = some (it (rd l) x n) := by
  rw [mpAt_eq h hx.1 hx.2 n hn k hk, stepN_it]
def cycL (l : List Int) : List Bool := (List.range l.length).map (fun (i : Nat) => cyc l (i : Int))
theorem cycL_length (l : List Int) : (cycL l).length = l.length := by simp [cycL]
theorem rdOf_map (g : Nat → Bool) (n i : Nat) (h : i < n) : rdOf false ((List.range n).map g) (i : Int) = g i := by
  simp [rdOf, List.getD_eq_getElem?_getD, h]
theorem cycL_at {l : List Int} {x : Int} (hx : Has l x) : rdOf false (cycL l) x = cyc l x := by
  obtain ⟨i, rfl⟩ := Int.eq_ofNat_of_zero_le hx.1
  exact rdOf_map _ _ _ (by have := hx.2; omega)
def marked (l : List Int) (i : Nat) : List Bool := (List.range l.length).map (fun (y : Nat) => (List.range i).any (fun (j : Nat) => decide (it (rd l) (j : Int) l.length = (y : Int))))
theorem marked_length (l : List Int) (i : Nat) : (marked l i).length = l.length := by simp [marked]
theorem marked_zero (l : List Int) : marked l 0 = List.replicate l.length false := by
  apply List.ext_getElem
  · simp [marked]
  · intro i h1 h2; simp [marked]
theorem marked_succ (l : List Int) (h : MapL l) (i : Nat) (hi : i < l.length) : (marked l i).set (it (rd l) (i : Int) l.length).toNat true = marked l (i + 1) := by
  have hx := it_has h (x := (i : Int)) ⟨by omega, by omega⟩ l.length
  apply List.ext_getElem
  · simp [marked]
  · intro y h1 h2
    rw [List.getElem_set]
    simp only [marked, List.getElem_map, List.getElem_range, List.range_succ, List.any_append, List.any_cons, List.any_nil, Bool.or_false]
    by_cases e : (it (rd l) (i : Int) l.length).toNat = y
    · rw [if_pos e, decide_eq_true (show it (rd l) (i : Int) l.length = (y : Int) by have := hx.1; omega), Bool.or_true]
    · rw [if_neg e, decide_eq_false (show ¬ it (rd l) (i : Int) l.length = (y : Int) by intro h3; apply e; omega), Bool.or_false]
theorem marked_all (l : List Int) (h : MapL l) : marked l l.length = cycL l := by
  apply List.ext_getElem
  · simp [marked, cycL]
  · intro y h1 h2
    rw [marked_length] at h1
    have hy : Has l (y : Int) := ⟨by omega, by omega⟩
    simp only [marked, cycL, List.getElem_map, List.getElem_range]
    apply Bool.eq_iff_iff.2
    rw [List.any_eq_true]
    constructor
    · rintro ⟨j, hj, e⟩
      rw [List.mem_range] at hj
      have hjx : Has l (j : Int) := ⟨by omega, by omega⟩
      have e2 : it (rd l) (j : Int) l.length = (y : Int) := by simpa using e
      rw [← e2, cyc_it h hjx, decide_eq_true_eq]
      have := rA_lt h hjx
      have := per_pos h hjx
      omega
    · intro hc
      obtain ⟨z, hz, _, e⟩ := cyc_from h hy hc l.length
      obtain ⟨j, rfl⟩ := Int.eq_ofNat_of_zero_le hz.1
      exact ⟨j, by rw [List.mem_range]; have := hz.2; omega, by simpa using e⟩
theorem mpCyclic_l0 {l : List Int} (h : MapL l) (hl : l.length ≤ 60) : ∀ (d i k : Nat), i + d = l.length → l.length < k → spec_mpCyclic.l0 (k + d + 1) l (marked l i) (l.length : Int) (i : Int) = spec_mpCyclic.l1 k l (cycL l) 0
  | 0, i, k, hi, hk => by
    obtain rfl : i = l.length := by omega
    rw [spec_mpCyclic.l0, if_neg (by omega), marked_all l h]
  | d + 1, i, k, hi, hk => by
    have hx := it_has h (x := (i : Int)) ⟨by omega, by omega⟩ l.length
    rw [show k + (d + 1) + 1 = (k + d + 1) + 1 by omega, spec_mpCyclic.l0, if_pos (by omega), at_eq h ⟨by omega, by omega⟩ l.length (by omega) (by omega), Option.bind_some, if_pos hx.1, if_pos (by rw [marked_length]; exact hx.2), marked_succ l h i (by omega), w64s (by omega)]
    exact mpCyclic_l0 h hl d (i + 1) k (by omega) hk
theorem cycL_set {l : List Int} (h : MapL l) {x : Int} (hx : Has l x) (hc : cyc l x = true) : (cycL l).set x.toNat true = cycL l := by
  apply List.ext_getElem
  · simp
  · intro y h1 h2
    rw [List.getElem_set]
    split
    · rename_i e
      simp only [cycL, List.getElem_map, List.getElem_range]
      rw [show (y : Int) = x by have := hx.1; omega, hc]
    · rfl
theorem mpCyclic_l2 {l : List Int} (h : MapL l) (hl : l.length ≤ 60) (x5 : Int) : ∀ (d i k : Nat), i + d = l.length → spec_mpCyclic.l2 (k + d + 1) l (cycL l) x5 (l.length : Int) (i : Int) = spec_mpCyclic.l1 k l (cycL l) (wrap64 (x5 + 1))
  | 0, i, k, hi => by
    rw [spec_mpCyclic.l2, if_neg (by omega)]
  | d + 1, i, k, hi => by
    have hx : Has l (i : Int) := ⟨by omega, by omega⟩
    have hn := rd_has h hx
    rw [show k + (d + 1) + 1 = (k + d + 1) + 1 by omega, spec_mpCyclic.l2, if_pos (by omega), if_pos (by omega), if_pos (by rw [cycL_length]; omega), cycL_at hx, cycL_length]
    have ih := mpCyclic_l2 h hl x5 d (i + 1) k (by omega)
    cases hc : cyc l (i : Int) with
    | true =>
      rw [if_pos rfl, if_pos (by omega), if_pos hn.1, if_pos hn.2, cycL_set h hn (cyc_next h hx hc), w64s (by omega)]
      exact ih
    | false =>
      rw [if_neg (by decide), w64s (by omega)]
      exact ih
theorem mpCyclic_l1 {l : List Int} (h : MapL l) (hl : l.length ≤ 60) : ∀ (d j : Nat), j + d = l.length → ∃ K, ∀ k, K ≤ k → spec_mpCyclic.l1 k l (cycL l) (j : Int) = some (cycL l)
  | 0, j, hj => ⟨1, fun k hk => by
    obtain ⟨k, rfl⟩ : ∃ q, k = q + 1 := ⟨k - 1, by omega⟩
    rw [spec_mpCyclic.l1, if_neg (by omega)]⟩
  | d + 1, j, hj => by
    obtain ⟨K, hK⟩ := mpCyclic_l1 h hl d (j + 1) (by omega)
    refine ⟨K + l.length + 2, fun k hk => ?_⟩
    obtain ⟨k, rfl⟩ : ∃ q, k = q + l.length + 1 + 1 := ⟨k - l.length - 2, by omega⟩
    rw [spec_mpCyclic.l1, if_pos (by omega), cycL_length]
    have := mpCyclic_l2 h hl (j : Int) l.length 0 k (by omega)
    rw [show ((0 : Nat) : Int) = 0 from rfl] at this
    rw [this, w64s (by omega)]
    exact hK k (by omega)
theorem mpCyclic_eq {l : List Int} (h : MapL l) (hl : l.length ≤ 60) : ∃ K, ∀ k, K ≤ k → spec_mpCyclic.f k l = some (cycL l) := by
  obtain ⟨K, hK⟩ := mpCyclic_l1 h hl l.length 0 (by omega)
  refine ⟨K + 2 * l.length + 3, fun k hk => ?_⟩
  obtain ⟨k, rfl⟩ : ∃ q, k = q + l.length + 1 := ⟨k - l.length - 1, by omega⟩
  rw [spec_mpCyclic.f, if_pos (by omega), if_pos (by rw [Int.toNat_natCast]; omega), Int.toNat_natCast, ← marked_zero]
  have := mpCyclic_l0 h hl l.length 0 k (by omega) (by omega)
  rw [show ((0 : Nat) : Int) = 0 from rfl] at this
  rw [this]
  exact hK k (by omega)
theorem mpDepth_loop {l : List Int} (h : MapL l) (hl : l.length ≤ 60) : ∀ (a : Nat) (x : Int) (c k : Nat), Has l x → rA l x = a → c + a ≤ 1000 → a < k → spec_mpDepth.l0 k l (cycL l) x (c : Int) = some ((c + a : Nat) : Int)
  | 0, x, c, k, hx, ha, hc, hk => by
    obtain ⟨k, rfl⟩ : ∃ q, k = q + 1 := ⟨k - 1, by omega⟩
    rw [spec_mpDepth.l0, if_pos hx.1, if_pos (by rw [cycL_length]; exact hx.2), cycL_at hx, if_pos (by simp [cyc, ha])]
    rfl
  | a + 1, x, c, k, hx, ha, hc, hk => by
    obtain ⟨k, rfl⟩ : ∃ q, k = q + 1 := ⟨k - 1, by omega⟩
    rw [spec_mpDepth.l0, if_pos hx.1, if_pos (by rw [cycL_length]; exact hx.2), cycL_at hx, if_neg (by simp [cyc, ha]), if_pos hx.2, w64s (by omega), mpDepth_loop h hl a (rd l x) (c + 1) k (rd_has h hx) (by have := (rA_next h hx).1; omega) (by omega) (by omega)]
    congr 2
    omega
theorem mpDepth_eq {l : List Int} (h : MapL l) (hl : l.length ≤ 60) {x : Int} (hx : Has l x) {k : Nat} (hk : l.length < k) : spec_mpDepth.f k l (cycL l) x = some (rA l x : Int) := by
  have h1 := rA_lt h hx
  have := mpDepth_loop h hl (rA l x) x 0 k hx rfl (by omega) (by omega)
  rw [Nat.zero_add] at this
  exact this
def upTo (g : Nat → Int) (n : Nat) : List Int := (List.range n).map g
theorem upTo_length (g : Nat → Int) (n : Nat) : (upTo g n).length = n := by simp [upTo]
theorem upTo_succ (g : Nat → Int) (n : Nat) : upTo g (n + 1) = upTo g n ++ [g n] := by simp [upTo, List.range_succ]
theorem upTo_at (g : Nat → Int) {n i : Nat} (h : i < n) : rd (upTo g n) (i : Int) = g i := by
  simp [rd, upTo, List.getD_eq_getElem?_getD, h]
def dep (l : List Int) (i : Nat) : Int := (rA l (i : Int) : Int)
theorem mpDepths_loop {l : List Int} (h : MapL l) (hl : l.length ≤ 60) : ∀ (d i k : Nat), i + d = l.length → l.length + d < k → spec_mpDepths.l0 k l (cycL l) (upTo (dep l) i) (l.length : Int) (i : Int) = some (upTo (dep l) l.length)
  | 0, i, k, hi, hk => by
    obtain ⟨k, rfl⟩ : ∃ q, k = q + 1 := ⟨k - 1, by omega⟩
    obtain rfl : i = l.length := by omega
    rw [spec_mpDepths.l0, if_neg (by omega)]
  | d + 1, i, k, hi, hk => by
    obtain ⟨k, rfl⟩ : ∃ q, k = q + 1 := ⟨k - 1, by omega⟩
    rw [spec_mpDepths.l0, if_pos (by omega), mpDepth_eq h hl ⟨by omega, by omega⟩ (by omega), Option.bind_some, if_pos (by rw [upTo_length]; omega), w64s (by omega)]
    have := mpDepths_loop h hl d (i + 1) k (by omega) (by omega)
    rw [upTo_succ] at this
    exact this
theorem mpDepths_eq {l : List Int} (h : MapL l) (hl : l.length ≤ 60) : ∃ K, ∀ k, K ≤ k → spec_mpDepths.f k l = some (upTo (dep l) l.length) ∧ spec_mpCyclic.f k l = some (cycL l) := by
  obtain ⟨K, hK⟩ := mpCyclic_eq h hl
  refine ⟨K + 2 * l.length + 1, fun k hk => ⟨?_, hK k (by omega)⟩⟩
  rw [spec_mpDepths.f, hK k (by omega), Option.bind_some]
  exact mpDepths_loop h hl l.length 0 k (by omega) (by omega)
def seenL (l : List Int) (x : Int) (i : Nat) : List Int := upTo (fun y => if (y : Int) ∈ orbit (rd l) x i then ((orbit (rd l) x i).idxOf (y : Int) : Int) else -1) l.length
theorem seenL_zero (l : List Int) (x : Int) : seenL l x 0 = List.replicate l.length (-1) := by
  apply List.ext_getElem
  · simp [seenL, upTo]
  · intro i h1 h2
    simp [seenL, upTo, orbit]
theorem seenL_succ {l : List Int} (h : MapL l) {x : Int} (hx : Has l x) {i : Nat} (hn : ¬ it (rd l) x i ∈ orbit (rd l) x i) : (seenL l x i).set (it (rd l) x i).toNat (i : Int) = seenL l x (i + 1) := by
  have hy := it_has h hx i
  apply List.ext_getElem
  · simp [seenL, upTo]
  · intro y h1 h2
    rw [List.getElem_set]
    simp only [seenL, upTo, List.getElem_map, List.getElem_range, orbit_succ, List.mem_append, List.mem_singleton]
    by_cases e : (it (rd l) x i).toNat = y
    · have e2 : (y : Int) = it (rd l) x i := by have := hy.1; omega
      rw [if_pos e, if_pos (Or.inr e2), e2, List.idxOf_append, if_neg hn, orbit_length]
      simp
    · have e2 : ¬ (y : Int) = it (rd l) x i := fun h3 => e (by omega)
      rw [if_neg e]
      by_cases hm : (y : Int) ∈ orbit (rd l) x i
      · rw [if_pos hm, if_pos (Or.inl hm), List.idxOf_append, if_pos hm]
      · rw [if_neg hm, if_neg (by rintro (h3 | h3); exact hm h3; exact e2 h3)]
theorem wayOf_loop {l : List Int} (h : MapL l) (hl : l.length ≤ 60) {x : Int} (hx : Has l x) {m a : Nat} (hr : Rho (rd l) x m a) (hm : m ≤ 60) : ∀ (d i k : Nat), i + d = m → d < k →
    impl_wayOf.l0 k l (it (rd l) x i) (seenL l x i) (orbit (rd l) x i) = some (orbit (rd l) x m, (a : Int))
  | 0, i, k, hi, hk => by
    obtain ⟨k, rfl⟩ : ∃ q, k = q + 1 := ⟨k - 1, by omega⟩
    obtain rfl : i = m := by omega
    have hy := it_has h hx i
    have hmem : it (rd l) x i ∈ orbit (rd l) x i := by rw [hr.back]; exact mem_orbit.2 ⟨a, hr.lt, rfl⟩
    have e : rd (seenL l x i) (it (rd l) x i) = (a : Int) := by
      obtain ⟨y, hy2⟩ := Int.eq_ofNat_of_zero_le hy.1
      rw [hy2]
      rw [hy2] at hmem hy
      rw [seenL, upTo_at _ (by have := hy.2; omega), if_pos hmem, ← hy2, hr.back, idxOf_orbit hr.inj hr.lt]
    rw [impl_wayOf.l0, if_pos hy.1, if_pos (by rw [seenL, upTo_length]; exact hy.2), e, if_neg (by omega)]
  | d + 1, i, k, hi, hk => by
    obtain ⟨k, rfl⟩ : ∃ q, k = q + 1 := ⟨k - 1, by omega⟩
    have hy := it_has h hx i
    have hmem := hr.fresh (i := i) (by omega)
    have e : rd (seenL l x i) (it (rd l) x i) = -1 := by
      obtain ⟨y, hy2⟩ := Int.eq_ofNat_of_zero_le hy.1
      rw [hy2]
      rw [hy2] at hmem hy
      rw [seenL, upTo_at _ (by have := hy.2; omega), if_neg hmem]
    rw [impl_wayOf.l0, if_pos hy.1, if_pos (by rw [seenL, upTo_length]; exact hy.2), e, if_pos (by omega), if_pos (by rw [orbit_length]; omega), if_pos hy.2, orbit_length, seenL_succ h hx hmem, ← orbit_succ]
    exact wayOf_loop h hl hx hr hm d (i + 1) k (by omega) (by omega)
theorem wayOf_eq {l : List Int} (h : MapL l) (hl : l.length ≤ 60) {x : Int} (hx : Has l x) {k : Nat} (hk : l.length < k) : impl_wayOf.f k l x = some (orbit (rd l) x (rM l x), (rA l x : Int)) := by
  obtain ⟨hr, hm, _⟩ := rho_map h hx
  rw [impl_wayOf.f, slices_Repeat_int_int.f, if_pos ⟨rfl, by omega, by omega⟩, Option.bind_some, Int.toNat_natCast, show rd ([(-1)] : List Int) 0 = -1 from rfl, ← seenL_zero l x]
  exact wayOf_loop h hl hx hr (by omega) (rM l x) 0 k (by omega) (by omega)
theorem depths_loop {l : List Int} (h : MapL l) (hl : l.length ≤ 60) : ∀ (d i k : Nat), i + d = l.length → l.length + d < k → impl_depths.l0 k l (upTo (dep l) i) (l.length : Int) (i : Int) = some (upTo (dep l) l.length)
  | 0, i, k, hi, hk => by
    obtain ⟨k, rfl⟩ : ∃ q, k = q + 1 := ⟨k - 1, by omega⟩
    obtain rfl : i = l.length := by omega
    rw [impl_depths.l0, if_neg (by omega)]
  | d + 1, i, k, hi, hk => by
    obtain ⟨k, rfl⟩ : ∃ q, k = q + 1 := ⟨k - 1, by omega⟩
    rw [impl_depths.l0, if_pos (by omega), wayOf_eq h hl ⟨by omega, by omega⟩ (by omega), Option.bind_some, if_pos (by rw [upTo_length]; omega), w64s (by omega)]
    have := depths_loop h hl d (i + 1) k (by omega) (by omega)
    rw [upTo_succ] at this
    exact this
theorem depths_eq {l : List Int} (h : MapL l) (hl : l.length ≤ 60) {k : Nat} (hk : 2 * l.length + 1 ≤ k) : impl_depths.f k l = some (upTo (dep l) l.length) :=
  depths_loop h hl l.length 0 k (by omega) (by omega)
theorem mpRound_loop {l : List Int} (h : MapL l) (hl : l.length ≤ 60) {x : Int} (hx : Has l x) (hc : cyc l x = true) (hp : per l x ≤ 60) : ∀ (d i k : Nat), i + d = per l x → 0 < i → d < k →
    spec_mpRound.l0 k l x (orbit (rd l) x i) (it (rd l) x i) = some (cyL l x)
  | 0, i, k, hi, h0, hk => by
    obtain ⟨k, rfl⟩ : ∃ q, k = q + 1 := ⟨k - 1, by omega⟩
    obtain rfl : i = per l x := by omega
    rw [spec_mpRound.l0, if_pos (cyc_round h hx hc).2]; rfl
  | d + 1, i, k, hi, h0, hk => by
    obtain ⟨k, rfl⟩ : ∃ q, k = q + 1 := ⟨k - 1, by omega⟩
    have hy := it_has h hx i
    obtain ⟨hr, _⟩ := cyc_round h hx hc
    have hne : ¬ it (rd l) x i = x := fun e => by
      have := hr.inj i 0 (by omega) (by omega) e
      omega
    rw [spec_mpRound.l0, if_neg hne, if_pos (by rw [orbit_length]; omega), if_pos hy.1, if_pos hy.2, ← orbit_succ]
    exact mpRound_loop h hl hx hc hp d (i + 1) k (by omega) (by omega) (by omega)
theorem mpRound_eq {l : List Int} (h : MapL l) (hl : l.length ≤ 60) {x : Int} (hx : Has l x) (hc : cyc l x = true) {k : Nat} (hk : l.length < k) : spec_mpRound.f k l x = some (cyL l x) := by
  have hp := per_pos h hx
  have hlt := rA_lt h hx
  rw [spec_mpRound.f, if_pos hx.1, if_pos hx.2]
  exact mpRound_loop h hl hx hc (by omega) (per l x - 1) 1 k (by omega) (by omega) (by omega)
theorem TailAndCycle_both (l : List Int) (x : Int) (hl : l.length ≤ 1048576) : ∃ (K : Nat) (v : Int × Int × Bool), ∀ k, K ≤ k → spec_TailAndCycle.f k l x = some v ∧ impl_TailAndCycle.f k l x = some v := by
  cases ha : asksB l x with
  | false => exact ⟨l.length + 1, (0, 0, false), fun k hk => ⟨by rw [spec_TailAndCycle.f, mpX_eq l x hl (by omega), ha, Option.bind_some, if_neg (by decide)], by rw [impl_TailAndCycle.f, asks_eq l x 0 hl, ha, Bool.false_and, Option.bind_some, if_neg (by decide)]⟩⟩
  | true =>
    obtain ⟨hm, h0, h1⟩ := asks_range ha
    obtain ⟨g1, g2, g3⟩ := isMap_range hm
    have hx : Has l x := ⟨h0, h1⟩
    obtain ⟨K, hK⟩ := mpCyclic_eq (l := l) g3 g2
    have hlt := rA_lt g3 hx
    have hp := per_pos g3 hx
    refine ⟨K + l.length + 1, ((rA l x : Int), (per l x : Int), true), fun k hk => ⟨?_, ?_⟩⟩
    · rw [spec_TailAndCycle.f, mpX_eq l x hl (by omega), ha, Option.bind_some, if_pos rfl, hK k (by omega), Option.bind_some, mpDepth_eq g3 g2 hx (by omega), Option.bind_some, at_eq g3 hx _ (by omega) (by omega), Option.bind_some,
        mpRound_eq g3 g2 (it_has g3 hx _) (by rw [cyc_it g3 hx]; simp) (by omega), Option.bind_some, cyL_length, (rA_it g3 hx _).2]
    · rw [impl_TailAndCycle.f, asks_eq l x 0 hl, ha, show decide ((0 : Int) ≤ 0 ∧ (0 : Int) ≤ 1000000) = true by decide, Bool.true_and, Option.bind_some, if_pos rfl, wayOf_eq g3 g2 hx (by omega), Option.bind_some, orbit_length]
      have e : wrap64 ((rM l x : Int) - (rA l x : Int)) = (per l x : Int) := by
        have : rM l x = rA l x + per l x := by unfold per at *; omega
        rw [w64 (by omega) (by omega)]; omega
      rw [e]
end Go.Proofs.YtcaohpcbohdkbaaGreatC
end
section
namespace Go.Proofs.YtcaohpcbohdkbaaGreatC
open Go.RowKit Go.Proofs.YtcaohpcbohdkbaaGreatW.PrintWords Go.Proofs.YtcaohpcbohdkbaaGreatW.PrintMore
set_option linter.unusedSimpArgs false
set_option linter.unusedVariables false
def pw (l : List Int) (t : Nat) (i : Nat) : Int := it (rd l) (i : Int) t
theorem pw_mapL {l : List Int} (h : MapL l) (t : Nat) : ∀ x ∈ upTo (pw l t) l.length, 0 ≤ x ∧ x < (l.length : Int) := by
  intro x hx
  simp only [upTo, List.mem_map, List.mem_range] at hx
  obtain ⟨i, hi, rfl⟩ := hx
  exact it_has h ⟨by omega, by omega⟩ t
theorem pw_one (l : List Int) : upTo (pw l 1) l.length = l := by
  apply List.ext_getElem
  · simp [upTo]
  · intro i h1 h2
    simp only [upTo, List.getElem_map, List.getElem_range, pw]
    show rd l (i : Int) = _
    exact rd_get h2
theorem pw_comp {l : List Int} (h : MapL l) (s t : Nat) : (upTo (pw l t) l.length).map (rd (upTo (pw l s) l.length)) = upTo (pw l (t + s)) l.length := by
  apply List.ext_getElem
  · simp [upTo]
  · intro i h1 h2
    rw [upTo_length] at h2
    have hy := it_has h (x := (i : Int)) ⟨by omega, by omega⟩ t
    obtain ⟨y, hy2⟩ := Int.eq_ofNat_of_zero_le hy.1
    have e : rd (upTo (pw l s) l.length) (it (rd l) (i : Int) t) = it (rd l) (it (rd l) (i : Int) t) s := by
      rw [hy2]
      exact upTo_at _ (by have := hy.2; omega)
    rw [List.getElem_map]
    simp only [upTo, List.getElem_map, List.getElem_range, pw] at e ⊢
    rw [e, it_add]
theorem composed_eq {f g : List Int} (hf : ∀ x ∈ f, 0 ≤ x ∧ x < (g.length : Int)) (hl : f.length ≤ 1048576) {k : Nat} (hk : f.length < k) : impl_composed.f k f g = some (f.map (rd g)) := (composed_loops hf hl k hk).1
theorem pw_composed {l : List Int} (h : MapL l) (hl : l.length ≤ 60) (s t : Nat) {k : Nat} (hk : l.length < k) : impl_composed.f k (upTo (pw l t) l.length) (upTo (pw l s) l.length) = some (upTo (pw l (t + s)) l.length) := by
  rw [composed_eq (fun x hx => by rw [upTo_length]; exact pw_mapL h t x hx) (by rw [upTo_length]; omega) (by rw [upTo_length]; exact hk), pw_comp h]
theorem power_l1 {l : List Int} (h : MapL l) (hl : l.length ≤ 60) : ∀ (n : Nat), n ≤ 1000000000 → ∀ (s t k : Nat), l.length + n + 1 < k → impl_power.l1 k (upTo (pw l s) l.length) (n : Int) (upTo (pw l t) l.length) = some (upTo (pw l (t + n * s)) l.length) := by
  intro n
  induction n using Nat.strongRecOn with
  | ind n ih =>
    intro hn s t k hk
    obtain ⟨k, rfl⟩ : ∃ q, k = q + 1 := ⟨k - 1, by omega⟩
    rcases Nat.eq_zero_or_pos n with rfl | hpos
    · rw [impl_power.l1, if_neg (by omega), Nat.zero_mul]; rfl
    · have hlt : n / 2 < n := Nat.div_lt_self hpos (by omega)
      have e2 : Int.tmod (n : Int) 2 = ((n % 2 : Nat) : Int) := tmod_nat n 2
      have e3 : Int.tdiv (n : Int) 2 = ((n / 2 : Nat) : Int) := tdiv_nat n 2
      rw [impl_power.l1, if_pos (by omega), e2, e3, w64n (by omega), pw_composed h hl s s (by omega)]
      by_cases ho : n % 2 = 1
      · rw [if_pos (by omega), pw_composed h hl s t (by omega), Option.bind_some, Option.bind_some, ih (n / 2) hlt (by omega) (s + s) (t + s) k (by omega)]
        congr 3
        have := Nat.mod_add_div n 2
        rw [ho] at this
        conv => rhs; rw [← this]
        rw [Nat.add_mul, Nat.mul_comm 2, Nat.mul_assoc, Nat.two_mul]
        omega
      · rw [if_neg (by omega), Option.bind_some, ih (n / 2) hlt (by omega) (s + s) t k (by omega)]
        congr 3
        have := Nat.mod_add_div n 2
        rw [show n % 2 = 0 by omega] at this
        conv => rhs; rw [← this]
        rw [Nat.add_mul, Nat.mul_comm 2, Nat.mul_assoc, Nat.two_mul]
        omega
theorem power_l0 {l : List Int} (h : MapL l) (hl : l.length ≤ 60) (n : Nat) (hn : n ≤ 1000000000) : ∀ (d i k : Nat), i + d = l.length → 2 * l.length + n + d + 2 < k → impl_power.l0 k l (n : Int) (upTo (pw l 0) i) (l.length : Int) (i : Int) = some (upTo (pw l n) l.length)
  | 0, i, k, hi, hk => by
    obtain ⟨k, rfl⟩ : ∃ q, k = q + 1 := ⟨k - 1, by omega⟩
    obtain rfl : i = l.length := by omega
    rw [impl_power.l0, if_neg (by omega)]
    have := power_l1 h hl n hn 1 0 k (by omega)
    rw [pw_one, Nat.mul_one, Nat.zero_add] at this
    exact this
  | d + 1, i, k, hi, hk => by
    obtain ⟨k, rfl⟩ : ∃ q, k = q + 1 := ⟨k - 1, by omega⟩
    rw [impl_power.l0, if_pos (by omega), if_pos (by rw [upTo_length]; omega), w64s (by omega)]
    have := power_l0 h hl n hn d (i + 1) k (by omega) (by omega)
    rw [upTo_succ] at this
    exact this
theorem power_eq {l : List Int} (h : MapL l) (hl : l.length ≤ 60) (n : Nat) (hn : n ≤ 1000000000) {k : Nat} (hk : 3 * l.length + n + 2 < k) : impl_power.f k l (n : Int) = some (upTo (pw l n) l.length) :=
  power_l0 h hl n hn l.length 0 k (by omega) (by omega)
theorem mpSteps_eq (n : Int) : spec_mpSteps.f n = some (decide (0 ≤ n ∧ n ≤ 1000000)) := by rw [spec_mpSteps.f, l1In_eq, Option.bind_some]
theorem steps_le {n a p : Nat} (hp : 0 < p) : a + (n - a) % p < a + p := by
  have := Nat.mod_lt (n - a) hp
  omega
theorem steps_eq {n a p : Nat} (hn : n ≤ 1000000) (ha : a < n) (hp : 0 < p) (hp2 : p ≤ 1000) : wrap64 ((a : Int) + Int.tmod (wrap64 ((n : Int) - (a : Int))) (p : Int)) = ((a + (n - a) % p : Nat) : Int) := by
  have e1 : wrap64 ((n : Int) - (a : Int)) = ((n - a : Nat) : Int) := by rw [w64 (by omega) (by omega)]; omega
  rw [e1, tmod_nat]
  have h1 := Nat.mod_lt (n - a) hp
  generalize (n - a) % p = q at h1 ⊢
  clear e1
  rw [w64 (by omega) (by omega)]
  omega
theorem PowerOfMap_loop {l : List Int} (h : MapL l) (hl : l.length ≤ 60) (n : Nat) (hn : n ≤ 1000000) : ∀ (d i k : Nat), i + d = l.length → n + 200 + d < k → spec_PowerOfMap.l0 k l (n : Int) (upTo (dep l) l.length) (cycL l) (upTo (pw l n) i) (l.length : Int) (i : Int) = some (upTo (pw l n) l.length, true)
  | 0, i, k, hi, hk => by
    obtain ⟨k, rfl⟩ : ∃ q, k = q + 1 := ⟨k - 1, by omega⟩
    obtain rfl : i = l.length := by omega
    rw [spec_PowerOfMap.l0, if_neg (by omega)]
  | d + 1, i, k, hi, hk => by
    obtain ⟨k, rfl⟩ : ∃ q, k = q + 1 := ⟨k - 1, by omega⟩
    have hx : Has l (i : Int) := ⟨by omega, by omega⟩
    have hlt := rA_lt h hx
    have hp := per_pos h hx
    have hy := it_has h hx (rA l (i : Int))
    have hyc : cyc l (it (rd l) (i : Int) (rA l (i : Int))) = true := by rw [cyc_it h hx]; simp
    have ih := PowerOfMap_loop h hl n hn d (i + 1) k (by omega) (by omega)
    rw [upTo_succ] at ih
    rw [spec_PowerOfMap.l0, if_pos (by omega), if_pos (by omega), if_pos (by rw [upTo_length]; omega), upTo_at _ (show i < l.length by omega), show dep l i = (rA l (i : Int) : Int) from rfl]
    by_cases hd : (n : Int) > (rA l (i : Int) : Int)
    · rw [if_pos hd, at_eq h hx _ (by omega) (by omega), Option.bind_some, if_pos hy.1, if_pos (by rw [cycL_length]; exact hy.2), cycL_at hy, hyc, if_pos rfl, mpRound_eq h hl hy hyc (by omega), Option.bind_some, cyL_length, (rA_it h hx _).2, if_neg (by omega)]
      have e2 := steps_eq (n := n) (a := rA l (i : Int)) (p := per l (i : Int)) hn (by omega) hp (by omega)
      obtain ⟨hr, _⟩ := rho_map h hx
      have e3 := hr.mod n (by omega)
      have e4 : rM l (i : Int) - rA l (i : Int) = per l (i : Int) := rfl
      rw [e4] at e3
      have e5 := steps_le (n := n) (a := rA l (i : Int)) (p := per l (i : Int)) hp
      rw [e2, at_eq h hx _ (by omega) (by omega), Option.bind_some, if_pos (by rw [upTo_length]; omega), w64s (by omega), ← e3]
      exact ih
    · rw [if_neg hd, at_eq h hx _ (by omega) (by omega), Option.bind_some, if_pos (by rw [upTo_length]; omega), w64s (by omega)]
      exact ih
theorem PowerOfMap_both (l : List Int) (n : Int) (hl : l.length ≤ 1048576) : ∃ (K : Nat) (r : List Int) (ok : Bool), r.length ≤ 1000 ∧ ∀ k, K ≤ k → spec_PowerOfMap.f k l n = some (r, ok) ∧ impl_PowerOfMap.f k l n = some (r, ok) := by
  cases hm : isMapB l with
  | false =>
    refine ⟨l.length + 2, [], false, by simp, fun k hk => ⟨?_, ?_⟩⟩
    · obtain ⟨k, rfl⟩ : ∃ q, k = q + 1 := ⟨k - 1, by omega⟩
      rw [spec_PowerOfMap.f, mpGood_eq l hl (by omega), hm, Option.bind_some, if_neg (by decide), spec_PowerOfMap.j0, if_pos rfl]
    · rw [impl_PowerOfMap.f, asks_eq l 0 n hl, asksB, hm, Bool.false_and, Bool.false_and, Option.bind_some, if_neg (by decide)]
  | true =>
    obtain ⟨g1, g2, g3⟩ := isMap_range hm
    have ha : asksB l 0 = true := by rw [asksB, hm, Bool.true_and, decide_eq_true_eq]; omega
    by_cases hn : 0 ≤ n ∧ n ≤ 1000000
    · obtain ⟨n, rfl⟩ := Int.eq_ofNat_of_zero_le hn.1
      obtain ⟨K, hK⟩ := mpDepths_eq (l := l) g3 g2
      refine ⟨K + n + 1000, upTo (pw l n) l.length, true, by rw [upTo_length]; omega, fun k hk => ⟨?_, ?_⟩⟩
      · obtain ⟨k, rfl⟩ : ∃ q, k = q + 1 := ⟨k - 1, by omega⟩
        rw [spec_PowerOfMap.f, mpGood_eq l hl (by omega), hm, Option.bind_some, if_pos rfl, mpSteps_eq, decide_eq_true hn, Option.bind_some, spec_PowerOfMap.j0, if_neg (by decide), (hK k (by omega)).1, Option.bind_some, (hK k (by omega)).2, Option.bind_some]
        exact PowerOfMap_loop g3 g2 n (by omega) l.length 0 k (by omega) (by omega)
      · rw [impl_PowerOfMap.f, asks_eq l 0 n hl, ha, decide_eq_true hn, Bool.true_and, Option.bind_some, if_pos rfl, power_eq g3 g2 n (by omega) (by omega), Option.bind_some]
    · refine ⟨l.length + 2, [], false, by simp, fun k hk => ⟨?_, ?_⟩⟩
      · obtain ⟨k, rfl⟩ : ∃ q, k = q + 1 := ⟨k - 1, by omega⟩
        rw [spec_PowerOfMap.f, mpGood_eq l hl (by omega), hm, Option.bind_some, if_pos rfl, mpSteps_eq, decide_eq_false hn, Option.bind_some, spec_PowerOfMap.j0, if_pos (by decide)]
      · rw [impl_PowerOfMap.f, asks_eq l 0 n hl, decide_eq_false hn, Bool.and_false, Option.bind_some, if_neg (by decide)]
end Go.Proofs.YtcaohpcbohdkbaaGreatC
end
section
namespace Go.Proofs.YtcaohpcbohdkbaaGreatC
open Go.RowKit Go.Proofs.YtcaohpcbohdkbaaGreatW.PrintWords Go.Proofs.YtcaohpcbohdkbaaGreatW.PrintMore
set_option linter.unusedSimpArgs false
set_option linter.unusedVariables false
def seenM (l : List Int) (i j : Nat) : List Bool := (List.range l.length).map (fun (y : Nat) => seenB l i (y : Int) || decide ((y : Int) ∈ (cyL l (i : Int)).take j))
theorem seenM_length (l : List Int) (i j : Nat) : (seenM l i j).length = l.length := by simp [seenM]
theorem seenM_zero (l : List Int) (i : Nat) : seenM l i 0 = (List.range l.length).map (fun (y : Nat) => seenB l i (y : Int)) := by simp [seenM]
theorem seenM_start {l : List Int} (h : MapL l) : seenM l 0 0 = List.replicate l.length false := by
  rw [seenM_zero]
  apply List.ext_getElem
  · simp
  · intro y h1 h2
    simp only [List.length_map, List.length_range] at h1
    simp only [List.getElem_map, List.getElem_range, List.getElem_replicate]
    exact seenB_zero h ⟨by omega, by omega⟩
theorem seenM_set {l : List Int} {i j : Nat} (hj : j < (cyL l (i : Int)).length) (h0 : 0 ≤ (cyL l (i : Int))[j]) : (seenM l i j).set ((cyL l (i : Int))[j]).toNat true = seenM l i (j + 1) := by
  apply List.ext_getElem
  · simp [seenM]
  · intro y h1 h2
    rw [List.getElem_set]
    simp only [seenM, List.getElem_map, List.getElem_range]
    rw [take_s hj]
    by_cases e : ((cyL l (i : Int))[j]).toNat = y
    · rw [if_pos e, decide_eq_true (show (y : Int) ∈ (cyL l (i : Int)).take j ++ [(cyL l (i : Int))[j]] by rw [List.mem_append, List.mem_singleton]; right; omega), Bool.or_true]
    · rw [if_neg e]
      congr 1
      apply decide_eq_decide.2
      rw [List.mem_append, List.mem_singleton]
      constructor
      · exact Or.inl
      · rintro (h | h)
        · exact h
        · exact absurd (by omega) e
theorem seenM_next {l : List Int} (h : MapL l) {i : Nat} (hi : i < l.length) (hl : lead l (i : Int) = true) : seenM l i (cyL l (i : Int)).length = seenM l (i + 1) 0 := by
  apply List.ext_getElem
  · simp [seenM]
  · intro y h1 h2
    rw [seenM_length] at h1
    simp only [seenM, List.getElem_map, List.getElem_range, List.take_length, List.take_zero, List.not_mem_nil, decide_false, Bool.or_false]
    exact (seenB_lead h hi hl ⟨by omega, by omega⟩).symm
theorem seenM_same {l : List Int} (h : MapL l) {i : Nat} (hi : i < l.length) (hl : lead l (i : Int) = false) : seenM l i 0 = seenM l (i + 1) 0 := by
  apply List.ext_getElem
  · simp [seenM]
  · intro y h1 h2
    rw [seenM_length] at h1
    simp only [seenM, List.getElem_map, List.getElem_range, List.take_zero, List.not_mem_nil, decide_false, Bool.or_false]
    exact (seenB_not h hi hl ⟨by omega, by omega⟩).symm
theorem lead_cyc {l : List Int} {x : Int} (h : lead l x = true) : cyc l x = true := by
  unfold lead at h
  rw [Bool.and_eq_true] at h
  exact h.1
theorem mpCycles_l1 {l : List Int} (h : MapL l) (h60 : l.length ≤ 60) {i : Nat} (hi : i < l.length) (hl : lead l (i : Int) = true) (cs : List (List Int)) (hcs : cs.length ≤ 60) (R : List (List Int)) (K : Nat) (hR : ∀ k, K ≤ k → spec_mpCycles.l0 k l (cycL l) (seenM l (i + 1) 0) (cs ++ [cyL l (i : Int)]) (l.length : Int) ((i + 1 : Nat) : Int) = some R) :
    ∀ (d j k : Nat), j + d = (cyL l (i : Int)).length → K + d < k → spec_mpCycles.l1 k l (cycL l) (seenM l i j) cs (cyL l (i : Int)) (l.length : Int) (i : Int) ((cyL l (i : Int)).length : Int) (j : Int) = some R
  | 0, j, k, hj, hk => by
    obtain ⟨k, rfl⟩ : ∃ q, k = q + 1 := ⟨k - 1, by omega⟩
    obtain rfl : j = (cyL l (i : Int)).length := by omega
    rw [spec_mpCycles.l1, if_neg (by omega), if_pos (by omega), seenM_next h hi hl, w64s (by omega)]
    exact hR k (by omega)
  | d + 1, j, k, hj, hk => by
    obtain ⟨k, rfl⟩ : ∃ q, k = q + 1 := ⟨k - 1, by omega⟩
    have hx : Has l (i : Int) := ⟨by omega, by omega⟩
    have hjl : j < (cyL l (i : Int)).length := by omega
    have hm := (cyL_has h hx (lead_cyc hl) (List.getElem_mem hjl)).1
    have hpl : (cyL l (i : Int)).length ≤ 60 := by
      rw [cyL_length]
      have := rA_lt h hx
      omega
    rw [spec_mpCycles.l1, if_pos (by omega), if_pos (by omega), if_pos (by omega), rd_get hjl, if_pos hm.1, if_pos (by rw [seenM_length]; exact hm.2), seenM_set hjl hm.1, w64s (by omega)]
    exact mpCycles_l1 h h60 hi hl cs hcs R K hR d (j + 1) k (by omega) (by omega)
theorem mpCycles_l0 {l : List Int} (h : MapL l) (h60 : l.length ≤ 60) : ∀ (d i : Nat), i + d = l.length → ∃ K, ∀ k, K ≤ k → spec_mpCycles.l0 k l (cycL l) (seenM l i 0) (cycs l i) (l.length : Int) (i : Int) = some (cycs l l.length)
  | 0, i, hi => ⟨1, fun k hk => by
    obtain ⟨k, rfl⟩ : ∃ q, k = q + 1 := ⟨k - 1, by omega⟩
    obtain rfl : i = l.length := by omega
    rw [spec_mpCycles.l0, if_neg (by omega)]⟩
  | d + 1, i, hi => by
    obtain ⟨K, hK⟩ := mpCycles_l0 h h60 d (i + 1) (by omega)
    have hx : Has l (i : Int) := ⟨by omega, by omega⟩
    have hcl := cycs_length l i
    have hlt := rA_lt h hx
    have hseen : rdOf false (seenM l i 0) (i : Int) = seenB l i (i : Int) := by
      rw [seenM_zero]
      exact rdOf_map (fun y => seenB l i (y : Int)) l.length i (by omega)
    refine ⟨K + l.length + 100, fun k hk => ?_⟩
    obtain ⟨k, rfl⟩ : ∃ q, k = q + 1 + 1 := ⟨k - 2, by omega⟩
    rw [spec_mpCycles.l0, if_pos (by omega), if_pos (by omega), if_pos (by rw [cycL_length]; omega), cycL_at hx]
    have hls := lead_seen l i
    cases hc : lead l (i : Int) with
    | true =>
      have hcy := lead_cyc hc
      rw [hcy, hc, Bool.true_and] at hls
      rw [cycs, if_pos hc] at hK
      rw [if_pos hcy, if_pos (by rw [seenM_length]; omega), hseen, hls, spec_mpCycles.j1, if_pos rfl, mpRound_eq h h60 hx hcy (by omega), Option.bind_some]
      exact mpCycles_l1 h h60 (by omega) hc (cycs l i) (by omega) _ K hK (cyL l (i : Int)).length 0 k (by omega) (by rw [cyL_length]; omega)
    | false =>
      rw [cycs, if_neg (by rw [hc]; decide), List.append_nil, ← seenM_same h (by omega) hc] at hK
      rw [hc] at hls
      cases hcy : cyc l (i : Int) with
      | true =>
        rw [hcy, Bool.true_and] at hls
        rw [if_pos rfl, if_pos (by rw [seenM_length]; omega), hseen, hls, spec_mpCycles.j1, if_neg (by decide), w64s (by omega)]
        exact hK k (by omega)
      | false =>
        rw [if_neg (by decide), spec_mpCycles.j1, if_neg (by decide), w64s (by omega)]
        exact hK k (by omega)
theorem mpCycles_eq {l : List Int} (h : MapL l) (h60 : l.length ≤ 60) : ∃ K, ∀ k, K ≤ k → spec_mpCycles.f k l = some (cycs l l.length) := by
  obtain ⟨K1, h1⟩ := mpCyclic_eq h h60
  obtain ⟨K2, h2⟩ := mpCycles_l0 h h60 l.length 0 (by omega)
  refine ⟨K1 + K2, fun k hk => ?_⟩
  rw [spec_mpCycles.f, h1 k (by omega), Option.bind_some, if_pos (by omega), if_pos (by rw [Int.toNat_natCast]; omega), Int.toNat_natCast, ← seenM_start h]
  exact h2 k (by omega)
def fixS (n : Nat) : List (List Int) → Nat
  | [] => 0
  | c :: cs => (if n % c.length = 0 then c.length else 0) + fixS n cs
theorem fixS_append (n : Nat) : ∀ (a b : List (List Int)), fixS n (a ++ b) = fixS n a + fixS n b
  | [], b => by simp [fixS]
  | c :: a, b => by rw [List.cons_append, fixS, fixS, fixS_append n a b]; omega
theorem filter_or {α : Type} (p q : α → Bool) : ∀ (l : List α), (∀ x ∈ l, ¬ (p x = true ∧ q x = true)) → (l.filter (fun x => p x || q x)).length = (l.filter p).length + (l.filter q).length
  | [], _ => rfl
  | x :: l, h => by
    have ih := filter_or p q l (fun y hy => h y (by simp [hy]))
    have hx := h x (by simp)
    rw [List.filter_cons, List.filter_cons, List.filter_cons]
    cases hp : p x with
    | true =>
      cases hq : q x with
      | true => exact absurd ⟨hp, hq⟩ hx
      | false => simp [ih]; omega
    | false =>
      cases hq : q x with
      | true => simp [ih]; omega
      | false => simp [ih]
theorem ints_nd (n : Nat) : ((List.range n).map Int.ofNat).Nodup := by
  rw [List.nodup_iff_pairwise_ne, List.pairwise_iff_getElem]
  intro i j h1 h2 hij e
  simp at e
  omega
theorem mem_ints' {n : Nat} {x : Int} : x ∈ (List.range n).map Int.ofNat ↔ 0 ≤ x ∧ x < (n : Int) := by
  rw [List.mem_map]
  constructor
  · rintro ⟨i, hi, rfl⟩
    rw [List.mem_range] at hi
    simp; omega
  · rintro ⟨h0, h1⟩
    exact ⟨x.toNat, by rw [List.mem_range]; omega, by simp; omega⟩
theorem count_of {n : Nat} {c : List Int} (hn : c.Nodup) (hr : ∀ x ∈ c, 0 ≤ x ∧ x < (n : Int)) : (((List.range n).map Int.ofNat).filter (fun y => decide (y ∈ c))).length = c.length := by
  apply Nat.le_antisymm
  · exact nodup_le _ _ ((ints_nd n).filter _) (fun x hx => by
      rw [List.mem_filter] at hx
      simpa using hx.2)
  · exact nodup_le _ _ hn (fun x hx => by
      rw [List.mem_filter]
      exact ⟨mem_ints'.2 (hr x hx), by simpa using hx⟩)
def fixP (l : List Int) (n : Nat) (y : Int) : Bool := decide (it (rd l) y n = y)
theorem fixP_iff {l : List Int} (h : MapL l) {n : Nat} (hn : 0 < n) {y : Int} (hy : Has l y) : fixP l n y = true ↔ cyc l y = true ∧ n % per l y = 0 := by
  simp only [fixP, decide_eq_true_eq]
  constructor
  · intro e
    have hc := cyc_of_round h hy hn e
    obtain ⟨hr, _⟩ := cyc_round h hy hc
    refine ⟨hc, ?_⟩
    have h1 := hr.mod n (by omega)
    rw [e, Nat.sub_zero, Nat.sub_zero, Nat.zero_add] at h1
    exact hr.inj (n % per l y) 0 (Nat.mod_lt _ hr.lt) hr.lt h1.symm
  · rintro ⟨hc, hm⟩
    obtain ⟨hr, _⟩ := cyc_round h hy hc
    have h1 := hr.mod n (by omega)
    rw [Nat.sub_zero, Nat.sub_zero, Nat.zero_add, hm] at h1
    exact h1
theorem fix_count {l : List Int} (h : MapL l) {n : Nat} (hn : 0 < n) : ∀ j, j ≤ l.length → fixS n (cycs l j) = (((List.range l.length).map Int.ofNat).filter (fun y => fixP l n y && seenB l j y)).length
  | 0, _ => by
    rw [List.filter_eq_nil_iff.2]
    · rfl
    · intro y hy
      rw [seenB_zero h (mem_ints'.1 hy)]
      simp
  | j + 1, hj => by
    have ih := fix_count h hn j (by omega)
    have hx : Has l (j : Int) := ⟨by omega, by omega⟩
    rw [cycs, fixS_append, ih]
    cases hc : lead l (j : Int) with
    | false =>
      rw [if_neg (by decide)]
      simp only [fixS, Nat.add_zero]
      congr 1
      apply List.filter_congr
      intro y hy
      rw [seenB_not h (by omega) hc (mem_ints'.1 hy)]
    | true =>
      have hcy := lead_cyc hc
      rw [if_pos rfl]
      have e1 : (((List.range l.length).map Int.ofNat).filter (fun y => fixP l n y && seenB l (j + 1) y)) = (((List.range l.length).map Int.ofNat).filter (fun y => (fixP l n y && seenB l j y) || (fixP l n y && decide (y ∈ cyL l (j : Int))))) := by
        apply List.filter_congr
        intro y hy
        rw [seenB_lead h (by omega) hc (mem_ints'.1 hy), Bool.and_or_distrib_left]
      rw [e1, filter_or]
      · congr 1
        simp only [fixS, Nat.add_zero, cyL_length]
        by_cases hm : n % per l (j : Int) = 0
        · rw [if_pos hm, ← cyL_length, ← count_of (n := l.length) (cyL_nodup h hx hcy) (fun x hx2 => (cyL_has h hx hcy hx2).1)]
          congr 1
          apply List.filter_congr
          intro y hy
          by_cases hyc : y ∈ cyL l (j : Int)
          · obtain ⟨a1, a2, a3⟩ := cyL_has h hx hcy hyc
            rw [(fixP_iff h hn a1).2 ⟨a2, by rw [a3]; exact hm⟩, Bool.true_and]
          · rw [decide_eq_false hyc, Bool.and_false]
        · rw [if_neg hm, List.filter_eq_nil_iff.2]
          · rfl
          · intro y hy hb
            rw [Bool.and_eq_true, decide_eq_true_eq] at hb
            obtain ⟨a1, a2, a3⟩ := cyL_has h hx hcy hb.2
            have := ((fixP_iff h hn a1).1 hb.1).2
            rw [a3] at this
            exact hm this
      · intro y hy ⟨hb1, hb2⟩
        rw [Bool.and_eq_true] at hb1 hb2
        rw [decide_eq_true_eq] at hb2
        have hs := hb1.2
        have hlead := lead_seen l j
        rw [hc] at hlead
        unfold seenB at hs hlead
        rw [Bool.and_eq_true, List.any_eq_true] at hs
        obtain ⟨_, z, hz, hz2⟩ := hs
        have hzj := (cyL_same h hx hcy hb2.2 z).1 hz
        rw [hcy, Bool.true_and, Bool.true_and] at hlead
        have : (cyL l (j : Int)).any (fun z => decide (z < (j : Int))) = true := List.any_eq_true.2 ⟨z, hzj, hz2⟩
        rw [this] at hlead
        cases hlead
theorem fix_total {l : List Int} (h : MapL l) {n : Nat} (hn : 0 < n) : fixS n (cycs l l.length) = ((List.range l.length).filter (fun (y : Nat) => fixP l n (y : Int))).length := by
  rw [fix_count h hn l.length (Nat.le_refl _), List.filter_map, List.length_map]
  congr 1
  apply List.filter_congr
  intro y hy
  rw [List.mem_range] at hy
  have hyh : Has l (y : Int) := ⟨by omega, by omega⟩
  show (fixP l n (y : Int) && seenB l l.length (y : Int)) = _
  cases hf : fixP l n (y : Int) with
  | false => rfl
  | true =>
    have hc := ((fixP_iff h hn hyh).1 hf).1
    rw [Bool.true_and, seenB, hc, Bool.true_and, List.any_eq_true]
    exact ⟨(y : Int), cyL_self h hyh hc, by simp; omega⟩
theorem spec_Fixed_loop {n : Nat} (hn : n ≤ 1000000) (cs : List (List Int)) (hcs : cs.length ≤ 60) (hc : ∀ c ∈ cs, 0 < c.length ∧ c.length ≤ 60) : ∀ (d j k : Nat), j + d = cs.length → d < k → spec_CountFixedBy.l0 k (n : Int) (fixS n (cs.take j) : Int) cs (cs.length : Int) (j : Int) = some ((fixS n cs : Int), true)
  | 0, j, k, hj, hk => by
    obtain ⟨k, rfl⟩ : ∃ q, k = q + 1 := ⟨k - 1, by omega⟩
    obtain rfl : j = cs.length := by omega
    rw [spec_CountFixedBy.l0, if_neg (by omega), List.take_length]
  | d + 1, j, k, hj, hk => by
    obtain ⟨k, rfl⟩ : ∃ q, k = q + 1 := ⟨k - 1, by omega⟩
    have hjl : j < cs.length := by omega
    have e : rd_L2 cs (j : Int) = cs[j] := by simp [rd_L2, List.getD_eq_getElem?_getD, List.getElem?_eq_getElem hjl]
    obtain ⟨c1, c2⟩ := hc _ (List.getElem_mem hjl)
    have hbound : ∀ (m : Nat) (xs : List (List Int)), (∀ c ∈ xs, c.length ≤ 60) → fixS n xs ≤ 60 * xs.length := by
      intro m xs hxs
      induction xs with
      | nil => simp [fixS]
      | cons c xs ih =>
        have h1 := ih (fun c hc => hxs c (by simp [hc]))
        have h2 := hxs c (by simp)
        rw [fixS, List.length_cons]
        split <;> omega
    have hb := hbound 0 (cs.take j) (fun c hc2 => (hc c (List.mem_of_mem_take hc2)).2)
    rw [List.length_take] at hb
    have ih := spec_Fixed_loop hn cs hcs hc d (j + 1) k (by omega) (by omega)
    rw [take_s hjl, fixS_append, fixS, fixS, Nat.add_zero] at ih
    rw [spec_CountFixedBy.l0, if_pos (by omega), if_pos (by omega), if_pos (by omega), e, if_neg (by omega), tmod_nat, w64s (by omega)]
    by_cases hm : n % cs[j].length = 0
    · rw [if_pos (by omega), w64 (by omega) (by omega)]
      rw [if_pos hm, Int.natCast_add] at ih
      exact ih
    · rw [if_neg (by omega)]
      rw [if_neg hm, Nat.add_zero] at ih
      exact ih
theorem impl_Fixed_loop {l : List Int} (h : MapL l) (h60 : l.length ≤ 60) (n : Nat) : ∀ (d j k : Nat), j + d = l.length → d < k → impl_CountFixedBy.l0 k (((List.range j).filter (fun (y : Nat) => fixP l n (y : Int))).length : Int) (upTo (pw l n) l.length) (l.length : Int) (j : Int) = some ((((List.range l.length).filter (fun (y : Nat) => fixP l n (y : Int))).length : Int), true)
  | 0, j, k, hj, hk => by
    obtain ⟨k, rfl⟩ : ∃ q, k = q + 1 := ⟨k - 1, by omega⟩
    obtain rfl : j = l.length := by omega
    rw [impl_CountFixedBy.l0, if_neg (by omega)]
  | d + 1, j, k, hj, hk => by
    obtain ⟨k, rfl⟩ : ∃ q, k = q + 1 := ⟨k - 1, by omega⟩
    have hlen : ((List.range j).filter (fun (y : Nat) => fixP l n (y : Int))).length ≤ j := by
      have := List.length_filter_le (fun (y : Nat) => fixP l n (y : Int)) (List.range j)
      rw [List.length_range] at this
      exact this
    have ih := impl_Fixed_loop h h60 n d (j + 1) k (by omega) (by omega)
    rw [List.range_succ, List.filter_append, List.length_append] at ih
    rw [impl_CountFixedBy.l0, if_pos (by omega), if_pos (by omega), if_pos (by rw [upTo_length]; omega), upTo_at _ (show j < l.length by omega), w64s (by omega)]
    by_cases hm : (j : Int) = pw l n j
    · have hf : fixP l n (j : Int) = true := by simp only [fixP, decide_eq_true_eq]; exact hm.symm
      rw [if_pos hm, w64s (by omega)]
      rw [List.filter_cons, if_pos hf, List.filter_nil] at ih
      exact ih
    · have hf : ¬ fixP l n (j : Int) = true := by simp only [fixP, decide_eq_true_eq]; exact fun e => hm e.symm
      rw [if_neg hm, w64s (by omega)]
      rw [List.filter_cons, if_neg hf, List.filter_nil, List.length_nil, Nat.add_zero] at ih
      exact ih
theorem CountFixedBy_both (l : List Int) (n : Int) (hl : l.length ≤ 1048576) : ∃ (K : Nat) (v : Int × Bool), ∀ k, K ≤ k → spec_CountFixedBy.f k l n = some v ∧ impl_CountFixedBy.f k l n = some v := by
  cases hm : isMapB l with
  | false =>
    refine ⟨l.length + 2, (0, false), fun k hk => ⟨?_, ?_⟩⟩
    · obtain ⟨k, rfl⟩ : ∃ q, k = q + 1 := ⟨k - 1, by omega⟩
      rw [spec_CountFixedBy.f, mpGood_eq l hl (by omega), hm, Option.bind_some, if_neg (by decide), spec_CountFixedBy.j0, if_pos rfl]
    · rw [impl_CountFixedBy.f, asks_eq l 0 n hl, asksB, hm, Bool.false_and, Bool.false_and, Option.bind_some, if_neg (by decide)]
  | true =>
    obtain ⟨g1, g2, g3⟩ := isMap_range hm
    have ha : asksB l 0 = true := by rw [asksB, hm, Bool.true_and, decide_eq_true_eq]; omega
    by_cases hn : 0 ≤ n ∧ n ≤ 1000000
    · obtain ⟨n, rfl⟩ := Int.eq_ofNat_of_zero_le hn.1
      obtain ⟨K, hK⟩ := mpCycles_eq (l := l) g3 g2
      have himp : ∀ k, n + 1000 ≤ k → impl_CountFixedBy.f k l (n : Int) = some ((((List.range l.length).filter (fun (y : Nat) => fixP l n (y : Int))).length : Int), true) := fun k hk => by
        rw [impl_CountFixedBy.f, asks_eq l 0 n hl, ha, decide_eq_true hn, Bool.true_and, Option.bind_some, if_pos rfl, power_eq g3 g2 n (by omega) (by omega), Option.bind_some, upTo_length]
        exact impl_Fixed_loop g3 g2 n l.length 0 k (by omega) (by omega)
      refine ⟨K + n + 1000, _, fun k hk => ⟨?_, himp k (by omega)⟩⟩
      obtain ⟨k, rfl⟩ : ∃ q, k = q + 1 := ⟨k - 1, by omega⟩
      rw [spec_CountFixedBy.f, mpGood_eq l hl (by omega), hm, Option.bind_some, if_pos rfl, mpSteps_eq, decide_eq_true hn, Option.bind_some, spec_CountFixedBy.j0, if_neg (by decide)]
      rcases Nat.eq_zero_or_pos n with h0 | hpos
      · subst h0
        rw [if_pos (show ((0 : Nat) : Int) = 0 by rfl)]
        have hall : (List.range l.length).filter (fun (y : Nat) => fixP l 0 (y : Int)) = List.range l.length := List.filter_eq_self.2 (fun y _ => by simp [fixP, it])
        rw [hall, List.length_range]
      · rw [if_neg (by omega), hK k (by omega), Option.bind_some, ← fix_total g3 hpos]
        have hcl := cycs_length l l.length
        exact spec_Fixed_loop (by omega) (cycs l l.length) (by omega) (fun c hc => by
          obtain ⟨i, hi, hld, rfl⟩ := mem_cycs.1 hc
          have hx : Has l (i : Int) := ⟨by omega, by omega⟩
          have h1 := per_pos g3 hx
          have h2 := rA_lt g3 hx
          rw [cyL_length]
          omega) (cycs l l.length).length 0 k (by omega) (by omega)
    · refine ⟨l.length + 2, (0, false), fun k hk => ⟨?_, ?_⟩⟩
      · obtain ⟨k, rfl⟩ : ∃ q, k = q + 1 := ⟨k - 1, by omega⟩
        rw [spec_CountFixedBy.f, mpGood_eq l hl (by omega), hm, Option.bind_some, if_pos rfl, mpSteps_eq, decide_eq_false hn, Option.bind_some, spec_CountFixedBy.j0, if_pos (by decide)]
      · rw [impl_CountFixedBy.f, asks_eq l 0 n hl, decide_eq_false hn, Bool.and_false, Option.bind_some, if_neg (by decide)]
end Go.Proofs.YtcaohpcbohdkbaaGreatC
end
section
namespace Go.Proofs.YtcaohpcbohdkbaaGreatC
open Go.RowKit Go.Proofs.YtcaohpcbohdkbaaGreatW.PrintWords Go.Proofs.YtcaohpcbohdkbaaGreatW.PrintMore
set_option linter.unusedVariables false
mutual
def spec_BasinsOf.l0 : Nat → List Int → List (List Int) → List Int → Int → Int → Option (List Int × Bool)
  | 0, _, _, _, _, _ => none
  | k + 1, x0, x4, x5, x15, x16 => if x16 < x15 then ((spec_mpAt.f k x0 x16 (x0.length : Int)).bind fun t152 => (spec_BasinsOf.l1 k x0 x4 x5 t152 0 x15 x16)) else (some (x5, true))
def spec_BasinsOf.l1 : Nat → List Int → List (List Int) → List Int → Int → Int → Int → Int → Option (List Int × Bool)
  | 0, _, _, _, _, _, _, _ => none
  | k + 1, x0, x4, x5, x7, x8, x15, x16 => if 0 ≤ x8 then (if x8 < (x4.length : Int) then ((spec_l1Has.f k (rd_L2 x4 x8) x7).bind fun t154 => (if t154 = true then (if x5.length < 17592186044416 then (spec_BasinsOf.l0 k x0 x4 (x5 ++ [x8]) x15 (wrap64 (x16 + 1))) else (none)) else (spec_BasinsOf.l1 k x0 x4 x5 x7 (wrap64 (x8 + 1)) x15 x16))) else (none)) else (none)
end
def spec_BasinsOf.f (k : Nat) (l0 : List Int) : Option (List Int × Bool) := (spec_mpGood.f k l0).bind fun t148 => (if t148 = true then ((spec_mpCycles.f k l0).bind fun t149 => (spec_BasinsOf.l0 k l0 t149 ([] : List Int) (l0.length : Int) 0)) else (some (([] : List Int), false)))
def slices_Min_int_int.l0 : Nat → List Int → Int → Int → Option (Int)
  | 0, _, _, _ => none
  | k + 1, x0, x3, x4 => if x4 < (x0.length : Int) then (if 0 ≤ x4 then (slices_Min_int_int.l0 k x0 (mn x3 (rd x0 x4)) (wrap64 (x4 + 1))) else (none)) else (some x3)
def slices_Min_int_int.f (k : Nat) (l0 : List Int) : Option (Int) := if (l0.length : Int) < 1 then (none) else (if 0 < (l0.length : Int) then (slices_Min_int_int.l0 k l0 (rd l0 0) 1) else (none))
def slices_Concat_int_int.f (l0 : List (List Int)) : Option (List Int) := if l0.length ≤ 1000 ∧ l0.flatten.length ≤ 1000000 then some l0.flatten else none
def impl_leastFirst.f (k : Nat) (l0 : List Int) : Option (List Int) := (slices_Min_int_int.f k l0).bind fun t180 => ((slices_Index_int_int.f k l0 t180).bind fun t181 => (if 0 ≤ t181 then (if t181 ≤ (l0.length : Int) then ((slices_Concat_int_int.f (([(l0.drop (t181 : Int).toNat), (l0.take (t181 : Int).toNat)] : List (List Int)))).bind fun t195 => (some t195)) else (none)) else (none)))
def impl_cycleAt.f (k : Nat) (l0 : List Int) (a1 : Int) : Option (List Int) := (impl_wayOf.f k l0 a1).bind fun t => if 0 ≤ t.2 ∧ t.2 ≤ (t.1.length : Int) then impl_leastFirst.f k (t.1.drop t.2.toNat) else none
def impl_cycles.l0 : Nat → List Int → List (List Int) → Int → Int → Option ((List (List Int)))
  | 0, _, _, _, _ => none
  | k + 1, x0, x3, x8, x9 => if x9 < x8 then ((impl_cycleAt.f k x0 x9).bind fun t201 => (if 0 < (t201.length : Int) then (if (rd t201 0) = x9 then (if x3.length < 5864062014805 then (impl_cycles.l0 k x0 (x3 ++ [t201]) x8 (wrap64 (x9 + 1))) else (none)) else (impl_cycles.l0 k x0 x3 x8 (wrap64 (x9 + 1)))) else (none))) else (some x3)
def impl_cycles.f (k : Nat) (l0 : List Int) : Option ((List (List Int))) := impl_cycles.l0 k l0 (([] : List (List Int))) (l0.length : Int) 0
def idxL (x : Int) : List (List Int) → Int → Int
  | [], _ => -1
  | c :: cs, i => if rd c 0 = x then i else idxL x cs (i + 1)
def basL (k0 : Nat) (l0 : List Int) (all : List (List Int)) : Nat → List Int → Int → Option (List Int)
  | 0, _, _ => none
  | k + 1, out, i => if i < (l0.length : Int) then (impl_cycleAt.f k0 l0 i).bind fun c => if 0 < c.length ∧ out.length < 1000 then basL k0 l0 all k (out ++ [idxL (rd c 0) all 0]) (wrap64 (i + 1)) else none else some out
def impl_BasinsOf.f (k : Nat) (l0 : List Int) : Option (List Int × Bool) := (impl_IsMap.f l0).bind fun b => if b = true then (impl_cycles.f k l0).bind fun all => if all.length ≤ 1000 ∧ (∀ c ∈ all, 0 < c.length) then (basL k l0 all k [] 0).bind fun out => some (out, true) else none else some ([], false)
mutual
def laws_FnExactBasinsOf.j0 : Nat → List Int → List Int → Bool → List Int → List Int → Bool → Bool → Option (Bool)
  | 0, _, _, _, _, _, _, _ => none
  | k + 1, x0, x3, x4, x5, x6, x7, x37 => if x37 = true then (some false) else ((laws_toIntS.f k x0).bind fun t223 => ((laws_eqIntS.f k x5 t223).bind fun t226 => (if t226 = true then ((laws_markIntS.f k x5 1).bind fun bt227 => (if bt227.1 < 0 then (laws_FnExactBasinsOf.j1 k x0 x3 x4 x6 true) else ((laws_eqIntS.f k x6 x3).bind fun t229 => (if t229 = true then (laws_FnExactBasinsOf.j1 k x0 x3 x4 x6 (x7 != x4)) else (laws_FnExactBasinsOf.j1 k x0 x3 x4 x6 true))))) else (some false))))
def laws_FnExactBasinsOf.j1 : Nat → List Int → List Int → Bool → List Int → Bool → Option (Bool)
  | 0, _, _, _, _, _ => none
  | k + 1, x0, x3, x4, x6, x58 => if x58 = true then (some false) else ((laws_markIntS.f k x6 1).bind fun bt230 => ((laws_heldIntS.f k bt230.2 1).bind fun t232 => (if t232 < 0 then (some false) else (if t232 = bt230.1 then ((laws_toIntS.f k x0).bind fun t233 => ((impl_BasinsOf.f k t233).bind fun bt236 => ((laws_eqIntS.f k bt236.1 x3).bind fun t240 => (if t240 = true then (laws_FnExactBasinsOf.j2 k bt230.2 bt230.1 (bt236.2 != x4)) else (laws_FnExactBasinsOf.j2 k bt230.2 bt230.1 true))))) else (some false)))))
def laws_FnExactBasinsOf.j2 : Nat → List Int → Int → Bool → Option (Bool)
  | 0, _, _, _ => none
  | k + 1, x6, x9, x84 => if x84 = true then (some false) else ((laws_heldIntS.f k x6 1).bind fun t241 => (if t241 < 0 then (some false) else (if t241 = x9 then (some true) else (some false))))
end
def laws_FnExactBasinsOf.f (k : Nat) (l0 : List Int) : Option (Bool) := if (l0.length : Int) > 1048576 then (some true) else ((laws_toIntS.f k l0).bind fun t208 => ((spec_BasinsOf.f k t208).bind fun bt211 => ((laws_toIntS.f k l0).bind fun t215 => ((impl_BasinsOf.f k t215).bind fun bt218 => ((laws_eqIntS.f k bt218.1 bt211.1).bind fun t222 => (if t222 = true then (laws_FnExactBasinsOf.j0 k l0 bt211.1 bt211.2 t215 bt218.1 bt218.2 (bt218.2 != bt211.2)) else (laws_FnExactBasinsOf.j0 k l0 bt211.1 bt211.2 t215 bt218.1 bt218.2 true)))))))
def laws_FnExactBasinsOf.Pure : Prop := ∀ (l0 : List Int), l0.length ≤ maxLen → l0.length * 8 ≤ 140737488351232 → (∀ x ∈ l0, (Lit.int .i64 x).wf = true) → ∃ k, laws_FnExactBasinsOf.f k l0 = some true
end Go.Proofs.YtcaohpcbohdkbaaGreatC
end
section
namespace Go.Proofs.YtcaohpcbohdkbaaGreatC
open Go.RowKit Go.Proofs.YtcaohpcbohdkbaaGreatW.PrintWords Go.Proofs.YtcaohpcbohdkbaaGreatW.PrintMore
set_option linter.unusedSimpArgs false
set_option linter.unusedVariables false
structure IsMin (e : Int) (l : List Int) : Prop where
  mem : e ∈ l
  le : ∀ y ∈ l, e ≤ y
theorem IsMin.unique {e e' : Int} {l : List Int} (h : IsMin e l) (h' : IsMin e' l) : e = e' := by
  have := h.le e' h'.mem
  have := h'.le e h.mem
  omega
theorem isMin_exists : ∀ (l : List Int), l ≠ [] → ∃ e, IsMin e l
  | [], h => absurd rfl h
  | [x], _ => ⟨x, by simp, by simp⟩
  | x :: y :: l, _ => by
    obtain ⟨e, h1, h2⟩ := isMin_exists (y :: l) (by simp)
    by_cases hx : x ≤ e
    · refine ⟨x, by simp, fun z hz => ?_⟩
      rcases List.mem_cons.1 hz with rfl | hz
      · omega
      · have := h2 z hz; omega
    · refine ⟨e, by simp [h1], fun z hz => ?_⟩
      rcases List.mem_cons.1 hz with rfl | hz
      · omega
      · exact h2 z hz
theorem Min_loop {e : Int} {xs : List Int} (he : IsMin e xs) (hx : xs.length ≤ 4611686018427387904) : ∀ (d i : Nat) (m : Int) (k : Nat), i + d = xs.length → d < k → m ∈ xs → (∀ j (h : j < xs.length), j < i → m ≤ xs[j]) →
    slices_Min_int_int.l0 k xs m (i : Int) = some e
  | 0, i, m, k, hi, hk, hm, hle => by
    obtain ⟨k, rfl⟩ : ∃ q, k = q + 1 := ⟨k - 1, by omega⟩
    rw [slices_Min_int_int.l0, if_neg (by omega)]
    have : IsMin m xs := ⟨hm, fun y hy => by
      obtain ⟨j, hj, rfl⟩ := List.getElem_of_mem hy
      exact hle j hj (by omega)⟩
    rw [this.unique he]
  | d + 1, i, m, k, hi, hk, hm, hle => by
    obtain ⟨k, rfl⟩ : ∃ q, k = q + 1 := ⟨k - 1, by omega⟩
    have hil : i < xs.length := by omega
    rw [slices_Min_int_int.l0, if_pos (by omega), if_pos (by omega), w64s (by omega), rd_get hil]
    refine Min_loop he hx d (i + 1) _ k (by omega) (by omega) ?_ (fun j hj hji => ?_)
    · unfold mn
      split
      · exact List.getElem_mem hil
      · exact hm
    · have h1 : j < i → m ≤ xs[j] := hle j hj
      unfold mn
      by_cases hji2 : j = i
      · subst hji2; split <;> omega
      · have := h1 (by omega)
        split <;> omega
theorem Min_eq {e : Int} {xs : List Int} (he : IsMin e xs) (hx : xs.length ≤ 4611686018427387904) {k : Nat} (hk : xs.length < k) : slices_Min_int_int.f k xs = some e := by
  have hp : 0 < xs.length := List.length_pos_of_mem he.mem
  rw [slices_Min_int_int.f, if_neg (by omega), if_pos (by omega)]
  have e0 : rd xs 0 = xs[0] := rd_get (j := 0) hp
  rw [e0]
  exact Min_loop he hx (xs.length - 1) 1 _ k (by omega) (by omega) (List.getElem_mem hp) (fun j hj h1 => by
    have : j = 0 := by omega
    subst this; exact Int.le_refl _)
def turned (xs : List Int) (e : Int) : List Int := xs.drop (xs.idxOf e) ++ xs.take (xs.idxOf e)
theorem turned_length (xs : List Int) (e : Int) : (turned xs e).length = xs.length := by
  simp only [turned, List.length_append, List.length_drop, List.length_take]; omega
theorem turned_first {e : Int} {xs : List Int} (he : IsMin e xs) : rd (turned xs e) 0 = e ∧ 0 < (turned xs e).length := by
  have hl : xs.idxOf e < xs.length := List.idxOf_lt_length_iff.2 he.mem
  have hg := List.getElem_idxOf hl
  refine ⟨?_, by rw [turned_length]; omega⟩
  rw [turned, List.drop_eq_getElem_cons hl, hg]
  rfl
theorem idxF_idx {x : Int} : ∀ (l : List Int) (i : Int), x ∈ l → idxF (fun y => decide (x = y)) l i = i + (l.idxOf x : Int)
  | [], i, h => by simp at h
  | y :: l, i, h => by
    rw [idxF, List.idxOf_cons]
    by_cases e : x = y
    · subst e; simp
    · have hm : x ∈ l := by
        rcases List.mem_cons.1 h with h | h
        · exact absurd h e
        · exact h
      have hb : (y == x) = false := beq_eq_false_iff_ne.mpr (fun h => e h.symm)
      rw [decide_eq_false e, if_neg (by decide), idxF_idx l (i + 1) hm, hb]
      simp; omega
theorem leastFirst_eq {e : Int} {xs : List Int} (he : IsMin e xs) (hx : xs.length ≤ 1000) {k : Nat} (hk : xs.length < k) : impl_leastFirst.f k xs = some (turned xs e) := by
  have hl : xs.idxOf e < xs.length := List.idxOf_lt_length_iff.2 he.mem
  rw [impl_leastFirst.f, Min_eq he (by omega) hk, Option.bind_some, Index_eq _ _ (by omega) hk, idxF_idx xs 0 he.mem, Option.bind_some, Int.zero_add, if_pos (by omega), if_pos (by omega), Int.toNat_natCast, slices_Concat_int_int.f, if_pos ⟨by simp, by simp; omega⟩, Option.bind_some]
  simp [turned]
def ent (l : List Int) (x : Int) : Int := it (rd l) x (rA l x)
theorem ent_cyc {l : List Int} (h : MapL l) {x : Int} (hx : Has l x) : Has l (ent l x) ∧ cyc l (ent l x) = true ∧ per l (ent l x) = per l x := by
  refine ⟨it_has h hx _, ?_, (rA_it h hx _).2⟩
  unfold ent
  rw [cyc_it h hx]; simp
theorem cycleAt_eq {l : List Int} (h : MapL l) (hl : l.length ≤ 60) {x : Int} (hx : Has l x) {e : Int} (he : IsMin e (cyL l (ent l x))) {k : Nat} (hk : l.length < k) : impl_cycleAt.f k l x = some (turned (cyL l (ent l x)) e) := by
  obtain ⟨hr, hm, _⟩ := rho_map h hx
  have hlt := hr.lt
  have hcl := cyL_length l (ent l x)
  have hpe := (ent_cyc h hx).2.2
  have hra := rA_lt h hx
  have hd : (orbit (rd l) x (rM l x)).drop (rA l x) = cyL l (ent l x) := by
    rw [orbit_drop, cyL, hpe]; rfl
  rw [impl_cycleAt.f, wayOf_eq h hl hx hk, Option.bind_some, if_pos ⟨by omega, by rw [orbit_length]; omega⟩, Int.toNat_natCast, hd]
  exact leastFirst_eq he (by omega) (by omega)
theorem cyL_cons {l : List Int} (h : MapL l) {x : Int} (hx : Has l x) : ∃ c, cyL l x = x :: c := by
  have := per_pos h hx
  obtain ⟨p, hp⟩ : ∃ p, per l x = p + 1 := ⟨per l x - 1, by omega⟩
  exact ⟨_, by rw [cyL, hp, orbit_cons]⟩
theorem cyL_first {l : List Int} (h : MapL l) {x : Int} (hx : Has l x) : rd (cyL l x) 0 = x := by
  obtain ⟨c, hc⟩ := cyL_cons h hx
  rw [hc]; rfl
theorem lead_min {l : List Int} (h : MapL l) {x : Int} (hx : Has l x) (hl : lead l x = true) : IsMin x (cyL l x) := by
  have hc := lead_cyc hl
  unfold lead at hl
  rw [hc, Bool.true_and, List.all_eq_true] at hl
  exact ⟨cyL_self h hx hc, fun y hy => by simpa using hl y hy⟩
theorem min_lead {l : List Int} (h : MapL l) {x e : Int} (hx : Has l x) (hc : cyc l x = true) (he : IsMin e (cyL l x)) : Has l e ∧ lead l e = true := by
  obtain ⟨h1, h2, _⟩ := cyL_has h hx hc he.mem
  refine ⟨h1, ?_⟩
  unfold lead
  rw [h2, Bool.true_and, List.all_eq_true]
  intro y hy
  have := he.le y ((cyL_same h hx hc he.mem y).1 hy)
  simpa using this
theorem ent_self {l : List Int} {x : Int} (hc : cyc l x = true) : ent l x = x := by
  have h0 : rA l x = 0 := by simpa [cyc] using hc
  unfold ent
  rw [h0]; rfl
theorem turned_lead {l : List Int} (h : MapL l) {x : Int} (hx : Has l x) : turned (cyL l x) x = cyL l x := by
  obtain ⟨c, hc⟩ := cyL_cons h hx
  rw [hc, turned, List.idxOf_cons_self]
  simp
theorem cycles_loop {l : List Int} (h : MapL l) (hl : l.length ≤ 60) : ∀ (d i k : Nat), i + d = l.length → l.length + d < k → impl_cycles.l0 k l (cycs l i) (l.length : Int) (i : Int) = some (cycs l l.length)
  | 0, i, k, hi, hk => by
    obtain ⟨k, rfl⟩ : ∃ q, k = q + 1 := ⟨k - 1, by omega⟩
    obtain rfl : i = l.length := by omega
    rw [impl_cycles.l0, if_neg (by omega)]
  | d + 1, i, k, hi, hk => by
    obtain ⟨k, rfl⟩ : ∃ q, k = q + 1 := ⟨k - 1, by omega⟩
    have hx : Has l (i : Int) := ⟨by omega, by omega⟩
    obtain ⟨e1, e2, e3⟩ := ent_cyc h hx
    obtain ⟨e, he⟩ := isMin_exists (cyL l (ent l (i : Int))) (by obtain ⟨c, hc⟩ := cyL_cons h e1; rw [hc]; simp)
    obtain ⟨f1, f2⟩ := turned_first he
    have hcl := cycs_length l i
    have ih := cycles_loop h hl d (i + 1) k (by omega) (by omega)
    rw [cycs] at ih
    rw [impl_cycles.l0, if_pos (by omega), cycleAt_eq h hl hx he (by omega), Option.bind_some, if_pos (by omega), f1, w64s (by omega)]
    by_cases hei : e = (i : Int)
    · have hm := he.mem
      rw [hei] at hm
      have hc := (cyL_has h e1 e2 hm).2.1
      have hz := ent_self hc
      rw [hz] at he
      have hld : lead l (i : Int) = true := by
        have := (min_lead h hx hc he).2
        rw [hei] at this
        exact this
      rw [if_pos hei, if_pos (by omega), hz, hei, turned_lead h hx]
      rw [if_pos hld] at ih
      exact ih
    · have hld : lead l (i : Int) = false := by
        cases hld : lead l (i : Int) with
        | false => rfl
        | true =>
          have hc := lead_cyc hld
          rw [ent_self hc] at he
          exact absurd (he.unique (lead_min h hx hld)) hei
      rw [if_neg hei]
      rw [if_neg (by rw [hld]; decide), List.append_nil] at ih
      exact ih
theorem cycles_eq {l : List Int} (h : MapL l) (hl : l.length ≤ 60) {k : Nat} (hk : 2 * l.length < k) : impl_cycles.f k l = some (cycs l l.length) := cycles_loop h hl l.length 0 k (by omega) (by omega)
end Go.Proofs.YtcaohpcbohdkbaaGreatC
end
section
namespace Go.Proofs.YtcaohpcbohdkbaaGreatC
open Go.RowKit Go.Proofs.YtcaohpcbohdkbaaGreatW.PrintWords Go.Proofs.YtcaohpcbohdkbaaGreatW.PrintMore
set_option linter.unusedSimpArgs false
set_option linter.unusedVariables false
theorem l1Has_loop (xs : List Int) (x : Int) (hx : xs.length ≤ 1048576) : ∀ (d i k : Nat), i + d = xs.length → d < k → (¬ x ∈ xs.take i) → spec_l1Has.l0 k x xs (xs.length : Int) (i : Int) = some (decide (x ∈ xs))
  | 0, i, k, hi, hk, hn => by
    obtain ⟨k, rfl⟩ : ∃ q, k = q + 1 := ⟨k - 1, by omega⟩
    rw [List.take_of_length_le (by omega)] at hn
    rw [spec_l1Has.l0, if_neg (by omega), decide_eq_false hn]
  | d + 1, i, k, hi, hk, hn => by
    obtain ⟨k, rfl⟩ : ∃ q, k = q + 1 := ⟨k - 1, by omega⟩
    have hil : i < xs.length := by omega
    rw [spec_l1Has.l0, if_pos (by omega), if_pos (by omega), if_pos (by omega), rd_get hil]
    by_cases he : xs[i] = x
    · rw [if_pos he, decide_eq_true (he ▸ List.getElem_mem hil)]
    · rw [if_neg he, w64s (by omega)]
      refine l1Has_loop xs x hx d (i + 1) k (by omega) (by omega) ?_
      rw [take_s hil, List.mem_append, List.mem_singleton]
      rintro (h | h)
      · exact hn h
      · exact he h.symm
theorem l1Has_eq (xs : List Int) (x : Int) (hx : xs.length ≤ 1048576) {k : Nat} (hk : xs.length < k) : spec_l1Has.f k xs x = some (decide (x ∈ xs)) := l1Has_loop xs x hx xs.length 0 k (by omega) hk (by simp)
end Go.Proofs.YtcaohpcbohdkbaaGreatC
end
section
namespace Go.Proofs.YtcaohpcbohdkbaaGreatC
open Go.RowKit Go.Proofs.YtcaohpcbohdkbaaGreatW.PrintWords Go.Proofs.YtcaohpcbohdkbaaGreatW.PrintMore
set_option linter.unusedSimpArgs false
set_option linter.unusedVariables false
theorem idxL_hit' {x : Int} : ∀ (a : List (List Int)) (y : List Int) (c : List (List Int)) (i : Int), (∀ z ∈ a, ¬ rd z 0 = x) → rd y 0 = x → idxL x (a ++ y :: c) i = i + (a.length : Int)
  | [], y, c, i, _, hy => by simp [idxL, hy]
  | z :: a, y, c, i, h, hy => by
    rw [List.cons_append, idxL, if_neg (h z (by simp)), idxL_hit' a y c (i + 1) (fun u hu => h u (by simp [hu])) hy]
    simp; omega
theorem basin_iff {l : List Int} (h : MapL l) {x e : Int} (hx : Has l x) (he : IsMin e (cyL l (ent l x))) {c : List Int} (hc : c ∈ cycs l l.length) : rd c 0 = e ↔ it (rd l) x l.length ∈ c := by
  obtain ⟨i, hi, hld, rfl⟩ := mem_cycs.1 hc
  have hix : Has l (i : Int) := ⟨by omega, by omega⟩
  obtain ⟨e1, e2, e3⟩ := ent_cyc h hx
  have hic := lead_cyc hld
  have hra := rA_lt h hx
  have hend : it (rd l) x l.length ∈ cyL l (ent l x) := by
    refine (mem_cyL h e1 e2 _).2 ⟨l.length - rA l x, ?_⟩
    unfold ent
    rw [← it_add]
    congr 1
    omega
  rw [cyL_first h hix]
  constructor
  · intro hie
    have hm := he.mem
    rw [← hie] at hm
    exact (cyL_same h e1 e2 hm _).2 hend
  · intro hm
    have hiz : ∀ y, y ∈ cyL l (i : Int) ↔ y ∈ cyL l (ent l x) := fun y => (cyL_same h hix hic hm y).symm.trans (cyL_same h e1 e2 hend y)
    have h1 := lead_min h hix hld
    exact (IsMin.mk ((hiz _).1 h1.mem) (fun y hy => h1.le y ((hiz y).2 hy))).unique he
theorem basin_led {l : List Int} (h : MapL l) {x e : Int} (hx : Has l x) (he : IsMin e (cyL l (ent l x))) : ∃ j, ∃ hj : j < (cycs l l.length).length, rd (cycs l l.length)[j] 0 = e ∧ ∀ q (hq : q < (cycs l l.length).length), q < j → ¬ rd (cycs l l.length)[q] 0 = e := by
  obtain ⟨e1, e2, e3⟩ := ent_cyc h hx
  obtain ⟨g1, g2⟩ := min_lead h e1 e2 he
  obtain ⟨i, rfl⟩ := Int.eq_ofNat_of_zero_le g1.1
  have hm : cyL l (i : Int) ∈ cycs l l.length := mem_cycs.2 ⟨i, by have := g1.2; omega, g2, rfl⟩
  have hex : ∃ j, ∃ hj : j < (cycs l l.length).length, rd (cycs l l.length)[j] 0 = (i : Int) := by
    obtain ⟨j, hj, e⟩ := List.getElem_of_mem hm
    exact ⟨j, hj, by rw [e]; exact cyL_first h g1⟩
  have key : ∀ n j, j ≤ n → ∀ hj : j < (cycs l l.length).length, rd (cycs l l.length)[j] 0 = (i : Int) → ∃ j, ∃ hj : j < (cycs l l.length).length, rd (cycs l l.length)[j] 0 = (i : Int) ∧ ∀ q (hq : q < (cycs l l.length).length), q < j → ¬ rd (cycs l l.length)[q] 0 = (i : Int) := by
    intro n
    induction n with
    | zero => intro j hjn hj e; exact ⟨j, hj, e, fun q hq hlt => by omega⟩
    | succ n ih =>
      intro j hjn hj e
      by_cases hq : ∃ q, ∃ hq : q < (cycs l l.length).length, q < j ∧ rd (cycs l l.length)[q] 0 = (i : Int)
      · obtain ⟨q, hq1, hq2, hq3⟩ := hq
        exact ih q (by omega) hq1 hq3
      · exact ⟨j, hj, e, fun q hq1 hq2 hq3 => hq ⟨q, hq1, hq2, hq3⟩⟩
  obtain ⟨j, hj, e⟩ := hex
  exact key j j (Nat.le_refl _) hj e
theorem idxL_at {l : List (List Int)} {e : Int} {j : Nat} (hj : j < l.length) (h1 : rd l[j] 0 = e) (h2 : ∀ q (hq : q < l.length), q < j → ¬ rd l[q] 0 = e) : idxL e l 0 = (j : Int) := by
  have h3 : l = l.take j ++ l[j] :: l.drop (j + 1) := by
    conv => lhs; rw [← List.take_append_drop j l, List.drop_eq_getElem_cons hj]
  have h4 := idxL_hit' (x := e) (l.take j) l[j] (l.drop (j + 1)) 0 (fun z hz => by
    obtain ⟨q, hq, rfl⟩ := List.getElem_of_mem hz
    rw [List.length_take] at hq
    rw [List.getElem_take]
    exact h2 q (by omega) (by omega)) h1
  rw [← h3, List.length_take, Nat.min_eq_left (by omega)] at h4
  rw [h4]
  omega
theorem spec_Basins_l1 {l : List Int} (h : MapL l) (hl : l.length ≤ 60) {x : Int} (hx : Has l x) {e : Int} (he : IsMin e (cyL l (ent l x))) (out : List Int) (ho : out.length ≤ 60) (x15 x16 : Int) (j : Nat) (hj : j < (cycs l l.length).length) (h1 : rd (cycs l l.length)[j] 0 = e) (h2 : ∀ q (hq : q < (cycs l l.length).length), q < j → ¬ rd (cycs l l.length)[q] 0 = e) :
    ∀ (d q k : Nat), q + d = j → spec_BasinsOf.l1 (k + 200 + d + 1) l (cycs l l.length) out (it (rd l) x l.length) (q : Int) x15 x16 = spec_BasinsOf.l0 (k + 200) l (cycs l l.length) (out ++ [(j : Int)]) x15 (wrap64 (x16 + 1))
  | 0, q, k, hq => by
    obtain rfl : q = j := by omega
    have hcl := cycs_length l l.length
    have hm := (basin_iff h hx he (List.getElem_mem hj)).1 h1
    have hrd : rd_L2 (cycs l l.length) (q : Int) = (cycs l l.length)[q] := by simp [rd_L2, List.getD_eq_getElem?_getD, List.getElem?_eq_getElem hj]
    have hlen : (cycs l l.length)[q].length ≤ 60 := by
      obtain ⟨i, hi, _, e⟩ := mem_cycs.1 (List.getElem_mem hj)
      rw [e, cyL_length]
      have := rA_lt h (x := (i : Int)) ⟨by omega, by omega⟩
      omega
    rw [spec_BasinsOf.l1, if_pos (by omega), if_pos (by omega), hrd, l1Has_eq _ _ (by omega) (by omega), Option.bind_some, if_pos (by simpa using hm), if_pos (by omega)]
  | d + 1, q, k, hq => by
    have hqj : q < (cycs l l.length).length := by omega
    have hcl := cycs_length l l.length
    have hm : ¬ it (rd l) x l.length ∈ (cycs l l.length)[q] := fun hm => h2 q hqj (by omega) ((basin_iff h hx he (List.getElem_mem hqj)).2 hm)
    have hrd : rd_L2 (cycs l l.length) (q : Int) = (cycs l l.length)[q] := by simp [rd_L2, List.getD_eq_getElem?_getD, List.getElem?_eq_getElem hqj]
    have hlen : (cycs l l.length)[q].length ≤ 60 := by
      obtain ⟨i, hi, _, e⟩ := mem_cycs.1 (List.getElem_mem hqj)
      rw [e, cyL_length]
      have := rA_lt h (x := (i : Int)) ⟨by omega, by omega⟩
      omega
    rw [show k + 200 + (d + 1) + 1 = (k + 200 + d + 1) + 1 by omega, spec_BasinsOf.l1, if_pos (by omega), if_pos (by omega), hrd, l1Has_eq _ _ (by omega) (by omega), Option.bind_some, if_neg (by simpa using hm), w64s (by omega)]
    exact spec_Basins_l1 h hl hx he out ho x15 x16 j hj h1 h2 d (q + 1) k (by omega)
end Go.Proofs.YtcaohpcbohdkbaaGreatC
end
section
namespace Go.Proofs.YtcaohpcbohdkbaaGreatC
open Go.RowKit Go.Proofs.YtcaohpcbohdkbaaGreatW.PrintWords Go.Proofs.YtcaohpcbohdkbaaGreatW.PrintMore
set_option linter.unusedVariables false
def spec_mpGcd.f : Nat → Int → Int → Option (Int)
  | 0, _, _ => none
  | k + 1, a0, a1 => if a1 = 0 then (some a0) else ((spec_mpGcd.f k a1 (Int.tmod a0 a1)).bind fun t138 => (some t138))
def spec_l1Most.f (a0 : Int) (a1 : Int) : Option (Int) := if a0 > a1 then (some a0) else (some a1)
def spec_mpDeepest.l0 : Nat → Int → List Int → Int → Int → Option (Int)
  | 0, _, _, _, _ => none
  | k + 1, x3, x7, x8, x9 => if x9 < x8 then (if 0 ≤ x9 then (if x9 < (x7.length : Int) then ((spec_l1Most.f x3 (rd x7 x9)).bind fun t152 => (spec_mpDeepest.l0 k t152 x7 x8 (wrap64 (x9 + 1)))) else (none)) else (none)) else (some x3)
def spec_mpDeepest.f (k : Nat) (l0 : List Int) : Option (Int) := (spec_mpDepths.f k l0).bind fun t148 => (spec_mpDeepest.l0 k 0 t148 (t148.length : Int) 0)
def spec_WhenSteady.l0 : Nat → List Int → Int → List (List Int) → Int → Int → Option (Int × Int × Bool)
  | 0, _, _, _, _, _ => none
  | k + 1, x0, x5, x13, x14, x15 => if x15 < x14 then (if 0 ≤ x15 then (if x15 < (x13.length : Int) then ((spec_mpGcd.f k x5 ((rd_L2 x13 x15).length : Int)).bind fun t159 => (if t159 = 0 then (none) else (if ((rd_L2 x13 x15).length : Int) = 0 then (none) else (if (wrap64 (Int.tdiv x5 t159)) > (wrap64 (Int.tdiv (1000000000000000 : Int) ((rd_L2 x13 x15).length : Int))) then (some (0, 0, false)) else ((spec_mpGcd.f k x5 ((rd_L2 x13 x15).length : Int)).bind fun t160 => (if t160 = 0 then (none) else (spec_WhenSteady.l0 k x0 (wrap64 ((wrap64 (Int.tdiv x5 t160)) * ((rd_L2 x13 x15).length : Int))) x13 x14 (wrap64 (x15 + 1))))))))) else (none)) else (none)) else ((spec_mpDeepest.f k x0).bind fun t157 => (some (t157, x5, true)))
def spec_WhenSteady.f (k : Nat) (l0 : List Int) : Option (Int × Int × Bool) := (spec_mpGood.f k l0).bind fun t153 => (if t153 = true then ((spec_mpCycles.f k l0).bind fun t154 => (spec_WhenSteady.l0 k l0 1 t154 (t154.length : Int) 0)) else (some (0, 0, false)))
def impl_gcd.l0 : Nat → Int → Int → Option (Int)
  | 0, _, _ => none
  | k + 1, x0, x1 => if x1 = 0 then (some x0) else (impl_gcd.l0 k x1 (Int.tmod x0 x1))
def impl_gcd.f (k : Nat) (a0 : Int) (a1 : Int) : Option (Int) := impl_gcd.l0 k a0 a1
def slices_Max_int_int.l0 : Nat → List Int → Int → Int → Option (Int)
  | 0, _, _, _ => none
  | k + 1, x0, x3, x4 => if x4 < (x0.length : Int) then (if 0 ≤ x4 then (slices_Max_int_int.l0 k x0 (mx x3 (rd x0 x4)) (wrap64 (x4 + 1))) else (none)) else (some x3)
def slices_Max_int_int.f (k : Nat) (l0 : List Int) : Option (Int) := if (l0.length : Int) < 1 then (none) else (if 0 < (l0.length : Int) then (slices_Max_int_int.l0 k l0 (rd l0 0) 1) else (none))
def impl_WhenSteady.l0 : Nat → List Int → Int → List (List Int) → Int → Int → Option (Int × Int × Bool)
  | 0, _, _, _, _, _ => none
  | k + 1, x0, x5, x12, x13, x14 => if x14 < x13 then (if 0 ≤ x14 then (if x14 < (x12.length : Int) then ((impl_gcd.f k x5 ((rd_L2 x12 x14).length : Int)).bind fun t233 => (if t233 = 0 then (none) else (if (wrap64 ((wrap64 (Int.tdiv x5 t233)) * ((rd_L2 x12 x14).length : Int))) > 1000000000000000 then (some (0, 0, false)) else (impl_WhenSteady.l0 k x0 (wrap64 ((wrap64 (Int.tdiv x5 t233)) * ((rd_L2 x12 x14).length : Int))) x12 x13 (wrap64 (x14 + 1)))))) else (none)) else (none)) else ((impl_depths.f k x0).bind fun t234 => ((slices_Max_int_int.f k t234).bind fun t237 => (some (t237, x5, true))))
def impl_WhenSteady.f (k : Nat) (l0 : List Int) : Option (Int × Int × Bool) := (impl_IsMap.f l0).bind fun t228 => (if t228 = true then ((impl_cycles.f k l0).bind fun t229 => (impl_WhenSteady.l0 k l0 1 t229 (t229.length : Int) 0)) else (some (0, 0, false)))
def laws_FnExactWhenSteady.j0 : Nat → List Int → List Int → Bool → Option (Bool)
  | 0, _, _, _ => none
  | k + 1, x0, x6, x40 => if x40 = true then (some false) else ((laws_toIntS.f k x0).bind fun t252 => ((laws_eqIntS.f k x6 t252).bind fun t255 => (if t255 = true then (some true) else (some false))))
def laws_FnExactWhenSteady.f (k : Nat) (l0 : List Int) : Option (Bool) := if (l0.length : Int) > 1048576 then (some true) else ((laws_toIntS.f k l0).bind fun t240 => ((spec_WhenSteady.f k t240).bind fun bt243 => ((laws_toIntS.f k l0).bind fun t246 => ((impl_WhenSteady.f k t246).bind fun bt249 => (if bt249.1 = bt243.1 then (if bt249.2.1 = bt243.2.1 then (laws_FnExactWhenSteady.j0 k l0 t246 (bt249.2.2 != bt243.2.2)) else (laws_FnExactWhenSteady.j0 k l0 t246 true)) else (laws_FnExactWhenSteady.j0 k l0 t246 true))))))
def laws_FnExactWhenSteady.Pure : Prop := ∀ (l0 : List Int), l0.length ≤ maxLen → l0.length * 8 ≤ 140737488351232 → (∀ x ∈ l0, (Lit.int .i64 x).wf = true) → ∃ k, laws_FnExactWhenSteady.f k l0 = some true
end Go.Proofs.YtcaohpcbohdkbaaGreatC
end
