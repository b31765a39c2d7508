/- Plain texts of FnOwnPowers, merged by a program: what Go functions compute, lemmas of the walk, and proofs. No conditions. -/
import Derived.Test.YtehhkkbejmhcfaaZFnOwnPowers2
import Derived.Test.YtehhkkbejmhcfaaZFnOwnPowers3
section
namespace Go.Proofs.YtehhkkbejmhcfaaC
open Go.RowKit Go.Proofs.YtehhkkbejmhcfaaW.PrintWords Go.Proofs.YtehhkkbejmhcfaaW.PrintMore
set_option linter.unusedVariables false
def pwRunF (step : Int → Option Int) : Nat → List Int → Int → Option (List Int × Int)
  | 0, _, _ => none
  | k + 1, out, n => (step n).bind fun m => if out.length < 17592186044415 then (if m ∈ out then some (out, (out.idxOf m : Int)) else pwRunF step k (out ++ [m]) m) else none
def spec_pwRun.f (k : Nat) (a0 : Int) (a1 : Int) (a2 : Int) : Option (List Int × Int) := pwRunF (fun n => spec_pwSum.f k n a1 a2) k [a0] a0
def spec_PowerTail.f (k : Nat) (a0 : Int) (a1 : Int) (a2 : Int) : Option (Int × Int × Bool) := (spec_dgAsked.f a0 a1).bind fun t107 => (if t107 = true then ((spec_pwPower.f a2 4).bind fun t108 => (if t108 = true then ((spec_pwRun.f k a0 a1 a2).bind fun bt109 => (some (bt109.2, wrap64 ((bt109.1.length : Int) - bt109.2), true))) else (some (0, 0, false)))) else (some (0, 0, false)))
def impl_isCycled.f (a0 : Int) (a1 : Int) (a2 : Int) : Option (Bool) := (impl_isNumber.f a0 a1).bind fun t116 => (if t116 = true then ((impl_in.f a2 1 4).bind fun t117 => (some t117)) else (some false))
def runF (step : Int → Option Int) : Nat → List Int → Int → Option (List Int × Int)
  | 0, _, _ => none
  | k + 1, out, n => if -9223372036854775808 ≤ n ∧ n ≤ 9223372036854775807 ∧ out.length < 17592186044415 then (if n ∈ out then some (out, (out.idxOf n : Int)) else (step n).bind fun m => runF step k (out ++ [n]) m) else none
def impl_powerRun.f (k : Nat) (a0 : Int) (a1 : Int) (a2 : Int) : Option (List Int × Int) := runF (fun n => impl_powerSum.f k n a1 a2) k [] a0
def impl_PowerTail.f (k : Nat) (a0 : Int) (a1 : Int) (a2 : Int) : Option (Int × Int × Bool) := (impl_isCycled.f a0 a1 a2).bind fun t134 => (if t134 = true then ((impl_powerRun.f k a0 a1 a2).bind fun bt135 => (some (bt135.2, wrap64 ((bt135.1.length : Int) - bt135.2), true))) else (some (0, 0, false)))
def laws_FnExactPowerTail.f (k : Nat) (a0 : Int) (a1 : Int) (a2 : Int) : Option (Bool) := (spec_PowerTail.f k a0 a1 a2).bind fun bt139 => ((impl_PowerTail.f k a0 a1 a2).bind fun bt142 => (if bt142.1 = bt139.1 then (if bt142.2.1 = bt139.2.1 then (if (bt142.2.2 != bt139.2.2) = true then (some false) else (some true)) else (some false)) else (some false)))
def laws_FnExactPowerTail.Pure : Prop := ∀ (a0 : Int) (a1 : Int) (a2 : Int), (Lit.int .i64 a0).wf = true → (Lit.int .i64 a1).wf = true → (Lit.int .i64 a2).wf = true → ∃ k, laws_FnExactPowerTail.f k a0 a1 a2 = some true
def spec_PowerRun.f (k : Nat) (a0 : Int) (a1 : Int) (a2 : Int) : Option (List Int × Bool) := (spec_dgAsked.f a0 a1).bind fun t111 => (if t111 = true then ((spec_pwPower.f a2 4).bind fun t112 => (if t112 = true then ((spec_pwRun.f k a0 a1 a2).bind fun bt113 => (some (bt113.1, true))) else (some (([] : List Int), false)))) else (some (([] : List Int), false)))
def impl_PowerRun.f (k : Nat) (a0 : Int) (a1 : Int) (a2 : Int) : Option (List Int × Bool) := (impl_isCycled.f a0 a1 a2).bind fun t138 => (if t138 = true then ((impl_powerRun.f k a0 a1 a2).bind fun bt139 => (some (bt139.1, true))) else (some (([] : List Int), false)))
mutual
def laws_FnExactPowerRun.j0 : Nat → Int → Int → Int → List Int → Bool → List Int → Bool → Option (Bool)
  | 0, _, _, _, _, _, _, _ => none
  | k + 1, x0, x1, x2, x7, x8, x9, x37 => if x37 = true then (some false) else ((laws_markIntS.f k x9 1).bind fun bt152 => ((laws_heldIntS.f k bt152.2 1).bind fun t154 => (if t154 < 0 then (some false) else (if t154 = bt152.1 then ((impl_PowerRun.f k x0 x1 x2).bind fun bt155 => ((laws_eqIntS.f k bt155.1 x7).bind fun t159 => (if t159 = true then (laws_FnExactPowerRun.j1 k bt152.2 bt152.1 (bt155.2 != x8)) else (laws_FnExactPowerRun.j1 k bt152.2 bt152.1 true)))) else (some false)))))
def laws_FnExactPowerRun.j1 : Nat → List Int → Int → Bool → Option (Bool)
  | 0, _, _, _ => none
  | k + 1, x9, x11, x64 => if x64 = true then (some false) else ((laws_heldIntS.f k x9 1).bind fun t160 => (if t160 < 0 then (some false) else (if t160 = x11 then (some true) else (some false))))
end
def laws_FnExactPowerRun.f (k : Nat) (a0 : Int) (a1 : Int) (a2 : Int) : Option (Bool) := (spec_PowerRun.f k a0 a1 a2).bind fun bt143 => ((impl_PowerRun.f k a0 a1 a2).bind fun bt147 => ((laws_eqIntS.f k bt147.1 bt143.1).bind fun t151 => (if t151 = true then (laws_FnExactPowerRun.j0 k a0 a1 a2 bt143.1 bt143.2 bt147.1 (bt147.2 != bt143.2)) else (laws_FnExactPowerRun.j0 k a0 a1 a2 bt143.1 bt143.2 bt147.1 true))))
def laws_FnExactPowerRun.Pure : Prop := ∀ (a0 : Int) (a1 : Int) (a2 : Int), (Lit.int .i64 a0).wf = true → (Lit.int .i64 a1).wf = true → (Lit.int .i64 a2).wf = true → ∃ k, laws_FnExactPowerRun.f k a0 a1 a2 = some true
def spec_l1Own.f (l0 : List Int) : Option (List Int) := (some (([] : List Int) : List Int)).bind fun y107 => (if y107.length + l0.length < 17592186044416 then (some (y107 ++ l0)) else (none))
def spec_pwTurned.l0 : Nat → List Int → Int → List Int → Int → Int → Option (List Int)
  | 0, _, _, _, _, _ => none
  | k + 1, x0, x3, x6, x7, x8 => if x8 < x7 then (if 0 ≤ x8 then (if x8 < (x6.length : Int) then (if 0 ≤ x3 then (if x3 < (x0.length : Int) then (if (rd x6 x8) < (rd x0 x3) then (spec_pwTurned.l0 k x0 x8 x6 x7 (wrap64 (x8 + 1))) else (spec_pwTurned.l0 k x0 x3 x6 x7 (wrap64 (x8 + 1)))) else (none)) else (none)) else (none)) else (none)) else (if 0 ≤ x3 then (if x3 ≤ (x0.length : Int) then ((spec_l1Own.f (x0.drop (x3 : Int).toNat)).bind fun t116 => (if t116.length + (x0.take (x3 : Int).toNat).length < 17592186044416 then (some (t116 ++ (x0.take (x3 : Int).toNat))) else (none))) else (none)) else (none))
def spec_pwTurned.f (k : Nat) (l0 : List Int) : Option (List Int) := spec_pwTurned.l0 k l0 0 l0 (l0.length : Int) 0
def spec_pwEnds.f (k : Nat) (a0 : Int) (a1 : Int) (a2 : Int) : Option (Int) := (spec_pwRun.f k a0 a1 a2).bind fun bt123 => (if 0 ≤ bt123.2 then (if bt123.2 ≤ (bt123.1.length : Int) then ((spec_pwTurned.f k (bt123.1.drop (bt123.2 : Int).toNat)).bind fun t131 => (if 0 < (t131.length : Int) then (some (rd t131 0)) else (none))) else (none)) else (none))
def spec_EndsIn.f (k : Nat) (a0 : Int) (a1 : Int) (a2 : Int) : Option (Int × Bool) := (spec_dgAsked.f a0 a1).bind fun t135 => (if t135 = true then ((spec_pwPower.f a2 4).bind fun t136 => (if t136 = true then ((spec_pwEnds.f k a0 a1 a2).bind fun t137 => (some (t137, true))) else (some (0, false)))) else (some (0, false)))
def slices_Min_int_int.l0 : Nat → List Int → Int → Int → Option (Int)
  | 0, _, _, _ => none
  | k + 1, x0, x3, x4 => if x4 < (x0.length : Int) then (if 0 ≤ x4 then (slices_Min_int_int.l0 k x0 (mn x3 (rd x0 x4)) (wrap64 (x4 + 1))) else (none)) else (some x3)
def slices_Min_int_int.f (k : Nat) (l0 : List Int) : Option (Int) := if (l0.length : Int) < 1 then (none) else (if 0 < (l0.length : Int) then (slices_Min_int_int.l0 k l0 (rd l0 0) 1) else (none))
def impl_EndsIn.f (k : Nat) (a0 : Int) (a1 : Int) (a2 : Int) : Option (Int × Bool) := (impl_isCycled.f a0 a1 a2).bind fun t161 => (if t161 = true then ((impl_powerRun.f k a0 a1 a2).bind fun bt162 => (if 0 ≤ bt162.2 then (if bt162.2 ≤ (bt162.1.length : Int) then ((slices_Min_int_int.f k (bt162.1.drop (bt162.2 : Int).toNat)).bind fun t170 => (some (t170, true))) else (none)) else (none))) else (some (0, false)))
def laws_FnExactEndsIn.f (k : Nat) (a0 : Int) (a1 : Int) (a2 : Int) : Option (Bool) := (spec_EndsIn.f k a0 a1 a2).bind fun bt171 => ((impl_EndsIn.f k a0 a1 a2).bind fun bt173 => (if bt173.1 = bt171.1 then (if (bt173.2 != bt171.2) = true then (some false) else (some true)) else (some false)))
def laws_FnExactEndsIn.Pure : Prop := ∀ (a0 : Int) (a1 : Int) (a2 : Int), (Lit.int .i64 a0).wf = true → (Lit.int .i64 a1).wf = true → (Lit.int .i64 a2).wf = true → ∃ k, laws_FnExactEndsIn.f k a0 a1 a2 = some true
def spec_pwHappy.f (k : Nat) (a0 : Int) (a1 : Int) : Option (Bool) := if a0 > 0 then ((spec_pwEnds.f k a0 a1 2).bind fun t134 => (some (t134 == 1))) else (some false)
def spec_IsHappy.f (k : Nat) (a0 : Int) (a1 : Int) : Option (Bool × Bool) := (spec_dgAsked.f a0 a1).bind fun t135 => (if t135 = true then ((spec_pwHappy.f k a0 a1).bind fun t136 => (some (t136, true))) else (some (false, false)))
def impl_isHappy.f (k : Nat) (a0 : Int) (a1 : Int) : Option (Bool) := (impl_powerRun.f k a0 a1 2).bind fun bt158 => ((slices_Contains_int_int.f k bt158.1 1).bind fun t162 => (some t162))
def impl_IsHappy.f (k : Nat) (a0 : Int) (a1 : Int) : Option (Bool × Bool) := (impl_isNumber.f a0 a1).bind fun t163 => (if t163 = true then ((impl_isHappy.f k a0 a1).bind fun t164 => (some (t164, true))) else (some (false, false)))
def laws_FnExactIsHappy.f (k : Nat) (a0 : Int) (a1 : Int) : Option (Bool) := (spec_IsHappy.f k a0 a1).bind fun bt165 => ((impl_IsHappy.f k a0 a1).bind fun bt167 => (if (bt167.1 != bt165.1) = true then (some false) else (if (bt167.2 != bt165.2) = true then (some false) else (some true))))
def laws_FnExactIsHappy.Pure : Prop := ∀ (a0 : Int) (a1 : Int), (Lit.int .i64 a0).wf = true → (Lit.int .i64 a1).wf = true → ∃ k, laws_FnExactIsHappy.f k a0 a1 = some true
mutual
def spec_HappyUpTo.j0 : Nat → Int → Int → Bool → Option (List Int × Bool)
  | 0, _, _, _ => none
  | k + 1, x0, x1, x15 => if x15 = true then (some (([] : List Int), false)) else (spec_HappyUpTo.l0 k x0 x1 ([] : List Int) 1)
def spec_HappyUpTo.l0 : Nat → Int → Int → List Int → Int → Option (List Int × Bool)
  | 0, _, _, _, _ => none
  | k + 1, x0, x1, x6, x7 => if x7 ≤ x0 then ((spec_pwHappy.f k x7 x1).bind fun t138 => (if t138 = true then (if x6.length < 17592186044416 then (spec_HappyUpTo.l0 k x0 x1 (x6 ++ [x7]) (wrap64 (x7 + 1))) else (none)) else (spec_HappyUpTo.l0 k x0 x1 x6 (wrap64 (x7 + 1))))) else (some (x6, true))
end
def spec_HappyUpTo.f (k : Nat) (a0 : Int) (a1 : Int) : Option (List Int × Bool) := (spec_l1In.f a0 0 2000).bind fun t136 => (if t136 = true then ((spec_dgBase.f a1).bind fun t137 => (spec_HappyUpTo.j0 k a0 a1 (!t137))) else (spec_HappyUpTo.j0 k a0 a1 true))
mutual
def impl_HappyUpTo.j0 : Nat → Int → Int → Bool → Option (List Int × Bool)
  | 0, _, _, _ => none
  | k + 1, x0, x1, x15 => if x15 = true then (some (([] : List Int), false)) else (impl_HappyUpTo.l0 k x0 x1 (([] : List Int)) 1)
def impl_HappyUpTo.l0 : Nat → Int → Int → List Int → Int → Option (List Int × Bool)
  | 0, _, _, _, _ => none
  | k + 1, x0, x1, x6, x7 => if x7 ≤ x0 then ((impl_isHappy.f k x7 x1).bind fun t171 => (if t171 = true then (if x6.length < 17592186044416 then (impl_HappyUpTo.l0 k x0 x1 (x6 ++ [x7]) (wrap64 (x7 + 1))) else (none)) else (impl_HappyUpTo.l0 k x0 x1 x6 (wrap64 (x7 + 1))))) else (some (x6, true))
end
def impl_HappyUpTo.f (k : Nat) (a0 : Int) (a1 : Int) : Option (List Int × Bool) := (impl_isBase.f a1).bind fun t166 => (if t166 = true then ((impl_in.f a0 0 2000).bind fun t167 => (impl_HappyUpTo.j0 k a0 a1 (!t167))) else (impl_HappyUpTo.j0 k a0 a1 true))
mutual
def laws_FnExactHappyUpTo.j0 : Nat → Int → Int → List Int → Bool → List Int → Bool → Option (Bool)
  | 0, _, _, _, _, _, _ => none
  | k + 1, x0, x1, x5, x6, x7, x33 => if x33 = true then (some false) else ((laws_markIntS.f k x7 1).bind fun bt184 => ((laws_heldIntS.f k bt184.2 1).bind fun t186 => (if t186 < 0 then (some false) else (if t186 = bt184.1 then ((impl_HappyUpTo.f k x0 x1).bind fun bt187 => ((laws_eqIntS.f k bt187.1 x5).bind fun t191 => (if t191 = true then (laws_FnExactHappyUpTo.j1 k bt184.2 bt184.1 (bt187.2 != x6)) else (laws_FnExactHappyUpTo.j1 k bt184.2 bt184.1 true)))) else (some false)))))
def laws_FnExactHappyUpTo.j1 : Nat → List Int → Int → Bool → Option (Bool)
  | 0, _, _, _ => none
  | k + 1, x7, x9, x59 => if x59 = true then (some false) else ((laws_heldIntS.f k x7 1).bind fun t192 => (if t192 < 0 then (some false) else (if t192 = x9 then (some true) else (some false))))
end
def laws_FnExactHappyUpTo.f (k : Nat) (a0 : Int) (a1 : Int) : Option (Bool) := (spec_HappyUpTo.f k a0 a1).bind fun bt175 => ((impl_HappyUpTo.f k a0 a1).bind fun bt179 => ((laws_eqIntS.f k bt179.1 bt175.1).bind fun t183 => (if t183 = true then (laws_FnExactHappyUpTo.j0 k a0 a1 bt175.1 bt175.2 bt179.1 (bt179.2 != bt175.2)) else (laws_FnExactHappyUpTo.j0 k a0 a1 bt175.1 bt175.2 bt179.1 true))))
def laws_FnExactHappyUpTo.Pure : Prop := ∀ (a0 : Int) (a1 : Int), (Lit.int .i64 a0).wf = true → (Lit.int .i64 a1).wf = true → ∃ k, laws_FnExactHappyUpTo.f k a0 a1 = some true
def spec_CountHappy.l0 : Nat → Int → Int → List Int → Int → Int → Option (Int × Bool)
  | 0, _, _, _, _, _ => none
  | k + 1, x1, x6, x15, x16, x17 => if x17 < x16 then (if 0 ≤ x17 then (if x17 < (x15.length : Int) then ((spec_pwHappy.f k x17 x1).bind fun t148 => (if t148 = true then (spec_CountHappy.l0 k x1 (wrap64 (x6 + (rd x15 x17))) x15 x16 (wrap64 (x17 + 1))) else (spec_CountHappy.l0 k x1 x6 x15 x16 (wrap64 (x17 + 1))))) else (none)) else (none)) else (some (x6, true))
def spec_CountHappy.f (k : Nat) (a0 : Int) (a1 : Int) : Option (Int × Bool) := (spec_pwSpreadAsked.f a0 a1).bind fun t143 => (if t143 = true then ((spec_pwSpread.f k a0 a1).bind fun t144 => (spec_CountHappy.l0 k a1 0 t144 (t144.length : Int) 0)) else (some (0, false)))
mutual
def impl_CountHappy.j0 : Nat → Int → Int → Bool → Option (Int × Bool)
  | 0, _, _, _ => none
  | k + 1, x0, x1, x16 => if x16 = true then (some (0, false)) else ((impl_spread.f k x0 x1).bind fun t184 => (impl_CountHappy.l0 k x1 0 t184 (t184.length : Int) 0))
def impl_CountHappy.l0 : Nat → Int → Int → List Int → Int → Int → Option (Int × Bool)
  | 0, _, _, _, _, _ => none
  | k + 1, x1, x6, x19, x20, x21 => if x21 < x20 then (if 0 ≤ x21 then (if x21 < (x19.length : Int) then (if (rd x19 x21) > 0 then ((impl_isHappy.f k x21 x1).bind fun t188 => (if t188 = true then (impl_CountHappy.l0 k x1 (wrap64 (x6 + (rd x19 x21))) x19 x20 (wrap64 (x21 + 1))) else (impl_CountHappy.l0 k x1 x6 x19 x20 (wrap64 (x21 + 1))))) else (impl_CountHappy.l0 k x1 x6 x19 x20 (wrap64 (x21 + 1)))) else (none)) else (none)) else (some (x6, true))
end
def impl_CountHappy.f (k : Nat) (a0 : Int) (a1 : Int) : Option (Int × Bool) := (impl_isSmallBase.f a1).bind fun t182 => (if t182 = true then ((impl_in.f a0 0 12).bind fun t183 => (impl_CountHappy.j0 k a0 a1 (!t183))) else (impl_CountHappy.j0 k a0 a1 true))
def laws_FnExactCountHappy.f (k : Nat) (a0 : Int) (a1 : Int) : Option (Bool) := (spec_CountHappy.f k a0 a1).bind fun bt189 => ((impl_CountHappy.f k a0 a1).bind fun bt191 => (if bt191.1 = bt189.1 then (if (bt191.2 != bt189.2) = true then (some false) else (some true)) else (some false)))
def laws_FnExactCountHappy.Pure : Prop := ∀ (a0 : Int) (a1 : Int), (Lit.int .i64 a0).wf = true → (Lit.int .i64 a1).wf = true → ∃ k, laws_FnExactCountHappy.f k a0 a1 = some true
end Go.Proofs.YtehhkkbejmhcfaaC
end
section
namespace Go.Proofs.YtehhkkbejmhcfaaC
open Go.RowKit Go.Proofs.YtehhkkbejmhcfaaW.PrintWords Go.Proofs.YtehhkkbejmhcfaaW.PrintMore
set_option linter.unusedSimpArgs false
set_option linter.unusedVariables false
def stp (b p : Nat) (x : Int) : Int := pws b p x.toNat
theorem pwRunF_rho {step : Int → Option Int} {f : Int → Int} {x : Int} {m a : Nat} (h : Rho f x m a) (hm : m < 17592186044415) (hs : ∀ i, step (it f x i) = some (it f x (i + 1))) :
    ∀ (d i k : Nat), i + 1 + d = m → d < k → pwRunF step k (orbit f x (i + 1)) (it f x i) = some (orbit f x m, (a : Int))
  | 0, i, k, hi, hk => by
    obtain ⟨k, rfl⟩ : ∃ q, k = q + 1 := ⟨k - 1, by omega⟩
    obtain rfl : i + 1 = m := by omega
    rw [pwRunF, hs, Option.bind_some, if_pos (by rw [orbit_length]; omega), h.back, if_pos (mem_orbit.2 ⟨a, h.lt, rfl⟩), idxOf_orbit h.inj h.lt]
  | d + 1, i, k, hi, hk => by
    obtain ⟨k, rfl⟩ : ∃ q, k = q + 1 := ⟨k - 1, by omega⟩
    rw [pwRunF, hs, Option.bind_some, if_pos (by rw [orbit_length]; omega), if_neg (h.fresh (by omega)), ← orbit_succ]
    exact pwRunF_rho h hm hs d (i + 1) k (by omega) (by omega)
structure IsMin (e : Int) (l : List Int) : Prop where
  mem : e ∈ l
  le : ∀ y ∈ l, e ≤ y
theorem IsMin.unique {e e' : Int} {l : List Int} (h : IsMin e l) (h' : IsMin e' l) : e = e' := by
  have := h.le e' h'.mem
  have := h'.le e h.mem
  omega
theorem isMin_exists : ∀ (l : List Int), l ≠ [] → ∃ e, IsMin e l
  | [], h => absurd rfl h
  | [x], _ => ⟨x, by simp, by simp⟩
  | x :: y :: l, _ => by
    obtain ⟨e, h1, h2⟩ := isMin_exists (y :: l) (by simp)
    by_cases hx : x ≤ e
    · refine ⟨x, by simp, fun z hz => ?_⟩
      rcases List.mem_cons.1 hz with rfl | hz
      · omega
      · have := h2 z hz; omega
    · refine ⟨e, by simp [h1], fun z hz => ?_⟩
      rcases List.mem_cons.1 hz with rfl | hz
      · omega
      · exact h2 z hz
theorem Min_loop {e : Int} {xs : List Int} (he : IsMin e xs) (hx : xs.length ≤ 4611686018427387904) : ∀ (d i : Nat) (m : Int) (k : Nat), i + d = xs.length → d < k → m ∈ xs → (∀ j (h : j < xs.length), j < i → m ≤ xs[j]) →
    slices_Min_int_int.l0 k xs m (i : Int) = some e
  | 0, i, m, k, hi, hk, hm, hle => by
    obtain ⟨k, rfl⟩ : ∃ q, k = q + 1 := ⟨k - 1, by omega⟩
    rw [slices_Min_int_int.l0, if_neg (by omega)]
    have : IsMin m xs := ⟨hm, fun y hy => by
      obtain ⟨j, hj, rfl⟩ := List.getElem_of_mem hy
      exact hle j hj (by omega)⟩
    rw [this.unique he]
  | d + 1, i, m, k, hi, hk, hm, hle => by
    obtain ⟨k, rfl⟩ : ∃ q, k = q + 1 := ⟨k - 1, by omega⟩
    have hil : i < xs.length := by omega
    rw [slices_Min_int_int.l0, if_pos (by omega), if_pos (by omega), w64s (by omega), rd_get hil]
    refine Min_loop he hx d (i + 1) _ k (by omega) (by omega) ?_ (fun j hj hji => ?_)
    · unfold mn
      split
      · exact List.getElem_mem hil
      · exact hm
    · have h1 : j < i → m ≤ xs[j] := hle j hj
      unfold mn
      by_cases hji2 : j = i
      · subst hji2; split <;> omega
      · have := h1 (by omega)
        split <;> omega
theorem Min_eq {e : Int} {xs : List Int} (he : IsMin e xs) (hx : xs.length ≤ 4611686018427387904) {k : Nat} (hk : xs.length < k) : slices_Min_int_int.f k xs = some e := by
  have hp : 0 < xs.length := List.length_pos_of_mem he.mem
  rw [slices_Min_int_int.f, if_neg (by omega), if_pos (by omega)]
  have e0 : rd xs 0 = xs[0] := rd_get (j := 0) hp
  rw [e0]
  exact Min_loop he hx (xs.length - 1) 1 _ k (by omega) (by omega) (List.getElem_mem hp) (fun j hj h1 => by
    have : j = 0 := by omega
    subst this; exact Int.le_refl _)
theorem idxOf_first {xs : List Int} {at_ : Nat} (ha : at_ < xs.length) {e : Int} (he : xs[at_] = e) (hf : ∀ j (h : j < xs.length), j < at_ → xs[j] ≠ e) : xs.idxOf e = at_ := by
  have hn : ¬ e ∈ xs.take at_ := fun hm => by
    obtain ⟨j, hj, h⟩ := List.getElem_of_mem hm
    rw [List.length_take] at hj
    rw [List.getElem_take] at h
    exact hf j (by omega) (by omega) h
  have h1 : xs = xs.take at_ ++ xs.drop at_ := (List.take_append_drop at_ xs).symm
  have h2 : xs.drop at_ = xs[at_] :: xs.drop (at_ + 1) := List.drop_eq_getElem_cons ha
  conv => lhs; rw [h1]
  rw [List.idxOf_append, if_neg hn, h2, he, List.idxOf_cons_self, List.length_take]
  omega
def turned (xs : List Int) (e : Int) : List Int := xs.drop (xs.idxOf e) ++ xs.take (xs.idxOf e)
theorem turned_length (xs : List Int) (e : Int) : (turned xs e).length = xs.length := by
  simp only [turned, List.length_append, List.length_drop, List.length_take]; omega
theorem pwTurned_loop {e : Int} {xs : List Int} (he : IsMin e xs) (hx : xs.length ≤ 1000000000001) : ∀ (d i at_ : Nat) (k : Nat), i + d = xs.length → d < k → (ha : at_ < xs.length) → (∀ j (h : j < xs.length), j < at_ → xs[at_] < xs[j]) → (∀ j (h : j < xs.length), j < i → xs[at_] ≤ xs[j]) →
    spec_pwTurned.l0 k xs (at_ : Int) xs (xs.length : Int) (i : Int) = some (turned xs e)
  | 0, i, at_, k, hi, hk, ha, hf, hle => by
    obtain ⟨k, rfl⟩ : ∃ q, k = q + 1 := ⟨k - 1, by omega⟩
    have hm : IsMin xs[at_] xs := ⟨List.getElem_mem ha, fun y hy => by
      obtain ⟨j, hj, rfl⟩ := List.getElem_of_mem hy
      exact hle j hj (by omega)⟩
    have hee := hm.unique he
    have hidx := idxOf_first ha hee (fun j hj hji => by have := hf j hj hji; omega)
    rw [spec_pwTurned.l0, if_neg (by omega), if_pos (by omega), if_pos (by omega), spec_l1Own.f, Option.bind_some, if_pos (by simp; omega), Option.bind_some, if_pos (by simp; omega), turned, hidx]
    simp
  | d + 1, i, at_, k, hi, hk, ha, hf, hle => by
    obtain ⟨k, rfl⟩ : ∃ q, k = q + 1 := ⟨k - 1, by omega⟩
    have hil : i < xs.length := by omega
    rw [spec_pwTurned.l0, if_pos (by omega), if_pos (by omega), if_pos (by omega), if_pos (by omega), if_pos (by omega), w64s (by omega), rd_get hil, rd_get ha]
    by_cases hc : xs[i] < xs[at_]
    · rw [if_pos hc]
      refine pwTurned_loop he hx d (i + 1) i k (by omega) (by omega) hil (fun j hj hji => ?_) (fun j hj hji => ?_)
      · have := hle j hj hji; omega
      · by_cases h : j = i
        · subst h; exact Int.le_refl _
        · have := hle j hj (by omega); omega
    · rw [if_neg hc]
      refine pwTurned_loop he hx d (i + 1) at_ k (by omega) (by omega) ha hf (fun j hj hji => ?_)
      by_cases h : j = i
      · subst h; omega
      · exact hle j hj (by omega)
theorem pwTurned_eq {e : Int} {xs : List Int} (he : IsMin e xs) (hx : xs.length ≤ 1000000000001) {k : Nat} (hk : xs.length < k) : spec_pwTurned.f k xs = some (turned xs e) := by
  have hp : 0 < xs.length := List.length_pos_of_mem he.mem
  exact pwTurned_loop he hx xs.length 0 0 k (by omega) hk hp (fun j hj h => by omega) (fun j hj h => by omega)
theorem turned_first {e : Int} {xs : List Int} (he : IsMin e xs) : rd (turned xs e) 0 = e ∧ 0 < (turned xs e).length := by
  have hl : xs.idxOf e < xs.length := List.idxOf_lt_length_iff.2 he.mem
  have hg := List.getElem_idxOf hl
  refine ⟨?_, by rw [turned_length]; omega⟩
  rw [turned, List.drop_eq_getElem_cons hl, hg]
  rfl
theorem one_pw : ∀ q : Nat, (1 : Int) ^ q = 1
  | 0 => rfl
  | q + 1 => by rw [Int.pow_succ, one_pw q]; rfl
theorem stp_fix {b p : Nat} (hb : 2 ≤ b) {x : Int} (hx : x = 0 ∨ x = 1) (hp : 1 ≤ p) : stp b p x = x := by
  obtain ⟨q, rfl⟩ : ∃ q, p = q + 1 := ⟨p - 1, by omega⟩
  rcases hx with rfl | rfl
  · show pws b (q + 1) 0 = 0
    rw [pws, lsd_zero]; rfl
  · show pws b (q + 1) 1 = 1
    rw [pws, lsd_pos hb (by omega), Nat.mod_eq_of_lt (by omega), Nat.div_eq_of_lt (by omega), lsd_zero]
    simp only [psum, List.map_cons, List.map_nil, List.sum_cons, List.sum_nil, Int.add_zero]
    exact one_pw _
theorem it_fix {f : Int → Int} {x : Int} (h : f x = x) : ∀ k, it f x k = x
  | 0 => rfl
  | k + 1 => by
    show f (it f x k) = x
    rw [it_fix h k, h]
end Go.Proofs.YtehhkkbejmhcfaaC
end
section
namespace Go.Proofs.YtehhkkbejmhcfaaC
open Go.RowKit Go.Proofs.YtehhkkbejmhcfaaW.PrintWords Go.Proofs.YtehhkkbejmhcfaaW.PrintMore
set_option linter.unusedVariables false
def rd_L2 (xs : List (List Int)) (i : Int) : (List Int) := xs.getD i.toNat ([] : List Int)
mutual
def spec_CyclesOfPowers.j0 : Nat → Int → Int → Bool → Option ((List (List Int)) × Bool)
  | 0, _, _, _ => none
  | k + 1, x0, x1, x23 => if x23 = true then (some (([] : List (List Int)), false)) else ((spec_pwGreatest.f k x0 x1).bind fun t125 => (if 0 ≤ (wrap64 (t125 + 1)) then (if (wrap64 (t125 + 1) : Int).toNat ≤ 35184372088832 then (spec_CyclesOfPowers.l0 k x0 x1 t125 (List.replicate (wrap64 (t125 + 1) : Int).toNat 0) ([] : List (List Int)) 0) else (none)) else (none)))
def spec_CyclesOfPowers.l0 : Nat → Int → Int → Int → List Int → List (List Int) → Int → Option ((List (List Int)) × Bool)
  | 0, _, _, _, _, _, _ => none
  | k + 1, x0, x1, x6, x7, x8, x9 => if x9 ≤ x6 then (spec_CyclesOfPowers.l1 k x0 x1 x6 x7 x8 x9 x9) else (some (x8, true))
def spec_CyclesOfPowers.l1 : Nat → Int → Int → Int → List Int → List (List Int) → Int → Int → Option ((List (List Int)) × Bool)
  | 0, _, _, _, _, _, _, _ => none
  | k + 1, x0, x1, x6, x7, x8, x9, x10 => if 0 ≤ x10 then (if x10 < (x7.length : Int) then (if (rd x7 x10) = 0 then ((spec_pwSum.f k x10 x0 x1).bind fun t131 => (spec_CyclesOfPowers.l1 k x0 x1 x6 (x7.set (x10 : Int).toNat (wrap64 (x9 + 1))) x8 x9 t131)) else (if (rd x7 x10) = (wrap64 (x9 + 1)) then ((spec_pwRun.f k x10 x0 x1).bind fun bt133 => (if 0 ≤ bt133.2 then (if bt133.2 ≤ (bt133.1.length : Int) then ((spec_pwTurned.f k (bt133.1.drop (bt133.2 : Int).toNat)).bind fun t142 => (spec_CyclesOfPowers.l2 k x0 x1 x6 x7 x8 x9 t142 0)) else (none)) else (none))) else (spec_CyclesOfPowers.l0 k x0 x1 x6 x7 x8 (wrap64 (x9 + 1))))) else (none)) else (none)
def spec_CyclesOfPowers.l2 : Nat → Int → Int → Int → List Int → List (List Int) → Int → List Int → Int → Option ((List (List Int)) × Bool)
  | 0, _, _, _, _, _, _, _, _ => none
  | k + 1, x0, x1, x6, x7, x8, x9, x13, x14 => if x14 < (x8.length : Int) then (if 0 ≤ x14 then (if 0 < ((rd_L2 x8 x14).length : Int) then (if 0 < (x13.length : Int) then (if (rd (rd_L2 x8 x14) 0) < (rd x13 0) then (spec_CyclesOfPowers.l2 k x0 x1 x6 x7 x8 x9 x13 (wrap64 (x14 + 1))) else ((some (([] : List (List Int)) : List (List Int))).bind fun y148 => (if x14 ≤ (x8.length : Int) then ((some (x8.take (x14 : Int).toNat : List (List Int))).bind fun y151 => (if y148.length + y151.length < 5864062014805 then ((some (y148 ++ y151 : List (List Int))).bind fun y156 => (if y156.length < 5864062014805 then ((some (y156 ++ [x13] : List (List Int))).bind fun y159 => ((some (x8.drop (x14 : Int).toNat : List (List Int))).bind fun y162 => (if y159.length + y162.length < 5864062014805 then (spec_CyclesOfPowers.l0 k x0 x1 x6 x7 (y159 ++ y162) (wrap64 (x9 + 1))) else (none)))) else (none))) else (none))) else (none)))) else (none)) else (none)) else (none)) else ((some (([] : List (List Int)) : List (List Int))).bind fun y170 => (if 0 ≤ x14 then (if x14 ≤ (x8.length : Int) then ((some (x8.take (x14 : Int).toNat : List (List Int))).bind fun y173 => (if y170.length + y173.length < 5864062014805 then ((some (y170 ++ y173 : List (List Int))).bind fun y178 => (if y178.length < 5864062014805 then ((some (y178 ++ [x13] : List (List Int))).bind fun y181 => ((some (x8.drop (x14 : Int).toNat : List (List Int))).bind fun y184 => (if y181.length + y184.length < 5864062014805 then (spec_CyclesOfPowers.l0 k x0 x1 x6 x7 (y181 ++ y184) (wrap64 (x9 + 1))) else (none)))) else (none))) else (none))) else (none)) else (none)))
end
def spec_CyclesOfPowers.f (k : Nat) (a0 : Int) (a1 : Int) : Option ((List (List Int)) × Bool) := (spec_l1In.f a0 2 10).bind fun t123 => (if t123 = true then ((spec_pwPower.f a1 4).bind fun t124 => (spec_CyclesOfPowers.j0 k a0 a1 (!t124))) else (spec_CyclesOfPowers.j0 k a0 a1 true))
def slices_Concat_int_int.f (l0 : List (List Int)) : Option (List Int) := if l0.length ≤ 1000 ∧ l0.flatten.length ≤ 1000000 then some l0.flatten else none
def impl_leastFirst0.f (k : Nat) (l0 : List Int) : Option (List Int) := (slices_Min_int_int.f k l0).bind fun t216 => ((slices_Index_int_int.f k l0 t216).bind fun t217 => (if 0 ≤ t217 then (if t217 ≤ (l0.length : Int) then ((slices_Concat_int_int.f (([(l0.drop (t217 : Int).toNat), (l0.take (t217 : Int).toNat)] : List (List Int)))).bind fun t231 => (some t231)) else (none)) else (none)))
def impl_leastFirst.f (k : Nat) (l0 : List Int) : Option (List Int) := impl_leastFirst0.f k l0
def cmp_isNaN_int.f (a0 : Int) : Option (Bool) := some (a0 != a0)
def cmp_Compare_int.f (a0 : Int) (a1 : Int) : Option (Int) := (cmp_isNaN_int.f a0).bind fun t216 => ((cmp_isNaN_int.f a1).bind fun t217 => (if t216 = true then (if t217 = true then (some 0) else (some (-1))) else (if t217 = true then (some 1) else (if a0 < a1 then (some (-1)) else (if a0 > a1 then (some 1) else (some 0))))))
def slices_Compare_int_int.l0 : Nat → List Int → List Int → List Int → Int → Int → Option (Int)
  | 0, _, _, _, _, _ => none
  | k + 1, x0, x1, x9, x10, x11 => if x11 < x10 then (if 0 ≤ x11 then (if x11 < (x9.length : Int) then (if x11 ≥ (x1.length : Int) then (some 1) else (if x11 < (x1.length : Int) then ((cmp_Compare_int.f (rd x9 x11) (rd x1 x11)).bind fun t220 => (if t220 = 0 then (slices_Compare_int_int.l0 k x0 x1 x9 x10 (wrap64 (x11 + 1))) else (some t220))) else (none))) else (none)) else (none)) else (if (x0.length : Int) < (x1.length : Int) then (some (-1)) else (some 0))
def slices_Compare_int_int.f (k : Nat) (l0 : List Int) (l1 : List Int) : Option (Int) := slices_Compare_int_int.l0 k l0 l1 l0 (l0.length : Int) 0
def cmpL : List Int → List Int → Int
  | [], [] => 0
  | [], _ :: _ => -1
  | _ :: _, [] => 1
  | a :: la, b :: lb => if a < b then -1 else if b < a then 1 else cmpL la lb
def slices_SortFunc_int_int.f (l0 : List (List Int)) : Option (List (List Int)) := if l0.length ≤ 1000000 ∧ ∀ c ∈ l0, c.length ≤ 1000000 then some (l0.mergeSort fun x y => decide (x ≤ y)) else none
mutual
def impl_CyclesOfPowers.j0 : Nat → Int → Int → Bool → Option ((List (List Int)) × Bool)
  | 0, _, _, _ => none
  | k + 1, x0, x1, x21 => if x21 = true then (some (([] : List (List Int)), false)) else ((impl_greatest.f k x0 x1).bind fun t229 => (impl_CyclesOfPowers.l0 k x0 x1 (([] : List Int)) (([] : List (List Int))) (wrap64 (t229 + 1)) 0))
def impl_CyclesOfPowers.l0 : Nat → Int → Int → List Int → List (List Int) → Int → Int → Option ((List (List Int)) × Bool)
  | 0, _, _, _, _, _, _ => none
  | k + 1, x0, x1, x6, x7, x27, x28 => if x28 < x27 then ((impl_powerSum.f k x28 x0 x1).bind fun t230 => (if x6.length < 17592186044416 then (impl_CyclesOfPowers.l0 k x0 x1 (x6 ++ [t230]) x7 x27 (wrap64 (x28 + 1))) else (none))) else (if 0 ≤ (x6.length : Int) then (if ((x6.length : Int) : Int).toNat ≤ 35184372088832 then (impl_CyclesOfPowers.l1 k x6 x7 (List.replicate ((x6.length : Int) : Int).toNat 0) (x6.length : Int) 0) else (none)) else (none))
def impl_CyclesOfPowers.l1 : Nat → List Int → List (List Int) → List Int → Int → Int → Option ((List (List Int)) × Bool)
  | 0, _, _, _, _, _ => none
  | k + 1, x6, x7, x9, x43, x44 => if x44 < x43 then (impl_CyclesOfPowers.l2 k x6 x7 x9 x44 (([] : List Int)) x44 x43 x44) else ((slices_SortFunc_int_int.f x7).bind fun t237 => (some (t237, true)))
def impl_CyclesOfPowers.l2 : Nat → List Int → List (List Int) → List Int → Int → List Int → Int → Int → Int → Option ((List (List Int)) × Bool)
  | 0, _, _, _, _, _, _, _, _ => none
  | k + 1, x6, x7, x9, x10, x11, x12, x43, x44 => if 0 ≤ x12 then (if x12 < (x9.length : Int) then (if (rd x9 x12) = 0 then (if x11.length < 17592186044416 then (if x12 < (x6.length : Int) then (impl_CyclesOfPowers.l2 k x6 x7 (x9.set (x12 : Int).toNat (wrap64 (x10 + 1))) x10 (x11 ++ [x12]) (rd x6 x12) x43 x44) else (none)) else (none)) else ((slices_Index_int_int.f k x11 x12).bind fun t249 => (if t249 ≥ 0 then (if 0 ≤ t249 then (if t249 ≤ (x11.length : Int) then ((impl_leastFirst.f k (x11.drop (t249 : Int).toNat)).bind fun t254 => (if x7.length < 5864062014805 then (impl_CyclesOfPowers.l1 k x6 (x7 ++ [t254]) x9 x43 (wrap64 (x44 + 1))) else (none))) else (none)) else (none)) else (impl_CyclesOfPowers.l1 k x6 x7 x9 x43 (wrap64 (x44 + 1)))))) else (none)) else (none)
end
def impl_CyclesOfPowers.f (k : Nat) (a0 : Int) (a1 : Int) : Option ((List (List Int)) × Bool) := (impl_isSmallBase.f a0).bind fun t221 => (if t221 = true then ((impl_in.f a1 1 4).bind fun t222 => (impl_CyclesOfPowers.j0 k a0 a1 (!t222))) else (impl_CyclesOfPowers.j0 k a0 a1 true))
def laws_eqIntSS.l0 : Nat → List (List Int) → List (List Int) → Int → Option (Bool)
  | 0, _, _, _ => none
  | k + 1, x0, x1, x5 => if x5 < (x0.length : Int) then (if 0 ≤ x5 then (if x5 < (x1.length : Int) then ((laws_eqIntS.f k (rd_L2 x0 x5) (rd_L2 x1 x5)).bind fun t264 => (if t264 = true then (laws_eqIntSS.l0 k x0 x1 (wrap64 (x5 + 1))) else (some false))) else (none)) else (none)) else (some true)
def laws_eqIntSS.f (k : Nat) (l0 : List (List Int)) (l1 : List (List Int)) : Option (Bool) := if (l0.length : Int) = (l1.length : Int) then (laws_eqIntSS.l0 k l0 l1 0) else (some false)
def laws_markIntSS.l0 : Nat → List (List Int) → Int → Int → Option (Int × List (List Int))
  | 0, _, _, _ => none
  | k + 1, x0, x1, x2 => if x2 < (x0.length : Int) then (if 0 ≤ x2 then ((laws_markIntS.f k (rd_L2 x0 x2) x1).bind fun bt => (laws_markIntSS.l0 k (x0.set (x2 : Int).toNat bt.2) bt.1 (wrap64 (x2 + 1)))) else (none)) else (some (x1, x0))
def laws_markIntSS.f (k : Nat) (l0 : List (List Int)) (a1 : Int) : Option (Int × List (List Int)) := laws_markIntSS.l0 k l0 a1 0
def laws_heldIntSS.l0 : Nat → List (List Int) → Int → Int → Option (Int)
  | 0, _, _, _ => none
  | k + 1, x0, x1, x5 => if x5 < (x0.length : Int) then (if 0 ≤ x5 then ((laws_heldIntS.f k (rd_L2 x0 x5) x1).bind fun t268 => (if t268 < 0 then (some (-1)) else (laws_heldIntSS.l0 k x0 t268 (wrap64 (x5 + 1))))) else (none)) else (some x1)
def laws_heldIntSS.f (k : Nat) (l0 : List (List Int)) (a1 : Int) : Option (Int) := laws_heldIntSS.l0 k l0 a1 0
def laws_FnExactCyclesOfPowers.f (k : Nat) (a0 a1 : Int) : Option Bool := (spec_CyclesOfPowers.f k a0 a1).bind fun b1 => (impl_CyclesOfPowers.f k a0 a1).bind fun b2 => (laws_eqIntSS.f k b2.1 b1.1).bind fun e1 => (laws_markIntSS.f k b2.1 1).bind fun m2 => (laws_heldIntSS.f k m2.2 1).bind fun q => if b2.2 = b1.2 ∧ e1 = true ∧ 0 ≤ q ∧ q = m2.1 then some true else none
def laws_FnExactCyclesOfPowers.Pure : Prop := ∀ (a0 : Int) (a1 : Int), (Lit.int .i64 a0).wf = true → (Lit.int .i64 a1).wf = true → ∃ k, laws_FnExactCyclesOfPowers.f k a0 a1 = some true
end Go.Proofs.YtehhkkbejmhcfaaC
end
section
namespace Go.Proofs.YtehhkkbejmhcfaaC
open Go.RowKit Go.Proofs.YtehhkkbejmhcfaaW.PrintWords Go.Proofs.YtehhkkbejmhcfaaW.PrintMore
set_option linter.unusedSimpArgs false
set_option linter.unusedVariables false
set_option linter.unusedSectionVars false
theorem spec_pwLimited.mono_l : ∀ k, (∀ y0 y1 y2, LeO (spec_pwLimited.l0 k y0 y1 y2) (spec_pwLimited.l0 (k + 1) y0 y1 y2))
  | 0 => fun _ _ _ r h => by simp [spec_pwLimited.l0] at h
  | k + 1 => by
    have ih0 := spec_pwLimited.mono_l k
    · intro y0 y1 y2
      unfold spec_pwLimited.l0
      repeat' first
      | (with_reducible exact ih0 _ _ _)
      | (with_reducible exact LeO.refl _)
      | (with_reducible exact LeO.none _)
      | (with_reducible refine LeO.ite ?_ ?_)
      | (with_reducible refine LeO.bind ?_ (fun _ => ?_))
      | exact ih0 _ _ _
      | exact LeO.none _
      | refine LeO.ite ?_ ?_
      | refine LeO.bind ?_ (fun _ => ?_)
theorem spec_pwLimited.mono : ∀ a0 a1 k, LeO (spec_pwLimited.f k a0 a1) (spec_pwLimited.f (k + 1) a0 a1) := by
  intro a0 a1 k
  have ih0 := spec_pwLimited.mono_l k
  unfold spec_pwLimited.f
  repeat' first
      | (with_reducible exact ih0 _ _ _)
      | (with_reducible exact LeO.refl _)
      | (with_reducible exact LeO.none _)
      | (with_reducible refine LeO.ite ?_ ?_)
      | (with_reducible refine LeO.bind ?_ (fun _ => ?_))
      | exact ih0 _ _ _
      | exact LeO.none _
      | refine LeO.ite ?_ ?_
      | refine LeO.bind ?_ (fun _ => ?_)
theorem spec_pwOf.mono_l : ∀ k, (∀ y0 y1 y2, LeO (spec_pwOf.l0 k y0 y1 y2) (spec_pwOf.l0 (k + 1) y0 y1 y2))
  | 0 => fun _ _ _ r h => by simp [spec_pwOf.l0] at h
  | k + 1 => by
    have ih0 := spec_pwOf.mono_l k
    · intro y0 y1 y2
      unfold spec_pwOf.l0
      repeat' first
      | (with_reducible exact ih0 _ _ _)
      | (with_reducible exact LeO.refl _)
      | (with_reducible exact LeO.none _)
      | (with_reducible refine LeO.ite ?_ ?_)
      | (with_reducible refine LeO.bind ?_ (fun _ => ?_))
      | exact ih0 _ _ _
      | exact LeO.none _
      | refine LeO.ite ?_ ?_
      | refine LeO.bind ?_ (fun _ => ?_)
theorem spec_pwOf.mono : ∀ a0 a1 k, LeO (spec_pwOf.f k a0 a1) (spec_pwOf.f (k + 1) a0 a1) := by
  intro a0 a1 k
  have ih0 := spec_pwOf.mono_l k
  unfold spec_pwOf.f
  repeat' first
      | (with_reducible exact ih0 _ _ _)
      | (with_reducible exact LeO.refl _)
      | (with_reducible exact LeO.none _)
      | (with_reducible refine LeO.ite ?_ ?_)
      | (with_reducible refine LeO.bind ?_ (fun _ => ?_))
      | exact ih0 _ _ _
      | exact LeO.none _
      | refine LeO.ite ?_ ?_
      | refine LeO.bind ?_ (fun _ => ?_)
theorem spec_pwFalls.mono_l : ∀ k, (∀ y0 y1 y2 y3, LeO (spec_pwFalls.l0 k y0 y1 y2 y3) (spec_pwFalls.l0 (k + 1) y0 y1 y2 y3))
  | 0 => fun _ _ _ _ r h => by simp [spec_pwFalls.l0] at h
  | k + 1 => by
    have ih0 := spec_pwFalls.mono_l k
    · intro y0 y1 y2 y3
      unfold spec_pwFalls.l0
      repeat' first
      | (with_reducible exact ih0 _ _ _ _)
      | (with_reducible exact spec_pwLimited.mono _ _ _)
      | (with_reducible exact spec_pwOf.mono _ _ _)
      | (with_reducible exact LeO.refl _)
      | (with_reducible exact LeO.none _)
      | (with_reducible refine LeO.ite ?_ ?_)
      | (with_reducible refine LeO.bind ?_ (fun _ => ?_))
      | exact ih0 _ _ _ _
      | exact spec_pwLimited.mono _ _ _
      | exact spec_pwOf.mono _ _ _
      | exact LeO.none _
      | refine LeO.ite ?_ ?_
      | refine LeO.bind ?_ (fun _ => ?_)
theorem spec_pwFalls.mono : ∀ a0 a1 k, LeO (spec_pwFalls.f k a0 a1) (spec_pwFalls.f (k + 1) a0 a1) := by
  intro a0 a1 k
  have ih0 := spec_pwFalls.mono_l k
  unfold spec_pwFalls.f
  repeat' first
      | (with_reducible exact ih0 _ _ _ _)
      | (with_reducible exact spec_pwLimited.mono _ _ _)
      | (with_reducible exact spec_pwOf.mono _ _ _)
      | (with_reducible exact LeO.refl _)
      | (with_reducible exact LeO.none _)
      | (with_reducible refine LeO.ite ?_ ?_)
      | (with_reducible refine LeO.bind ?_ (fun _ => ?_))
      | exact ih0 _ _ _ _
      | exact spec_pwLimited.mono _ _ _
      | exact spec_pwOf.mono _ _ _
      | exact LeO.none _
      | refine LeO.ite ?_ ?_
      | refine LeO.bind ?_ (fun _ => ?_)
theorem spec_pwGreatest.mono : ∀ a0 a1 k, LeO (spec_pwGreatest.f k a0 a1) (spec_pwGreatest.f (k + 1) a0 a1) := by
  intro a0 a1 k
  unfold spec_pwGreatest.f
  repeat' first
      | (with_reducible exact spec_pwFalls.mono _ _ _)
      | (with_reducible exact spec_pwOf.mono _ _ _)
      | (with_reducible exact LeO.refl _)
      | (with_reducible exact LeO.none _)
      | (with_reducible refine LeO.ite ?_ ?_)
      | (with_reducible refine LeO.bind ?_ (fun _ => ?_))
      | exact spec_pwFalls.mono _ _ _
      | exact spec_pwOf.mono _ _ _
      | exact LeO.none _
      | refine LeO.ite ?_ ?_
      | refine LeO.bind ?_ (fun _ => ?_)
theorem impl_toPower.mono_l : ∀ k, (∀ y0 y1 y2 y3, LeO (impl_toPower.l0 k y0 y1 y2 y3) (impl_toPower.l0 (k + 1) y0 y1 y2 y3))
  | 0 => fun _ _ _ _ r h => by simp [impl_toPower.l0] at h
  | k + 1 => by
    have ih0 := impl_toPower.mono_l k
    · intro y0 y1 y2 y3
      unfold impl_toPower.l0
      repeat' first
      | (with_reducible exact ih0 _ _ _ _)
      | (with_reducible exact LeO.refl _)
      | (with_reducible exact LeO.none _)
      | (with_reducible refine LeO.ite ?_ ?_)
      | (with_reducible refine LeO.bind ?_ (fun _ => ?_))
      | exact ih0 _ _ _ _
      | exact LeO.none _
      | refine LeO.ite ?_ ?_
      | refine LeO.bind ?_ (fun _ => ?_)
theorem impl_toPower.mono : ∀ a0 a1 k, LeO (impl_toPower.f k a0 a1) (impl_toPower.f (k + 1) a0 a1) := by
  intro a0 a1 k
  have ih0 := impl_toPower.mono_l k
  unfold impl_toPower.f
  repeat' first
      | (with_reducible exact ih0 _ _ _ _)
      | (with_reducible exact LeO.refl _)
      | (with_reducible exact LeO.none _)
      | (with_reducible refine LeO.ite ?_ ?_)
      | (with_reducible refine LeO.bind ?_ (fun _ => ?_))
      | exact ih0 _ _ _ _
      | exact LeO.none _
      | refine LeO.ite ?_ ?_
      | refine LeO.bind ?_ (fun _ => ?_)
theorem impl_fallsFrom.mono_l : ∀ k, (∀ y0 y1 y2, LeO (impl_fallsFrom.l0 k y0 y1 y2) (impl_fallsFrom.l0 (k + 1) y0 y1 y2))
  | 0 => fun _ _ _ r h => by simp [impl_fallsFrom.l0] at h
  | k + 1 => by
    have ih0 := impl_fallsFrom.mono_l k
    · intro y0 y1 y2
      unfold impl_fallsFrom.l0
      repeat' first
      | (with_reducible exact ih0 _ _ _)
      | (with_reducible exact impl_toPower.mono _ _ _)
      | (with_reducible exact LeO.refl _)
      | (with_reducible exact LeO.none _)
      | (with_reducible refine LeO.ite ?_ ?_)
      | (with_reducible refine LeO.bind ?_ (fun _ => ?_))
      | exact ih0 _ _ _
      | exact impl_toPower.mono _ _ _
      | exact LeO.none _
      | refine LeO.ite ?_ ?_
      | refine LeO.bind ?_ (fun _ => ?_)
theorem impl_fallsFrom.mono : ∀ a0 a1 k, LeO (impl_fallsFrom.f k a0 a1) (impl_fallsFrom.f (k + 1) a0 a1) := by
  intro a0 a1 k
  have ih0 := impl_fallsFrom.mono_l k
  unfold impl_fallsFrom.f
  repeat' first
      | (with_reducible exact ih0 _ _ _)
      | (with_reducible exact impl_toPower.mono _ _ _)
      | (with_reducible exact LeO.refl _)
      | (with_reducible exact LeO.none _)
      | (with_reducible refine LeO.ite ?_ ?_)
      | (with_reducible refine LeO.bind ?_ (fun _ => ?_))
      | exact ih0 _ _ _
      | exact impl_toPower.mono _ _ _
      | exact LeO.none _
      | refine LeO.ite ?_ ?_
      | refine LeO.bind ?_ (fun _ => ?_)
theorem impl_greatest.mono : ∀ a0 a1 k, LeO (impl_greatest.f k a0 a1) (impl_greatest.f (k + 1) a0 a1) := by
  intro a0 a1 k
  unfold impl_greatest.f
  repeat' first
      | (with_reducible exact impl_fallsFrom.mono _ _ _)
      | (with_reducible exact impl_toPower.mono _ _ _)
      | (with_reducible exact LeO.refl _)
      | (with_reducible exact LeO.none _)
      | (with_reducible refine LeO.ite ?_ ?_)
      | (with_reducible refine LeO.bind ?_ (fun _ => ?_))
      | exact impl_fallsFrom.mono _ _ _
      | exact impl_toPower.mono _ _ _
      | exact LeO.none _
      | refine LeO.ite ?_ ?_
      | refine LeO.bind ?_ (fun _ => ?_)
theorem up_to {f : Nat → Option Int} (h : ∀ k, LeO (f k) (f (k + 1))) {a : Nat} {r : Int} (ha : f a = some r) : ∀ k, a ≤ k → f k = some r := by
  intro k hk
  obtain ⟨d, rfl⟩ := Nat.exists_eq_add_of_le hk
  clear hk
  induction d with
  | zero => exact ha
  | succ d ih => exact h _ _ ih
theorem lsd_len {b : Nat} (hb : 2 ≤ b) : ∀ (d n : Nat), n < b ^ d → (lsd b n).length ≤ d := by
  intro d
  induction d with
  | zero => intro n hn; obtain rfl : n = 0 := by simpa using hn
            rw [lsd_zero]; simp
  | succ d ih =>
    intro n hn
    by_cases h0 : n = 0
    · subst h0; rw [lsd_zero]; simp
    · rw [lsd_pos hb (by omega)]
      have := ih (n / b) (Nat.div_lt_of_lt_mul (by rw [Nat.pow_succ, Nat.mul_comm] at hn; exact hn))
      simp only [List.length_cons]; omega
theorem psum_cap {b p : Nat} (hb : 2 ≤ b) : ∀ (l : List Int), (∀ x ∈ l, 0 ≤ x ∧ x < (b : Int)) → 0 ≤ psum p l ∧ psum p l ≤ ((l.length * (b - 1) ^ p : Nat) : Int)
  | [], _ => by simp [psum]
  | x :: l, h => by
    have ih := psum_cap (p := p) hb l (fun y hy => h y (by simp [hy]))
    have hx := h x (by simp)
    obtain ⟨m, rfl⟩ := Int.eq_ofNat_of_zero_le hx.1
    have h1 : (m : Int) ^ p = ((m ^ p : Nat) : Int) := by simp
    have h2 : m ^ p ≤ (b - 1) ^ p := Nat.pow_le_pow_left (by omega) p
    have e : psum p ((m : Int) :: l) = (m : Int) ^ p + psum p l := by simp [psum]
    have e2 : (((m : Int) :: l).length * (b - 1) ^ p : Nat) = l.length * (b - 1) ^ p + (b - 1) ^ p := by rw [List.length_cons, Nat.succ_mul]
    rw [e, e2, h1]
    omega
theorem stp_closed {b p d : Nat} (hb : 2 ≤ b) (hd : d * (b - 1) ^ p < b ^ d) {x : Int} (h0 : 0 ≤ x) (h1 : x ≤ ((d * (b - 1) ^ p : Nat) : Int)) : 0 ≤ stp b p x ∧ stp b p x ≤ ((d * (b - 1) ^ p : Nat) : Int) := by
  have hl := lsd_len hb d x.toNat (by omega)
  have hc := psum_cap (p := p) hb (lsd b x.toNat) (lsd_range hb x.toNat)
  have hm : (lsd b x.toNat).length * (b - 1) ^ p ≤ d * (b - 1) ^ p := Nat.mul_le_mul_right _ hl
  unfold stp pws
  omega
def mark (st : List Int) (v : Int) (ys : List Int) : List Int := ys.foldl (fun s y => s.set y.toNat v) st
theorem mark_snoc (st : List Int) (v : Int) (ys : List Int) (y : Int) : mark st v (ys ++ [y]) = (mark st v ys).set y.toNat v := by simp [mark]
theorem mark_length (v : Int) : ∀ (ys st : List Int), (mark st v ys).length = st.length
  | [], _ => rfl
  | y :: ys, st => by
    show (mark (st.set y.toNat v) v ys).length = _
    rw [mark_length v ys]; simp
theorem rd_set {st : List Int} {x y v : Int} (hx : 0 ≤ x) (hy : 0 ≤ y) (hl : y < (st.length : Int)) : rd (st.set y.toNat v) x = if x = y then v else rd st x := by
  simp only [rd, List.getD_eq_getElem?_getD, List.getElem?_set]
  by_cases h : x = y
  · subst h; simp [show x.toNat < st.length by omega]
  · rw [if_neg (by omega), if_neg h]
theorem rd_mark (v : Int) {x : Int} (hx : 0 ≤ x) : ∀ (ys st : List Int), (∀ y ∈ ys, 0 ≤ y ∧ y < (st.length : Int)) → rd (mark st v ys) x = if x ∈ ys then v else rd st x
  | [], _, _ => by simp [mark]
  | y :: ys, st, h => by
    show rd (mark (st.set y.toNat v) v ys) x = _
    have hy := h y (by simp)
    rw [rd_mark v hx ys _ (fun z hz => by have := h z (by simp [hz]); simpa using this), rd_set hx hy.1 hy.2]
    by_cases h1 : x ∈ ys
    · simp [h1]
    · by_cases h2 : x = y
      · simp [h2]
      · simp [h1, h2]
section
variable {f : Int → Int} {M : Nat}
def Closed (f : Int → Int) (M : Nat) : Prop := ∀ x, 0 ≤ x → x ≤ (M : Int) → 0 ≤ f x ∧ f x ≤ (M : Int)
theorem it_closed (hf : Closed f M) {x : Int} (h0 : 0 ≤ x) (h1 : x ≤ (M : Int)) : ∀ k, 0 ≤ it f x k ∧ it f x k ≤ (M : Int)
  | 0 => ⟨h0, h1⟩
  | k + 1 => by
    have := it_closed hf h0 h1 k
    exact hf _ this.1 this.2
theorem orbit_in (hf : Closed f M) {x : Int} (h0 : 0 ≤ x) (h1 : x ≤ (M : Int)) {st : List Int} (hst : st.length = M + 1) (j : Nat) : ∀ y ∈ orbit f x j, 0 ≤ y ∧ y < (st.length : Int) := fun y hy => by
  obtain ⟨i, _, rfl⟩ := mem_orbit.1 hy
  have := it_closed hf h0 h1 i
  omega
theorem orbit_short (hf : Closed f M) {x : Int} (h0 : 0 ≤ x) (h1 : x ≤ (M : Int)) {j : Nat} (hn : (orbit f x j).Nodup) : j ≤ M + 1 := by
  have := nodup_le (orbit f x j) ((List.range (M + 1)).map Int.ofNat) hn (fun y hy => by
    obtain ⟨i, _, rfl⟩ := mem_orbit.1 hy
    have := it_closed hf h0 h1 i
    exact List.mem_map.2 ⟨(it f x i).toNat, List.mem_range.2 (by omega), by simp; omega⟩)
  rw [orbit_length] at this
  simpa using this
theorem run_stops (hf : Closed f M) {x : Int} (h0 : 0 ≤ x) (h1 : x ≤ (M : Int)) {st : List Int} (hst : st.length = M + 1) {v : Int} (hv : v ≠ 0) :
    ∀ d i, i + d = M + 1 → (orbit f x i).Nodup → (∀ j, j < i → rd st (it f x j) = 0) → ∃ j, i ≤ j ∧ j ≤ M + 1 ∧ (orbit f x j).Nodup ∧ (∀ j', j' < j → rd st (it f x j') = 0) ∧ rd (mark st v (orbit f x j)) (it f x j) ≠ 0 ∧ ∀ i', i ≤ i' → i' < j → rd (mark st v (orbit f x i')) (it f x i') = 0 := by
  intro d
  induction d with
  | zero =>
    intro i hi hn hz
    by_cases hc : rd (mark st v (orbit f x i)) (it f x i) = 0
    · have hxr := it_closed hf h0 h1 i
      rw [rd_mark v hxr.1 _ _ (orbit_in hf h0 h1 hst i)] at hc
      by_cases hm : it f x i ∈ orbit f x i
      · rw [if_pos hm] at hc; exact absurd hc hv
      · have hn2 : (orbit f x (i + 1)).Nodup := by
          rw [orbit_succ, List.nodup_append]
          exact ⟨hn, by simp, fun a ha b hb e => by simp only [List.mem_singleton] at hb; subst hb; exact hm (e ▸ ha)⟩
        have := orbit_short hf h0 h1 hn2
        omega
    · exact ⟨i, Nat.le_refl _, by omega, hn, hz, hc, fun i' h1 h2 => by omega⟩
  | succ d ih =>
    intro i hi hn hz
    by_cases hc : rd (mark st v (orbit f x i)) (it f x i) = 0
    · have hc0 := hc
      have hxr := it_closed hf h0 h1 i
      rw [rd_mark v hxr.1 _ _ (orbit_in hf h0 h1 hst i)] at hc
      by_cases hm : it f x i ∈ orbit f x i
      · rw [if_pos hm] at hc; exact absurd hc hv
      · rw [if_neg hm] at hc
        have hn2 : (orbit f x (i + 1)).Nodup := by
          rw [orbit_succ, List.nodup_append]
          exact ⟨hn, by simp, fun a ha b hb e => by simp only [List.mem_singleton] at hb; subst hb; exact hm (e ▸ ha)⟩
        obtain ⟨j, h3, h4, h5, h6, h7, h8⟩ := ih (i + 1) (by omega) hn2 (fun j hj => by
          by_cases e : j = i
          · rw [e]; exact hc
          · exact hz j (by omega))
        refine ⟨j, by omega, h4, h5, h6, h7, fun i' h9 h10 => ?_⟩
        by_cases e : i' = i
        · rw [e]; exact hc0
        · exact h8 i' (by omega) h10
    · exact ⟨i, Nat.le_refl _, by omega, hn, hz, hc, fun i' h1 h2 => by omega⟩
end
theorem wrap_small {n : Nat} (h : n ≤ 1000000) : wrap64 ((n : Int) + 1) = ((n + 1 : Nat) : Int) := by unfold wrap64; omega
section
variable {b p M : Nat} (hb : 2 ≤ b) (hb2 : b ≤ 10) (hp1 : 1 ≤ p) (hp : p ≤ 4) (hM : M ≤ 100000) (hf : Closed (stp b p) M)
include hb hb2 hp1 hp hM hf
theorem spec_run {n : Nat} (hn : n ≤ M) {st : List Int} (hst : st.length = M + 1) (outS : List (List Int)) {j : Nat} (hz : ∀ i, i < j → rd (mark st ((n + 1 : Nat) : Int) (orbit (stp b p) (n : Int) i)) (it (stp b p) (n : Int) i) = 0) {X : Option (List (List Int) × Bool)} {K : Nat}
    (hX : ∀ k, K ≤ k → spec_CyclesOfPowers.l1 k (b : Int) (p : Int) (M : Int) (mark st ((n + 1 : Nat) : Int) (orbit (stp b p) (n : Int) j)) outS (n : Int) (it (stp b p) (n : Int) j) = X) :
    ∀ e i, i + e = j → ∀ k, K + e + 1000000 ≤ k → spec_CyclesOfPowers.l1 k (b : Int) (p : Int) (M : Int) (mark st ((n + 1 : Nat) : Int) (orbit (stp b p) (n : Int) i)) outS (n : Int) (it (stp b p) (n : Int) i) = X
  | 0, i, hi, k, hk => by
    obtain rfl : i = j := by omega
    exact hX k (by omega)
  | e + 1, i, hi, k, hk => by
    obtain ⟨k, rfl⟩ : ∃ q, k = q + 1 := ⟨k - 1, by omega⟩
    have hr := it_closed hf (x := (n : Int)) (by omega) (by omega) i
    have hs : spec_pwSum.f k (it (stp b p) (n : Int) i) (b : Int) (p : Int) = some (it (stp b p) (n : Int) (i + 1)) := by
      obtain ⟨m, hm⟩ := Int.eq_ofNat_of_zero_le hr.1
      show _ = some (stp b p (it (stp b p) (n : Int) i))
      rw [hm]
      exact pwSum_eq hb (by omega) (by omega) (by omega) k (by omega)
    rw [spec_CyclesOfPowers.l1, if_pos hr.1, if_pos (by rw [mark_length, hst]; omega), if_pos (hz i (by omega)), hs, Option.bind_some, wrap_small (by omega), ← mark_snoc, ← orbit_succ]
    exact spec_run hn hst outS hz hX e (i + 1) (by omega) k (by omega)
theorem impl_run {n : Nat} (hn : n ≤ M) {st : List Int} (hst : st.length = M + 1) {next : List Int} (hnx : next.length = M + 1) (hrd : ∀ x, 0 ≤ x → x ≤ (M : Int) → rd next x = stp b p x) (outI : List (List Int)) {j : Nat} (hj : j ≤ M + 1) (hz : ∀ i, i < j → rd (mark st ((n + 1 : Nat) : Int) (orbit (stp b p) (n : Int) i)) (it (stp b p) (n : Int) i) = 0) {X : Option (List (List Int) × Bool)} {K : Nat}
    (hX : ∀ k, K ≤ k → impl_CyclesOfPowers.l2 k next outI (mark st ((n + 1 : Nat) : Int) (orbit (stp b p) (n : Int) j)) (n : Int) (orbit (stp b p) (n : Int) j) (it (stp b p) (n : Int) j) ((M + 1 : Nat) : Int) (n : Int) = X) :
    ∀ e i, i + e = j → ∀ k, K + e ≤ k → impl_CyclesOfPowers.l2 k next outI (mark st ((n + 1 : Nat) : Int) (orbit (stp b p) (n : Int) i)) (n : Int) (orbit (stp b p) (n : Int) i) (it (stp b p) (n : Int) i) ((M + 1 : Nat) : Int) (n : Int) = X
  | 0, i, hi, k, hk => by
    obtain rfl : i = j := by omega
    exact hX k (by omega)
  | e + 1, i, hi, k, hk => by
    obtain ⟨k, rfl⟩ : ∃ q, k = q + 1 := ⟨k - 1, by omega⟩
    have hr := it_closed hf (x := (n : Int)) (by omega) (by omega) i
    rw [impl_CyclesOfPowers.l2, if_pos hr.1, if_pos (by rw [mark_length, hst]; omega), if_pos (hz i (by omega)), if_pos (by rw [orbit_length]; omega), if_pos (by rw [hnx]; omega), wrap_small (by omega), ← mark_snoc, ← orbit_succ, hrd _ hr.1 hr.2]
    exact impl_run hn hst hnx hrd outI hj hz hX e (i + 1) (by omega) k (by omega)
end
theorem rdL_at {l : List (List Int)} {i : Nat} (h : i < l.length) : rd_L2 l (i : Int) = l[i] := by
  simp [rd_L2, List.getD_eq_getElem?_getD, List.getElem?_eq_getElem h]
theorem put_in {b p M st : _} (outS : List (List Int)) (cy : List Int) (n : Int) (hc : 0 < cy.length) (hl : outS.length ≤ 1000000) (hne : ∀ c ∈ outS, 0 < c.length) {t : Nat} (ht : t ≤ outS.length) (h1 : ∀ i (h : i < outS.length), i < t → rd outS[i] 0 < rd cy 0) (h2 : ∀ (h : t < outS.length), ¬ rd outS[t] 0 < rd cy 0) {X : Option (List (List Int) × Bool)} {K : Nat}
    (hX : ∀ k, K ≤ k → spec_CyclesOfPowers.l0 k b p M st (outS.take t ++ [cy] ++ outS.drop t) (wrap64 (n + 1)) = X) :
    ∀ e i, i + e = t → ∀ k, K + e + 1 ≤ k → spec_CyclesOfPowers.l2 k b p M st outS n cy (i : Int) = X
  | 0, i, hi, k, hk => by
    obtain rfl : i = t := by omega
    obtain ⟨k, rfl⟩ : ∃ q, k = q + 1 := ⟨k - 1, by omega⟩
    have hX' := hX k (by omega)
    rw [spec_CyclesOfPowers.l2]
    by_cases hc2 : i < outS.length
    · rw [if_pos (by omega), if_pos (by omega), rdL_at hc2, if_pos (by have := hne _ (List.getElem_mem hc2); omega), if_pos (by omega), if_neg (h2 hc2)]
      simp only [Option.bind_some, Int.toNat_natCast, List.nil_append, List.length_nil]
      rw [if_pos (by omega), if_pos (by rw [List.length_take]; omega), if_pos (by rw [List.length_take]; omega), if_pos (by rw [List.length_append, List.length_take, List.length_drop, List.length_singleton]; omega)]
      exact hX'
    · rw [if_neg (by omega)]
      simp only [Option.bind_some, Int.toNat_natCast, List.nil_append, List.length_nil]
      rw [if_pos (by omega), if_pos (by omega), if_pos (by rw [List.length_take]; omega), if_pos (by rw [List.length_take]; omega), if_pos (by rw [List.length_append, List.length_take, List.length_drop, List.length_singleton]; omega)]
      exact hX'
  | e + 1, i, hi, k, hk => by
    obtain ⟨k, rfl⟩ : ∃ q, k = q + 1 := ⟨k - 1, by omega⟩
    have hc2 : i < outS.length := by omega
    have e1 : wrap64 ((i : Int) + 1) = ((i + 1 : Nat) : Int) := by unfold wrap64; omega
    rw [spec_CyclesOfPowers.l2, if_pos (by omega), if_pos (by omega), rdL_at hc2, if_pos (by have := hne _ (List.getElem_mem hc2); omega), if_pos (by omega), if_pos (h1 i hc2 (by omega)), e1]
    exact put_in outS cy n hc hl hne ht h1 h2 hX e (i + 1) (by omega) k (by omega)
theorem place : ∀ (l : List (List Int)) (e : Int), l.Pairwise (fun a c => rd a 0 < rd c 0) → ∃ t, t ≤ l.length ∧ (∀ a ∈ l.take t, rd a 0 < e) ∧ ∀ a ∈ l.drop t, ¬ rd a 0 < e
  | [], e, _ => ⟨0, by simp, by simp, by simp⟩
  | c :: l, e, h => by
    by_cases hc : rd c 0 < e
    · obtain ⟨t, h1, h2, h3⟩ := place l e (List.pairwise_cons.1 h).2
      refine ⟨t + 1, by simp; omega, fun a ha => ?_, fun a ha => h3 a (by simpa using ha)⟩
      rw [List.take_succ_cons] at ha
      rcases List.mem_cons.1 ha with rfl | ha
      · exact hc
      · exact h2 a ha
    · refine ⟨0, by simp, by simp, fun a ha => ?_⟩
      rcases List.mem_cons.1 (show a ∈ c :: l from ha) with rfl | ha
      · exact hc
      · have := (List.pairwise_cons.1 h).1 a ha
        omega
structure PInv (M n : Nat) (st : List Int) (outI outS : List (List Int)) : Prop where
  hst : st.length = M + 1
  hv : ∀ x, 0 ≤ x → x ≤ (M : Int) → 0 ≤ rd st x ∧ rd st x ≤ (n : Int)
  perm : outS.Perm outI
  sorted : outS.Pairwise (fun a c => rd a 0 < rd c 0)
  good : ∀ c ∈ outS, 0 < c.length ∧ c.length ≤ M + 1 ∧ ∀ y ∈ c, 0 ≤ y ∧ y ≤ (M : Int) ∧ rd st y ≠ 0
  len : outS.length ≤ n
theorem rd_head {c : List Int} (h : 0 < c.length) : rd c 0 ∈ c := by
  rcases c with _ | ⟨x, t⟩
  · simp at h
  · simp [rd]
theorem lt_of_head {a c : List Int} (ha : 0 < a.length) (hc : 0 < c.length) (h : rd a 0 < rd c 0) : a < c := by
  rcases a with _ | ⟨x, t⟩
  · simp at ha
  · rcases c with _ | ⟨y, s⟩
    · simp at hc
    · rw [List.cons_lt_cons_iff]
      exact .inl (by simpa [rd] using h)
theorem same_sorted {a b : List (List Int)} (hp : a.Perm b) (ha : a.Pairwise (· ≤ ·)) (hb : b.Pairwise (· ≤ ·)) : a = b :=
  hp.eq_of_pairwise (fun x y _ _ h1 h2 => List.le_antisymm h1 h2) ha hb
theorem sort_end {M n : Nat} {st : List Int} {outI outS : List (List Int)} (hI : PInv M n st outI outS) (hM : M ≤ 100000) (hn : n ≤ 1000000) : slices_SortFunc_int_int.f outI = some outS := by
  rw [slices_SortFunc_int_int.f, if_pos ⟨by rw [← hI.perm.length_eq]; have := hI.len; omega, fun c hc => by have := (hI.good c (hI.perm.mem_iff.2 hc)).2.1; omega⟩]
  congr 1
  refine same_sorted ((List.mergeSort_perm _ _).trans hI.perm.symm) ?_ ?_
  · have := List.pairwise_mergeSort (le := fun x y : List Int => decide (x ≤ y)) (fun a b c h1 h2 => by simp only [decide_eq_true_eq] at *; exact List.le_trans h1 h2) (fun a b => by
      simp only [Bool.or_eq_true, decide_eq_true_eq]; exact List.le_total a b) outI
    exact this.imp (fun h => by simpa using h)
  · refine List.Pairwise.imp_of_mem (fun {a c} ha hc h => ?_) hI.sorted
    exact List.le_of_lt (lt_of_head (hI.good a ha).1 (hI.good c hc).1 h)
theorem turned_mem {xs : List Int} {e y : Int} (h : y ∈ turned xs e) : y ∈ xs := by
  rcases List.mem_append.1 h with h | h
  · exact List.mem_of_mem_drop h
  · exact List.mem_of_mem_take h
theorem idx_at {x : Int} : ∀ (l : List Int) (i : Int), x ∈ l → idxF (fun y => decide (x = y)) l i = i + (l.idxOf x : Int)
  | [], i, h => by simp at h
  | y :: l, i, h => by
    by_cases e : x = y
    · subst e; simp [idxF]
    · have hm : x ∈ l := by rcases List.mem_cons.1 h with h | h; exact absurd h e; exact h
      have hb : (y == x) = false := by simpa using fun h => e h.symm
      rw [idxF, decide_eq_false e, if_neg (by decide), idx_at l (i + 1) hm, List.idxOf_cons, hb]
      simp only [cond_false]
      omega
theorem least_first {e : Int} {xs : List Int} (he : IsMin e xs) (hx : xs.length ≤ 1000000) {k : Nat} (hk : xs.length < k) : impl_leastFirst.f k xs = some (turned xs e) := by
  have hl : xs.idxOf e < xs.length := List.idxOf_lt_length_iff.2 he.mem
  rw [impl_leastFirst.f, impl_leastFirst0.f, Min_eq he (by omega) hk, Option.bind_some, Index_eq _ _ (by omega) hk, idx_at xs 0 he.mem, Option.bind_some, Int.zero_add, if_pos (by omega), if_pos (by omega), Int.toNat_natCast, slices_Concat_int_int.f, if_pos ⟨by simp, by simp; omega⟩, Option.bind_some]
  simp [turned]
def nextL (b p m : Nat) : List Int := (List.range m).map (fun n => pws b p n)
theorem nextL_length (b p m : Nat) : (nextL b p m).length = m := by simp [nextL]
theorem next_loop {b p M : Nat} (hb : 2 ≤ b) (hb2 : b ≤ 10) (hp1 : 1 ≤ p) (hp : p ≤ 4) (hM : M ≤ 100000) {X : Option (List (List Int) × Bool)} {K : Nat} (hX : ∀ k, K ≤ k → impl_CyclesOfPowers.l0 k (b : Int) (p : Int) (nextL b p (M + 1)) [] ((M + 1 : Nat) : Int) ((M + 1 : Nat) : Int) = X) :
    ∀ d i, i + d = M + 1 → ∀ k, K + d + 1000000 ≤ k → impl_CyclesOfPowers.l0 k (b : Int) (p : Int) (nextL b p i) [] ((M + 1 : Nat) : Int) (i : Int) = X
  | 0, i, hi, k, hk => by
    obtain rfl : i = M + 1 := by omega
    exact hX k (by omega)
  | d + 1, i, hi, k, hk => by
    obtain ⟨k, rfl⟩ : ∃ q, k = q + 1 := ⟨k - 1, by omega⟩
    have e1 : wrap64 ((i : Int) + 1) = ((i + 1 : Nat) : Int) := by unfold wrap64; omega
    have e2 : nextL b p i ++ [pws b p i] = nextL b p (i + 1) := by simp [nextL, List.range_succ]
    rw [impl_CyclesOfPowers.l0, if_pos (by omega), powerSum_eq hb (by omega) hp1 (by omega) (by omega) k (by omega), Option.bind_some, if_pos (by rw [nextL_length]; omega), e1, e2]
    exact next_loop hb hb2 hp1 hp hM hX d (i + 1) (by omega) k (by omega)
theorem nextL_rd {b p M : Nat} {x : Int} (h0 : 0 ≤ x) (h1 : x ≤ (M : Int)) : rd (nextL b p (M + 1)) x = stp b p x := by
  have h : x.toNat < M + 1 := by omega
  simp [rd, nextL, List.getD_eq_getElem?_getD, h, stp]
theorem rd_zeros {m : Nat} (x : Int) : rd (List.replicate m (0 : Int)) x = 0 := by
  simp only [rd, List.getD_eq_getElem?_getD, List.getElem?_replicate]
  split <;> simp
theorem rdL_mid (a c : List (List Int)) (x : List Int) : rd_L2 (a ++ x :: c) (a.length : Int) = x := by
  simp [rd_L2, List.getD_eq_getElem?_getD]
end Go.Proofs.YtehhkkbejmhcfaaC
end
section
namespace Go.Proofs.YtehhkkbejmhcfaaC
open Go.RowKit Go.Proofs.YtehhkkbejmhcfaaW.PrintWords Go.Proofs.YtehhkkbejmhcfaaW.PrintMore
set_option linter.unusedSimpArgs false
set_option linter.unusedVariables false
set_option linter.unusedSectionVars false
theorem orbit_add (f : Int → Int) (x : Int) (a c : Nat) : orbit f x (a + c) = orbit f x a ++ orbit f (it f x a) c := by
  have h := (List.take_append_drop a (orbit f x (a + c))).symm
  rw [orbit_take f x (a + c) a (by omega), orbit_drop, show a + c - a = c from by omega] at h
  exact h
theorem turned_perm (xs : List Int) (e : Int) : (turned xs e).Perm xs := by
  unfold turned
  have h := List.take_append_drop (xs.idxOf e) xs
  conv => rhs; rw [← h]
  exact List.perm_append_comm
theorem rho_nodup {f : Int → Int} {x : Int} {m a : Nat} (h : Rho f x m a) : (orbit f x m).Nodup := by
  rw [List.Nodup, List.pairwise_iff_getElem]
  intro i j hi hj hij e
  rw [orbit_get, orbit_get] at e
  rw [orbit_length] at hi hj
  have := h.inj i j hi hj e
  omega
theorem nodup_inj {f : Int → Int} {x : Int} {m : Nat} (h : (orbit f x m).Nodup) : ∀ a c, a < m → c < m → it f x a = it f x c → a = c := by
  intro a c ha hc e
  have h1 := List.pairwise_iff_getElem.1 h
  rcases Nat.lt_trichotomy a c with h2 | h2 | h2
  · exact absurd (by rw [orbit_get, orbit_get, e]) (h1 a c (by rw [orbit_length]; omega) (by rw [orbit_length]; omega) h2)
  · exact h2
  · exact absurd (by rw [orbit_get, orbit_get, e]) (h1 c a (by rw [orbit_length]; omega) (by rw [orbit_length]; omega) h2)
theorem turned_orbit {f : Int → Int} {x e : Int} {m : Nat} (h : Rho f x m 0) (he : IsMin e (orbit f x m)) : turned (orbit f x m) e = orbit f e m ∧ Rho f e m 0 ∧ IsMin e (orbit f e m) := by
  obtain ⟨i, hi, rfl⟩ := mem_orbit.1 he.mem
  have hidx : (orbit f x m).idxOf (it f x i) = i := idxOf_orbit h.inj hi
  have hm : m - i + i = m := by omega
  have hback : it f (it f x i) (m - i) = x := by rw [← it_add, show i + (m - i) = m from by omega]; exact h.back
  have e1 : turned (orbit f x m) (it f x i) = orbit f (it f x i) m := by
    unfold turned
    rw [hidx, orbit_drop, orbit_take f x m i (by omega)]
    have := orbit_add f (it f x i) (m - i) i
    rw [hm, hback] at this
    exact this.symm
  have hp : (orbit f (it f x i) m).Perm (orbit f x m) := by rw [← e1]; exact turned_perm _ _
  refine ⟨e1, ⟨h.lt, ?_, nodup_inj (hp.nodup_iff.2 (rho_nodup h))⟩, ⟨hp.mem_iff.2 he.mem, fun y hy => he.le y (hp.mem_iff.1 hy)⟩⟩
  rw [← it_add]
  have := h.round i (by omega)
  rw [Nat.sub_zero] at this
  exact this
def CycC (f : Int → Int) (c : List Int) : Prop := ∃ (e : Int) (m : Nat), Rho f e m 0 ∧ IsMin e (orbit f e m) ∧ c = orbit f e m
structure Told (f : Int → Int) (M : Nat) (R : List (List Int)) : Prop where
  len : R.length ≤ M + 1
  short : ∀ c ∈ R, c.length ≤ M + 1
  sorted : R.Pairwise (fun a c => rd a 0 < rd c 0)
  cyc : ∀ c ∈ R, CycC f c
  range : ∀ c ∈ R, ∀ y ∈ c, 0 ≤ y ∧ y ≤ (M : Int)
  all : ∀ y, 0 ≤ y → y ≤ (M : Int) → ∃ c ∈ R, ∃ i, it f y i ∈ c
structure PInv2 (f : Int → Int) (M n : Nat) (st : List Int) (outI outS : List (List Int)) : Prop extends PInv M n st outI outS where
  cyc : ∀ c ∈ outS, CycC f c
  seen : ∀ y, 0 ≤ y → y ≤ (M : Int) → rd st y ≠ 0 → ∃ c ∈ outS, ∃ i, it f y i ∈ c
  low : ∀ y, 0 ≤ y → y < (n : Int) → rd st y ≠ 0
set_option maxHeartbeats 1000000 in
theorem cycles_main2 {b p M : Nat} (hb : 2 ≤ b) (hb2 : b ≤ 10) (hp1 : 1 ≤ p) (hp : p ≤ 4) (hM : M ≤ 100000) (hf : Closed (stp b p) M) {next : List Int} (hnx : next.length = M + 1) (hrd : ∀ x, 0 ≤ x → x ≤ (M : Int) → rd next x = stp b p x) :
    ∀ d n, n + d = M + 1 → ∀ st outI outS, PInv2 (stp b p) M n st outI outS → ∃ (K : Nat) (R : List (List Int)), Told (stp b p) M R ∧ ∀ k, K ≤ k →
      spec_CyclesOfPowers.l0 k (b : Int) (p : Int) (M : Int) st outS (n : Int) = some (R, true) ∧ impl_CyclesOfPowers.l1 k next outI st ((M + 1 : Nat) : Int) (n : Int) = some (R, true) := by
  intro d
  induction d with
  | zero =>
    intro n hn st outI outS hI
    have hlow := hI.low
    refine ⟨1, outS, ⟨by have := hI.len; omega, fun c hc => (hI.good c hc).2.1, hI.sorted, hI.cyc, fun c hc y hy => by have := (hI.good c hc).2.2 y hy; omega, fun y h0 h1 => hI.seen y h0 h1 (hlow y h0 (by omega))⟩, fun k hk => ?_⟩
    obtain ⟨k, rfl⟩ : ∃ q, k = q + 1 := ⟨k - 1, by omega⟩
    rw [spec_CyclesOfPowers.l0, if_neg (by omega), impl_CyclesOfPowers.l1, if_neg (by omega), sort_end hI.toPInv hM (by omega), Option.bind_some]
    exact ⟨rfl, rfl⟩
  | succ d ih =>
    intro n hn st outI outS hI
    have hn0 : (0 : Int) ≤ (n : Int) := by omega
    have hnM : (n : Int) ≤ (M : Int) := by omega
    obtain ⟨j, -, hj, hnd, hz0, hstop, hz1⟩ := run_stops hf hn0 hnM hI.hst (v := ((n + 1 : Nat) : Int)) (by omega) (M + 1) 0 (by omega) (by simp [orbit]) (fun j h => by omega)
    have hz : ∀ i, i < j → rd (mark st ((n + 1 : Nat) : Int) (orbit (stp b p) (n : Int) i)) (it (stp b p) (n : Int) i) = 0 := fun i hi => hz1 i (by omega) hi
    have hw := wrap_small (n := n) (by omega)
    have hin := orbit_in hf hn0 hnM hI.hst j
    have hrm : ∀ y, 0 ≤ y → rd (mark st ((n + 1 : Nat) : Int) (orbit (stp b p) (n : Int) j)) y = if y ∈ orbit (stp b p) (n : Int) j then ((n + 1 : Nat) : Int) else rd st y := fun y hy => rd_mark _ hy _ _ hin
    obtain ⟨x, hx⟩ : ∃ x, x = it (stp b p) (n : Int) j := ⟨_, rfl⟩
    have hxr := it_closed hf hn0 hnM j
    rw [← hx] at hxr hstop
    obtain ⟨st', hst'⟩ : ∃ st', st' = mark st ((n + 1 : Nat) : Int) (orbit (stp b p) (n : Int) j) := ⟨_, rfl⟩
    rw [← hst'] at hrm hstop
    have hlen' : st'.length = M + 1 := by rw [hst', mark_length]; exact hI.hst
    have hv' : ∀ y, 0 ≤ y → y ≤ (M : Int) → 0 ≤ rd st' y ∧ rd st' y ≤ ((n + 1 : Nat) : Int) := by
      intro y h1 h2
      have := hI.hv y h1 h2
      rw [hrm y h1]
      split <;> omega
    have hgood' : ∀ c ∈ outS, 0 < c.length ∧ c.length ≤ M + 1 ∧ ∀ y ∈ c, 0 ≤ y ∧ y ≤ (M : Int) ∧ rd st' y ≠ 0 := by
      intro c hc
      obtain ⟨h1, h2, h3⟩ := hI.good c hc
      refine ⟨h1, h2, fun y hy => ?_⟩
      obtain ⟨h4, h5, h6⟩ := h3 y hy
      refine ⟨h4, h5, ?_⟩
      rw [hrm y h4]
      split
      · omega
      · exact h6
    have hlow' : ∀ y, 0 ≤ y → y < ((n + 1 : Nat) : Int) → rd st' y ≠ 0 := by
      intro y h0 h1
      by_cases hy : y = (n : Int)
      · subst hy
        by_cases hj0 : j = 0
        · subst hj0
          have e0 : x = (n : Int) := by rw [hx]; rfl
          rw [e0] at hstop; exact hstop
        · have hno : (n : Int) ∈ orbit (stp b p) (n : Int) j := mem_orbit.2 ⟨0, by omega, rfl⟩
          rw [hrm _ hn0, if_pos hno]; omega
      · have h2 := hI.low y h0 (by omega)
        rw [hrm y h0]
        split
        · omega
        · exact h2
    have hway : ∀ q, q < j → it (stp b p) (it (stp b p) (n : Int) q) (j - q) = x := fun q hq => by
      rw [← it_add, show q + (j - q) = j from by omega]; exact hx.symm
    have hsrun := fun (X : Option (List (List Int) × Bool)) (K : Nat) => spec_run (X := X) (K := K) hb hb2 hp1 hp hM hf (n := n) (by omega) hI.hst outS hz
    have hirun := fun (X : Option (List (List Int) × Bool)) (K : Nat) => impl_run (X := X) (K := K) hb hb2 hp1 hp hM hf (n := n) (by omega) hI.hst hnx hrd outI hj hz
    rw [← hst', ← hx] at hsrun hirun
    by_cases hm : x ∈ orbit (stp b p) (n : Int) j
    · obtain ⟨i, hi, hix⟩ := mem_orbit.1 hm
      have hinj : ∀ a c, a < j → c < j → it (stp b p) (n : Int) a = it (stp b p) (n : Int) c → a = c := by
        intro a c ha hc h
        have h1 := List.pairwise_iff_getElem.1 hnd
        rcases Nat.lt_trichotomy a c with h2 | h2 | h2
        · exact absurd (by rw [orbit_get, orbit_get, h]) (h1 a c (by rw [orbit_length]; omega) (by rw [orbit_length]; omega) h2)
        · exact h2
        · exact absurd (by rw [orbit_get, orbit_get, h]) (h1 c a (by rw [orbit_length]; omega) (by rw [orbit_length]; omega) h2)
      have hsh : ∀ q, it (stp b p) x q = it (stp b p) (n : Int) (i + q) := fun q => by rw [it_add, hix]
      have hrho : Rho (stp b p) x (j - i) 0 := ⟨by omega, by rw [hsh, show i + (j - i) = j from by omega, ← hx]; rfl, fun a c ha hc h => by
        rw [hsh, hsh] at h
        have := hinj _ _ (by omega) (by omega) h
        omega⟩
      obtain ⟨e, he⟩ := isMin_exists (orbit (stp b p) x (j - i)) (by
        intro h
        have := congrArg List.length h
        rw [orbit_length] at this
        simp at this
        omega)
      have hfirst := turned_first he
      have hlenc : (turned (orbit (stp b p) x (j - i)) e).length = j - i := by rw [turned_length, orbit_length]
      have hcy : ∀ y ∈ turned (orbit (stp b p) x (j - i)) e, 0 ≤ y ∧ y ≤ (M : Int) ∧ rd st y = 0 ∧ rd st' y = ((n + 1 : Nat) : Int) := by
        intro y hy
        obtain ⟨q, hq, rfl⟩ := mem_orbit.1 (turned_mem hy)
        rw [hsh]
        have h1 := it_closed hf hn0 hnM (i + q)
        refine ⟨h1.1, h1.2, hz0 (i + q) (by omega), ?_⟩
        rw [hrm _ h1.1, if_pos (mem_orbit.2 ⟨i + q, by omega, rfl⟩)]
      obtain ⟨cy, hcydef⟩ : ∃ cy, cy = turned (orbit (stp b p) x (j - i)) e := ⟨_, rfl⟩
      rw [← hcydef] at hfirst hlenc hcy
      obtain ⟨t, ht, hbefore, hafter⟩ := place outS e hI.sorted
      have hafter' : ∀ a ∈ outS.drop t, e < rd a 0 := by
        intro a ha
        have h1 := hafter a ha
        have hao := List.mem_of_mem_drop ha
        have h2 := (hI.good a hao)
        have h3 := (h2.2.2 _ (rd_head h2.1)).2.2
        have h4 := (hcy _ (rd_head hfirst.2)).2.2.1
        rw [hfirst.1] at h4
        have : rd a 0 ≠ e := fun h => h3 (by rw [h]; exact h4)
        omega
      have hxc : x ∈ cy := by
        rw [hcydef, (turned_orbit hrho he).1]
        have h1 : (orbit (stp b p) x (j - i)).Perm (orbit (stp b p) e (j - i)) := by rw [← (turned_orbit hrho he).1]; exact (turned_perm _ _).symm
        exact h1.mem_iff.1 (mem_orbit.2 ⟨0, by omega, rfl⟩)
      have hmem : ∀ c, c ∈ outS.take t ++ [cy] ++ outS.drop t ↔ c ∈ outS ∨ c = cy := fun c => by
        conv => rhs; rw [← List.take_append_drop t outS]
        simp only [List.mem_append, List.mem_singleton]
        constructor
        · rintro ((h | h) | h)
          · exact .inl (.inl h)
          · exact .inr h
          · exact .inl (.inr h)
        · rintro ((h | h) | h)
          · exact .inl (.inl h)
          · exact .inr h
          · exact .inl (.inr h)
      have hI' : PInv2 (stp b p) M (n + 1) st' (outI ++ [cy]) (outS.take t ++ [cy] ++ outS.drop t) := by
        refine ⟨⟨hlen', hv', ?_, ?_, ?_, ?_⟩, ?_, ?_, hlow'⟩
        · refine List.Perm.trans ?_ (hI.perm.append_right [cy])
          have h1 : (outS.take t ++ [cy] ++ outS.drop t).Perm (outS.take t ++ outS.drop t ++ [cy]) := by
            rw [List.append_assoc, List.append_assoc]
            exact List.Perm.append_left _ List.perm_append_comm
          rw [List.take_append_drop] at h1
          exact h1
        · have h0 := hI.sorted
          rw [← List.take_append_drop t outS, List.pairwise_append] at h0
          rw [List.pairwise_append, List.pairwise_append]
          refine ⟨⟨h0.1, by simp, fun a ha c hc => ?_⟩, h0.2.1, fun a ha c hc => ?_⟩
          · rw [List.mem_singleton.1 hc, hfirst.1]; exact hbefore a ha
          · rcases List.mem_append.1 ha with ha | ha
            · exact h0.2.2 a ha c hc
            · rw [List.mem_singleton.1 ha, hfirst.1]; exact hafter' c hc
        · intro c hc
          rcases List.mem_append.1 hc with hc | hc
          · rcases List.mem_append.1 hc with hc | hc
            · exact hgood' c (List.mem_of_mem_take hc)
            · rw [List.mem_singleton.1 hc]
              refine ⟨hfirst.2, by omega, fun y hy => ?_⟩
              obtain ⟨h1, h2, _, h4⟩ := hcy y hy
              exact ⟨h1, h2, by rw [h4]; omega⟩
          · exact hgood' c (List.mem_of_mem_drop hc)
        · have := hI.len
          simp only [List.length_append, List.length_take, List.length_drop, List.length_singleton]
          omega
        · intro c hc
          rcases (hmem c).1 hc with hc | hc
          · exact hI.cyc c hc
          · obtain ⟨e1, e2, e3⟩ := turned_orbit hrho he
            exact ⟨e, j - i, e2, e3, by rw [hc, hcydef, e1]⟩
        · intro y h0 h1 h2
          by_cases hy : y ∈ orbit (stp b p) (n : Int) j
          · obtain ⟨q, hq, rfl⟩ := mem_orbit.1 hy
            exact ⟨cy, (hmem cy).2 (.inr rfl), j - q, by rw [hway q hq]; exact hxc⟩
          · rw [hrm y h0, if_neg hy] at h2
            obtain ⟨c, hc, r, hr⟩ := hI.seen y h0 h1 h2
            exact ⟨c, (hmem c).2 (.inl hc), r, hr⟩
      obtain ⟨K, R, hR1, hK⟩ := ih (n + 1) (by omega) st' (outI ++ [cy]) _ hI'
      refine ⟨K + 2000000 + 5 * (M + 1), R, hR1, fun k hk => ?_⟩
      obtain ⟨k, rfl⟩ : ∃ q, k = q + 1 := ⟨k - 1, by omega⟩
      constructor
      · rw [spec_CyclesOfPowers.l0, if_pos (by omega)]
        refine hsrun (some (R, true)) (K + 1000000 + 3 * (M + 1)) (fun k hk => ?_) j 0 (by omega) k (by omega)
        obtain ⟨k, rfl⟩ : ∃ q, k = q + 1 := ⟨k - 1, by omega⟩
        have hmk : rd st' x = ((n + 1 : Nat) : Int) := by rw [hrm x hxr.1, if_pos hm]
        have hrun : spec_pwRun.f k x (b : Int) (p : Int) = some (orbit (stp b p) x (j - i), ((0 : Nat) : Int)) := by
          have := pwRunF_rho (step := fun n => spec_pwSum.f k n (b : Int) (p : Int)) hrho (by omega) (fun q => by
            have h1 := it_closed hf hxr.1 hxr.2 q
            obtain ⟨y, hy⟩ := Int.eq_ofNat_of_zero_le h1.1
            show spec_pwSum.f k (it (stp b p) x q) (b : Int) (p : Int) = some (stp b p (it (stp b p) x q))
            rw [hy] at h1 ⊢
            exact pwSum_eq hb (by omega) (by omega) (by omega) k (by omega)) (j - i - 1) 0 k (by omega) (by omega)
          exact this
        rw [spec_CyclesOfPowers.l1, if_pos hxr.1, if_pos (by omega), if_neg hstop, hw, if_pos hmk, hrun, Option.bind_some, if_pos (by simp), if_pos (by simp)]
        simp only [Int.toNat_natCast, List.drop_zero]
        rw [pwTurned_eq he (by rw [orbit_length]; omega) (by rw [orbit_length]; omega), Option.bind_some, ← hcydef]
        refine put_in outS cy (n : Int) hfirst.2 (by have := hI.len; omega) (fun c hc => (hI.good c hc).1) ht (fun i h h2 => ?_) (fun h => ?_) (X := some (R, true)) (K := K) (fun k hk => ?_) t 0 (by omega) k (by have := hI.len; omega)
        · rw [hfirst.1]
          exact hbefore _ (List.mem_take_iff_getElem.2 ⟨i, by omega, rfl⟩)
        · rw [hfirst.1]
          have hmem : outS[t] ∈ outS.drop t := by rw [List.drop_eq_getElem_cons h]; exact List.mem_cons_self
          exact hafter _ hmem
        · rw [hw]; exact (hK k hk).1
      · rw [impl_CyclesOfPowers.l1, if_pos (by omega)]
        refine hirun (some (R, true)) (K + 1000000) (fun k hk => ?_) j 0 (by omega) k (by omega)
        obtain ⟨k, rfl⟩ : ∃ q, k = q + 1 := ⟨k - 1, by omega⟩
        have hidx : (orbit (stp b p) (n : Int) j).idxOf x = i := by rw [← hix]; exact idxOf_orbit hinj hi
        have hdrop : (orbit (stp b p) (n : Int) j).drop i = orbit (stp b p) x (j - i) := by rw [orbit_drop, hix]
        rw [impl_CyclesOfPowers.l2, if_pos hxr.1, if_pos (by omega), if_neg hstop, Index_eq _ _ (by rw [orbit_length]; omega) (by rw [orbit_length]; omega), idx_at _ 0 hm, hidx, Option.bind_some, Int.zero_add, if_pos (by omega), if_pos (by omega), if_pos (by rw [orbit_length]; omega), Int.toNat_natCast, hdrop, least_first he (by rw [orbit_length]; omega) (by rw [orbit_length]; omega), Option.bind_some, ← hcydef, if_pos (by rw [← hI.perm.length_eq]; have := hI.len; omega), hw]
        exact (hK k (by omega)).2
    · have hxo : rd st x ≠ 0 := by rw [hrm x hxr.1, if_neg hm] at hstop; exact hstop
      obtain ⟨c0, hc0, i0, hi0⟩ := hI.seen x hxr.1 hxr.2 hxo
      have hI' : PInv2 (stp b p) M (n + 1) st' outI outS := ⟨⟨hlen', hv', hI.perm, hI.sorted, hgood', by have := hI.len; omega⟩, hI.cyc, fun y h0 h1 h2 => by
        by_cases hy : y ∈ orbit (stp b p) (n : Int) j
        · obtain ⟨q, hq, rfl⟩ := mem_orbit.1 hy
          exact ⟨c0, hc0, j - q + i0, by rw [it_add, hway q hq]; exact hi0⟩
        · rw [hrm y h0, if_neg hy] at h2
          exact hI.seen y h0 h1 h2, hlow'⟩
      obtain ⟨K, R, hR1, hK⟩ := ih (n + 1) (by omega) st' outI outS hI'
      refine ⟨K + 2000000 + 5 * (M + 1), R, hR1, fun k hk => ?_⟩
      obtain ⟨k, rfl⟩ : ∃ q, k = q + 1 := ⟨k - 1, by omega⟩
      have hmk : rd st' x ≠ ((n + 1 : Nat) : Int) := by
        rw [hrm x hxr.1, if_neg hm]
        have := hI.hv x hxr.1 hxr.2
        omega
      constructor
      · rw [spec_CyclesOfPowers.l0, if_pos (by omega)]
        refine hsrun (some (R, true)) (K + 1) (fun k hk => ?_) j 0 (by omega) k (by omega)
        obtain ⟨k, rfl⟩ : ∃ q, k = q + 1 := ⟨k - 1, by omega⟩
        rw [spec_CyclesOfPowers.l1, if_pos hxr.1, if_pos (by omega), if_neg hstop, hw, if_neg hmk]
        exact (hK k (by omega)).1
      · rw [impl_CyclesOfPowers.l1, if_pos (by omega)]
        refine hirun (some (R, true)) (K + 1000000) (fun k hk => ?_) j 0 (by omega) k (by omega)
        obtain ⟨k, rfl⟩ : ∃ q, k = q + 1 := ⟨k - 1, by omega⟩
        have hneg : ¬ (idxF (fun y => decide (x = y)) (orbit (stp b p) (n : Int) j) 0 ≥ 0) := by
          have h1 := idxF_any (p := fun y => decide (x = y)) (orbit (stp b p) (n : Int) j) 0 (by omega)
          have h2 : (orbit (stp b p) (n : Int) j).any (fun y => decide (x = y)) = false := by
            refine Bool.eq_false_iff.2 (fun h => ?_)
            obtain ⟨y, hy, h3⟩ := List.any_eq_true.1 h
            have h4 : x = y := of_decide_eq_true h3
            exact hm (h4 ▸ hy)
          rw [h2] at h1
          exact of_decide_eq_false h1
        rw [impl_CyclesOfPowers.l2, if_pos hxr.1, if_pos (by omega), if_neg hstop, Index_eq _ _ (by rw [orbit_length]; omega) (by rw [orbit_length]; omega), Option.bind_some, if_neg hneg, hw]
        exact (hK k (by omega)).2
end Go.Proofs.YtehhkkbejmhcfaaC
end
section
namespace Go.Proofs.YtehhkkbejmhcfaaC
open Go.RowKit Go.Proofs.YtehhkkbejmhcfaaW.PrintWords Go.Proofs.YtehhkkbejmhcfaaW.PrintMore
set_option linter.unusedSimpArgs false
set_option linter.unusedVariables false
set_option linter.unusedSectionVars false
theorem pow_fall {b D C : Nat} (hb : 2 ≤ b) (h : (D + 1) * C < b ^ D) : ∀ e, (D + 1 + e) * C < b ^ (D + e)
  | 0 => h
  | e + 1 => by
    have ih := pow_fall hb h e
    have h1 : (D + 1 + (e + 1)) * C ≤ 2 * ((D + 1 + e) * C) := by
      rw [← Nat.mul_assoc]
      exact Nat.mul_le_mul_right C (by omega)
    have h2 : 2 * b ^ (D + e) ≤ b ^ (D + (e + 1)) := by
      rw [show D + (e + 1) = (D + e) + 1 from rfl, Nat.pow_succ, Nat.mul_comm 2]
      exact Nat.mul_le_mul_left _ hb
    omega
theorem stp_falls {b p D : Nat} (hb : 2 ≤ b) (h : (D + 1) * (b - 1) ^ p < b ^ D) {x : Int} (hx : ((D * (b - 1) ^ p : Nat) : Int) < x) : stp b p x < x := by
  obtain ⟨n, rfl⟩ := Int.eq_ofNat_of_zero_le (show 0 ≤ x by omega)
  have hc := psum_cap (p := p) hb (lsd b n) (lsd_range hb n)
  have e : stp b p (n : Int) = psum p (lsd b n) := by unfold stp pws; rw [Int.toNat_natCast]
  rw [e]
  by_cases hl : (lsd b n).length ≤ D
  · have := Nat.mul_le_mul_right ((b - 1) ^ p) hl
    omega
  · obtain ⟨q, hq⟩ := Nat.exists_eq_add_of_le (show D + 1 ≤ (lsd b n).length by omega)
    have h1 := pow_fall (C := (b - 1) ^ p) hb h q
    have h2 : b ^ (D + q) ≤ n := by
      by_cases h3 : b ^ (D + q) ≤ n
      · exact h3
      · have := lsd_len hb (D + q) n (by omega)
        omega
    rw [hq] at hc
    omega
section
variable {f : Int → Int} {M : Nat} (hf : Closed f M) (hfall : ∀ x, (M : Int) < x → f x < x) (hnn : ∀ x, 0 ≤ x → 0 ≤ f x)
include hf hfall hnn
theorem it_nn {x : Int} (h : 0 ≤ x) : ∀ i, 0 ≤ it f x i
  | 0 => h
  | i + 1 => hnn _ (it_nn h i)
theorem cyc_low {z : Int} (hz : 0 ≤ z) {m : Nat} (hm : 0 < m) (e : it f z m = z) : z ≤ (M : Int) := by
  by_cases hc : z ≤ (M : Int)
  · exact hc
  · have h : ∀ i, 0 < i → it f z i ≤ (M : Int) ∨ it f z i < z := by
      intro i
      induction i with
      | zero => intro h; omega
      | succ i ih =>
        intro _
        show f (it f z i) ≤ _ ∨ f (it f z i) < _
        by_cases hi : i = 0
        · subst hi
          exact .inr (hfall z (by omega))
        · have h0 := it_nn hf hfall hnn hz i
          by_cases hy : it f z i ≤ (M : Int)
          · exact .inl (hf _ h0 hy).2
          · have h1 := hfall (it f z i) (by omega)
            rcases ih (by omega) with h2 | h2
            · omega
            · exact .inr (by omega)
    rcases h m hm with h | h <;> omega
end
def heads (R : List (List Int)) : List Int := R.map (fun c => rd c 0)
theorem orbit_zero_rd (f : Int → Int) (e : Int) {m : Nat} (hm : 0 < m) : rd (orbit f e m) 0 = e := by
  obtain ⟨q, rfl⟩ : ∃ q, m = q + 1 := ⟨m - 1, by omega⟩
  rw [orbit_cons]; rfl
section
variable {f : Int → Int} {M : Nat} {R : List (List Int)} (hT : Told f M R)
include hT
theorem heads_rise : (heads R).Pairwise (· < ·) := by
  unfold heads
  rw [List.pairwise_map]
  exact hT.sorted
theorem told_fix {x : Int} (h0 : 0 ≤ x) (h1 : x ≤ (M : Int)) (hx : f x = x) : [x] ∈ R := by
  obtain ⟨c, hc, i, hi⟩ := hT.all x h0 h1
  rw [it_fix hx] at hi
  obtain ⟨e, m, hr, he, rfl⟩ := hT.cyc c hc
  obtain ⟨s, hs, hse⟩ := mem_orbit.1 hi
  have e1 : e = x := by
    have := hr.back
    rw [show m = s + (m - s) from by omega, it_add, hse, it_fix hx] at this
    exact this.symm
  subst e1
  have hm : m = 1 := by
    by_cases h2 : 1 < m
    · have := hr.inj 0 1 (by omega) h2 (by rw [it_fix hx, it_fix hx])
      omega
    · have := hr.lt; omega
  subst hm
  have e2 : orbit f e 1 = [e] := by simp [orbit]; rfl
  rw [e2] at hc
  exact hc
end
end Go.Proofs.YtehhkkbejmhcfaaC
end
section
namespace Go.Proofs.YtehhkkbejmhcfaaC
open Go.RowKit Go.Proofs.YtehhkkbejmhcfaaW.PrintWords
theorem same_loop (xs ys : List Int) (hx : xs.length ≤ 4611686018427387904) (hxy : xs.length = ys.length) : ∀ (sx sy px py : List Int) (k : Nat), xs = px ++ sx → ys = py ++ sy → px.length = py.length → sx.length < k →
    spec_l1Same.l0 k xs ys (xs.length : Int) (px.length : Int) = some (decide (sx = sy)) ∧ slices_Equal_int_int.l0 k xs ys (xs.length : Int) (px.length : Int) = some (decide (sx = sy)) := by
  intro sx
  induction sx with
  | nil =>
    intro sy px py k h1 h2 hp hk
    obtain ⟨k, rfl⟩ : ∃ m, k = m + 1 := ⟨k - 1, by omega⟩
    obtain rfl : sy = [] := by
      apply List.eq_nil_of_length_eq_zero
      have h3 := congrArg List.length h1
      have h4 := congrArg List.length h2
      rw [List.length_append] at h3 h4
      simp only [List.length_nil] at h3
      omega
    subst h1
    refine ⟨?_, ?_⟩
    · rw [spec_l1Same.l0, if_neg (by simp)]; simp
    · rw [slices_Equal_int_int.l0, if_neg (by simp)]; simp
  | cons x sx ih =>
    intro sy px py k h1 h2 hp hk
    simp only [List.length_cons] at hk
    obtain ⟨k, rfl⟩ : ∃ m, k = m + 1 := ⟨k - 1, by omega⟩
    have hl : xs.length = px.length + sx.length + 1 := by subst h1; simp; omega
    rcases sy with _ | ⟨y, sy⟩
    · have := congrArg List.length h2; simp at this; omega
    have e1 : rd xs (px.length : Int) = x := by subst h1; exact rd_mid _ _ _
    have e2 : rd ys (px.length : Int) = y := by subst h2; rw [hp]; exact rd_mid _ _ _
    have e3 : wrap64 ((px.length : Int) + 1) = (((px ++ [x]).length : Nat) : Int) := by rw [w64 (by omega) (by omega)]; simp
    obtain ⟨i1, i2⟩ := ih sy (px ++ [x]) (py ++ [y]) k (by simp [h1]) (by simp [h2]) (by simp [hp]) (by omega)
    by_cases hc : x = y
    · refine ⟨?_, ?_⟩
      · rw [spec_l1Same.l0, if_pos (by omega), if_pos (by omega), if_pos (by omega), if_pos (by omega), e1, e2, if_pos hc, e3, i1]; simp [hc]
      · rw [slices_Equal_int_int.l0, if_pos (by omega), if_pos (by omega), if_pos (by omega), if_pos (by omega), e1, e2, if_pos hc, e3, i2]; simp [hc]
    · refine ⟨?_, ?_⟩
      · rw [spec_l1Same.l0, if_pos (by omega), if_pos (by omega), if_pos (by omega), if_pos (by omega), e1, e2, if_neg hc]; simp [hc]
      · rw [slices_Equal_int_int.l0, if_pos (by omega), if_pos (by omega), if_pos (by omega), if_pos (by omega), e1, e2, if_neg hc]; simp [hc]
theorem l1Same_eq (xs ys : List Int) (hx : xs.length ≤ 4611686018427387904) {k : Nat} (hk : xs.length < k) : spec_l1Same.f k xs ys = some (decide (xs = ys)) := by
  unfold spec_l1Same.f
  by_cases h : xs.length = ys.length
  · rw [if_pos (by omega)]
    have := (same_loop xs ys hx h xs ys [] [] k rfl rfl rfl hk).1
    simpa using this
  · rw [if_neg (by omega)]
    have : xs ≠ ys := fun e => h (by rw [e])
    simp [this]
theorem Equal_eq (xs ys : List Int) (hx : xs.length ≤ 4611686018427387904) {k : Nat} (hk : xs.length < k) : slices_Equal_int_int.f k xs ys = some (decide (xs = ys)) := by
  unfold slices_Equal_int_int.f
  by_cases h : xs.length = ys.length
  · rw [if_pos (by omega)]
    have := (same_loop xs ys hx h xs ys [] [] k rfl rfl rfl hk).2
    simpa using this
  · rw [if_neg (by omega)]
    have : xs ≠ ys := fun e => h (by rw [e])
    simp [this]
end Go.Proofs.YtehhkkbejmhcfaaC
end
section
namespace Go.Proofs.YtehhkkbejmhcfaaC
open Go.RowKit Go.Proofs.YtehhkkbejmhcfaaW.PrintWords
set_option linter.unusedSimpArgs false
set_option linter.unusedVariables false
def tb (T : List Int) (i : Nat) : Int := rd T (i : Int)
structure Pw (b p : Nat) : Prop where
  hb : 2 ≤ b
  hb2 : b ≤ 16
  hp : 1 ≤ p
  hp2 : p ≤ 8
theorem Pw.le {b p : Nat} (h : Pw b p) {d : Nat} (hd : d < b) : d ^ p ≤ 4294967296 := by
  have h0 := h.hb2
  have h1 : d ^ p ≤ 16 ^ p := Nat.pow_le_pow_left (by omega) p
  have h2 : 16 ^ p ≤ 16 ^ 8 := Nat.pow_le_pow_right (by omega) h.hp2
  have h3 : 16 ^ 8 = 4294967296 := by decide
  omega
theorem Pw.mono {b p : Nat} (h : Pw b p) {d e : Nat} (hd : d ≤ e) : d ^ p ≤ e ^ p := Nat.pow_le_pow_left hd p
structure Few (b p : Nat) (T : List Int) (s : Nat) : Prop where
  zero : 1 ≤ s → tb T 0 = 0
  least : ∀ i, 1 ≤ i → i < s → ∀ e, 1 ≤ e → e < b → e ^ p ≤ i → tb T i ≤ 1 + tb T (i - e ^ p)
  some : ∀ i, 1 ≤ i → i < s → ∃ e, 1 ≤ e ∧ e < b ∧ e ^ p ≤ i ∧ tb T i = 1 + tb T (i - e ^ p)
structure Few2 (b p : Nat) (T : List Int) (s : Nat) : Prop where
  zero : tb T 0 = 0
  ones : ∀ i, i < s → tb T i ≤ (i : Int)
  least : ∀ i, 1 ≤ i → i < s → ∀ e, 2 ≤ e → e < b → e ^ p ≤ i → tb T i ≤ 1 + tb T (i - e ^ p)
  some : ∀ i, 1 ≤ i → i < s → tb T i = (i : Int) ∨ ∃ e, 2 ≤ e ∧ e < b ∧ e ^ p ≤ i ∧ tb T i = 1 + tb T (i - e ^ p)
theorem Few2.step {b p : Nat} {T : List Int} {s : Nat} (hT : Few2 b p T s) : ∀ i, 1 ≤ i → i < s → tb T i ≤ 1 + tb T (i - 1) := by
  intro i
  induction i using Nat.strongRecOn with
  | ind i ih =>
    intro hpos hi
    have ho := hT.ones i hi
    by_cases h1 : i = 1
    · subst h1
      have : tb T (1 - 1) = 0 := hT.zero
      omega
    · rcases hT.some (i - 1) (by omega) (by omega) with h | ⟨e, e1, e2, e3, e4⟩
      · omega
      · have p1 : 1 ≤ e ^ p := Nat.pow_pos (by omega)
        have l1 := hT.least i hpos hi e e1 e2 (by omega)
        have l2 := ih (i - e ^ p) (by omega) (by omega) (by omega)
        have e5 : i - e ^ p - 1 = i - 1 - e ^ p := by omega
        rw [e5] at l2
        omega
end Go.Proofs.YtehhkkbejmhcfaaC
end
section
namespace Go.Proofs.YtehhkkbejmhcfaaC
open Go.RowKit Go.Proofs.YtehhkkbejmhcfaaW.PrintWords Go.Proofs.YtehhkkbejmhcfaaW.PrintMore
set_option linter.unusedVariables false
def laws_big.f (l0 : List Int) (l1 : List Int) : Option (Bool) := if (l0.length : Int) > 1048576 then (some true) else (some (decide ((l1.length : Int) > (wrap64 (1048576 - (l0.length : Int))))))
def spec_l1Cur_next.f (s0_0 : List Int) (s0_1 : Int) (s0_2 : Int) : Option (Int × Int × Int) := if s0_1 < (s0_0.length : Int) then (if 0 ≤ s0_1 then (if (wrap64 (s0_1 + 1)) ≤ (s0_0.length : Int) then (some (wrap64 (rd s0_0 s0_1), wrap64 (s0_1 + 1), IntKind.u64.wrap ((IntKind.u64.wrap ((IntKind.u64.wrap (s0_2 * 6364136223846793005)) + (IntKind.u64.wrap (wrap64 (rd s0_0 s0_1))))) + 1442695040888963407))) else (some (wrap64 (Go.bits .and .u64 ((IntKind.u64.wrap ((IntKind.u64.wrap ((IntKind.u64.wrap (s0_2 * 6364136223846793005)) + (IntKind.u64.wrap (wrap64 (rd s0_0 s0_1))))) + 1442695040888963407)) / 1099511627776) 255), wrap64 (s0_1 + 1), IntKind.u64.wrap ((IntKind.u64.wrap ((IntKind.u64.wrap (s0_2 * 6364136223846793005)) + (IntKind.u64.wrap (wrap64 (rd s0_0 s0_1))))) + 1442695040888963407)))) else (none)) else (if (wrap64 (s0_1 + 1)) ≤ (s0_0.length : Int) then (some (0, wrap64 (s0_1 + 1), IntKind.u64.wrap ((IntKind.u64.wrap ((IntKind.u64.wrap (s0_2 * 6364136223846793005)) + 0)) + 1442695040888963407))) else (some (wrap64 (Go.bits .and .u64 ((IntKind.u64.wrap ((IntKind.u64.wrap ((IntKind.u64.wrap (s0_2 * 6364136223846793005)) + 0)) + 1442695040888963407)) / 1099511627776) 255), wrap64 (s0_1 + 1), IntKind.u64.wrap ((IntKind.u64.wrap ((IntKind.u64.wrap (s0_2 * 6364136223846793005)) + 0)) + 1442695040888963407))))
def spec_l1Cur_pick.f (s0_0 : List Int) (s0_1 : Int) (s0_2 : Int) (a1 : Int) : Option (Int × Int × Int) := if a1 ≤ 1 then (some (0, s0_1, s0_2)) else ((spec_l1Cur_next.f s0_0 s0_1 s0_2).bind fun bt261 => (if a1 > 200 then ((spec_l1Cur_next.f s0_0 bt261.2.1 bt261.2.2).bind fun bt264 => (if a1 = 0 then (none) else (some (Int.tmod (wrap64 ((wrap64 (bt261.1 * 256)) + bt264.1)) a1, bt264.2.1, bt264.2.2)))) else (if a1 = 0 then (none) else (some (Int.tmod bt261.1 a1, bt261.2.1, bt261.2.2)))))
def spec_l1Cur_among.f (s0_0 : List Int) (s0_1 : Int) (s0_2 : Int) (l1 : List Int) : Option (Int × Int × Int) := (spec_l1Cur_pick.f s0_0 s0_1 s0_2 (l1.length : Int)).bind fun bt267 => (if 0 ≤ bt267.1 then (if bt267.1 < (l1.length : Int) then (some (rd l1 bt267.1, bt267.2.1, bt267.2.2)) else (none)) else (none))
def spec_l1Cur_base.f (s0_0 : List Int) (s0_1 : Int) (s0_2 : Int) : Option (Int × Int × Int) := (spec_l1Cur_among.f s0_0 s0_1 s0_2 (([10, 10, 10, 2, 3, 5, 7, 16, 12, 10, 10, 16, 1, 17, 0] : List Int))).bind fun bt274 => (some (bt274.1, bt274.2.1, bt274.2.2))
def spec_DrawCyclesOfPowers.f (l0 : List Int) : Option (Int × Int) := (spec_l1Cur_among.f l0 0 0 ([2, 3, 4, 5, 6, 7, 8, 9, 10, 11, 1] : List Int)).bind fun b1 => (spec_l1Cur_among.f l0 b1.2.1 b1.2.2 ([1, 2, 2, 3, 3, 4, 5, 0] : List Int)).bind fun b2 => some (b1.1, b2.1)
def laws_rSame.l0 : Nat → List Int → List Int → Int → Int → Option (Bool)
  | 0, _, _, _, _ => none
  | k + 1, x0, x1, x12, x13 => if x13 < x12 then (if 0 ≤ x13 then (if x13 < (x0.length : Int) then (if x13 < (x1.length : Int) then (if (rd x0 x13) = (rd x1 x13) then (laws_rSame.l0 k x0 x1 x12 (wrap64 (x13 + 1))) else (some false)) else (none)) else (none)) else (none)) else (some true)
def laws_rSame.f (k : Nat) (l0 : List Int) (l1 : List Int) : Option (Bool) := if (l0.length : Int) = (l1.length : Int) then (laws_rSame.l0 k l0 l1 (l0.length : Int) 0) else (some false)
def laws_rRows.l0 : Nat → List (List Int) → List (List Int) → Int → Int → Option (Bool)
  | 0, _, _, _, _ => none
  | k + 1, x0, x1, x12, x13 => if x13 < x12 then (if 0 ≤ x13 then (if x13 < (x0.length : Int) then (if x13 < (x1.length : Int) then ((laws_rSame.f k (rd_L2 x0 x13) (rd_L2 x1 x13)).bind fun t281 => (if t281 = true then (laws_rRows.l0 k x0 x1 x12 (wrap64 (x13 + 1))) else (some false))) else (none)) else (none)) else (none)) else (some true)
def laws_rRows.f (k : Nat) (l0 : List (List Int)) (l1 : List (List Int)) : Option (Bool) := if (l0.length : Int) = (l1.length : Int) then (laws_rRows.l0 k l0 l1 (l0.length : Int) 0) else (some false)
def laws_rRising.l0 : Nat → List Int → Int → Option (Bool)
  | 0, _, _ => none
  | k + 1, x0, x3 => if x3 < (x0.length : Int) then (if 0 ≤ (wrap64 (x3 - 1)) then (if (wrap64 (x3 - 1)) < (x0.length : Int) then (if 0 ≤ x3 then (if (rd x0 (wrap64 (x3 - 1))) ≥ (rd x0 x3) then (some false) else (laws_rRising.l0 k x0 (wrap64 (x3 + 1)))) else (none)) else (none)) else (none)) else (some true)
def laws_rRising.f (k : Nat) (l0 : List Int) : Option (Bool) := laws_rRising.l0 k l0 1
def laws_rHas.l0 : Nat → Int → List Int → Int → Int → Option (Bool)
  | 0, _, _, _, _ => none
  | k + 1, x1, x7, x8, x9 => if x9 < x8 then (if 0 ≤ x9 then (if x9 < (x7.length : Int) then (if (rd x7 x9) = x1 then (some true) else (laws_rHas.l0 k x1 x7 x8 (wrap64 (x9 + 1)))) else (none)) else (none)) else (some false)
def laws_rHas.f (k : Nat) (l0 : List Int) (a1 : Int) : Option (Bool) := laws_rHas.l0 k a1 l0 (l0.length : Int) 0
def spec_DrawLeastWithSum.f (l0 : List Int) : Option (Int × Int × Int) := (spec_l1Cur_pick.f l0 0 0 256).bind fun b1 => (spec_l1Cur_among.f l0 b1.2.1 b1.2.2 ([0, 1, 5, 20, 81, 145, 500, 2000, 2001, -1, b1.1] : List Int)).bind fun b2 => (spec_l1Cur_base.f l0 b2.2.1 b2.2.2).bind fun b3 => (spec_l1Cur_among.f l0 b3.2.1 b3.2.2 ([1, 2, 2, 3, 4, 8, 9, 0] : List Int)).bind fun b4 => some (b2.1, b3.1, b4.1)
def laws_FnCyclesOfPowers.c1 : Nat → Int → Int → List Int → Int → Option Bool
  | 0, _, _, _, _ => none
  | k + 1, b, p, c, i => if i < (c.length : Int) then (if 0 ≤ i ∧ 0 ≤ Int.tmod (wrap64 (i + 1)) (c.length : Int) ∧ Int.tmod (wrap64 (i + 1)) (c.length : Int) < (c.length : Int) ∧ ¬ rd c i < rd c 0 then ((impl_PowerSum.f k (rd c i) b p).bind fun s => if s.2 = true ∧ s.1 = rd c (Int.tmod (wrap64 (i + 1)) (c.length : Int)) then laws_FnCyclesOfPowers.c1 k b p c (wrap64 (i + 1)) else none) else none) else some true
def laws_FnCyclesOfPowers.c0 : Nat → Int → Int → List (List Int) → List Int → Int → Option (List Int)
  | 0, _, _, _, _, _ => none
  | k + 1, b, p, cs, first, i => if i < (cs.length : Int) then (if 0 ≤ i ∧ 0 < ((rd_L2 cs i).length : Int) ∧ first.length < 17592186044416 ∧ (i = 0 → rd (rd_L2 cs i) 0 = 0 ∧ ((rd_L2 cs i).length : Int) = 1) then ((laws_FnCyclesOfPowers.c1 k b p (rd_L2 cs i) 0).bind fun _ => laws_FnCyclesOfPowers.c0 k b p cs (first ++ [rd (rd_L2 cs i) 0]) (wrap64 (i + 1))) else none) else some first
def laws_FnCyclesOfPowers.num (n0 n1 : Nat) (i : Int) : Int := Int.tmod (wrap64 (wrap64 (wrap64 (wrap64 (wrap64 (i * i) * i) * 7919) + wrap64 (104729 * (n0 : Int))) + wrap64 (31 * (n1 : Int)))) 1000000
def laws_FnCyclesOfPowers.c2 : Nat → Int → Int → List Int → Nat → Nat → Int → Option Bool
  | 0, _, _, _, _, _, _ => none
  | k + 1, b, p, first, n0, n1, i => if i < 20 then ((impl_EndsIn.f k (laws_FnCyclesOfPowers.num n0 n1 i) b p).bind fun e => (laws_rHas.f k first e.1).bind fun h => if e.2 = true ∧ h = true then laws_FnCyclesOfPowers.c2 k b p first n0 n1 (wrap64 (i + 1)) else none) else some true
def laws_FnCyclesOfPowers.c3 : Nat → Int → Int → Int → Int → Int → Option Bool
  | 0, _, _, _, _, _ => none
  | k + 1, s, c, q, least, m => if m < least ∧ m < 300 then ((impl_PowerSum.f k m c q).bind fun o => if o.2 = true ∧ o.1 ≠ s then laws_FnCyclesOfPowers.c3 k s c q least (wrap64 (m + 1)) else none) else some true
def laws_FnCyclesOfPowers.p1 (k : Nat) (b p : Int) (g : List (List Int)) (n0 n1 : Nat) : Option Bool := (laws_FnCyclesOfPowers.c0 k b p g [] 0).bind fun first => (laws_rRising.f k first).bind fun a => (laws_rHas.f k first 1).bind fun h => if a = true ∧ h = true then laws_FnCyclesOfPowers.c2 k b p first n0 n1 0 else none
def laws_FnCyclesOfPowers.p2 (k : Nat) (l1 : List Int) : Option Bool := (spec_DrawLeastWithSum.f l1).bind fun s => (impl_LeastWithSum.f k s.1 s.2.1 s.2.2).bind fun x => (spec_LeastWithSum.f k s.1 s.2.1 s.2.2).bind fun y => if y.2 = x.2 ∧ y.1 = x.1 then (if x.2 = true then ((impl_PowerSum.f k x.1 s.2.1 s.2.2).bind fun o => if o.2 = true ∧ o.1 = s.1 then laws_FnCyclesOfPowers.c3 k s.1 s.2.1 s.2.2 x.1 0 else none) else some true) else none
def laws_FnCyclesOfPowers.f (k : Nat) (l0 l1 : List Int) : Option Bool := (laws_big.f l0 l1).bind fun t => if t = true then some true else ((spec_DrawCyclesOfPowers.f l0).bind fun d => (impl_CyclesOfPowers.f k d.1 d.2).bind fun g => (spec_CyclesOfPowers.f k d.1 d.2).bind fun w => (laws_rRows.f k g.1 w.1).bind fun e => if w.2 = g.2 ∧ e = true then ((if g.2 = true then laws_FnCyclesOfPowers.p1 k d.1 d.2 g.1 l0.length l1.length else some true).bind fun _ => laws_FnCyclesOfPowers.p2 k l1) else none)
def laws_FnCyclesOfPowers.Pure : Prop := ∀ (l0 : List Int) (l1 : List Int), l0.length ≤ maxLen → l0.length * 1 ≤ 140737488351232 → (∀ x ∈ l0, (Lit.int .u8 x).wf = true) → l1.length ≤ maxLen → l1.length * 1 ≤ 140737488351232 → (∀ x ∈ l1, (Lit.int .u8 x).wf = true) → ∃ k, laws_FnCyclesOfPowers.f k l0 l1 = some true
end Go.Proofs.YtehhkkbejmhcfaaC
end
section
namespace Go.Proofs.YtehhkkbejmhcfaaC
open Go.RowKit Go.Proofs.YtehhkkbejmhcfaaW.PrintWords Go.Proofs.YtehhkkbejmhcfaaW.PrintMore
set_option linter.unusedSimpArgs false
set_option linter.unusedVariables false
theorem and_small (x : Int) : 0 ≤ Go.bits .and .u64 x 255 ∧ Go.bits .and .u64 x 255 ≤ 255 := by
  have h : (BitVec.ofInt 64 x &&& BitVec.ofInt 64 255).toNat ≤ 255 := by
    rw [BitVec.toNat_and]
    exact Nat.le_trans Nat.and_le_right (by decide)
  have e : Go.bits .and .u64 x 255 = IntKind.u64.wrap (((BitVec.ofInt 64 x &&& BitVec.ofInt 64 255).toNat : Nat) : Int) := rfl
  rw [e]
  generalize (BitVec.ofInt 64 x &&& BitVec.ofInt 64 255).toNat = n at h
  have : IntKind.u64.wrap (n : Int) = (n : Int) := by simp [IntKind.wrap, IntKind.bits, IntKind.signed]; omega
  omega
def Byt (l : List Int) : Prop := ∀ x ∈ l, 0 ≤ x ∧ x ≤ 255
theorem byt_rd {l : List Int} (h : Byt l) (i : Int) : 0 ≤ rd l i ∧ rd l i ≤ 255 := by
  simp only [rd, List.getD_eq_getElem?_getD]
  by_cases hi : i.toNat < l.length
  · rw [List.getElem?_eq_getElem hi]; exact h _ (List.getElem_mem hi)
  · rw [List.getElem?_eq_none (by omega)]; simp
theorem next_some {l : List Int} (h : Byt l) {s : Int} (hs : 0 ≤ s) (hs2 : s ≤ 4611686018427387904) (z : Int) : ∃ v t, spec_l1Cur_next.f l s z = some (v, s + 1, t) ∧ 0 ≤ v ∧ v ≤ 255 := by
  have hw : wrap64 (s + 1) = s + 1 := by unfold wrap64; omega
  have hr := byt_rd h s
  have hwr : wrap64 (rd l s) = rd l s := by unfold wrap64; omega
  have hb : ∀ x, 0 ≤ wrap64 (Go.bits .and .u64 x 255) ∧ wrap64 (Go.bits .and .u64 x 255) ≤ 255 := fun x => by
    have := and_small x
    unfold wrap64; omega
  unfold spec_l1Cur_next.f
  rw [hw]
  by_cases c1 : s < (l.length : Int)
  · rw [if_pos c1, if_pos hs, if_pos (by omega)]
    exact ⟨_, _, rfl, by rw [hwr]; exact hr.1, by rw [hwr]; exact hr.2⟩
  · rw [if_neg c1]
    by_cases c2 : s + 1 ≤ (l.length : Int)
    · omega
    · rw [if_neg c2]
      exact ⟨_, _, rfl, hb _⟩
theorem pick_some {l : List Int} (h : Byt l) {s : Int} (hs : 0 ≤ s) (hs2 : s ≤ 1000000000) (z n : Int) (hn : n ≤ 1000000) : ∃ v s' t, spec_l1Cur_pick.f l s z n = some (v, s', t) ∧ 0 ≤ v ∧ (1 ≤ n → v < n) ∧ s ≤ s' ∧ s' ≤ s + 2 := by
  unfold spec_l1Cur_pick.f
  by_cases c1 : n ≤ 1
  · rw [if_pos c1]
    exact ⟨0, s, z, rfl, by omega, fun _ => by omega, by omega, by omega⟩
  · rw [if_neg c1]
    obtain ⟨v, t, e, hv⟩ := next_some h hs (by omega) z
    rw [e, Option.bind_some]
    by_cases c2 : n > 200
    · rw [if_pos c2]
      obtain ⟨v2, t2, e2, hv2⟩ := next_some h (s := s + 1) (by omega) (by omega) t
      rw [e2, Option.bind_some, if_neg (by omega)]
      have w1 : wrap64 (wrap64 (v * 256) + v2) = v * 256 + v2 := by unfold wrap64; omega
      refine ⟨_, _, _, rfl, ?_, fun _ => ?_, by show s ≤ s + 1 + 1; omega, by show s + 1 + 1 ≤ s + 2; omega⟩
      · rw [w1, Int.tmod_eq_emod_of_nonneg (by omega)]; exact Int.emod_nonneg _ (by omega)
      · rw [w1, Int.tmod_eq_emod_of_nonneg (by omega)]; exact Int.emod_lt_of_pos _ (by omega)
    · rw [if_neg c2, if_neg (by omega)]
      refine ⟨_, _, _, rfl, ?_, fun _ => ?_, by show s ≤ s + 1; omega, by show s + 1 ≤ s + 2; omega⟩
      · rw [Int.tmod_eq_emod_of_nonneg (by omega)]; exact Int.emod_nonneg _ (by omega)
      · rw [Int.tmod_eq_emod_of_nonneg (by omega)]; exact Int.emod_lt_of_pos _ (by omega)
theorem among_some {l : List Int} (h : Byt l) {s : Int} (hs : 0 ≤ s) (hs2 : s ≤ 1000000000) (z : Int) {L : List Int} (hL : 1 ≤ L.length) (hL2 : L.length ≤ 1000) : ∃ v s' t, spec_l1Cur_among.f l s z L = some (v, s', t) ∧ v ∈ L ∧ s ≤ s' ∧ s' ≤ s + 2 := by
  obtain ⟨v, s', t, e, h1, h2, h3, h4⟩ := pick_some h hs hs2 z (L.length : Int) (by omega)
  have h2 := h2 (by omega)
  unfold spec_l1Cur_among.f
  rw [e, Option.bind_some, if_pos h1, if_pos h2]
  refine ⟨_, _, _, rfl, ?_, h3, h4⟩
  simp only [rd, List.getD_eq_getElem?_getD, List.getElem?_eq_getElem (show v.toNat < L.length by omega), Option.getD_some]
  exact List.getElem_mem _
end Go.Proofs.YtehhkkbejmhcfaaC
end
