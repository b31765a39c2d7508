/- Plain Lean functions: what Go functions of these statements compute, as the kit's print tells it (each function once). No conditions. -/
import Derived.Test.YtehhkkbejmhcfaaWMore
import Derived.Test.YtehhkkbejmhcfaaCHp
namespace Go.Proofs.YtehhkkbejmhcfaaC
open Go.RowKit Go.Proofs.YtehhkkbejmhcfaaW.PrintWords Go.Proofs.YtehhkkbejmhcfaaW.PrintMore
set_option linter.unusedVariables false
def spec_l1Put.l0 : Nat → List Int → Int → Int → Option (List Int)
  | 0, _, _, _ => none
  | k + 1, x0, x1, x5 => if x5 < (x0.length : Int) then (if 0 ≤ x5 then (if (rd x0 x5) < x1 then (spec_l1Put.l0 k x0 x1 (wrap64 (x5 + 1))) else (if (rd x0 x5) = x1 then (some x0) else ((some (([] : List Int) : List Int)).bind fun y120 => (if x5 ≤ (x0.length : Int) then ((some (x0.take (x5 : Int).toNat : List Int)).bind fun y123 => (if y120.length + y123.length < 17592186044416 then ((some (y120 ++ y123 : List Int)).bind fun y127 => (if y127.length < 17592186044416 then ((some (y127 ++ [x1] : List Int)).bind fun y130 => ((some (x0.drop (x5 : Int).toNat : List Int)).bind fun y133 => (if y130.length + y133.length < 17592186044416 then (some (y130 ++ y133)) else (none)))) else (none))) else (none))) else (none))))) else (none)) else ((some (([] : List Int) : List Int)).bind fun y140 => (if 0 ≤ x5 then (if x5 ≤ (x0.length : Int) then ((some (x0.take (x5 : Int).toNat : List Int)).bind fun y143 => (if y140.length + y143.length < 17592186044416 then ((some (y140 ++ y143 : List Int)).bind fun y147 => (if y147.length < 17592186044416 then ((some (y147 ++ [x1] : List Int)).bind fun y150 => ((some (x0.drop (x5 : Int).toNat : List Int)).bind fun y153 => (if y150.length + y153.length < 17592186044416 then (some (y150 ++ y153)) else (none)))) else (none))) else (none))) else (none)) else (none)))
def spec_l1Put.f (k : Nat) (l0 : List Int) (a1 : Int) : Option (List Int) := spec_l1Put.l0 k l0 a1 0
mutual
def spec_try.f : Nat → Int → Int → Int → Int → Int → List Int → List Int → Option (List Int)
  | 0, _, _, _, _, _, _, _ => none
  | k + 1, b, p, left, most, sum, counts, found => if left = 0 then (if sum ≤ 1000000000000 then ((spec_dgOf.f k sum b).bind fun ds => (spec_dgCounts.f k ds b).bind fun cs => (spec_l1Same.f k cs counts).bind fun e => if e = true then spec_l1Put.f k found sum else some found) else none) else spec_try.l0 k b p left most sum counts found 0
def spec_try.l0 : Nat → Int → Int → Int → Int → Int → List Int → List Int → Int → Option (List Int)
  | 0, _, _, _, _, _, _, _, _ => none
  | k + 1, b, p, left, most, sum, counts, found, d => if d ≤ most then ((spec_l1Own.f counts).bind fun nx => if 0 ≤ d then (if d < (nx.length : Int) then ((spec_pwOf.f k d p).bind fun q => (spec_try.f k b p (wrap64 (left - 1)) d (wrap64 (sum + q)) (nx.set d.toNat (wrap64 (rd nx d + 1))) found).bind fun fo => spec_try.l0 k b p left most sum counts fo (wrap64 (d + 1))) else none) else none) else some found
end
def spec_Narcissistic.f (k : Nat) (a0 a1 : Int) : Option (List Int × Bool) := (spec_l1In.f a0 1 6).bind fun t1 => if t1 = true then ((spec_l1In.f a1 2 10).bind fun t2 => if t2 = true then (if 0 ≤ a1 ∧ a1.toNat ≤ 35184372088832 then (spec_try.f k a1 a0 a0 (wrap64 (a1 - 1)) 0 (List.replicate a1.toNat 0) []).bind fun r => some (r, true) else none) else some ([], false)) else some ([], false)
def slices_Sort_int_int.f (l0 : List Int) : Option (List Int) := if l0.length < 4611686018427387904 then some (l0.mergeSort fun x y => decide (x ≤ y)) else none
def impl_sorted.f (k : Nat) (a0 : Int) (a1 : Int) : Option (List Int) := (impl_digitsOf.f k a0 a1).bind fun t180 => ((slices_Sort_int_int.f t180).bind fun t183 => (some t183))
def impl_own1.l0 : Nat → Int → List Int → Int → Int → Option Int
  | 0, _, _, _, _ => none
  | k + 1, p, list, n, i => if i < (list.length : Int) then (if 0 ≤ i then ((impl_toPower.f k (rd list i) p).bind fun t => impl_own1.l0 k p list (wrap64 (n + t)) (wrap64 (i + 1))) else none) else some n
def impl_own1.f (k : Nat) (b p : Int) (list out : List Int) : Option (List Int) := (impl_own1.l0 k p list 0 0).bind fun n => (impl_sorted.f k n b).bind fun s => (slices_Equal_int_int.f k s list).bind fun e => if e = true then (if out.length < 17592186044416 then some (out ++ [n]) else none) else some out
mutual
def impl_on.f : Nat → Int → Int → Int → Int → List Int → Int → List Int → Option (List Int)
  | 0, _, _, _, _, _, _, _ => none
  | k + 1, b, p, many, most, list, least, out => if (list.length : Int) = many then impl_own1.f k b p list out else impl_on.l0 k b p many most list out least
def impl_on.l0 : Nat → Int → Int → Int → Int → List Int → List Int → Int → Option (List Int)
  | 0, _, _, _, _, _, _, _ => none
  | k + 1, b, p, many, most, list, out, d => if d ≤ most then (if list.length < 17592186044415 then (impl_on.f k b p many most (list ++ [d]) d out).bind fun fo => impl_on.l0 k b p many most list fo (wrap64 (d + 1)) else none) else some out
end
def impl_owns.f (k : Nat) (a0 a1 a2 : Int) : Option (List Int) := (impl_on.f k a1 a2 a0 (wrap64 (a1 - 1)) [] 0 []).bind fun o => slices_Sort_int_int.f o
def impl_Narcissistic.f (k : Nat) (a0 : Int) (a1 : Int) : Option (List Int × Bool) := (impl_isSmallBase.f a1).bind fun t184 => (if t184 = true then ((impl_in.f a0 1 6).bind fun t185 => (if t185 = true then ((impl_owns.f k a0 a1 a0).bind fun t186 => (some (t186, true))) else (some (([] : List Int), false)))) else (some (([] : List Int), false)))
mutual
def laws_FnExactNarcissistic.j0 : Nat → Int → Int → List Int → Bool → List Int → Bool → Option (Bool)
  | 0, _, _, _, _, _, _ => none
  | k + 1, x0, x1, x5, x6, x7, x33 => if x33 = true then (some false) else ((laws_markIntS.f k x7 1).bind fun bt202 => ((laws_heldIntS.f k bt202.2 1).bind fun t204 => (if t204 < 0 then (some false) else (if t204 = bt202.1 then ((impl_Narcissistic.f k x0 x1).bind fun bt205 => ((laws_eqIntS.f k bt205.1 x5).bind fun t209 => (if t209 = true then (laws_FnExactNarcissistic.j1 k bt202.2 bt202.1 (bt205.2 != x6)) else (laws_FnExactNarcissistic.j1 k bt202.2 bt202.1 true)))) else (some false)))))
def laws_FnExactNarcissistic.j1 : Nat → List Int → Int → Bool → Option (Bool)
  | 0, _, _, _ => none
  | k + 1, x7, x9, x59 => if x59 = true then (some false) else ((laws_heldIntS.f k x7 1).bind fun t210 => (if t210 < 0 then (some false) else (if t210 = x9 then (some true) else (some false))))
end
def laws_FnExactNarcissistic.f (k : Nat) (a0 : Int) (a1 : Int) : Option (Bool) := (spec_Narcissistic.f k a0 a1).bind fun bt193 => ((impl_Narcissistic.f k a0 a1).bind fun bt197 => ((laws_eqIntS.f k bt197.1 bt193.1).bind fun t201 => (if t201 = true then (laws_FnExactNarcissistic.j0 k a0 a1 bt193.1 bt193.2 bt197.1 (bt197.2 != bt193.2)) else (laws_FnExactNarcissistic.j0 k a0 a1 bt193.1 bt193.2 bt197.1 true))))
def laws_FnExactNarcissistic.Pure : Prop := ∀ (a0 : Int) (a1 : Int), (Lit.int .i64 a0).wf = true → (Lit.int .i64 a1).wf = true → ∃ k, laws_FnExactNarcissistic.f k a0 a1 = some true
def spec_OwnPowers.l0 : Nat → Int → Int → List Int → Int → Option (List Int × Bool)
  | 0, _, _, _, _ => none
  | k + 1, b, p, found, d => (spec_pwFalls.f k b p).bind fun m => if d < m then (if 0 ≤ b ∧ b.toNat ≤ 35184372088832 then (spec_try.f k b p d (wrap64 (b - 1)) 0 (List.replicate b.toNat 0) found).bind fun fo => spec_OwnPowers.l0 k b p fo (wrap64 (d + 1)) else none) else some (found, true)
def spec_OwnPowers.f (k : Nat) (a0 a1 : Int) : Option (List Int × Bool) := (spec_l1In.f a0 2 10).bind fun t1 => if t1 = true then ((spec_pwPower.f a1 6).bind fun t2 => if t2 = true then spec_OwnPowers.l0 k a0 a1 [] 1 else some ([], false)) else some ([], false)
mutual
def impl_OwnPowers.j0 : Nat → Int → Int → Bool → Option (List Int × Bool)
  | 0, _, _, _ => none
  | k + 1, x0, x1, x15 => if x15 = true then (some (([] : List Int), false)) else (impl_OwnPowers.l0 k x0 x1 (([] : List Int)) 1)
def impl_OwnPowers.l0 : Nat → Int → Int → List Int → Int → Option (List Int × Bool)
  | 0, _, _, _, _ => none
  | k + 1, x0, x1, x6, x7 => (impl_fallsFrom.f k x0 x1).bind fun t198 => (if x7 < t198 then ((impl_owns.f k x7 x0 x1).bind fun t199 => (if x6.length + t199.length < 17592186044416 then (impl_OwnPowers.l0 k x0 x1 (x6 ++ t199) (wrap64 (x7 + 1))) else (none))) else (some (x6, true)))
end
def impl_OwnPowers.f (k : Nat) (a0 : Int) (a1 : Int) : Option (List Int × Bool) := (impl_isSmallBase.f a0).bind fun t193 => (if t193 = true then ((impl_in.f a1 1 6).bind fun t194 => (impl_OwnPowers.j0 k a0 a1 (!t194))) else (impl_OwnPowers.j0 k a0 a1 true))
mutual
def laws_FnExactOwnPowers.j0 : Nat → Int → Int → List Int → Bool → List Int → Bool → Option (Bool)
  | 0, _, _, _, _, _, _ => none
  | k + 1, x0, x1, x5, x6, x7, x33 => if x33 = true then (some false) else ((laws_markIntS.f k x7 1).bind fun bt214 => ((laws_heldIntS.f k bt214.2 1).bind fun t216 => (if t216 < 0 then (some false) else (if t216 = bt214.1 then ((impl_OwnPowers.f k x0 x1).bind fun bt217 => ((laws_eqIntS.f k bt217.1 x5).bind fun t221 => (if t221 = true then (laws_FnExactOwnPowers.j1 k bt214.2 bt214.1 (bt217.2 != x6)) else (laws_FnExactOwnPowers.j1 k bt214.2 bt214.1 true)))) else (some false)))))
def laws_FnExactOwnPowers.j1 : Nat → List Int → Int → Bool → Option (Bool)
  | 0, _, _, _ => none
  | k + 1, x7, x9, x59 => if x59 = true then (some false) else ((laws_heldIntS.f k x7 1).bind fun t222 => (if t222 < 0 then (some false) else (if t222 = x9 then (some true) else (some false))))
end
def laws_FnExactOwnPowers.f (k : Nat) (a0 : Int) (a1 : Int) : Option (Bool) := (spec_OwnPowers.f k a0 a1).bind fun bt205 => ((impl_OwnPowers.f k a0 a1).bind fun bt209 => ((laws_eqIntS.f k bt209.1 bt205.1).bind fun t213 => (if t213 = true then (laws_FnExactOwnPowers.j0 k a0 a1 bt205.1 bt205.2 bt209.1 (bt209.2 != bt205.2)) else (laws_FnExactOwnPowers.j0 k a0 a1 bt205.1 bt205.2 bt209.1 true))))
def laws_FnExactOwnPowers.Pure : Prop := ∀ (a0 : Int) (a1 : Int), (Lit.int .i64 a0).wf = true → (Lit.int .i64 a1).wf = true → ∃ k, laws_FnExactOwnPowers.f k a0 a1 = some true

end Go.Proofs.YtehhkkbejmhcfaaC
