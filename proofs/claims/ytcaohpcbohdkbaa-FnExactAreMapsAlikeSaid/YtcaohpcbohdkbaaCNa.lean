/- Plain Lean functions: what Go functions of these statements compute, as the kit's print tells it (each function once). No conditions. -/
import Derived.Test.YtcaohpcbohdkbaaWMore
import Derived.Test.YtcaohpcbohdkbaaCWs
import Derived.Lib.MinMaxS
import Derived.Lib.Join
namespace Go.Proofs.YtcaohpcbohdkbaaC
open Go.RowKit Go.Proofs.YtcaohpcbohdkbaaW.PrintWords Go.Proofs.YtcaohpcbohdkbaaW.PrintMore
set_option linter.unusedVariables false
def rd_L4 (xs : List (List ByteArray)) (i : Int) : (List ByteArray) := xs.getD i.toNat ([] : List ByteArray)
mutual
def spec_mpSort.l0 : Nat → List ByteArray → List ByteArray → Int → Int → Option (List ByteArray)
  | 0, _, _, _, _ => none
  | k + 1, x3, x8, x9, x10 => if x10 < x9 then (if 0 ≤ x10 then (if x10 < (x8.length : Int) then (spec_mpSort.l1 k x3 (rdOf ByteArray.empty x8 x10) 0 x8 x9 x10) else (none)) else (none)) else (some x3)
def spec_mpSort.l1 : Nat → List ByteArray → ByteArray → Int → List ByteArray → Int → Int → Option (List ByteArray)
  | 0, _, _, _, _, _, _ => none
  | k + 1, x3, x5, x6, x8, x9, x10 => if x6 < (x3.length : Int) then (if 0 ≤ x6 then (if ((Op.bytesLess x5.toList ((rdOf ByteArray.empty x3 x6).toList)) = true) then ((some (([] : List ByteArray) : List ByteArray)).bind fun y147 => (if x6 ≤ (x3.length : Int) then ((some (x3.take (x6 : Int).toNat : List ByteArray)).bind fun y150 => (if y147.length + y150.length < 8796093022208 then ((some (y147 ++ y150 : List ByteArray)).bind fun y154 => (if y154.length < 8796093022208 then ((some (y154 ++ [x5] : List ByteArray)).bind fun y157 => ((some (x3.drop (x6 : Int).toNat : List ByteArray)).bind fun y160 => (if y157.length + y160.length < 8796093022208 then (spec_mpSort.l0 k (y157 ++ y160) x8 x9 (wrap64 (x10 + 1))) else (none)))) else (none))) else (none))) else (none))) else (spec_mpSort.l1 k x3 x5 (wrap64 (x6 + 1)) x8 x9 x10)) else (none)) else ((some (([] : List ByteArray) : List ByteArray)).bind fun y167 => (if 0 ≤ x6 then (if x6 ≤ (x3.length : Int) then ((some (x3.take (x6 : Int).toNat : List ByteArray)).bind fun y170 => (if y167.length + y170.length < 8796093022208 then ((some (y167 ++ y170 : List ByteArray)).bind fun y174 => (if y174.length < 8796093022208 then ((some (y174 ++ [x5] : List ByteArray)).bind fun y177 => ((some (x3.drop (x6 : Int).toNat : List ByteArray)).bind fun y180 => (if y177.length + y180.length < 8796093022208 then (spec_mpSort.l0 k (y177 ++ y180) x8 x9 (wrap64 (x10 + 1))) else (none)))) else (none))) else (none))) else (none)) else (none)))
end
def spec_mpSort.f (k : Nat) (l0 : List ByteArray) : Option (List ByteArray) := spec_mpSort.l0 k ([] : List ByteArray) l0 (l0.length : Int) 0
mutual
def spec_mpTree.l0 : Nat → List Int → List Bool → List ByteArray → List Int → Int → Int → Option (ByteArray)
  | 0, _, _, _, _, _, _ => none
  | k + 1, x0, x1, x7, x15, x16, x17 => if x17 < x16 then (if 0 ≤ x17 then (if x17 < (x15.length : Int) then (if 0 ≤ (rd x15 x17) then (if (rd x15 x17) < (x1.length : Int) then (if (rdOf false x1 (rd x15 x17) = true) then (spec_mpTree.l0 k x0 x1 x7 x15 x16 (wrap64 (x17 + 1))) else ((spec_mpTree.f k x0 x1 (rd x15 x17)).bind fun t196 => (if x7.length < 8796093022208 then (spec_mpTree.l0 k x0 x1 (x7 ++ [t196]) x15 x16 (wrap64 (x17 + 1))) else (none)))) else (none)) else (none)) else (none)) else (none)) else ((spec_mpSort.f k x7).bind fun t200 => (spec_mpTree.l1 k (⟨#[40]⟩ : ByteArray) t200 (t200.length : Int) 0))
def spec_mpTree.l1 : Nat → ByteArray → List ByteArray → Int → Int → Option (ByteArray)
  | 0, _, _, _, _ => none
  | k + 1, x10, x35, x36, x37 => if x37 < x36 then (if 0 ≤ x37 then (if x37 < (x35.length : Int) then (if x10.size + (rdOf ByteArray.empty x35 x37).size ≤ 9223372036854775807 then (spec_mpTree.l1 k (x10 ++ (rdOf ByteArray.empty x35 x37)) x35 x36 (wrap64 (x37 + 1))) else (none)) else (none)) else (none)) else (if x10.size + 1 ≤ 9223372036854775807 then (some (x10 ++ (⟨#[41]⟩ : ByteArray))) else (none))
def spec_mpTree.f : Nat → List Int → List Bool → Int → Option (ByteArray)
  | 0, _, _, _ => none
  | k + 1, l0, l1, a2 => (spec_mpBefore.f k l0 a2).bind fun t191 => (spec_mpTree.l0 k l0 l1 ([] : List ByteArray) t191 (t191.length : Int) 0)
end
mutual
def spec_mpName.l0 : Nat → List Int → List Bool → List ByteArray → List (List Int) → Int → Int → Option (ByteArray)
  | 0, _, _, _, _, _, _ => none
  | k + 1, x0, x3, x4, x20, x21, x22 => if x22 < x21 then (if 0 ≤ x22 then (if x22 < (x20.length : Int) then (spec_mpName.l1 k x0 x3 x4 ([] : List ByteArray) x20 x21 x22 (rd_L2 x20 x22) ((rd_L2 x20 x22).length : Int) 0) else (none)) else (none)) else ((spec_mpSort.f k x4).bind fun t220 => (spec_mpName.l4 k (⟨#[]⟩ : ByteArray) t220 (t220.length : Int) 0))
def spec_mpName.l1 : Nat → List Int → List Bool → List ByteArray → List ByteArray → List (List Int) → Int → Int → List Int → Int → Int → Option (ByteArray)
  | 0, _, _, _, _, _, _, _, _, _, _ => none
  | k + 1, x0, x3, x4, x7, x20, x21, x22, x26, x27, x28 => if x28 < x27 then (if 0 ≤ x28 then (if x28 < (x26.length : Int) then ((spec_mpTree.f k x0 x3 (rd x26 x28)).bind fun t212 => (if x7.length < 8796093022208 then (spec_mpName.l1 k x0 x3 x4 (x7 ++ [t212]) x20 x21 x22 x26 x27 (wrap64 (x28 + 1))) else (none))) else (none)) else (none)) else (spec_mpName.l2 k x0 x3 x4 x7 (⟨#[]⟩ : ByteArray) x20 x21 x22 (x7.length : Int) 0)
def spec_mpName.l2 : Nat → List Int → List Bool → List ByteArray → List ByteArray → ByteArray → List (List Int) → Int → Int → Int → Int → Option (ByteArray)
  | 0, _, _, _, _, _, _, _, _, _, _ => none
  | k + 1, x0, x3, x4, x7, x10, x20, x21, x22, x41, x42 => if x42 < x41 then (spec_mpName.l3 k x0 x3 x4 x7 x10 x42 (⟨#[91]⟩ : ByteArray) x20 x21 x22 x41 x42 (x7.length : Int) 0) else (if x4.length < 8796093022208 then (spec_mpName.l0 k x0 x3 (x4 ++ [x10]) x20 x21 (wrap64 (x22 + 1))) else (none))
def spec_mpName.l3 : Nat → List Int → List Bool → List ByteArray → List ByteArray → ByteArray → Int → ByteArray → List (List Int) → Int → Int → Int → Int → Int → Int → Option (ByteArray)
  | 0, _, _, _, _, _, _, _, _, _, _, _, _, _, _ => none
  | k + 1, x0, x3, x4, x7, x10, x11, x12, x20, x21, x22, x41, x42, x46, x47 => if x47 < x46 then (if (x7.length : Int) = 0 then (none) else (if 0 ≤ (Int.tmod (wrap64 (x11 + x47)) (x7.length : Int)) then (if (Int.tmod (wrap64 (x11 + x47)) (x7.length : Int)) < (x7.length : Int) then (if x12.size + (rdOf ByteArray.empty x7 (Int.tmod (wrap64 (x11 + x47)) (x7.length : Int))).size ≤ 9223372036854775807 then (spec_mpName.l3 k x0 x3 x4 x7 x10 x11 (x12 ++ (rdOf ByteArray.empty x7 (Int.tmod (wrap64 (x11 + x47)) (x7.length : Int)))) x20 x21 x22 x41 x42 x46 (wrap64 (x47 + 1))) else (none)) else (none)) else (none))) else (if x12.size + 1 ≤ 9223372036854775807 then (if x10.toList = ([] : List UInt8) then (spec_mpName.l2 k x0 x3 x4 x7 (x12 ++ (⟨#[93]⟩ : ByteArray)) x20 x21 x22 x41 (wrap64 (x42 + 1))) else (if (Op.bytesLess ((x12 ++ (⟨#[93]⟩ : ByteArray)).toList) x10.toList) = true then (spec_mpName.l2 k x0 x3 x4 x7 (x12 ++ (⟨#[93]⟩ : ByteArray)) x20 x21 x22 x41 (wrap64 (x42 + 1))) else (spec_mpName.l2 k x0 x3 x4 x7 x10 x20 x21 x22 x41 (wrap64 (x42 + 1))))) else (none))
def spec_mpName.l4 : Nat → ByteArray → List ByteArray → Int → Int → Option (ByteArray)
  | 0, _, _, _, _ => none
  | k + 1, x14, x79, x80, x81 => if x81 < x80 then (if 0 ≤ x81 then (if x81 < (x79.length : Int) then (if x14.size + (rdOf ByteArray.empty x79 x81).size ≤ 9223372036854775807 then (spec_mpName.l4 k (x14 ++ (rdOf ByteArray.empty x79 x81)) x79 x80 (wrap64 (x81 + 1))) else (none)) else (none)) else (none)) else (some x14)
end
def spec_mpName.f (k : Nat) (l0 : List Int) : Option (ByteArray) := (spec_mpCyclic.f k l0).bind fun t204 => ((spec_mpCycles.f k l0).bind fun t207 => (spec_mpName.l0 k l0 t204 ([] : List ByteArray) t207 (t207.length : Int) 0))
def spec_NameOfMap.f (k : Nat) (l0 : List Int) : Option (ByteArray × Bool) := (spec_mpGood.f k l0).bind fun t224 => (if t224 = true then ((spec_mpName.f k l0).bind fun t225 => (some (t225, true))) else (some ((⟨#[]⟩ : ByteArray), false)))
def sortS (l0 : List ByteArray) : List ByteArray := (((l0.map fun s => s.data.toList).mergeSort fun x y => decide (x ≤ y)).map fun l => (⟨l.toArray⟩ : ByteArray))
def slices_Sort_string_string.f (l0 : List ByteArray) : Option (List ByteArray) := if l0.length < 4611686018427387904 then some (sortS l0) else none
def joinS (l0 : List ByteArray) (a1 : ByteArray) : List UInt8 := Lib.join (l0.map fun s => s.data.toList) a1.data.toList
def strings_Join.f (l0 : List ByteArray) (a1 : ByteArray) : Option ByteArray := if l0.length ≤ 1000000 ∧ (joinS l0 a1).length ≤ 1000000000 then some ⟨(joinS l0 a1).toArray⟩ else none
mutual
def impl_treeText.l0 : Nat → List Int → List Int → List ByteArray → List Int → Int → Int → Option (ByteArray)
  | 0, _, _, _, _, _, _ => none
  | k + 1, x0, x1, x7, x13, x14, x15 => if x15 < x14 then (if 0 ≤ x15 then (if x15 < (x13.length : Int) then (if 0 ≤ (rd x13 x15) then (if (rd x13 x15) < (x1.length : Int) then (if (rd x1 (rd x13 x15)) > 0 then ((impl_treeText.f k x0 x1 (rd x13 x15)).bind fun t301 => (if x7.length < 8796093022208 then (impl_treeText.l0 k x0 x1 (x7 ++ [t301]) x13 x14 (wrap64 (x15 + 1))) else (none))) else (impl_treeText.l0 k x0 x1 x7 x13 x14 (wrap64 (x15 + 1)))) else (none)) else (none)) else (none)) else (none)) else ((slices_Sort_string_string.f x7).bind fun t305 => ((strings_Join.f t305 (⟨#[]⟩ : ByteArray)).bind fun t306 => (if 1 + t306.size ≤ 9223372036854775807 then (if ((⟨#[40]⟩ : ByteArray) ++ t306).size + 1 ≤ 9223372036854775807 then (some (((⟨#[40]⟩ : ByteArray) ++ t306) ++ (⟨#[41]⟩ : ByteArray))) else (none)) else (none))))
def impl_treeText.f : Nat → List Int → List Int → Int → Option (ByteArray)
  | 0, _, _, _ => none
  | k + 1, l0, l1, a2 => (impl_before.f k l0 a2).bind fun t296 => (impl_treeText.l0 k l0 l1 (([] : List ByteArray)) t296 (t296.length : Int) 0)
end
def rdSS (xs : List (List ByteArray)) (i : Int) : (List ByteArray) := xs.getD i.toNat ([] : List ByteArray)
def slices_Concat_string_string.f (l0 : List (List ByteArray)) : Option (List ByteArray) := if l0.length ≤ 1000 ∧ l0.flatten.length ≤ 1000000 then some l0.flatten else none
def impl_leastTurn.l0 : Nat → List ByteArray → ByteArray → Int → Int → Option (ByteArray)
  | 0, _, _, _, _ => none
  | k + 1, x0, x3, x8, x9 => if x9 < x8 then (if 0 ≤ x9 then (if x9 ≤ (x0.length : Int) then ((slices_Concat_string_string.f (([(x0.drop (x9 : Int).toNat), (x0.take (x9 : Int).toNat)] : List (List ByteArray)))).bind fun t321 => ((strings_Join.f t321 (⟨#[]⟩ : ByteArray)).bind fun t324 => (impl_leastTurn.l0 k x0 (Lib.minS x3 t324) x8 (wrap64 (x9 + 1))))) else (none)) else (none)) else (some x3)
def impl_leastTurn.f (k : Nat) (l0 : List ByteArray) : Option (ByteArray) := (strings_Join.f l0 (⟨#[]⟩ : ByteArray)).bind fun t307 => (impl_leastTurn.l0 k l0 t307 (l0.length : Int) 0)
mutual
def impl_nameOf.l0 : Nat → List Int → List Int → List ByteArray → List (List Int) → Int → Int → Option (ByteArray)
  | 0, _, _, _, _, _, _ => none
  | k + 1, x0, x3, x4, x14, x15, x16 => if x16 < x15 then (if 0 ≤ x16 then (if x16 < (x14.length : Int) then (impl_nameOf.l1 k x0 x3 x4 (([] : List ByteArray)) x14 x15 x16 (rd_L2 x14 x16) ((rd_L2 x14 x16).length : Int) 0) else (none)) else (none)) else ((slices_Sort_string_string.f x4).bind fun t334 => ((strings_Join.f t334 (⟨#[]⟩ : ByteArray)).bind fun t335 => (some t335)))
def impl_nameOf.l1 : Nat → List Int → List Int → List ByteArray → List ByteArray → List (List Int) → Int → Int → List Int → Int → Int → Option (ByteArray)
  | 0, _, _, _, _, _, _, _, _, _, _ => none
  | k + 1, x0, x3, x4, x7, x14, x15, x16, x21, x22, x23 => if x23 < x22 then (if 0 ≤ x23 then (if x23 < (x21.length : Int) then ((impl_treeText.f k x0 x3 (rd x21 x23)).bind fun t341 => (if x7.length < 8796093022208 then (impl_nameOf.l1 k x0 x3 x4 (x7 ++ [t341]) x14 x15 x16 x21 x22 (wrap64 (x23 + 1))) else (none))) else (none)) else (none)) else ((impl_leastTurn.f k x7).bind fun t345 => (if 1 + t345.size ≤ 9223372036854775807 then (if ((⟨#[91]⟩ : ByteArray) ++ t345).size + 1 ≤ 9223372036854775807 then (if x4.length < 8796093022208 then (impl_nameOf.l0 k x0 x3 (x4 ++ [((⟨#[91]⟩ : ByteArray) ++ t345) ++ (⟨#[93]⟩ : ByteArray)]) x14 x15 (wrap64 (x16 + 1))) else (none)) else (none)) else (none)))
end
def impl_nameOf.f (k : Nat) (l0 : List Int) : Option (ByteArray) := (impl_depths.f k l0).bind fun t325 => ((impl_cycles.f k l0).bind fun t331 => (impl_nameOf.l0 k l0 t325 (([] : List ByteArray)) t331 (t331.length : Int) 0))
def impl_NameOfMap.f (k : Nat) (l0 : List Int) : Option (ByteArray × Bool) := (impl_IsMap.f l0).bind fun t349 => (if t349 = true then ((impl_nameOf.f k l0).bind fun t350 => (some (t350, true))) else (some ((⟨#[]⟩ : ByteArray), false)))
def laws_FnExactNameOfMap.j0 : Nat → List Int → List Int → Bool → Option (Bool)
  | 0, _, _, _ => none
  | k + 1, x0, x5, x31 => if x31 = true then (some false) else ((laws_toIntS.f k x0).bind fun t361 => ((laws_eqIntS.f k x5 t361).bind fun t364 => (if t364 = true then (some true) else (some false))))
def laws_FnExactNameOfMap.f (k : Nat) (l0 : List Int) : Option (Bool) := if (l0.length : Int) > 1048576 then (some true) else ((laws_toIntS.f k l0).bind fun t351 => ((spec_NameOfMap.f k t351).bind fun bt354 => ((laws_toIntS.f k l0).bind fun t356 => ((impl_NameOfMap.f k t356).bind fun bt359 => (if bt359.1.toList = bt354.1.toList then (laws_FnExactNameOfMap.j0 k l0 t356 (bt359.2 != bt354.2)) else (laws_FnExactNameOfMap.j0 k l0 t356 true))))))
def laws_FnExactNameOfMap.Pure : Prop := ∀ (l0 : List Int), l0.length ≤ maxLen → l0.length * 8 ≤ 140737488351232 → (∀ x ∈ l0, (Lit.int .i64 x).wf = true) → ∃ k, laws_FnExactNameOfMap.f k l0 = some true

end Go.Proofs.YtcaohpcbohdkbaaC
