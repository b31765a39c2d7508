/-
  Plain facts on texts: joined, sorted, compared. No conditions.
-/
import Derived.Test.YtcaohpcbohdkbaaLMn
import Derived.Test.YtcaohpcbohdkbaaCNa
import Derived.Sort.Walk0
namespace Go.Proofs.YtcaohpcbohdkbaaC
open Go.RowKit Go.Proofs.YtcaohpcbohdkbaaW.PrintWords Go.Proofs.YtcaohpcbohdkbaaW.PrintMore
set_option linter.unusedSimpArgs false
set_option linter.unusedVariables false

/-! ### texts joined -/
theorem ba_ext {a b : ByteArray} (h : a.data.toList = b.data.toList) : a = b := by
  cases a; cases b
  congr 1
  exact Array.toList_inj.1 h
def cat (l : List ByteArray) : ByteArray := ⟨(l.map fun s => s.data.toList).flatten.toArray⟩
theorem cat_nil : cat [] = ⟨#[]⟩ := rfl
theorem cat_one (x : ByteArray) : cat [x] = x := ba_ext (by simp [cat])
theorem cat_append (a b : List ByteArray) : cat (a ++ b) = cat a ++ cat b := ba_ext (by simp [cat])
theorem cat_cons (x : ByteArray) (l : List ByteArray) : cat (x :: l) = x ++ cat l := ba_ext (by simp [cat])
theorem ba_nil (x : ByteArray) : x ++ (⟨#[]⟩ : ByteArray) = x := ba_ext (by simp)
theorem nil_ba (x : ByteArray) : (⟨#[]⟩ : ByteArray) ++ x = x := ba_ext (by simp)
theorem ba_assoc (x y z : ByteArray) : x ++ y ++ z = x ++ (y ++ z) := ba_ext (by simp)
theorem ba_size (x y : ByteArray) : (x ++ y).size = x.size + y.size := by simp
theorem cat_size : ∀ l : List ByteArray, (cat l).size = (l.map fun s => s.size).sum
  | [] => rfl
  | x :: l => by rw [cat_cons, ba_size, cat_size l]; rfl
theorem cat_perm {a b : List ByteArray} (h : a.Perm b) : (cat a).size = (cat b).size := by
  rw [cat_size, cat_size]
  exact (h.map _).sum_nat
theorem inter_nil : ∀ xs : List (List UInt8), ([] : List UInt8).intercalate xs = xs.flatten
  | [] => rfl
  | [x] => by simp [List.intercalate, List.intersperse]
  | x :: y :: xs => by
    have h := inter_nil (y :: xs)
    simp only [List.intercalate, List.intersperse, List.flatten_cons, List.nil_append] at h ⊢
    rw [h]
theorem joinS_eq (l : List ByteArray) : (⟨(joinS l ⟨#[]⟩).toArray⟩ : ByteArray) = cat l ∧ (joinS l ⟨#[]⟩).length = (cat l).size := by
  have e : joinS l ⟨#[]⟩ = (l.map fun s => s.data.toList).flatten := by
    unfold joinS Lib.join
    exact inter_nil _
  rw [e]
  exact ⟨rfl, by simp [cat, ByteArray.size]⟩
theorem Join_eq (l : List ByteArray) (h1 : l.length ≤ 1000000) (h2 : (cat l).size ≤ 1000000000) : strings_Join.f l ⟨#[]⟩ = some (cat l) := by
  obtain ⟨e1, e2⟩ := joinS_eq l
  rw [strings_Join.f, if_pos ⟨h1, by omega⟩, e1]
theorem rdS_mid (a c : List ByteArray) (x : ByteArray) : rdOf ByteArray.empty (a ++ x :: c) (a.length : Int) = x := by
  simp [rdOf, List.getD_eq_getElem?_getD]

/-! ### texts sorted -/
def leB (a b : ByteArray) : Bool := decide (a.data.toList ≤ b.data.toList)
theorem less_iff (a b : ByteArray) : Op.bytesLess a.toList b.toList = !leB b a := by
  rw [Go.Proofs.bytesLess_eq, Lib.toList_data, Lib.toList_data]
  unfold leB
  by_cases h : a.data.toList < b.data.toList
  · have h2 : ¬ b.data.toList ≤ a.data.toList := fun h3 => (List.not_lt.2 h3) h
    simp [h, h2]
  · have h2 : b.data.toList ≤ a.data.toList := List.not_lt.1 h
    simp [h, h2]
theorem leB_trans (a b c : ByteArray) (h1 : leB a b = true) (h2 : leB b c = true) : leB a c = true := by
  simp only [leB, decide_eq_true_eq] at *
  exact List.le_trans h1 h2
theorem leB_total (a b : ByteArray) : (leB a b || leB b a) = true := by
  simp only [leB, Bool.or_eq_true, decide_eq_true_eq]
  exact List.le_total _ _
theorem leB_anti {a b : ByteArray} (h1 : leB a b = true) (h2 : leB b a = true) : a = b := by
  simp only [leB, decide_eq_true_eq] at *
  exact ba_ext (List.le_antisymm h1 h2)
def srtB (l : List ByteArray) : List ByteArray := l.mergeSort leB
theorem srtB_sorted (l : List ByteArray) : (srtB l).Pairwise (fun a b => leB a b = true) := List.pairwise_mergeSort leB_trans leB_total l
theorem srtB_perm (l : List ByteArray) : (srtB l).Perm l := List.mergeSort_perm l leB
theorem srtB_unique {l m : List ByteArray} (h1 : m.Pairwise (fun a b => leB a b = true)) (h2 : m.Perm l) : srtB l = m :=
  List.Perm.eq_of_pairwise (le := fun a b => leB a b = true) (fun a b _ _ h3 h4 => leB_anti h3 h4) (srtB_sorted l) h1 ((srtB_perm l).trans h2.symm)
theorem srtB_length (l : List ByteArray) : (srtB l).length = l.length := (srtB_perm l).length_eq
theorem sortS_eq (l : List ByteArray) : sortS l = srtB l := by
  refine (srtB_unique ?_ ?_).symm
  · unfold sortS
    rw [List.pairwise_map]
    have h := List.pairwise_mergeSort (le := fun x y : List UInt8 => decide (x ≤ y)) (fun a b c h1 h2 => by simp only [decide_eq_true_eq] at *; exact List.le_trans h1 h2) (fun a b => by simp only [Bool.or_eq_true, decide_eq_true_eq]; exact List.le_total _ _) (l.map fun s => s.data.toList)
    exact h.imp (fun h => by simpa [leB] using h)
  · unfold sortS
    have h := (List.mergeSort_perm (l.map fun s => s.data.toList) (fun x y => decide (x ≤ y))).map (fun x => (⟨x.toArray⟩ : ByteArray))
    have e : (l.map fun s => s.data.toList).map (fun x => (⟨x.toArray⟩ : ByteArray)) = l := by
      rw [List.map_map]
      conv => rhs; rw [← List.map_id l]
      exact List.map_congr_left (fun s _ => rfl)
    rw [e] at h
    exact h
theorem SortS_eq (l : List ByteArray) (hl : l.length ≤ 1000000) : slices_Sort_string_string.f l = some (srtB l) := by
  rw [slices_Sort_string_string.f, if_pos (by omega), sortS_eq]
def insB (x : ByteArray) (l : List ByteArray) : List ByteArray := l.takeWhile (fun y => leB y x) ++ x :: l.dropWhile (fun y => leB y x)
theorem insB_perm (x : ByteArray) (l : List ByteArray) : (insB x l).Perm (x :: l) := by
  unfold insB
  refine List.perm_middle.trans ?_
  rw [List.takeWhile_append_dropWhile]
theorem insB_length (x : ByteArray) (l : List ByteArray) : (insB x l).length = l.length + 1 := by
  rw [(insB_perm x l).length_eq]; rfl
theorem leB_of_not {a b : ByteArray} (h : ¬ leB a b = true) : leB b a = true := by
  have := leB_total a b
  cases h1 : leB a b
  · rw [h1] at this; simpa using this
  · exact absurd h1 h
theorem insB_sorted (x : ByteArray) : ∀ (l : List ByteArray), l.Pairwise (fun a b => leB a b = true) → (insB x l).Pairwise (fun a b => leB a b = true)
  | [], _ => by simp [insB]
  | y :: l, h => by
    rw [List.pairwise_cons] at h
    by_cases hc : leB y x = true
    · have e : insB x (y :: l) = y :: insB x l := by simp [insB, List.takeWhile_cons, List.dropWhile_cons, hc]
      rw [e, List.pairwise_cons]
      refine ⟨fun z hz => ?_, insB_sorted x l h.2⟩
      rcases List.mem_cons.1 ((insB_perm x l).mem_iff.1 hz) with rfl | h2
      · exact hc
      · exact h.1 z h2
    · have e : insB x (y :: l) = x :: y :: l := by simp [insB, List.takeWhile_cons, List.dropWhile_cons, hc]
      rw [e, List.pairwise_cons, List.pairwise_cons]
      refine ⟨fun z hz => ?_, h⟩
      rcases List.mem_cons.1 hz with rfl | h2
      · exact leB_of_not hc
      · exact leB_trans _ _ _ (leB_of_not hc) (h.1 z h2)
theorem mpSort_in (xs : List ByteArray) (x : ByteArray) (i : Int) (R : List ByteArray) (K : Nat) : ∀ (suf pre : List ByteArray), (pre ++ suf).length ≤ 1000000 → (∀ k, K ≤ k → spec_mpSort.l0 k (pre ++ insB x suf) xs (xs.length : Int) (wrap64 (i + 1)) = some R) →
    ∀ k, K + suf.length + 1 ≤ k → spec_mpSort.l1 k (pre ++ suf) x (pre.length : Int) xs (xs.length : Int) i = some R
  | [], pre, hl, hR, k, hk => by
    obtain ⟨k, rfl⟩ : ∃ m, k = m + 1 := ⟨k - 1, by omega⟩
    rw [List.append_nil] at hl ⊢
    rw [spec_mpSort.l1, if_neg (by omega), Option.bind_some, if_pos (by omega), if_pos (by omega), Int.toNat_natCast, List.take_length, Option.bind_some, if_pos (by simp; omega), Option.bind_some, if_pos (by simp; omega), Option.bind_some, List.drop_length, Option.bind_some, if_pos (by simp; omega)]
    have := hR k (by simpa using hk)
    simpa [insB] using this
  | y :: suf, pre, hl, hR, k, hk => by
    simp only [List.length_cons] at hk
    obtain ⟨k, rfl⟩ : ∃ m, k = m + 1 := ⟨k - 1, by omega⟩
    have hlen : (pre ++ y :: suf).length = pre.length + suf.length + 1 := by simp; omega
    by_cases hc : leB y x = true
    · have e : insB x (y :: suf) = y :: insB x suf := by simp [insB, List.takeWhile_cons, List.dropWhile_cons, hc]
      have := mpSort_in xs x i R K suf (pre ++ [y]) (by simpa using hl) (fun k hk => by
        have h2 := hR k hk
        rw [e] at h2
        simpa using h2) k (by omega)
      rw [List.append_assoc, List.singleton_append, List.length_append, List.length_singleton] at this
      rw [spec_mpSort.l1, if_pos (by omega), if_pos (by omega), rdS_mid, less_iff, hc, if_neg (by decide), w64s (by omega)]
      exact this
    · have e : insB x (y :: suf) = x :: y :: suf := by simp [insB, List.takeWhile_cons, List.dropWhile_cons, hc]
      rw [spec_mpSort.l1, if_pos (by omega), if_pos (by omega), rdS_mid, less_iff, show leB y x = false by simpa using hc, if_pos (by decide), Option.bind_some, if_pos (by omega), Int.toNat_natCast, List.take_left, Option.bind_some, if_pos (by simp; omega), Option.bind_some, if_pos (by simp; omega), Option.bind_some, List.drop_left, Option.bind_some, if_pos (by simp; omega)]
      have := hR k (by omega)
      rw [e] at this
      simpa using this
theorem mpSort_loop (xs : List ByteArray) (hx : xs.length ≤ 1000) (D : Nat) (hD : 1010 ≤ D) : ∀ (suf pre acc : List ByteArray), xs = pre ++ suf → acc.length = pre.length → ∀ k, (suf.length + 1) * D ≤ k → spec_mpSort.l0 k acc xs (xs.length : Int) (pre.length : Int) = some (suf.foldl (fun a x => insB x a) acc)
  | [], pre, acc, h, ha, k, hk => by
    obtain ⟨k, rfl⟩ : ∃ m, k = m + 1 := ⟨k - 1, by simp only [List.length_nil, Nat.zero_add, Nat.one_mul] at hk; omega⟩
    subst h
    rw [spec_mpSort.l0, if_neg (by simp)]; rfl
  | x :: suf, pre, acc, h, ha, k, hk => by
    simp only [List.length_cons] at hk
    rw [Nat.add_mul, Nat.one_mul] at hk
    obtain ⟨k, rfl⟩ : ∃ m, k = m + 1 := ⟨k - 1, by omega⟩
    have hl : xs.length = pre.length + suf.length + 1 := by subst h; simp; omega
    have e : rdOf ByteArray.empty xs (pre.length : Int) = x := by subst h; exact rdS_mid _ _ _
    have h1 := mpSort_in xs x (pre.length : Int) (suf.foldl (fun a x => insB x a) (insB x acc)) ((suf.length + 1) * D) acc [] (by simp; omega) (fun k hk => by
      have := mpSort_loop xs hx D hD suf (pre ++ [x]) (insB x acc) (by simp [h]) (by rw [insB_length]; simp; omega) k hk
      rw [List.length_append, List.length_singleton] at this
      rw [List.nil_append, w64s (by omega)]
      exact this) k (by omega)
    rw [spec_mpSort.l0, if_pos (by omega), if_pos (by omega), if_pos (by omega), e]
    exact h1
theorem fold_insB : ∀ (l acc : List ByteArray), acc.Pairwise (fun a b => leB a b = true) → (l.foldl (fun a x => insB x a) acc).Pairwise (fun a b => leB a b = true) ∧ (l.foldl (fun a x => insB x a) acc).Perm (l ++ acc)
  | [], acc, h => ⟨h, List.Perm.refl _⟩
  | x :: l, acc, h => by
    obtain ⟨h1, h2⟩ := fold_insB l (insB x acc) (insB_sorted x acc h)
    refine ⟨h1, h2.trans ?_⟩
    exact ((insB_perm x acc).append_left l).trans List.perm_middle
theorem mpSort_eq (l : List ByteArray) (hl : l.length ≤ 1000) {k : Nat} (hk : (l.length + 1) * 1010 ≤ k) : spec_mpSort.f k l = some (srtB l) := by
  obtain ⟨h1, h2⟩ := fold_insB l [] List.Pairwise.nil
  rw [srtB_unique h1 (by simpa using h2)]
  exact mpSort_loop l hl 1010 (Nat.le_refl _) l [] [] rfl rfl k hk
theorem treeCat (xs : List ByteArray) (hx : xs.length ≤ 1000) : ∀ (suf pre : List ByteArray) (acc : ByteArray) (k : Nat), xs = pre ++ suf → acc.size + (cat suf).size ≤ 1000000000 → suf.length < k → spec_mpTree.l1 k acc xs (xs.length : Int) (pre.length : Int) = some (acc ++ cat suf ++ ⟨#[41]⟩)
  | [], pre, acc, k, h, hs, hk => by
    obtain ⟨k, rfl⟩ : ∃ m, k = m + 1 := ⟨k - 1, by omega⟩
    subst h
    rw [spec_mpTree.l1, if_neg (by simp), if_pos (by omega), cat_nil, ba_nil]
  | x :: suf, pre, acc, k, h, hs, hk => by
    simp only [List.length_cons] at hk
    obtain ⟨k, rfl⟩ : ∃ m, k = m + 1 := ⟨k - 1, by omega⟩
    have hl : xs.length = pre.length + suf.length + 1 := by subst h; simp; omega
    have e : rdOf ByteArray.empty xs (pre.length : Int) = x := by subst h; exact rdS_mid _ _ _
    rw [cat_cons, ba_size] at hs
    have := treeCat xs hx suf (pre ++ [x]) (acc ++ x) k (by simp [h]) (by rw [ba_size]; omega) (by omega)
    rw [List.length_append, List.length_singleton] at this
    rw [spec_mpTree.l1, if_pos (by omega), if_pos (by omega), if_pos (by omega), e, if_pos (by omega), w64s (by omega), this, cat_cons, ba_assoc acc x]
theorem nameCat (xs : List ByteArray) (hx : xs.length ≤ 1000) : ∀ (suf pre : List ByteArray) (acc : ByteArray) (k : Nat), xs = pre ++ suf → acc.size + (cat suf).size ≤ 1000000000 → suf.length < k → spec_mpName.l4 k acc xs (xs.length : Int) (pre.length : Int) = some (acc ++ cat suf)
  | [], pre, acc, k, h, hs, hk => by
    obtain ⟨k, rfl⟩ : ∃ m, k = m + 1 := ⟨k - 1, by omega⟩
    subst h
    rw [spec_mpName.l4, if_neg (by simp), cat_nil, ba_nil]
  | x :: suf, pre, acc, k, h, hs, hk => by
    simp only [List.length_cons] at hk
    obtain ⟨k, rfl⟩ : ∃ m, k = m + 1 := ⟨k - 1, by omega⟩
    have hl : xs.length = pre.length + suf.length + 1 := by subst h; simp; omega
    have e : rdOf ByteArray.empty xs (pre.length : Int) = x := by subst h; exact rdS_mid _ _ _
    rw [cat_cons, ba_size] at hs
    have := nameCat xs hx suf (pre ++ [x]) (acc ++ x) k (by simp [h]) (by rw [ba_size]; omega) (by omega)
    rw [List.length_append, List.length_singleton] at this
    rw [spec_mpName.l4, if_pos (by omega), if_pos (by omega), if_pos (by omega), e, if_pos (by omega), w64s (by omega), this, cat_cons, ba_assoc acc x]

end Go.Proofs.YtcaohpcbohdkbaaC
