/-
  The texts of trees of a map: how long they are, and that both programs tell them. No conditions.
-/
import Derived.Test.YtcaohpcbohdkbaaLSs
namespace Go.Proofs.YtcaohpcbohdkbaaC
open Go.RowKit Go.Proofs.YtcaohpcbohdkbaaW.PrintWords Go.Proofs.YtcaohpcbohdkbaaW.PrintMore
set_option linter.unusedSimpArgs false
set_option linter.unusedVariables false

/-! ### who leads to a number and is on no cycle -/
def kids (l : List Int) (x : Int) : List Int := (bef l x l.length).filter (fun y => !cyc l y)
theorem mem_bef {l : List Int} {x y : Int} {n : Nat} : y ∈ bef l x n ↔ ∃ j : Nat, j < n ∧ rd l (j : Int) = x ∧ y = (j : Int) := by
  simp only [bef, List.mem_map, List.mem_filter, List.mem_range, decide_eq_true_eq]
  constructor
  · rintro ⟨j, ⟨h1, h2⟩, rfl⟩
    exact ⟨j, h1, h2, rfl⟩
  · rintro ⟨j, h1, h2, rfl⟩
    exact ⟨j, ⟨h1, h2⟩, rfl⟩
theorem bef_nodup (l : List Int) (x : Int) (n : Nat) : (bef l x n).Nodup := by
  unfold bef
  rw [List.nodup_iff_pairwise_ne, List.pairwise_map]
  have h := (List.nodup_range (n := n)).filter (fun (y : Nat) => decide (rd l (y : Int) = x))
  exact h.imp (fun h e => h (by omega))
theorem kids_nodup (l : List Int) (x : Int) : (kids l x).Nodup := (bef_nodup l x l.length).filter _
theorem kids_length (l : List Int) (x : Int) : (kids l x).length ≤ l.length := Nat.le_trans (List.length_filter_le _ _) (bef_length l x l.length)
theorem mem_kids {l : List Int} {x y : Int} : y ∈ kids l x ↔ Has l y ∧ rd l y = x ∧ cyc l y = false := by
  unfold kids
  rw [List.mem_filter, mem_bef]
  constructor
  · rintro ⟨⟨j, h1, h2, rfl⟩, h3⟩
    exact ⟨⟨by omega, by omega⟩, h2, by simpa using h3⟩
  · rintro ⟨⟨h1, h2⟩, h3, h4⟩
    obtain ⟨j, rfl⟩ := Int.eq_ofNat_of_zero_le h1
    exact ⟨⟨j, by omega, h3, rfl⟩, by simp [h4]⟩
theorem kid_depth {l : List Int} (h : MapL l) {x y : Int} (hy : y ∈ kids l x) : rA l y = rA l x + 1 := by
  obtain ⟨h1, h2, h3⟩ := mem_kids.1 hy
  have := (rA_next h h1).1
  rw [h2] at this
  simp only [cyc, decide_eq_false_iff_not] at h3
  omega

/-! ### the texts -/
def txt (l : List Int) : Nat → Int → ByteArray
  | 0, _ => ⟨#[]⟩
  | m + 1, x => (⟨#[40]⟩ : ByteArray) ++ cat (srtB ((kids l x).map (txt l m))) ++ (⟨#[41]⟩ : ByteArray)
theorem txt_size (l : List Int) (m : Nat) (x : Int) : (txt l (m + 1) x).size = 2 + ((kids l x).map fun y => (txt l m y).size).sum := by
  rw [txt, ba_size, ba_size, cat_perm (srtB_perm _), cat_size, List.map_map]
  show 1 + _ + 1 = _
  have : ((kids l x).map ((fun s => s.size) ∘ txt l m)) = (kids l x).map fun y => (txt l m y).size := rfl
  rw [this]
  omega
/-- How many numbers are at least so deep. -/
def deepC (l : List Int) (d : Nat) : Nat := (((List.range l.length).map Int.ofNat).filter fun y => decide (d ≤ rA l y)).length
theorem deepC_le (l : List Int) (d : Nat) : deepC l d ≤ l.length := by
  unfold deepC
  exact Nat.le_trans (List.length_filter_le _ _) (by simp)
theorem deepC_add {l : List Int} {d : Nat} {L : List Int} (hn : L.Nodup) (hL : ∀ x ∈ L, Has l x ∧ rA l x = d) : L.length + deepC l (d + 1) ≤ deepC l d := by
  rw [← count_of (n := l.length) hn (fun x hx => (hL x hx).1)]
  unfold deepC
  rw [← filter_or (fun y => decide (y ∈ L)) (fun y => decide (d + 1 ≤ rA l y)) _ (fun x _ => by
    rintro ⟨h1, h2⟩
    have := (hL x (of_decide_eq_true h1)).2
    have := of_decide_eq_true h2
    omega), ← List.countP_eq_length_filter, ← List.countP_eq_length_filter]
  refine List.countP_mono_left (fun x _ h1 => ?_)
  simp only [Bool.or_eq_true, decide_eq_true_eq] at h1 ⊢
  rcases h1 with h1 | h1
  · have := (hL x h1).2; omega
  · omega
theorem sum_two (L : List Int) (f : Int → Nat) : (L.map fun x => 2 + f x).sum = 2 * L.length + (L.map f).sum := by
  induction L with
  | nil => rfl
  | cons x L ih => simp only [List.map_cons, List.sum_cons, List.length_cons, ih]; omega
theorem sum_flat (L : List Int) (g : Int → List Int) (f : Int → Nat) : (L.map fun x => ((g x).map f).sum).sum = ((L.flatMap g).map f).sum := by
  induction L with
  | nil => rfl
  | cons x L ih => simp only [List.map_cons, List.sum_cons, List.flatMap_cons, List.map_append, List.sum_append, ih]
theorem size_sum {l : List Int} (h : MapL l) : ∀ (m d : Nat) (L : List Int), L.Nodup → (∀ x ∈ L, Has l x ∧ rA l x = d) → (L.map fun x => (txt l m x).size).sum ≤ 2 * deepC l d
  | 0, d, L, _, _ => by
    have : (L.map fun x => (txt l 0 x).size).sum = 0 := by
      induction L with
      | nil => rfl
      | cons x L ih => simp only [List.map_cons, List.sum_cons]; rw [ih (by assumption |> fun h => (List.nodup_cons.1 h).2) (fun y hy => by rename_i h2; exact h2 y (by simp [hy]))]; rfl
    omega
  | m + 1, d, L, hn, hL => by
    have e : (L.map fun x => (txt l (m + 1) x).size) = L.map fun x => 2 + ((kids l x).map fun y => (txt l m y).size).sum := List.map_congr_left (fun x _ => txt_size l m x)
    rw [e, sum_two, sum_flat]
    have h1 := size_sum h m (d + 1) (L.flatMap (kids l)) (by
      rw [List.nodup_iff_pairwise_ne, List.pairwise_flatMap]
      refine ⟨fun x _ => List.nodup_iff_pairwise_ne.1 (kids_nodup l x), ?_⟩
      rw [List.nodup_iff_pairwise_ne] at hn
      refine hn.imp (fun {a b} hab x hx y hy e => hab ?_)
      rw [← (mem_kids.1 hx).2.1, ← (mem_kids.1 hy).2.1, e]) (fun y hy => by
      obtain ⟨x, hx, hy⟩ := List.mem_flatMap.1 hy
      exact ⟨(mem_kids.1 hy).1, by rw [kid_depth h hy, (hL x hx).2]⟩)
    have h2 := deepC_add hn hL
    omega
theorem kids_sum {l : List Int} (h : MapL l) (hl : l.length ≤ 60) (m : Nat) (x : Int) : (cat ((kids l x).map (txt l m))).size ≤ 120 := by
  have h1 := size_sum h m (rA l x + 1) (kids l x) (kids_nodup l x) (fun y hy => ⟨(mem_kids.1 hy).1, kid_depth h hy⟩)
  have h2 := deepC_le l (rA l x + 1)
  rw [cat_size, List.map_map]
  have e : ((kids l x).map ((fun s => s.size) ∘ txt l m)) = (kids l x).map fun y => (txt l m y).size := rfl
  rw [e]
  omega

/-! ### both programs tell them -/
def TreeOk (l : List Int) (m K : Nat) : Prop := ∀ x, Has l x → l.length < rA l x + m → ∀ k, K ≤ k → spec_mpTree.f k l (cycL l) x = some (txt l m x) ∧ impl_treeText.f k l (upTo (dep l) l.length) x = some (txt l m x)
theorem tree_spec_loop {l : List Int} (h : MapL l) (hl : l.length ≤ 60) {m K : Nat} (ht : TreeOk l m K) {x : Int} (hx : Has l x) (hd : l.length < rA l x + (m + 1)) : ∀ (suf pre : List Int) (acc : List ByteArray) (k : Nat), bef l x l.length = pre ++ suf → acc.length ≤ pre.length → acc ++ (suf.filter fun y => !cyc l y).map (txt l m) = (kids l x).map (txt l m) →
    K + suf.length + 100000 ≤ k → spec_mpTree.l0 k l (cycL l) acc (bef l x l.length) ((bef l x l.length).length : Int) (pre.length : Int) = some (txt l (m + 1) x)
  | [], pre, acc, k, hb, ha, hA, hk => by
    obtain ⟨k, rfl⟩ : ∃ q, k = q + 1 := ⟨k - 1, by omega⟩
    have hbl : (bef l x l.length).length = pre.length := by rw [hb]; simp
    have hA2 : acc = (kids l x).map (txt l m) := by simpa using hA
    have hkl := kids_length l x
    have hs := kids_sum h hl m x
    have hsl := srtB_length ((kids l x).map (txt l m))
    rw [List.length_map] at hsl
    have hsp := cat_perm (srtB_perm ((kids l x).map (txt l m)))
    have h40 : (⟨#[40]⟩ : ByteArray).size = 1 := rfl
    rw [spec_mpTree.l0, if_neg (by omega), hA2, mpSort_eq _ (by rw [List.length_map]; omega) (by rw [List.length_map]; omega), Option.bind_some]
    have := treeCat (srtB ((kids l x).map (txt l m))) (by omega) (srtB ((kids l x).map (txt l m))) [] (⟨#[40]⟩ : ByteArray) k rfl (by omega) (by omega)
    exact this
  | y :: suf, pre, acc, k, hb, ha, hA, hk => by
    simp only [List.length_cons] at hk
    obtain ⟨k, rfl⟩ : ∃ q, k = q + 1 := ⟨k - 1, by omega⟩
    have hbl : (bef l x l.length).length = pre.length + suf.length + 1 := by rw [hb]; simp; omega
    have hb60 := bef_length l x l.length
    have hr : rd (bef l x l.length) (pre.length : Int) = y := by rw [hb]; exact rd_mid _ _ _
    obtain ⟨j, hj, hrj, rfl⟩ := mem_bef.1 (show y ∈ bef l x l.length by rw [hb]; simp)
    have hy : Has l (j : Int) := ⟨by omega, by omega⟩
    rw [spec_mpTree.l0, if_pos (by omega), if_pos (by omega), if_pos (by omega), hr, if_pos (by omega), if_pos (by rw [cycL_length]; omega), cycL_at hy]
    cases hc : cyc l (j : Int) with
    | true =>
      rw [if_pos rfl, w64s (by omega)]
      have := tree_spec_loop h hl ht hx hd suf (pre ++ [(j : Int)]) acc k (by simp [hb]) (by simp; omega) (by rw [← hA]; simp [hc]) (by omega)
      simpa using this
    | false =>
      have hkid : (j : Int) ∈ kids l x := mem_kids.2 ⟨hy, hrj, hc⟩
      rw [if_neg (by decide), (ht (j : Int) hy (by rw [kid_depth h hkid]; omega) k (by omega)).1, Option.bind_some, if_pos (by omega), w64s (by omega)]
      have := tree_spec_loop h hl ht hx hd suf (pre ++ [(j : Int)]) (acc ++ [txt l m (j : Int)]) k (by simp [hb]) (by simp; omega) (by rw [← hA]; simp [hc]) (by omega)
      simpa using this
theorem tree_impl_loop {l : List Int} (h : MapL l) (hl : l.length ≤ 60) {m K : Nat} (ht : TreeOk l m K) {x : Int} (hx : Has l x) (hd : l.length < rA l x + (m + 1)) : ∀ (suf pre : List Int) (acc : List ByteArray) (k : Nat), bef l x l.length = pre ++ suf → acc.length ≤ pre.length → acc ++ (suf.filter fun y => !cyc l y).map (txt l m) = (kids l x).map (txt l m) →
    K + suf.length + 100000 ≤ k → impl_treeText.l0 k l (upTo (dep l) l.length) acc (bef l x l.length) ((bef l x l.length).length : Int) (pre.length : Int) = some (txt l (m + 1) x)
  | [], pre, acc, k, hb, ha, hA, hk => by
    obtain ⟨k, rfl⟩ : ∃ q, k = q + 1 := ⟨k - 1, by omega⟩
    have hbl : (bef l x l.length).length = pre.length := by rw [hb]; simp
    have hA2 : acc = (kids l x).map (txt l m) := by simpa using hA
    have hkl := kids_length l x
    have hs := kids_sum h hl m x
    have hsl := srtB_length ((kids l x).map (txt l m))
    rw [List.length_map] at hsl
    have hsp := cat_perm (srtB_perm ((kids l x).map (txt l m)))
    have h40 : (⟨#[40]⟩ : ByteArray).size = 1 := rfl
    rw [impl_treeText.l0, if_neg (by omega), hA2, SortS_eq _ (by rw [List.length_map]; omega), Option.bind_some, Join_eq _ (by omega) (by omega), Option.bind_some, if_pos (by omega), if_pos (by rw [ba_size]; omega)]
    rfl
  | y :: suf, pre, acc, k, hb, ha, hA, hk => by
    simp only [List.length_cons] at hk
    obtain ⟨k, rfl⟩ : ∃ q, k = q + 1 := ⟨k - 1, by omega⟩
    have hbl : (bef l x l.length).length = pre.length + suf.length + 1 := by rw [hb]; simp; omega
    have hb60 := bef_length l x l.length
    have hr : rd (bef l x l.length) (pre.length : Int) = y := by rw [hb]; exact rd_mid _ _ _
    obtain ⟨j, hj, hrj, rfl⟩ := mem_bef.1 (show y ∈ bef l x l.length by rw [hb]; simp)
    have hy : Has l (j : Int) := ⟨by omega, by omega⟩
    have hul := upTo_length (dep l) l.length
    have hdep : rd (upTo (dep l) l.length) (j : Int) = (rA l (j : Int) : Int) := upTo_at (dep l) hj
    rw [impl_treeText.l0, if_pos (by omega), if_pos (by omega), if_pos (by omega), hr, if_pos (by omega), if_pos (by omega), hdep]
    cases hc : cyc l (j : Int) with
    | true =>
      have h0 : rA l (j : Int) = 0 := by simpa [cyc] using hc
      rw [if_neg (by omega), w64s (by omega)]
      have := tree_impl_loop h hl ht hx hd suf (pre ++ [(j : Int)]) acc k (by simp [hb]) (by simp; omega) (by rw [← hA]; simp [hc]) (by omega)
      simpa using this
    | false =>
      have h0 : rA l (j : Int) ≠ 0 := by simpa [cyc] using hc
      have hkid : (j : Int) ∈ kids l x := mem_kids.2 ⟨hy, hrj, hc⟩
      rw [if_pos (by omega), (ht (j : Int) hy (by rw [kid_depth h hkid]; omega) k (by omega)).2, Option.bind_some, if_pos (by omega), w64s (by omega)]
      have := tree_impl_loop h hl ht hx hd suf (pre ++ [(j : Int)]) (acc ++ [txt l m (j : Int)]) k (by simp [hb]) (by simp; omega) (by rw [← hA]; simp [hc]) (by omega)
      simpa using this
theorem tree_ok {l : List Int} (h : MapL l) (hl : l.length ≤ 60) : ∀ m, ∃ K, TreeOk l m K
  | 0 => ⟨0, fun x hx hd k _ => by
    have := rA_lt h hx
    omega⟩
  | m + 1 => by
    obtain ⟨K, ht⟩ := tree_ok h hl m
    refine ⟨K + 200000, fun x hx hd k hk => ?_⟩
    have hb60 := bef_length l x l.length
    obtain ⟨k, rfl⟩ : ∃ q, k = q + 1 := ⟨k - 1, by omega⟩
    refine ⟨?_, ?_⟩
    · rw [spec_mpTree.f, mpBefore_eq l x (by omega) (by omega), Option.bind_some]
      exact tree_spec_loop h hl ht hx hd (bef l x l.length) [] [] k rfl (by simp) rfl (by omega)
    · rw [impl_treeText.f, before_eq, mpBefore_eq l x (by omega) (by omega), Option.bind_some]
      exact tree_impl_loop h hl ht hx hd (bef l x l.length) [] [] k rfl (by simp) rfl (by omega)

end Go.Proofs.YtcaohpcbohdkbaaC
