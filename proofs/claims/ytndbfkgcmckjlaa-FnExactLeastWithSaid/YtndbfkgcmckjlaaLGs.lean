/-
  The reference's sorting is the one sorting, and the plain law of StepByGaps. No conditions.
-/
import Derived.Test.YtndbfkgcmckjlaaLGp
namespace Go.Proofs.YtndbfkgcmckjlaaC
open Go.RowKit Go.Proofs.YtndbfkgcmckjlaaW.PrintWords Go.Proofs.YtndbfkgcmckjlaaW.PrintMore
set_option linter.unusedSimpArgs false
set_option linter.unusedVariables false

/-! ### sorting -/
def le (x y : Int) : Bool := decide (x ≤ y)
def insL (x : Int) (l : List Int) : List Int := l.takeWhile (fun y => decide (y ≤ x)) ++ x :: l.dropWhile (fun y => decide (y ≤ x))
theorem insL_perm (x : Int) (l : List Int) : (insL x l).Perm (x :: l) := by
  unfold insL
  refine List.perm_middle.trans ?_
  rw [List.takeWhile_append_dropWhile]
theorem insL_length (x : Int) (l : List Int) : (insL x l).length = l.length + 1 := by
  rw [(insL_perm x l).length_eq]; rfl
theorem insL_sorted (x : Int) : ∀ (l : List Int), l.Pairwise (fun a b => le a b = true) → (insL x l).Pairwise (fun a b => le a b = true)
  | [], _ => by simp [insL]
  | y :: l, h => by
    rw [List.pairwise_cons] at h
    by_cases hc : y ≤ x
    · have e : insL x (y :: l) = y :: insL x l := by simp [insL, List.takeWhile_cons, List.dropWhile_cons, hc]
      rw [e, List.pairwise_cons]
      refine ⟨fun z hz => ?_, insL_sorted x l h.2⟩
      rcases List.mem_cons.1 ((insL_perm x l).mem_iff.1 hz) with rfl | h2
      · simpa [le] using hc
      · exact h.1 z h2
    · have e : insL x (y :: l) = x :: y :: l := by simp [insL, List.takeWhile_cons, List.dropWhile_cons, hc]
      rw [e, List.pairwise_cons, List.pairwise_cons]
      refine ⟨fun z hz => ?_, h⟩
      rcases List.mem_cons.1 hz with rfl | h2
      · simp only [le, decide_eq_true_eq]; omega
      · have := h.1 z h2
        simp only [le, decide_eq_true_eq] at this ⊢; omega
theorem own_eq (l : List Int) (hl : l.length ≤ 1048576) : spec_l1Own.f l = some l := by
  simp [spec_l1Own.f, show l.length < 17592186044416 by omega]
theorem sorted_in (xs : List Int) (x i : Int) : ∀ (suf pre : List Int), (pre ++ suf).length ≤ 1048576 → ∃ c, ∀ k, spec_dgSorted.l1 (k + c) (pre ++ suf) x (pre.length : Int) xs (xs.length : Int) i = spec_dgSorted.l0 k (pre ++ insL x suf) xs (xs.length : Int) (wrap64 (i + 1)) := by
  intro suf
  induction suf with
  | nil =>
    intro pre hl
    refine ⟨1, fun k => ?_⟩
    rw [List.append_nil] at hl ⊢
    rw [spec_dgSorted.l1, if_neg (by omega), if_pos (by omega), if_pos (by omega), Int.toNat_natCast, List.take_length, own_eq pre hl]
    simp only [Option.bind_some]
    rw [if_pos (by omega), List.drop_length]
    simp [insL, show pre.length + 1 < 17592186044416 by omega]
  | cons y suf ih =>
    intro pre hl
    have hlen : (pre ++ y :: suf).length = pre.length + suf.length + 1 := by simp; omega
    have hr : rd (pre ++ y :: suf) (pre.length : Int) = y := rd_mid _ _ _
    by_cases hc : y ≤ x
    · obtain ⟨c, h⟩ := ih (pre ++ [y]) (by simpa using hl)
      have e : insL x (y :: suf) = y :: insL x suf := by simp [insL, List.takeWhile_cons, List.dropWhile_cons, hc]
      refine ⟨c + 1, fun k => ?_⟩
      have := h k
      rw [List.append_assoc, List.singleton_append, List.append_assoc, List.singleton_append, List.length_append, List.length_singleton] at this
      rw [← Nat.add_assoc, spec_dgSorted.l1, if_pos (by omega), if_pos (by omega), hr, if_pos hc, w64s (by omega), e]
      exact this
    · have e : insL x (y :: suf) = x :: y :: suf := by simp [insL, List.takeWhile_cons, List.dropWhile_cons, hc]
      refine ⟨1, fun k => ?_⟩
      rw [spec_dgSorted.l1, if_pos (by omega), if_pos (by omega), hr, if_neg hc, if_pos (by omega), Int.toNat_natCast, List.take_left, own_eq pre (by omega)]
      simp only [Option.bind_some]
      rw [if_pos (by omega), List.drop_left, if_pos (by simp; omega), e, List.append_assoc]; rfl
theorem sorted_loop (xs : List Int) (hx : xs.length ≤ 1000000) : ∀ (suf pre acc : List Int), xs = pre ++ suf → acc.length = pre.length → ∃ c, ∀ k, spec_dgSorted.l0 (k + c) acc xs (xs.length : Int) (pre.length : Int) = some (suf.foldl (fun a x => insL x a) acc) := by
  intro suf
  induction suf with
  | nil =>
    intro pre acc h ha
    refine ⟨1, fun k => ?_⟩
    subst h
    rw [spec_dgSorted.l0, if_neg (by simp)]; rfl
  | cons x suf ih =>
    intro pre acc h ha
    have hl : xs.length = pre.length + suf.length + 1 := by subst h; simp; omega
    have e : rd xs (pre.length : Int) = x := by subst h; exact rd_mid _ _ _
    obtain ⟨c1, h1⟩ := sorted_in xs x (pre.length : Int) acc [] (by simp; omega)
    obtain ⟨c2, h2⟩ := ih (pre ++ [x]) (insL x acc) (by simp [h]) (by rw [insL_length]; simp; omega)
    refine ⟨c2 + c1 + 1, fun k => ?_⟩
    have h3 := h1 (k + c2)
    rw [List.nil_append, List.nil_append, w64s (by omega)] at h3
    have h4 := h2 k
    rw [List.length_append, List.length_singleton] at h4
    rw [← Nat.add_assoc, ← Nat.add_assoc, spec_dgSorted.l0, if_pos (by omega), if_pos (by omega), if_pos (by omega), e]
    exact h3.trans h4
theorem fold_ins : ∀ (l acc : List Int), acc.Pairwise (fun a b => le a b = true) → (l.foldl (fun a x => insL x a) acc).Pairwise (fun a b => le a b = true) ∧ (l.foldl (fun a x => insL x a) acc).Perm (l ++ acc)
  | [], acc, h => ⟨h, List.Perm.refl _⟩
  | x :: l, acc, h => by
    obtain ⟨h1, h2⟩ := fold_ins l (insL x acc) (insL_sorted x acc h)
    refine ⟨h1, h2.trans ?_⟩
    exact ((insL_perm x acc).append_left l).trans List.perm_middle
theorem le_trans_ (a b c : Int) (h1 : le a b = true) (h2 : le b c = true) : le a c = true := by
  simp only [le, decide_eq_true_eq] at *; omega
theorem le_total_ (a b : Int) : (le a b || le b a) = true := by
  simp only [le, Bool.or_eq_true, decide_eq_true_eq]; omega
/-- The sorting of a list. -/
def srt (l : List Int) : List Int := l.mergeSort le
theorem srt_sorted (l : List Int) : (srt l).Pairwise (fun a b => le a b = true) := List.pairwise_mergeSort le_trans_ le_total_ l
theorem srt_perm (l : List Int) : (srt l).Perm l := List.mergeSort_perm l le
theorem srt_unique {l m : List Int} (h1 : m.Pairwise (fun a b => le a b = true)) (h2 : m.Perm l) : srt l = m :=
  List.Perm.eq_of_pairwise (le := fun a b => le a b = true) (fun a b _ _ h3 h4 => by simp only [le, decide_eq_true_eq] at h3 h4; omega) (srt_sorted l) h1 ((srt_perm l).trans h2.symm)
theorem srt_length (l : List Int) : (srt l).length = l.length := (srt_perm l).length_eq
theorem dgSorted_eq (l : List Int) (hl : l.length ≤ 1000000) : ∃ c, ∀ k, spec_dgSorted.f (k + c) l = some (srt l) := by
  obtain ⟨c, h⟩ := sorted_loop l hl l [] [] rfl rfl
  obtain ⟨h1, h2⟩ := fold_ins l [] List.Pairwise.nil
  refine ⟨c, fun k => ?_⟩
  rw [srt_unique h1 (by simpa using h2)]
  exact h k

/-! ### a step by gaps -/
/-- Do digits never rise? -/
def desc : List Int → Bool
  | x :: y :: l => decide (y ≤ x) && desc (y :: l)
  | _ => true
theorem desc_drop {l : List Int} {j : Nat} (h1 : 1 ≤ j) (h : j < l.length) : desc (l.drop (j - 1)) = (decide (l[j] ≤ l[j - 1]) && desc (l.drop j)) := by
  have e1 : l.drop (j - 1) = l[j - 1] :: l.drop j := by
    rw [List.drop_eq_getElem_cons (show j - 1 < l.length by omega)]
    congr 2; omega
  have e2 : l.drop j = l[j] :: l.drop (j + 1) := List.drop_eq_getElem_cons h
  rw [e1, e2]; rfl
theorem desc_end {l : List Int} {j : Nat} (h : l.length ≤ j) : desc (l.drop (j - 1)) = true := by
  have : (l.drop (j - 1)).length ≤ 1 := by simp; omega
  rcases hd : l.drop (j - 1) with _ | ⟨x, _ | ⟨y, m⟩⟩
  · rfl
  · rfl
  · rw [hd] at this; simp at this
theorem desc_pairwise : ∀ {l : List Int}, desc l = true → l.Pairwise (fun a b => b ≤ a)
  | [], _ => List.Pairwise.nil
  | [x], _ => by simp
  | x :: y :: l, h => by
    simp only [desc, Bool.and_eq_true, decide_eq_true_eq] at h
    have ih := desc_pairwise h.2
    rw [List.pairwise_cons]
    refine ⟨fun z hz => ?_, ih⟩
    rcases List.mem_cons.1 hz with rfl | h2
    · exact h.1
    · have := (List.pairwise_cons.1 ih).1 z h2; omega
theorem stepS_loop (l : List Int) (w b : Int) (hl : l.length ≤ 1000) (R : List Int) (K : Nat) (hR : ∀ k, K ≤ k → spec_gpBy.f k l w b = some R) : ∀ (m j : Nat), 1 ≤ j → l.length ≤ j + m → ∀ k, K + m < k →
    spec_StepByGaps.l0 k l w b (j : Int) = some (if desc (l.drop (j - 1)) = true then (R, true) else ([], false)) := by
  intro m
  induction m with
  | zero =>
    intro j hj h k hk
    obtain ⟨k, rfl⟩ : ∃ m, k = m + 1 := ⟨k - 1, by omega⟩
    rw [spec_StepByGaps.l0, if_neg (by omega), hR k (by omega), desc_end (by omega)]; rfl
  | succ m ih =>
    intro j hj h k hk
    obtain ⟨k, rfl⟩ : ∃ m, k = m + 1 := ⟨k - 1, by omega⟩
    by_cases hlt : j < l.length
    · have e1 : wrap64 ((j : Int) - 1) = ((j - 1 : Nat) : Int) := by rw [w64 (by omega) (by omega)]; omega
      rw [spec_StepByGaps.l0, if_pos (by omega), if_pos (by omega), e1, if_pos (by omega), if_pos (by omega), rd_get hlt, rd_get (show j - 1 < l.length by omega), desc_drop hj hlt]
      by_cases hc : l[j] ≤ l[j - 1]
      · have := ih (j + 1) (by omega) (by omega) k (by omega)
        rw [Nat.add_sub_cancel] at this
        rw [if_neg (by omega), w64s (by omega), this]; simp [hc]
      · rw [if_pos (by omega)]; simp [hc]
    · rw [spec_StepByGaps.l0, if_neg (by omega), hR k (by omega), desc_end (by omega)]; rfl
theorem isSorted_loop (l : List Int) (hl : l.length ≤ 1000) : ∀ (m j : Nat), 1 ≤ j → l.length = j + m → ∀ k, m < k → slices_IsSorted_int_int.l0 k l.reverse ((m : Int)) = some (desc (l.drop (j - 1))) := by
  intro m
  induction m with
  | zero =>
    intro j hj h k hk
    obtain ⟨k, rfl⟩ : ∃ m, k = m + 1 := ⟨k - 1, by omega⟩
    rw [slices_IsSorted_int_int.l0, if_neg (by omega), desc_end (by omega)]
  | succ m ih =>
    intro j hj h k hk
    obtain ⟨k, rfl⟩ : ∃ m, k = m + 1 := ⟨k - 1, by omega⟩
    have hlt : j < l.length := by omega
    have e1 : wrap64 (((m + 1 : Nat) : Int) - 1) = (m : Int) := by rw [w64 (by omega) (by omega)]; omega
    have hrl : l.reverse.length = l.length := List.length_reverse
    have r1 : rd l.reverse ((m + 1 : Nat) : Int) = l[j - 1] := by
      rw [rd_get (show m + 1 < l.reverse.length by omega), List.getElem_reverse]; congr 1; omega
    have r2 : rd l.reverse (m : Int) = l[j] := by
      rw [rd_get (show m < l.reverse.length by omega), List.getElem_reverse]; congr 1; omega
    have hcmp : ∀ x y : Int, cmp_Less_int.f x y = some (decide (x < y)) := fun x y => by simp [cmp_Less_int.f, cmp_isNaN_int.f]
    rw [slices_IsSorted_int_int.l0, if_pos (by omega), if_pos (by omega), if_pos (by omega), e1, if_pos (by omega), if_pos (by omega), r1, r2, hcmp, desc_drop hj hlt]
    simp only [Option.bind_some]
    have := ih (j + 1) (by omega) (by omega) k (by omega)
    rw [Nat.add_sub_cancel] at this
    by_cases hc : l[j] ≤ l[j - 1]
    · rw [if_neg (by simp; omega), this]; simp [hc]
    · rw [if_pos (by simp; omega)]; simp [hc]
theorem isSorted_rev (l : List Int) (hl : l.length ≤ 1000) {k : Nat} (hk : l.length < k) : slices_IsSorted_int_int.f k l.reverse = some (desc l) := by
  unfold slices_IsSorted_int_int.f
  rw [List.length_reverse]
  rcases hn : l with _ | ⟨x, m⟩
  · obtain ⟨k, rfl⟩ : ∃ m, k = m + 1 := ⟨k - 1, by omega⟩
    rw [w64 (by simp) (by simp)]
    simp [slices_IsSorted_int_int.l0, desc]
  · rw [← hn]
    have hlen : l.length = m.length + 1 := by rw [hn]; rfl
    have := isSorted_loop l hl m.length 1 (by omega) (by omega) k (by omega)
    rw [w64 (by omega) (by omega), show (l.length : Int) - 1 = (m.length : Int) by omega, this]; rfl
/-- Exact values of digits. -/
def hv (b : Int) : List Int → Int → Int
  | [], s => s
  | d :: l, s => hv b l (s * b + d)
theorem hv_append (b : Int) : ∀ (l m : List Int) (s : Int), hv b (l ++ m) s = hv b m (hv b l s)
  | [], m, s => rfl
  | d :: l, m, s => hv_append b l m _
theorem hv_start (b : Int) : ∀ (l : List Int) (s : Int), hv b l s = s * b ^ l.length + hv b l 0
  | [], s => by simp [hv]
  | d :: l, s => by
    rw [hv, hv_start b l, hv, hv_start b l (0 * b + d), List.length_cons, Int.pow_succ]
    have : (s * b + d) * b ^ l.length = s * (b ^ l.length * b) + d * b ^ l.length := by
      rw [Int.add_mul, Int.mul_assoc, Int.mul_comm b]
    rw [this, Int.zero_mul, Int.zero_add]; omega
theorem hv_zeros (b : Int) (m : Nat) (s : Int) : hv b (List.replicate m 0) s = s * b ^ m := by
  induction m generalizing s with
  | zero => simp [hv]
  | succ m ih => rw [List.replicate_succ, hv, ih, Int.pow_succ, Int.add_zero, Int.mul_assoc, Int.mul_comm b]
theorem hv_bound {b : Int} (hb : 2 ≤ b) : ∀ (l : List Int) (s : Int), (∀ x ∈ l, 0 ≤ x ∧ x ≤ b - 1) → 0 ≤ s → 0 ≤ hv b l s ∧ hv b l s + 1 ≤ (s + 1) * b ^ l.length
  | [], s, _, h0 => by simp [hv]; exact h0
  | d :: l, s, h, h0 => by
    have hd := h d (by simp)
    have hsb : 0 ≤ s * b := Int.mul_nonneg h0 (by omega)
    obtain ⟨h1, h2⟩ := hv_bound hb l (s * b + d) (fun x hx => h x (by simp [hx])) (by omega)
    refine ⟨h1, Int.le_trans h2 ?_⟩
    rw [List.length_cons, Int.pow_succ, Int.mul_comm (b ^ l.length) b, ← Int.mul_assoc]
    refine Int.mul_le_mul_of_nonneg_right ?_ (Int.pow_nonneg (by omega))
    rw [Int.add_mul]; omega
theorem ipow_mono {b : Int} (hb : 1 ≤ b) {m n : Nat} (h : m ≤ n) : 1 ≤ b ^ m ∧ b ^ m ≤ b ^ n := by
  have h1 : ∀ q : Nat, 1 ≤ b ^ q := fun q => by
    induction q with
    | zero => simp
    | succ q ih => rw [Int.pow_succ]; have := Int.mul_le_mul ih hb (by omega) (by omega); omega
  refine ⟨h1 m, ?_⟩
  obtain ⟨q, rfl⟩ : ∃ q, n = m + q := ⟨n - m, by omega⟩
  rw [Int.pow_add]
  have := Int.mul_le_mul_of_nonneg_left (h1 q) (show 0 ≤ b ^ m by have := h1 m; omega)
  omega
theorem ipow16 {b : Int} (hb : 2 ≤ b) (hb2 : b ≤ 16) {m : Nat} (h : m ≤ 8) : 1 ≤ b ^ m ∧ b ^ m ≤ 4294967296 := by
  exact ⟨(ipow_mono (b := b) (by omega) (Nat.le_refl m)).1, (pow8 (d := b) (by omega) hb2 h).2⟩
theorem gvalL_exact {b : Int} (hb : 2 ≤ b) (hb2 : b ≤ 16) : ∀ (l : List Int) (s : Int), (∀ x ∈ l, 0 ≤ x ∧ x ≤ b - 1) → 0 ≤ s → (s + 1) * b ^ l.length ≤ 4294967296 → gvalL b l s = hv b l s
  | [], s, _, _, _ => rfl
  | d :: l, s, h, h0, hs => by
    have hd := h d (by simp)
    have hsb : 0 ≤ s * b := Int.mul_nonneg h0 (by omega)
    have hp := (ipow_mono (b := b) (by omega) (Nat.le_refl l.length)).1
    have e : (s + 1) * b ^ (d :: l).length = (s + 1) * b * b ^ l.length := by rw [List.length_cons, Int.pow_succ, Int.mul_comm (b ^ l.length) b, ← Int.mul_assoc]
    have e2 : (s + 1) * b = s * b + b := by rw [Int.add_mul]; omega
    rw [e, e2] at hs
    have h1 : (s * b + d + 1) * b ^ l.length ≤ (s * b + b) * b ^ l.length := Int.mul_le_mul_of_nonneg_right (by omega) (by omega)
    have h2 : (s * b + b) * 1 ≤ (s * b + b) * b ^ l.length := Int.mul_le_mul_of_nonneg_left hp (by omega)
    rw [gvalL, hv, w64 (n := s * b) (by omega) (by omega), w64 (by omega) (by omega)]
    exact gvalL_exact hb hb2 l _ (fun x hx => h x (by simp [hx])) (by omega) (by omega)
/-- The program's sum of gaps. -/
theorem byGaps_eq {b : Int} (hb : 2 ≤ b) (hb2 : b ≤ 16) (l : List Int) (w : Nat) (hw : w ≤ 8) (hlw : l.length ≤ w) (hd : ∀ x ∈ l, 0 ≤ x ∧ x ≤ b - 1) {k : Nat} (hk : l.length + 20 < k) :
    impl_byGaps.f k l (w : Int) b = some (hv b l 0 * b ^ (w - l.length) - hv b l.reverse 0) := by
  have h := run0 (fun k (s : Int × Int) => impl_byGaps.l0 k (w : Int) b s.1 l (l.length : Int) s.2) l.length 20 (fun j => (hv b (l.take j) 0 * b ^ (w - j) - hv b (l.take j).reverse 0, (j : Int))) (hv b l 0 * b ^ (w - l.length) - hv b l.reverse 0)
    (fun j hj k hk => by
      show impl_byGaps.l0 (k + 1) (w : Int) b (hv b (l.take j) 0 * b ^ (w - j) - hv b (l.take j).reverse 0) l (l.length : Int) (j : Int) = impl_byGaps.l0 k (w : Int) b (hv b (l.take (j + 1)) 0 * b ^ (w - (j + 1)) - hv b (l.take (j + 1)).reverse 0) l (l.length : Int) ((j + 1 : Nat) : Int)
      have hx := hd l[j] (List.getElem_mem hj)
      obtain ⟨d, hdd⟩ : ∃ d, d = l[j] := ⟨_, rfl⟩
      have ht : (l.take j).length = j := by simp; omega
      have ht1 : (l.take (j + 1)).length = j + 1 := by simp; omega
      have b1 := hv_bound hb (l.take j) 0 (fun x hx => hd x (List.mem_of_mem_take hx)) (by omega)
      have b2 := hv_bound hb (l.take (j + 1)) 0 (fun x hx => hd x (List.mem_of_mem_take hx)) (by omega)
      have b3 := hv_bound hb (l.take j).reverse 0 (fun x hx => hd x (List.mem_of_mem_take (List.mem_reverse.1 hx))) (by omega)
      have b4 := hv_bound hb (l.take (j + 1)).reverse 0 (fun x hx => hd x (List.mem_of_mem_take (List.mem_reverse.1 hx))) (by omega)
      rw [List.length_reverse] at b3 b4
      rw [ht] at b1 b3
      rw [ht1] at b2 b4
      have p1 := ipow16 hb hb2 (m := w - 1 - j) (by omega)
      have p2 := ipow16 hb hb2 (m := j) (by omega)
      have p3 := ipow16 hb hb2 (m := j + 1) (by omega)
      have p4 := ipow16 hb hb2 (m := w - j) (by omega)
      have ew : b ^ (w - j) = b * b ^ (w - 1 - j) := by rw [Int.mul_comm, ← Int.pow_succ]; congr 1; omega
      have e1 : hv b (l.take (j + 1)) 0 = hv b (l.take j) 0 * b + d := by rw [take_s hj, hv_append, hdd]; rfl
      have e2 : hv b (l.take (j + 1)).reverse 0 = d * b ^ j + hv b (l.take j).reverse 0 := by
        rw [take_s hj, List.reverse_append, List.reverse_singleton, List.singleton_append, hv, hv_start, List.length_reverse, ht, ← hdd, Int.zero_mul, Int.zero_add]
      have e3 : w - (j + 1) = w - 1 - j := by omega
      have n1 : wrap64 (wrap64 ((w : Int) - 1) - (j : Int)) = ((w - 1 - j : Nat) : Int) := by rw [w64 (n := (w : Int) - 1) (by omega) (by omega), w64 (by omega) (by omega)]; omega
      have t1 : hv b (l.take (j + 1)) 0 * b ^ (w - 1 - j) = hv b (l.take j) 0 * b ^ (w - j) + d * b ^ (w - 1 - j) := by
        rw [e1, Int.add_mul, ew, Int.mul_assoc]
      have q1 : 0 ≤ d * b ^ (w - 1 - j) ∧ d * b ^ (w - 1 - j) ≤ 16 * 4294967296 := ⟨Int.mul_nonneg (by omega) (by omega), Int.mul_le_mul (by omega) p1.2 (by omega) (by omega)⟩
      have q2 : 0 ≤ d * b ^ j ∧ d * b ^ j ≤ 16 * 4294967296 := ⟨Int.mul_nonneg (by omega) (by omega), Int.mul_le_mul (by omega) p2.2 (by omega) (by omega)⟩
      have q3 : 0 ≤ hv b (l.take j) 0 * b ^ (w - j) ∧ hv b (l.take j) 0 * b ^ (w - j) ≤ 4294967296 * 4294967296 / 8 := by
        refine ⟨Int.mul_nonneg b1.1 (by omega), ?_⟩
        have f1 : hv b (l.take j) 0 * b ^ (w - j) ≤ b ^ j * b ^ (w - j) := Int.mul_le_mul_of_nonneg_right (by omega) (by omega)
        have f2 : b ^ j * b ^ (w - j) = b ^ w := by rw [← Int.pow_add]; congr 1; omega
        have f3 := ipow16 hb hb2 (m := w) hw
        omega
      have q4 : d * (b ^ (w - 1 - j) - b ^ j) = d * b ^ (w - 1 - j) - d * b ^ j := Int.mul_sub _ _ _
      rw [impl_byGaps.l0, if_pos (by omega), if_pos (by omega), if_pos (by omega), n1, toPower_eq (by omega) hb2 _ (by omega) k (by omega), toPower_eq (by omega) hb2 _ (by omega) k (by omega), rd_get hj, ← hdd, w64s (by omega), e3, t1, e2]
      simp only [Option.bind_some]
      rw [w64 (n := b ^ (w - 1 - j) - b ^ j) (by omega) (by omega), q4]
      generalize hv b (l.take j) 0 * b ^ (w - j) = A at *
      generalize hv b (l.take j).reverse 0 = B at *
      generalize d * b ^ (w - 1 - j) = C at *
      generalize d * b ^ j = D at *
      rw [w64 (n := C - D) (by omega) (by omega), w64 (by omega) (by omega)]
      congr 1
      omega)
    (fun k _ => by
      show impl_byGaps.l0 (k + 1) (w : Int) b (hv b (l.take l.length) 0 * b ^ (w - l.length) - hv b (l.take l.length).reverse 0) l (l.length : Int) (l.length : Int) = _
      rw [impl_byGaps.l0, if_neg (by omega), List.take_length])
    k (by omega)
  have e0 : hv b (l.take 0) 0 * b ^ (w - 0) - hv b (l.take 0).reverse 0 = 0 := by simp [hv]
  unfold impl_byGaps.f
  simp only [e0] at h
  exact h
theorem gpCopy (b : Int) (l : List Int) (w : Nat) (hw : w ≤ 8) (hlw : l.length ≤ w) (R : List Int) (K : Nat) (hR : ∀ k, K ≤ k → spec_gpStep.f k (l ++ List.replicate (w - l.length) 0) b = some R) {k : Nat} (hk : K + l.length < k) : spec_gpBy.f k l (w : Int) b = some R := by
  have h := run0 (fun k (s : List Int × Int) => spec_gpBy.l0 k b s.1 l (l.length : Int) s.2) l.length K (fun j => (l.take j ++ List.replicate (w - j) 0, (j : Int))) R
    (fun j hj k _ => by
      show spec_gpBy.l0 (k + 1) b (l.take j ++ List.replicate (w - j) 0) l (l.length : Int) (j : Int) = spec_gpBy.l0 k b (l.take (j + 1) ++ List.replicate (w - (j + 1)) 0) l (l.length : Int) ((j + 1 : Nat) : Int)
      have e : List.replicate (w - j) (0 : Int) = 0 :: List.replicate (w - (j + 1)) 0 := by
        rw [show w - j = (w - (j + 1)) + 1 by omega, List.replicate_succ]
      have hm : (l.take j).length = j := by simp; omega
      have hs := set_mid (l.take j) (List.replicate (w - (j + 1)) 0) 0 l[j]
      rw [hm] at hs
      rw [spec_gpBy.l0, if_pos (by omega), if_pos (by omega), if_pos (by omega), if_pos (by simp; omega), w64s (by omega), e, Int.toNat_natCast, rd_get hj, hs, take_s hj, List.append_assoc]; rfl)
    (fun k hk => by
      show spec_gpBy.l0 (k + 1) b (l.take l.length ++ List.replicate (w - l.length) 0) l (l.length : Int) (l.length : Int) = _
      rw [spec_gpBy.l0, if_neg (by omega), List.take_length, hR k hk]; rfl)
    k (by omega)
  unfold spec_gpBy.f
  rw [if_pos (by omega), if_pos (by omega), Int.toNat_natCast]
  simpa using h
theorem desc_zeros {b : Int} : ∀ (l : List Int) (m : Nat), desc l = true → (∀ x ∈ l, 0 ≤ x) → (l ++ List.replicate m 0).Pairwise (fun a b => b ≤ a) := fun l m h h0 => by
  rw [List.pairwise_append]
  refine ⟨desc_pairwise h, ?_, fun x hx y hy => by rw [List.eq_of_mem_replicate hy]; exact h0 x hx⟩
  rw [List.pairwise_replicate]; right; omega
theorem gpStep_eq {b : Int} (hb : 2 ≤ b) (hb2 : b ≤ 16) (l : List Int) (w : Nat) (hw : w ≤ 8) (hlw : l.length ≤ w) (hd : ∀ x ∈ l, 0 ≤ x ∧ x ≤ b - 1) (hdes : desc l = true) :
    ∃ c, ∀ k, spec_gpStep.f (k + c) (l ++ List.replicate (w - l.length) 0) b = some (wdI b w (hv b l 0 * b ^ (w - l.length) - hv b l.reverse 0) []) := by
  obtain ⟨m, hm⟩ : ∃ m, m = l ++ List.replicate (w - l.length) 0 := ⟨_, rfl⟩
  have hml : m.length = w := by rw [hm]; simp; omega
  have hmd : ∀ x ∈ m, 0 ≤ x ∧ x ≤ b - 1 := fun x hx => by
    rw [hm, List.mem_append] at hx
    rcases hx with h | h
    · exact hd x h
    · rw [List.eq_of_mem_replicate h]; omega
  have hs : srt m = m.reverse := by
    refine srt_unique ?_ (List.reverse_perm m)
    rw [List.pairwise_reverse, hm]
    refine (desc_zeros (b := b) l (w - l.length) hdes (fun x hx => (hd x hx).1)).imp ?_
    intro a c h
    simpa [le] using h
  obtain ⟨c, hc⟩ := dgSorted_eq m (by omega)
  have e1 : hv b m 0 = hv b l 0 * b ^ (w - l.length) := by rw [hm, hv_append, hv_zeros]
  have e2 : hv b m.reverse 0 = hv b l.reverse 0 := by
    rw [hm, List.reverse_append, hv_append, List.reverse_replicate, hv_zeros, Int.zero_mul]
  have p := ipow16 hb hb2 (m := w) hw
  have hv1 := hv_bound hb m 0 hmd (by omega)
  have hv2 := hv_bound hb m.reverse 0 (fun x hx => hmd x (List.mem_reverse.1 hx)) (by omega)
  rw [List.length_reverse] at hv2
  rw [hml] at hv1 hv2
  rw [← hm]
  refine ⟨c + w + 1, fun k => ?_⟩
  have hg1 : gvalL b m 0 = hv b m 0 := gvalL_exact hb hb2 m 0 hmd (by omega) (by rw [hml, Int.zero_add, Int.one_mul]; exact p.2)
  have hg2 : gvalL b m.reverse 0 = hv b m.reverse 0 := gvalL_exact hb hb2 m.reverse 0 (fun x hx => hmd x (List.mem_reverse.1 hx)) (by omega) (by rw [List.length_reverse, hml, Int.zero_add, Int.one_mul]; exact p.2)
  unfold spec_gpStep.f
  rw [show k + (c + w + 1) = (k + w + 1) + c by omega, hc, hs]
  simp only [Option.bind_some]
  rw [dgBack_eq m.reverse (by simp; omega) (by simp; omega), List.reverse_reverse]
  simp only [Option.bind_some]
  rw [gpValue_eq b m (by omega) (by omega), gpValue_eq b m.reverse (by simp; omega) (by simp; omega), hml, hg1, hg2, e1, e2]
  simp only [Option.bind_some]
  rw [e1] at hv1
  rw [e2] at hv2
  rw [w64 (by omega) (by omega), gpWith_eq (by omega) _ w (by omega) (by omega)]; rfl
theorem StepByGaps_both (l : List Int) (w b : Int) (hl : l.length ≤ 1048576) : ∃ (K : Nat) (r : List Int) (ok : Bool), r.length ≤ 1000 ∧ ∀ k, K ≤ k → spec_StepByGaps.f k l w b = some (r, ok) ∧ impl_StepByGaps.f k l w b = some (r, ok) := by
  by_cases hb : 2 ≤ b ∧ b ≤ 16
  · by_cases hw : 1 ≤ w ∧ w ≤ 8
    · obtain ⟨v, rfl⟩ := Int.eq_ofNat_of_zero_le (show 0 ≤ w by omega)
      have hh : wrap64 (Int.tdiv (v : Int) 2) = ((v / 2 : Nat) : Int) := by
        rw [show (2 : Int) = ((2 : Nat) : Int) from rfl, tdiv_nat, w64n (by omega)]
      have hb1 : wrap64 (b - 1) = b - 1 := w64 (by omega) (by omega)
      by_cases hlen : l.length = v / 2
      · cases h2 : between 0 (b - 1) l with
        | false =>
          refine ⟨l.length + 2, [], false, by simp, fun k hk => ?_⟩
          obtain ⟨k, rfl⟩ : ∃ q, k = q + 1 := ⟨k - 1, by omega⟩
          refine ⟨?_, ?_⟩
          · simp only [spec_StepByGaps.f, dgBase_eq, l1In_eq, hb, hw, hh, hb1, l1All_eq l _ _ (by omega) (show _ < k + 1 by omega), h2]
            simp [hlen, spec_StepByGaps.j0]
          · simp only [impl_StepByGaps.f, isBase_eq, impl_isWidth.f, in_eq, hb, hw, hh, hb1, areIn_eq, h2]
            simp [impl_StepByGaps.j0]
        | true =>
          have hd : ∀ x ∈ l, 0 ≤ x ∧ x ≤ b - 1 := between_mem h2
          have a1 : ∀ k, l.length < k → spec_StepByGaps.f (k + 1) l (v : Int) b = spec_StepByGaps.l0 k l (v : Int) b 1 := fun k hk => by
            simp only [spec_StepByGaps.f, dgBase_eq, l1In_eq, hb, hw, hh, hb1, l1All_eq l _ _ (by omega) (show _ < k + 1 by omega), h2]
            simp [hlen, spec_StepByGaps.j0]
          have a2 : ∀ k, l.length < k → impl_StepByGaps.f (k + 1) l (v : Int) b = impl_StepByGaps.j0 (k + 1) l (v : Int) b (!(desc l)) := fun k hk => by
            simp only [impl_StepByGaps.f, isBase_eq, impl_isWidth.f, in_eq, hb, hw, hh, hb1, areIn_eq, h2, reversed_eq l hl (show _ < k + 1 by omega)]
            simp [hlen, isSorted_rev l (by omega) (show _ < k + 1 by omega)]
          have hzl : (l ++ List.replicate (v - l.length) (0 : Int)).length = v := by simp; omega
          cases hdes : desc l with
          | true =>
            obtain ⟨c, hc⟩ := gpStep_eq hb.1 hb.2 l v (by omega) (by omega) hd hdes
            obtain ⟨R, hR⟩ : ∃ R, R = wdI b v (hv b l 0 * b ^ (v - l.length) - hv b l.reverse 0) [] := ⟨_, rfl⟩
            have hgb : ∀ k, c + l.length + 1 ≤ k → spec_gpBy.f k l (v : Int) b = some R := fun k hk =>
              gpCopy b l v (by omega) (by omega) R c (fun k hk => by have := hc (k - c); rw [Nat.sub_add_cancel hk, ← hR] at this; exact this) (by omega)
            refine ⟨c + 3 * l.length + 50, R, true, by rw [hR, wdI_length]; simp; omega, fun k hk => ?_⟩
            obtain ⟨k, rfl⟩ : ∃ q, k = q + 1 := ⟨k - 1, by omega⟩
            refine ⟨?_, ?_⟩
            · rw [a1 k (by omega)]
              have := stepS_loop l (v : Int) b (by omega) R (c + l.length + 1) hgb l.length 1 (by omega) (by omega) k (by omega)
              rw [Nat.sub_self, List.drop_zero, if_pos hdes] at this
              exact this
            · rw [a2 k (by omega), hdes, impl_StepByGaps.j0, if_neg (by simp), byGaps_eq hb.1 hb.2 l v (by omega) (by omega) hd (by omega)]
              simp only [Option.bind_some]
              rw [wordOf_same, gpWith_eq (by omega) _ v (by omega) (by omega), ← hR]; rfl
          | false =>
            -- the reference falls out before it asks
            have hfail : ∀ (m j : Nat), 1 ≤ j → l.length ≤ j + m → desc (l.drop (j - 1)) = false → ∀ k, m < k → spec_StepByGaps.l0 k l (v : Int) b (j : Int) = some ([], false) := by
              intro m
              induction m with
              | zero => intro j hj h hf; rw [desc_end (by omega)] at hf; cases hf
              | succ m ih =>
                intro j hj h hf k hk
                obtain ⟨k, rfl⟩ : ∃ m, k = m + 1 := ⟨k - 1, by omega⟩
                by_cases hlt : j < l.length
                · have e1 : wrap64 ((j : Int) - 1) = ((j - 1 : Nat) : Int) := by rw [w64 (by omega) (by omega)]; omega
                  rw [spec_StepByGaps.l0, if_pos (by omega), if_pos (by omega), e1, if_pos (by omega), if_pos (by omega), rd_get hlt, rd_get (show j - 1 < l.length by omega)]
                  by_cases hc : l[j] ≤ l[j - 1]
                  · rw [if_neg (by omega), w64s (by omega)]
                    refine ih (j + 1) (by omega) (by omega) ?_ k (by omega)
                    rw [desc_drop hj hlt] at hf
                    rw [Nat.add_sub_cancel]
                    simpa [hc] using hf
                  · rw [if_pos (by omega)]
                · rw [desc_end (by omega)] at hf; cases hf
            refine ⟨l.length + 3, [], false, by simp, fun k hk => ?_⟩
            obtain ⟨k, rfl⟩ : ∃ q, k = q + 1 := ⟨k - 1, by omega⟩
            refine ⟨?_, ?_⟩
            · rw [a1 k (by omega)]
              exact hfail l.length 1 (by omega) (by omega) (by simpa using hdes) k (by omega)
            · rw [a2 k (by omega), hdes, impl_StepByGaps.j0]; rfl
      · refine ⟨2, [], false, by simp, fun k hk => ?_⟩
        obtain ⟨k, rfl⟩ : ∃ q, k = q + 1 := ⟨k - 1, by omega⟩
        refine ⟨?_, ?_⟩
        · simp only [spec_StepByGaps.f, dgBase_eq, l1In_eq, hb, hw, hh]
          generalize v / 2 = q at *
          simp [spec_StepByGaps.j0]
          intro h
          exact absurd h (by omega)
        · simp only [impl_StepByGaps.f, isBase_eq, impl_isWidth.f, in_eq, hb, hw, hh, areIn_eq]
          generalize v / 2 = q at *
          have : decide ((q : Int) ≤ (l.length : Int) ∧ (l.length : Int) ≤ (q : Int)) = false := decide_eq_false (by omega)
          rw [this]
          simp [impl_StepByGaps.j0]
    · refine ⟨1, [], false, by simp, fun k hk => ?_⟩
      obtain ⟨k, rfl⟩ : ∃ q, k = q + 1 := ⟨k - 1, by omega⟩
      exact ⟨by simp [spec_StepByGaps.f, dgBase_eq, l1In_eq, hb, hw, spec_StepByGaps.j0], by simp [impl_StepByGaps.f, impl_StepByGaps.j0, isBase_eq, impl_isWidth.f, in_eq, hb, hw]⟩
  · refine ⟨1, [], false, by simp, fun k hk => ?_⟩
    obtain ⟨k, rfl⟩ : ∃ q, k = q + 1 := ⟨k - 1, by omega⟩
    exact ⟨by simp [spec_StepByGaps.f, dgBase_eq, hb, spec_StepByGaps.j0], by simp [impl_StepByGaps.f, impl_StepByGaps.j0, isBase_eq, hb]⟩
theorem StepByGaps_law : laws_FnExactStepByGaps.Pure := by
  intro l w b _ _ _ _ _
  by_cases hl : (l.length : Int) > 1048576
  · exact ⟨0, by rw [laws_FnExactStepByGaps.f, if_pos hl]⟩
  obtain ⟨K0, r, ok, hr, h0⟩ := StepByGaps_both l w b (by omega)
  obtain ⟨K, hK⟩ : ∃ K, K = K0 + l.length + r.length + 1 := ⟨_, rfl⟩
  have hTl : ∀ k, K ≤ k → laws_toIntS.f k l = some l := fun k h => (law_facts l r (by omega) (by omega) (show _ < k by omega)).1
  have hEl : ∀ k, K ≤ k → laws_eqIntS.f k l l = some true := fun k h => (law_facts l r (by omega) (by omega) (show _ < k by omega)).2.1
  have hMl : ∀ k, K ≤ k → laws_markIntS.f k l 1 = some (1 + (l.length : Int), marks 1 l.length) := fun k h => (law_facts l r (by omega) (by omega) (show _ < k by omega)).2.2.2.1
  have hNl := neg_no l
  have hE : ∀ k, K ≤ k → laws_eqIntS.f k r r = some true := fun k h => (law_facts [] r (by simp) (by omega) (show _ < k by simp; omega)).2.2.1
  have hM : ∀ k, K ≤ k → laws_markIntS.f k r 1 = some (1 + (r.length : Int), marks 1 r.length) := fun k h => (law_facts [] r (by simp) (by omega) (show _ < k by simp; omega)).2.2.2.2.1
  have hH : ∀ k, K ≤ k → laws_heldIntS.f k (marks 1 r.length) 1 = some (1 + (r.length : Int)) := fun k h => (law_facts [] r (by simp) (by omega) (show _ < k by simp; omega)).2.2.2.2.2
  have hN := neg_no r
  have e1 : ∀ k, K ≤ k → spec_StepByGaps.f k l w b = some (r, ok) := fun k h => (h0 k (by omega)).1
  have e2 : ∀ k, K ≤ k → impl_StepByGaps.f k l w b = some (r, ok) := fun k h => (h0 k (by omega)).2
  refine ⟨K + 9, ?_⟩
  simp [laws_FnExactStepByGaps.f, laws_FnExactStepByGaps.j0, laws_FnExactStepByGaps.j1, laws_FnExactStepByGaps.j2, hE, hM, hH, hN, e1, e2, hl, hTl, hEl, hMl, hNl]

end Go.Proofs.YtndbfkgcmckjlaaC
