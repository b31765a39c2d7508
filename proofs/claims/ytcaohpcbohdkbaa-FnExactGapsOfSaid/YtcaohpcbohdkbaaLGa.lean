/-
  The reference's sorting is the one sorting; the plain law of GapsOf. No conditions.
-/
import Derived.Test.YtcaohpcbohdkbaaLB
import Derived.Test.YtcaohpcbohdkbaaCGa
namespace Go.Proofs.YtcaohpcbohdkbaaC
open Go.RowKit Go.Proofs.YtcaohpcbohdkbaaW.PrintWords Go.Proofs.YtcaohpcbohdkbaaW.PrintMore
set_option linter.unusedSimpArgs false
set_option linter.unusedVariables false

/-! ### sorting -/
def le (x y : Int) : Bool := decide (x ≤ y)
def insL (x : Int) (l : List Int) : List Int := l.takeWhile (fun y => decide (y ≤ x)) ++ x :: l.dropWhile (fun y => decide (y ≤ x))
theorem insL_perm (x : Int) (l : List Int) : (insL x l).Perm (x :: l) := by
  unfold insL
  refine List.perm_middle.trans ?_
  rw [List.takeWhile_append_dropWhile]
theorem insL_length (x : Int) (l : List Int) : (insL x l).length = l.length + 1 := by
  rw [(insL_perm x l).length_eq]; rfl
theorem insL_sorted (x : Int) : ∀ (l : List Int), l.Pairwise (fun a b => le a b = true) → (insL x l).Pairwise (fun a b => le a b = true)
  | [], _ => by simp [insL]
  | y :: l, h => by
    rw [List.pairwise_cons] at h
    by_cases hc : y ≤ x
    · have e : insL x (y :: l) = y :: insL x l := by simp [insL, List.takeWhile_cons, List.dropWhile_cons, hc]
      rw [e, List.pairwise_cons]
      refine ⟨fun z hz => ?_, insL_sorted x l h.2⟩
      rcases List.mem_cons.1 ((insL_perm x l).mem_iff.1 hz) with rfl | h2
      · simpa [le] using hc
      · exact h.1 z h2
    · have e : insL x (y :: l) = x :: y :: l := by simp [insL, List.takeWhile_cons, List.dropWhile_cons, hc]
      rw [e, List.pairwise_cons, List.pairwise_cons]
      refine ⟨fun z hz => ?_, h⟩
      rcases List.mem_cons.1 hz with rfl | h2
      · simp only [le, decide_eq_true_eq]; omega
      · have := h.1 z h2
        simp only [le, decide_eq_true_eq] at this ⊢; omega
theorem own_eq (l : List Int) (hl : l.length ≤ 1048576) : spec_l1Own.f l = some l := by
  simp [spec_l1Own.f, show l.length < 17592186044416 by omega]
theorem sorted_in (xs : List Int) (x i : Int) : ∀ (suf pre : List Int), (pre ++ suf).length ≤ 1048576 → ∃ c, ∀ k, spec_dgSorted.l1 (k + c) (pre ++ suf) x (pre.length : Int) xs (xs.length : Int) i = spec_dgSorted.l0 k (pre ++ insL x suf) xs (xs.length : Int) (wrap64 (i + 1)) := by
  intro suf
  induction suf with
  | nil =>
    intro pre hl
    refine ⟨1, fun k => ?_⟩
    rw [List.append_nil] at hl ⊢
    rw [spec_dgSorted.l1, if_neg (by omega), if_pos (by omega), if_pos (by omega), Int.toNat_natCast, List.take_length, own_eq pre hl]
    simp only [Option.bind_some]
    rw [if_pos (by omega), List.drop_length]
    simp [insL, show pre.length + 1 < 17592186044416 by omega]
  | cons y suf ih =>
    intro pre hl
    have hlen : (pre ++ y :: suf).length = pre.length + suf.length + 1 := by simp; omega
    have hr : rd (pre ++ y :: suf) (pre.length : Int) = y := rd_mid _ _ _
    by_cases hc : y ≤ x
    · obtain ⟨c, h⟩ := ih (pre ++ [y]) (by simpa using hl)
      have e : insL x (y :: suf) = y :: insL x suf := by simp [insL, List.takeWhile_cons, List.dropWhile_cons, hc]
      refine ⟨c + 1, fun k => ?_⟩
      have := h k
      rw [List.append_assoc, List.singleton_append, List.append_assoc, List.singleton_append, List.length_append, List.length_singleton] at this
      rw [← Nat.add_assoc, spec_dgSorted.l1, if_pos (by omega), if_pos (by omega), hr, if_pos hc, w64s (by omega), e]
      exact this
    · have e : insL x (y :: suf) = x :: y :: suf := by simp [insL, List.takeWhile_cons, List.dropWhile_cons, hc]
      refine ⟨1, fun k => ?_⟩
      rw [spec_dgSorted.l1, if_pos (by omega), if_pos (by omega), hr, if_neg hc, if_pos (by omega), Int.toNat_natCast, List.take_left, own_eq pre (by omega)]
      simp only [Option.bind_some]
      rw [if_pos (by omega), List.drop_left, if_pos (by simp; omega), e, List.append_assoc]; rfl
theorem sorted_loop (xs : List Int) (hx : xs.length ≤ 1000000) : ∀ (suf pre acc : List Int), xs = pre ++ suf → acc.length = pre.length → ∃ c, ∀ k, spec_dgSorted.l0 (k + c) acc xs (xs.length : Int) (pre.length : Int) = some (suf.foldl (fun a x => insL x a) acc) := by
  intro suf
  induction suf with
  | nil =>
    intro pre acc h ha
    refine ⟨1, fun k => ?_⟩
    subst h
    rw [spec_dgSorted.l0, if_neg (by simp)]; rfl
  | cons x suf ih =>
    intro pre acc h ha
    have hl : xs.length = pre.length + suf.length + 1 := by subst h; simp; omega
    have e : rd xs (pre.length : Int) = x := by subst h; exact rd_mid _ _ _
    obtain ⟨c1, h1⟩ := sorted_in xs x (pre.length : Int) acc [] (by simp; omega)
    obtain ⟨c2, h2⟩ := ih (pre ++ [x]) (insL x acc) (by simp [h]) (by rw [insL_length]; simp; omega)
    refine ⟨c2 + c1 + 1, fun k => ?_⟩
    have h3 := h1 (k + c2)
    rw [List.nil_append, List.nil_append, w64s (by omega)] at h3
    have h4 := h2 k
    rw [List.length_append, List.length_singleton] at h4
    rw [← Nat.add_assoc, ← Nat.add_assoc, spec_dgSorted.l0, if_pos (by omega), if_pos (by omega), if_pos (by omega), e]
    exact h3.trans h4
theorem fold_ins : ∀ (l acc : List Int), acc.Pairwise (fun a b => le a b = true) → (l.foldl (fun a x => insL x a) acc).Pairwise (fun a b => le a b = true) ∧ (l.foldl (fun a x => insL x a) acc).Perm (l ++ acc)
  | [], acc, h => ⟨h, List.Perm.refl _⟩
  | x :: l, acc, h => by
    obtain ⟨h1, h2⟩ := fold_ins l (insL x acc) (insL_sorted x acc h)
    refine ⟨h1, h2.trans ?_⟩
    exact ((insL_perm x acc).append_left l).trans List.perm_middle
theorem le_trans_ (a b c : Int) (h1 : le a b = true) (h2 : le b c = true) : le a c = true := by
  simp only [le, decide_eq_true_eq] at *; omega
theorem le_total_ (a b : Int) : (le a b || le b a) = true := by
  simp only [le, Bool.or_eq_true, decide_eq_true_eq]; omega
/-- The sorting of a list. -/
def srt (l : List Int) : List Int := l.mergeSort le
theorem srt_sorted (l : List Int) : (srt l).Pairwise (fun a b => le a b = true) := List.pairwise_mergeSort le_trans_ le_total_ l
theorem srt_perm (l : List Int) : (srt l).Perm l := List.mergeSort_perm l le
theorem srt_unique {l m : List Int} (h1 : m.Pairwise (fun a b => le a b = true)) (h2 : m.Perm l) : srt l = m :=
  List.Perm.eq_of_pairwise (le := fun a b => le a b = true) (fun a b _ _ h3 h4 => by simp only [le, decide_eq_true_eq] at h3 h4; omega) (srt_sorted l) h1 ((srt_perm l).trans h2.symm)
theorem srt_length (l : List Int) : (srt l).length = l.length := (srt_perm l).length_eq
theorem dgSorted_eq (l : List Int) (hl : l.length ≤ 1000000) : ∃ c, ∀ k, spec_dgSorted.f (k + c) l = some (srt l) := by
  obtain ⟨c, h⟩ := sorted_loop l hl l [] [] rfl rfl
  obtain ⟨h1, h2⟩ := fold_ins l [] List.Pairwise.nil
  refine ⟨c, fun k => ?_⟩
  rw [srt_unique h1 (by simpa using h2)]
  exact h k

/-! ### gaps -/
theorem gaps_same (l s : List Int) (hl : s.length = l.length) : ∀ (k : Nat) (out : List Int) (i : Int), spec_gpGaps.l0 k l s out i = impl_gaps.l0 k s out (wrap64 ((s.length : Int) / 2)) i
  | 0, _, _ => rfl
  | k + 1, out, i => by simp only [spec_gpGaps.l0, impl_gaps.l0, hl, gaps_same l s hl k]
theorem gaps_idx {n i : Nat} (h : 2 * i + 1 < n + 1) (hn : n ≤ 1000) (h0 : 0 < n) : wrap64 ((wrap64 ((n : Int) - 1)) - (i : Int)) = ((n - 1 - i : Nat) : Int) := by
  rw [w64 (n := (n : Int) - 1) (by omega) (by omega), w64 (by omega) (by omega)]; omega
theorem gaps_loop (s : List Int) (hs : s.length ≤ 1000) : ∀ (d i : Nat) (out : List Int), i + d = s.length / 2 → out.length = i → ∃ r : List Int, r.length ≤ 1000 ∧ ∀ k, d < k → impl_gaps.l0 k s out ((s.length / 2 : Nat) : Int) (i : Int) = some r
  | 0, i, out, hi, ho => ⟨out, by omega, fun k hk => by
    obtain ⟨k, rfl⟩ : ∃ q, k = q + 1 := ⟨k - 1, by omega⟩
    rw [impl_gaps.l0, if_neg (by omega)]⟩
  | d + 1, i, out, hi, ho => by
    have hx := gaps_idx (n := s.length) (i := i) (by omega) hs (by omega)
    obtain ⟨r, hr, h⟩ := gaps_loop s hs d (i + 1) (out ++ [wrap64 ((rd s ((s.length - 1 - i : Nat) : Int)) - (rd s (i : Int)))]) (by omega) (by simp; omega)
    refine ⟨r, hr, fun k hk => ?_⟩
    obtain ⟨k, rfl⟩ : ∃ q, k = q + 1 := ⟨k - 1, by omega⟩
    rw [impl_gaps.l0, if_pos (by omega), hx, if_pos (by omega), if_pos (by omega), if_pos (by omega), if_pos (by omega), if_pos (by omega), w64s (by omega)]
    exact h k (by omega)
theorem gaps_both (l : List Int) (hl : l.length ≤ 1000) : ∃ (K : Nat) (r : List Int), r.length ≤ 1000 ∧ ∀ k, K ≤ k → spec_gpGaps.f k l = some r ∧ impl_gaps.f k l = some r := by
  obtain ⟨c, hc⟩ := dgSorted_eq l (by omega)
  have hsl := srt_length l
  obtain ⟨r, hr, h⟩ := gaps_loop (srt l) (by omega) ((srt l).length / 2) 0 [] (by omega) rfl
  have hw : wrap64 (((srt l).length : Int) / 2) = (((srt l).length / 2 : Nat) : Int) := by rw [w64 (by omega) (by omega)]; omega
  refine ⟨c + l.length + 10, r, hr, fun k hk => ⟨?_, ?_⟩⟩
  · obtain ⟨q, rfl⟩ : ∃ q, k = q + c := ⟨k - c, by omega⟩
    rw [spec_gpGaps.f, hc q, Option.bind_some, gaps_same l (srt l) hsl, hw]
    exact h _ (by omega)
  · rw [impl_gaps.f, slices_Sorted_int.f, if_pos (by omega), Option.bind_some, show (l.mergeSort fun x y => decide (x ≤ y)) = srt l from rfl, hw]
    exact h _ (by omega)
theorem GapsOf_both (l : List Int) (b : Int) (hl : l.length ≤ 1048576) : ∃ (K : Nat) (r : List Int) (ok : Bool), r.length ≤ 1000 ∧ ∀ k, K ≤ k → spec_GapsOf.f k l b = some (r, ok) ∧ impl_GapsOf.f k l b = some (r, ok) := by
  by_cases hb : 2 ≤ b ∧ b ≤ 16
  · by_cases h1 : 1 ≤ (l.length : Int) ∧ (l.length : Int) ≤ 8
    · cases h2 : between 0 (wrap64 (b - 1)) l with
      | false => exact ⟨l.length + 1, [], false, by simp, fun k hk => ⟨by simp [spec_GapsOf.f, spec_gpWord.f, dgBase_eq, hb, l1In_eq, h1, l1All_eq l _ _ (by omega) (show _ < k by omega), h2], by simp [impl_GapsOf.f, impl_isWord.f, isBase_eq, hb, areIn_eq, h2]⟩⟩
      | true =>
        obtain ⟨K, r, hr, h⟩ := gaps_both l (by omega)
        refine ⟨K + l.length + 1, r, true, hr, fun k hk => ?_⟩
        obtain ⟨e1, e2⟩ := h k (by omega)
        exact ⟨by simp [spec_GapsOf.f, spec_gpWord.f, dgBase_eq, hb, l1In_eq, h1, l1All_eq l _ _ (by omega) (show _ < k by omega), h2, e1], by simp [impl_GapsOf.f, impl_isWord.f, isBase_eq, hb, areIn_eq, h1, h2, e2]⟩
    · exact ⟨0, [], false, by simp, fun k hk => ⟨by simp [spec_GapsOf.f, spec_gpWord.f, dgBase_eq, hb, l1In_eq, h1], by simp [impl_GapsOf.f, impl_isWord.f, isBase_eq, hb, areIn_eq, h1]⟩⟩
  · exact ⟨0, [], false, by simp, fun k hk => ⟨by simp [spec_GapsOf.f, spec_gpWord.f, dgBase_eq, hb], by simp [impl_GapsOf.f, impl_isWord.f, isBase_eq, hb]⟩⟩
theorem GapsOf_law : laws_FnExactGapsOf.Pure := by
  intro l b _ _ _ _
  by_cases hl : (l.length : Int) > 1048576
  · exact ⟨0, by rw [laws_FnExactGapsOf.f, if_pos hl]⟩
  obtain ⟨K0, r, ok, hr, h0⟩ := GapsOf_both l b (by omega)
  obtain ⟨K, hK⟩ : ∃ K, K = K0 + l.length + r.length + 1 := ⟨_, rfl⟩
  have hTl : ∀ k, K ≤ k → laws_toIntS.f k l = some l := fun k h => (law_facts l r (by omega) (by omega) (show _ < k by omega)).1
  have hEl : ∀ k, K ≤ k → laws_eqIntS.f k l l = some true := fun k h => (law_facts l r (by omega) (by omega) (show _ < k by omega)).2.1
  have hMl : ∀ k, K ≤ k → laws_markIntS.f k l 1 = some (1 + (l.length : Int), marks 1 l.length) := fun k h => (law_facts l r (by omega) (by omega) (show _ < k by omega)).2.2.2.1
  have hNl := neg_no l
  have hE : ∀ k, K ≤ k → laws_eqIntS.f k r r = some true := fun k h => (law_facts [] r (by simp) (by omega) (show _ < k by simp; omega)).2.2.1
  have hM : ∀ k, K ≤ k → laws_markIntS.f k r 1 = some (1 + (r.length : Int), marks 1 r.length) := fun k h => (law_facts [] r (by simp) (by omega) (show _ < k by simp; omega)).2.2.2.2.1
  have hH : ∀ k, K ≤ k → laws_heldIntS.f k (marks 1 r.length) 1 = some (1 + (r.length : Int)) := fun k h => (law_facts [] r (by simp) (by omega) (show _ < k by simp; omega)).2.2.2.2.2
  have hN := neg_no r
  have e1 : ∀ k, K ≤ k → spec_GapsOf.f k l b = some (r, ok) := fun k h => (h0 k (by omega)).1
  have e2 : ∀ k, K ≤ k → impl_GapsOf.f k l b = some (r, ok) := fun k h => (h0 k (by omega)).2
  refine ⟨K + 9, ?_⟩
  simp [laws_FnExactGapsOf.f, laws_FnExactGapsOf.j0, laws_FnExactGapsOf.j1, laws_FnExactGapsOf.j2, hE, hM, hH, hN, e1, e2, hl, hTl, hEl, hMl, hNl]

end Go.Proofs.YtcaohpcbohdkbaaC
