/-
  The plain law of RenameMap over the printed functions. No conditions.
-/
import Derived.Test.YtgjdoeljmnomcaaLMr
import Derived.Test.YtgjdoeljmnomcaaLCt
namespace Go.Proofs.YtgjdoeljmnomcaaC
open Go.RowKit Go.Proofs.YtgjdoeljmnomcaaW.PrintWords Go.Proofs.YtgjdoeljmnomcaaW.PrintMore
set_option linter.unusedSimpArgs false
set_option linter.unusedVariables false

theorem l1Has_loop (xs : List Int) (x : Int) (hx : xs.length ≤ 1048576) : ∀ (d i k : Nat), i + d = xs.length → d < k → (¬ x ∈ xs.take i) → spec_l1Has.l0 k x xs (xs.length : Int) (i : Int) = some (decide (x ∈ xs))
  | 0, i, k, hi, hk, hn => by
    obtain ⟨k, rfl⟩ : ∃ q, k = q + 1 := ⟨k - 1, by omega⟩
    rw [List.take_of_length_le (by omega)] at hn
    rw [spec_l1Has.l0, if_neg (by omega), decide_eq_false hn]
  | d + 1, i, k, hi, hk, hn => by
    obtain ⟨k, rfl⟩ : ∃ q, k = q + 1 := ⟨k - 1, by omega⟩
    have hil : i < xs.length := by omega
    rw [spec_l1Has.l0, if_pos (by omega), if_pos (by omega), if_pos (by omega), rd_get hil]
    by_cases he : xs[i] = x
    · rw [if_pos he, decide_eq_true (he ▸ List.getElem_mem hil)]
    · rw [if_neg he, w64s (by omega)]
      refine l1Has_loop xs x hx d (i + 1) k (by omega) (by omega) ?_
      rw [take_s hil, List.mem_append, List.mem_singleton]
      rintro (h | h)
      · exact hn h
      · exact he h.symm
theorem l1Has_eq (xs : List Int) (x : Int) (hx : xs.length ≤ 1048576) {k : Nat} (hk : xs.length < k) : spec_l1Has.f k xs x = some (decide (x ∈ xs)) := l1Has_loop xs x hx xs.length 0 k (by omega) hk (by simp)
theorem nodup_snoc {xs : List Int} {x : Int} : (xs ++ [x]).Nodup ↔ xs.Nodup ∧ ¬ x ∈ xs := by
  rw [List.nodup_append]
  constructor
  · rintro ⟨h1, _, h3⟩
    exact ⟨h1, fun hm => h3 x hm x (by simp) rfl⟩
  · rintro ⟨h1, h2⟩
    refine ⟨h1, by simp, fun a ha b hb e => ?_⟩
    rw [List.mem_singleton] at hb
    subst hb
    exact h2 (e ▸ ha)
theorem mpNames_loop (xs : List Int) (hx : xs.length ≤ 1048576) : ∀ (d i k : Nat), i + d = xs.length → xs.length + d < k → (xs.take i).Nodup → spec_mpNames.l0 k xs xs (xs.length : Int) (i : Int) = some (decide xs.Nodup)
  | 0, i, k, hi, hk, hn => by
    obtain ⟨k, rfl⟩ : ∃ q, k = q + 1 := ⟨k - 1, by omega⟩
    rw [List.take_of_length_le (by omega)] at hn
    rw [spec_mpNames.l0, if_neg (by omega), decide_eq_true hn]
  | d + 1, i, k, hi, hk, hn => by
    obtain ⟨k, rfl⟩ : ∃ q, k = q + 1 := ⟨k - 1, by omega⟩
    have hil : i < xs.length := by omega
    rw [spec_mpNames.l0, if_pos (by omega), if_pos (by omega), if_pos (by omega), if_pos (by omega), rd_get hil, Int.toNat_natCast, l1Has_eq _ _ (by rw [List.length_take]; omega) (by rw [List.length_take]; omega), Option.bind_some]
    by_cases hm : xs[i] ∈ xs.take i
    · rw [if_pos (by simpa using hm), decide_eq_false]
      intro hnd
      have h2 := hnd.sublist (List.take_sublist (i + 1) xs)
      rw [take_s hil] at h2
      exact (nodup_snoc.1 h2).2 hm
    · rw [if_neg (by simpa using hm), w64s (by omega)]
      refine mpNames_loop xs hx d (i + 1) k (by omega) (by omega) ?_
      rw [take_s hil]
      exact nodup_snoc.2 ⟨hn, hm⟩
/-- Are these names of so many numbers? -/
def namesB (xs : List Int) (n : Nat) : Bool := decide (xs.length = n) && (between 0 ((n : Int) - 1) xs && decide xs.Nodup)
theorem mpNames_eq (xs : List Int) (n : Nat) (hn : n ≤ 60) (hx : xs.length ≤ 1048576) {k : Nat} (hk : 2 * xs.length + 2 < k) : spec_mpNames.f k xs (n : Int) = some (namesB xs n) := by
  obtain ⟨k, rfl⟩ : ∃ q, k = q + 1 := ⟨k - 1, by omega⟩
  rw [spec_mpNames.f, namesB]
  by_cases hl : xs.length = n
  · rw [if_pos (by omega), decide_eq_true hl, w64 (by omega) (by omega), l1All_eq xs _ _ (by omega) (by omega), Option.bind_some, spec_mpNames.j0]
    cases hb : between 0 ((n : Int) - 1) xs with
    | false => rfl
    | true =>
      rw [if_neg (by decide)]
      have := mpNames_loop xs hx xs.length 0 k (by omega) (by omega) (by simp)
      rw [show ((0 : Nat) : Int) = 0 from rfl] at this
      rw [this]; rfl
  · rw [if_neg (by omega), decide_eq_false hl, spec_mpNames.j0, if_pos rfl]; rfl
theorem ints_nodup (n : Nat) : ((List.range n).map Int.ofNat).Nodup := by
  rw [List.nodup_iff_pairwise_ne, List.pairwise_iff_getElem]
  intro i j h1 h2 hij e
  simp at e
  omega
theorem mem_ints {n : Nat} {x : Int} : x ∈ (List.range n).map Int.ofNat ↔ 0 ≤ x ∧ x < (n : Int) := by
  rw [List.mem_map]
  constructor
  · rintro ⟨i, hi, rfl⟩
    rw [List.mem_range] at hi
    simp; omega
  · rintro ⟨h0, h1⟩
    exact ⟨x.toNat, by rw [List.mem_range]; omega, by simp; omega⟩
theorem names_onto {xs : List Int} {n : Nat} (hl : xs.length = n) (hr : ∀ x ∈ xs, 0 ≤ x ∧ x < (n : Int)) : xs.Nodup ↔ ∀ i : Nat, i < n → (i : Int) ∈ xs := by
  constructor
  · intro hn i hi
    refine Classical.byContradiction fun hm => ?_
    have h1 := nodup_le xs (((List.range n).map Int.ofNat).erase (i : Int)) hn (fun x hx => (List.mem_erase_of_ne (show x ≠ (i : Int) from fun e => hm (e ▸ hx))).2 (mem_ints.2 (hr x hx)))
    rw [List.length_erase_of_mem (mem_ints.2 ⟨by omega, by omega⟩)] at h1
    simp at h1
    omega
  · intro ho
    rw [List.nodup_iff_pairwise_ne, List.pairwise_iff_getElem]
    intro i j h1 h2 hij e
    have h3 := nodup_le ((List.range n).map Int.ofNat) (xs.eraseIdx i) (ints_nodup n) (fun x hx => by
      obtain ⟨h4, h5⟩ := mem_ints.1 hx
      have h6 := ho x.toNat (by omega)
      rw [show ((x.toNat : Nat) : Int) = x by omega] at h6
      obtain ⟨q, hq, rfl⟩ := List.getElem_of_mem h6
      rw [List.mem_eraseIdx_iff_getElem]
      by_cases hqi : q = i
      · subst hqi
        exact ⟨j, h2, by omega, e.symm⟩
      · exact ⟨q, hq, hqi, rfl⟩)
    rw [List.length_eraseIdx_of_lt h1] at h3
    simp at h3
    omega
/-- The renamed map after i rounds. -/
def ren (l names : List Int) : Nat → List Int → List Int
  | 0, s => s
  | i + 1, s => (ren l names i s).set (rd names (i : Int)).toNat (rd names (rd l (i : Int)))
theorem ren_length (l names : List Int) : ∀ (i : Nat) (s : List Int), (ren l names i s).length = s.length
  | 0, s => rfl
  | i + 1, s => by rw [ren, List.length_set, ren_length l names i s]
theorem ren_same (l names : List Int) {n : Nat} (s t : List Int) (hs : s.length = n) (ht : t.length = n) : ∀ (i p : Nat) (h1 : p < (ren l names i s).length) (h2 : p < (ren l names i t).length), (∃ j : Nat, j < i ∧ (rd names (j : Int)).toNat = p) → (ren l names i s)[p] = (ren l names i t)[p]
  | 0, p, _, _, ⟨j, hj, _⟩ => by omega
  | i + 1, p, h1, h2, ⟨j, hj, e⟩ => by
    simp only [ren, List.getElem_set]
    by_cases hp : (rd names (i : Int)).toNat = p
    · rw [if_pos hp, if_pos hp]
    · rw [if_neg hp, if_neg hp]
      have hji : j ≠ i := fun hh => hp (hh ▸ e)
      exact ren_same l names s t hs ht i p _ _ ⟨j, by omega, e⟩
theorem rename_same : ∀ (k : Nat) (x1 x6 x22 : List Int) (x23 x24 : Int), impl_RenameMap.l0 k x1 x6 x22 x23 x24 = spec_RenameMap.l0 k x1 x6 x22 x23 x24 := by
  intro k
  induction k with
  | zero => intros; rfl
  | succ k ih => intro x1 x6 x22 x23 x24; simp only [impl_RenameMap.l0, spec_RenameMap.l0, ih]
theorem rename_loop {l names : List Int} {n : Nat} (hl : l.length = n) (hn : names.length = n) (h60 : n ≤ 60) (h : ∀ x ∈ l, 0 ≤ x ∧ x < (n : Int)) (h' : ∀ x ∈ names, 0 ≤ x ∧ x < (n : Int)) (s : List Int) (hs : s.length = n) : ∀ (d i k : Nat), i + d = n → d < k → spec_RenameMap.l0 k names (ren l names i s) l (n : Int) (i : Int) = some (ren l names n s, true)
  | 0, i, k, hi, hk => by
    obtain ⟨k, rfl⟩ : ∃ q, k = q + 1 := ⟨k - 1, by omega⟩
    obtain rfl : i = n := by omega
    rw [spec_RenameMap.l0, if_neg (by omega)]
  | d + 1, i, k, hi, hk => by
    obtain ⟨k, rfl⟩ : ∃ q, k = q + 1 := ⟨k - 1, by omega⟩
    have r1 := rd_range h (i := (i : Int)) (by omega) (by omega)
    have r2 := rd_range h' (i := (i : Int)) (by omega) (by omega)
    rw [spec_RenameMap.l0, if_pos (by omega), if_pos (by omega), if_pos (by omega), if_pos (by omega), if_pos r1.1, if_pos (by omega), if_pos r2.1, if_pos (by rw [ren_length]; omega), w64s (by omega)]
    exact rename_loop hl hn h60 h h' s hs d (i + 1) k (by omega) (by omega)
theorem zero_in_counts {xs : List Int} {n : Nat} (hl : xs.length = n) (h60 : n ≤ 60) (hr : ∀ x ∈ xs, 0 ≤ x ∧ x < (n : Int)) : (0 : Int) ∈ countL n xs ↔ ¬ xs.Nodup := by
  rw [names_onto hl hr]
  constructor
  · intro hm ho
    obtain ⟨i, hi, e⟩ := List.getElem_of_mem hm
    have hin : i < n := by rw [countL_length] at hi; exact hi
    have := countL_at hr (by omega) hin
    rw [rd_get hi, e] at this
    have h2 := List.count_pos_iff.2 (ho i hin)
    omega
  · intro hno
    obtain ⟨i, hi⟩ := Classical.not_forall.1 hno
    obtain ⟨hin, hm⟩ := Classical.not_imp.1 hi
    have := countL_at hr (by omega) hin
    rw [List.count_eq_zero.2 hm, rd_get (show i < (countL n xs).length by rw [countL_length]; exact hin)] at this
    have h3 : (countL n xs)[i]'(by rw [countL_length]; exact hin) = 0 := by simpa using this
    rw [← h3]
    exact List.getElem_mem _
theorem RenameMap_both (l f : List Int) (hl : l.length ≤ 1048576) (hf : f.length ≤ 1048576) : ∃ (K : Nat) (r : List Int) (ok : Bool), r.length ≤ 1000 ∧ ∀ k, K ≤ k → spec_RenameMap.f k l f = some (r, ok) ∧ impl_RenameMap.f k l f = some (r, ok) := by
  cases hm : isMapB l with
  | false =>
    refine ⟨l.length + 2, [], false, by simp, fun k hk => ?_⟩
    obtain ⟨k, rfl⟩ : ∃ q, k = q + 1 := ⟨k - 1, by omega⟩
    exact ⟨by rw [spec_RenameMap.f, mpGood_eq l hl (by omega), hm, Option.bind_some, if_neg (by decide), spec_RenameMap.j0, if_pos rfl], by rw [impl_RenameMap.f, IsMap_eq l hl, hm, Option.bind_some, if_neg (by decide), impl_RenameMap.j0, if_pos rfl]⟩
  | true =>
    obtain ⟨g1, g2, g3⟩ := isMap_range hm
    cases hb : namesB f l.length with
    | false =>
      refine ⟨l.length + 2 * f.length + 300, [], false, by simp, fun k hk => ?_⟩
      obtain ⟨k, rfl⟩ : ∃ q, k = q + 1 := ⟨k - 1, by omega⟩
      refine ⟨by rw [spec_RenameMap.f, mpGood_eq l hl (by omega), hm, Option.bind_some, if_pos rfl, mpNames_eq f l.length g2 hf (by omega), hb, Option.bind_some, spec_RenameMap.j0, if_pos (by decide)], ?_⟩
      rw [impl_RenameMap.f, IsMap_eq l hl, hm, Option.bind_some, if_pos rfl, areIn_eq, w64 (by omega) (by omega), Option.bind_some]
      by_cases hfl : f.length = l.length
      · rw [decide_eq_true (show (l.length : Int) ≤ (f.length : Int) ∧ (f.length : Int) ≤ (l.length : Int) by omega), Bool.true_and]
        cases hbt : between 0 ((l.length : Int) - 1) f with
        | false => rw [if_neg (by decide), impl_RenameMap.j0, if_pos rfl]
        | true =>
          have hr : ∀ x ∈ f, 0 ≤ x ∧ x < (l.length : Int) := fun x hx => by have := between_mem hbt x hx; omega
          rw [namesB, decide_eq_true hfl, hbt, Bool.true_and, Bool.true_and, decide_eq_false_iff_not] at hb
          have hz := (zero_in_counts hfl g2 hr).2 hb
          rw [if_pos rfl, countsOf_is, dgCounts_eq l.length f (by omega) (by omega) (by omega) hr, Option.bind_some, Contains_eq _ _ (by rw [countL_length]; omega) (by rw [countL_length]; omega), decide_eq_true hz, Option.bind_some, impl_RenameMap.j0, if_pos rfl]
      · rw [decide_eq_false (show ¬ ((l.length : Int) ≤ (f.length : Int) ∧ (f.length : Int) ≤ (l.length : Int)) by omega), Bool.false_and, if_neg (by decide), impl_RenameMap.j0, if_pos rfl]
    | true =>
      have hb2 := hb
      rw [namesB, Bool.and_eq_true, Bool.and_eq_true, decide_eq_true_eq, decide_eq_true_eq] at hb2
      obtain ⟨hfl, hbt, hnd⟩ := hb2
      have hr : ∀ x ∈ f, 0 ≤ x ∧ x < (l.length : Int) := fun x hx => by have := between_mem hbt x hx; omega
      have hz : ¬ (0 : Int) ∈ countL l.length f := fun h => (zero_in_counts hfl g2 hr).1 h hnd
      have hon := (names_onto hfl hr).1 hnd
      have hsame : ren l f l.length (List.replicate l.length (-1)) = ren l f l.length (List.replicate l.length 0) := by
        apply List.ext_getElem
        · rw [ren_length, ren_length]; simp
        · intro p h1 h2
          refine ren_same l f (n := l.length) _ _ (by simp) (by simp) l.length p h1 h2 ?_
          rw [ren_length, List.length_replicate] at h1
          obtain ⟨j, hj, e⟩ := List.getElem_of_mem (hon p h1)
          exact ⟨j, by omega, by rw [rd_get hj, e]; simp⟩
      refine ⟨l.length + 2 * f.length + 300, ren l f l.length (List.replicate l.length 0), true, by rw [ren_length]; simp; omega, fun k hk => ?_⟩
      obtain ⟨k, rfl⟩ : ∃ q, k = q + 1 := ⟨k - 1, by omega⟩
      constructor
      · rw [spec_RenameMap.f, mpGood_eq l hl (by omega), hm, Option.bind_some, if_pos rfl, mpNames_eq f l.length g2 hf (by omega), hb, Option.bind_some, spec_RenameMap.j0, if_neg (by decide), if_pos (by omega), if_pos (by rw [Int.toNat_natCast]; omega), Int.toNat_natCast]
        exact rename_loop rfl hfl g2 g3 hr (List.replicate l.length 0) (by simp) l.length 0 k (by omega) (by omega)
      · rw [impl_RenameMap.f, IsMap_eq l hl, hm, Option.bind_some, if_pos rfl, areIn_eq, w64 (by omega) (by omega), Option.bind_some, decide_eq_true (show (l.length : Int) ≤ (f.length : Int) ∧ (f.length : Int) ≤ (l.length : Int) by omega), hbt, if_pos (by rfl), countsOf_is, dgCounts_eq l.length f (by omega) (by omega) (by omega) hr, Option.bind_some, Contains_eq _ _ (by rw [countL_length]; omega) (by rw [countL_length]; omega), decide_eq_false hz, Option.bind_some, impl_RenameMap.j0, if_neg (by decide), slices_Repeat_int_int.f, if_pos ⟨rfl, by omega, by omega⟩, Option.bind_some, Int.toNat_natCast, show rd ([(-1)] : List Int) 0 = -1 from rfl, rename_same]
        have := rename_loop rfl hfl g2 g3 hr (List.replicate l.length (-1)) (by simp) l.length 0 k (by omega) (by omega)
        rw [hsame] at this
        exact this
theorem RenameMap_law : laws_FnExactRenameMap.Pure := by
  intro l f _ _ _ _ _ _
  by_cases hl : (l.length : Int) > 1048576
  · exact ⟨0, by rw [laws_FnExactRenameMap.f, if_pos hl]⟩
  by_cases hf : (f.length : Int) > 1048576
  · exact ⟨0, by rw [laws_FnExactRenameMap.f, if_neg hl, if_pos hf]⟩
  obtain ⟨K0, r, ok, hr, h0⟩ := RenameMap_both l f (by omega) (by omega)
  obtain ⟨K, hK⟩ : ∃ K, K = K0 + l.length + f.length + r.length + 1 := ⟨_, rfl⟩
  have hTl : ∀ k, K ≤ k → laws_toIntS.f k l = some l := fun k h => (law_facts l r (by omega) (by omega) (show _ < k by omega)).1
  have hEl : ∀ k, K ≤ k → laws_eqIntS.f k l l = some true := fun k h => (law_facts l r (by omega) (by omega) (show _ < k by omega)).2.1
  have hMl : ∀ k, K ≤ k → laws_markIntS.f k l 1 = some (1 + (l.length : Int), marks 1 l.length) := fun k h => (law_facts l r (by omega) (by omega) (show _ < k by omega)).2.2.2.1
  have hNl := neg_no l
  have hTf : ∀ k, K ≤ k → laws_toIntS.f k f = some f := fun k h => (law_facts f r (by omega) (by omega) (show _ < k by omega)).1
  have hEf : ∀ k, K ≤ k → laws_eqIntS.f k f f = some true := fun k h => (law_facts f r (by omega) (by omega) (show _ < k by omega)).2.1
  have hMf : ∀ k, K ≤ k → laws_markIntS.f k f 1 = some (1 + (f.length : Int), marks 1 f.length) := fun k h => (law_facts f r (by omega) (by omega) (show _ < k by omega)).2.2.2.1
  have hNf := neg_no f
  have hE : ∀ k, K ≤ k → laws_eqIntS.f k r r = some true := fun k h => (law_facts [] r (by simp) (by omega) (show _ < k by simp; omega)).2.2.1
  have hM : ∀ k, K ≤ k → laws_markIntS.f k r 1 = some (1 + (r.length : Int), marks 1 r.length) := fun k h => (law_facts [] r (by simp) (by omega) (show _ < k by simp; omega)).2.2.2.2.1
  have hH : ∀ k, K ≤ k → laws_heldIntS.f k (marks 1 r.length) 1 = some (1 + (r.length : Int)) := fun k h => (law_facts [] r (by simp) (by omega) (show _ < k by simp; omega)).2.2.2.2.2
  have hN := neg_no r
  have e1 : ∀ k, K ≤ k → spec_RenameMap.f k l f = some (r, ok) := fun k h => (h0 k (by omega)).1
  have e2 : ∀ k, K ≤ k → impl_RenameMap.f k l f = some (r, ok) := fun k h => (h0 k (by omega)).2
  have hM2 : ∀ k, K ≤ k → laws_markIntS.f k f (1 + (l.length : Int)) = some (1 + (l.length : Int) + (f.length : Int), marks (1 + (l.length : Int)) f.length) := fun k h => markIntS_eq f _ (by omega) (by omega) (by omega) (by omega)
  have hN2 : ¬ (1 + (l.length : Int) + (f.length : Int) < 0) := by omega
  refine ⟨K + 9, ?_⟩
  simp [laws_FnExactRenameMap.f, laws_FnExactRenameMap.j0, laws_FnExactRenameMap.j1, laws_FnExactRenameMap.j2, hE, hM, hH, hN, e1, e2, hl, hTl, hEl, hMl, hNl, hf, hTf, hEf, hMf, hNf, hM2, hN2]

end Go.Proofs.YtgjdoeljmnomcaaC
