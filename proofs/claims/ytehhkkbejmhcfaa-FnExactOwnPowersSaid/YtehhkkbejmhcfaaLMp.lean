/-
  Plain laws on maps: IsMap, ApplyMap, ComposeMaps, BeforeOf and EndsOf over the printed functions. No conditions.
-/
import Derived.Test.YtehhkkbejmhcfaaLB
import Derived.Test.YtehhkkbejmhcfaaCMp
namespace Go.Proofs.YtehhkkbejmhcfaaC
set_option linter.unusedSimpArgs false
open Go.RowKit Go.Proofs.YtehhkkbejmhcfaaW.PrintWords

/-! ### is it a map -/
def isMapB (l : List Int) : Bool := decide (1 ≤ (l.length : Int) ∧ (l.length : Int) ≤ 60) && between 0 ((l.length : Int) - 1) l
theorem mpGood_eq (l : List Int) (hl : l.length ≤ 1048576) {k : Nat} (hk : l.length < k) : spec_mpGood.f k l = some (isMapB l) := by
  unfold spec_mpGood.f isMapB
  rw [l1In_eq, w64 (by omega) (by omega)]
  simp only [Option.bind_some]
  by_cases h : 1 ≤ (l.length : Int) ∧ (l.length : Int) ≤ 60
  · rw [if_pos (by simpa using h), l1All_eq l _ _ (by omega) hk]; simp [h]
  · rw [if_neg (by simpa using h)]; simp [h]
theorem IsMap_eq (l : List Int) (hl : l.length ≤ 1048576) : impl_IsMap.f l = some (isMapB l) := by
  unfold impl_IsMap.f isMapB
  rw [areIn_eq, w64 (by omega) (by omega)]; rfl
theorem isMap_range {l : List Int} (h : isMapB l = true) : 1 ≤ l.length ∧ l.length ≤ 60 ∧ ∀ x ∈ l, 0 ≤ x ∧ x < (l.length : Int) := by
  simp only [isMapB, Bool.and_eq_true, decide_eq_true_eq] at h
  exact ⟨by omega, by omega, fun x hx => by have := between_mem h.2 x hx; omega⟩
theorem rd_range {l : List Int} {n : Int} (h : ∀ x ∈ l, 0 ≤ x ∧ x < n) {i : Int} (h0 : 0 ≤ i) (h1 : i < (l.length : Int)) : 0 ≤ rd l i ∧ rd l i < n := by
  obtain ⟨j, rfl⟩ := Int.eq_ofNat_of_zero_le h0
  have hj : j < l.length := by omega
  rw [rd_get hj]
  exact h _ (List.getElem_mem hj)
theorem IsMap_law : laws_FnExactIsMap.Pure := by
  intro l _ _ _
  by_cases hl : (l.length : Int) > 1048576
  · exact ⟨0, by rw [laws_FnExactIsMap.f, if_pos hl]⟩
  obtain ⟨K, hK, hk⟩ := list_facts l (by omega)
  have hT : ∀ k, K ≤ k → laws_toIntS.f k l = some l := fun k h => (hk k h).1
  have hE : ∀ k, K ≤ k → laws_eqIntS.f k l l = some true := fun k h => (hk k h).2
  refine ⟨K, ?_⟩
  simp [laws_FnExactIsMap.f, spec_IsMap.f, hl, hT, hE, mpGood_eq l (by omega) hK, IsMap_eq l (by omega)]

/-! ### steps -/
/-- The number n steps behind x. -/
def stepN (l : List Int) : Nat → Int → Int
  | 0, x => x
  | n + 1, x => rd l (stepN l n x)
theorem stepN_range {l : List Int} (h : ∀ x ∈ l, 0 ≤ x ∧ x < (l.length : Int)) {x : Int} (h0 : 0 ≤ x) (h1 : x < (l.length : Int)) : ∀ n, 0 ≤ stepN l n x ∧ stepN l n x < (l.length : Int)
  | 0 => ⟨h0, h1⟩
  | n + 1 => by
    have ih := stepN_range h h0 h1 n
    exact rd_range h ih.1 ih.2
theorem mpAt_eq {l : List Int} (h : ∀ x ∈ l, 0 ≤ x ∧ x < (l.length : Int)) {x : Int} (h0 : 0 ≤ x) (h1 : x < (l.length : Int)) (n : Nat) (hn : n ≤ 1000000000) : ∀ k, n < k → spec_mpAt.f k l x (n : Int) = some (stepN l n x) := by
  intro k hk
  have := run0 (fun k (s : Int × Int) => spec_mpAt.l0 k l s.1 s.2) n 0 (fun j => (stepN l j x, (n : Int) - (j : Int))) (stepN l n x)
    (fun j hj k _ => by
      have hr := stepN_range h h0 h1 j
      show spec_mpAt.l0 (k + 1) l (stepN l j x) ((n : Int) - (j : Int)) = spec_mpAt.l0 k l (stepN l (j + 1) x) ((n : Int) - ((j + 1 : Nat) : Int))
      rw [spec_mpAt.l0, if_pos (by omega), if_pos hr.1, if_pos hr.2, w64 (by omega) (by omega)]
      congr 1; omega)
    (fun k _ => by
      show spec_mpAt.l0 (k + 1) l (stepN l n x) ((n : Int) - (n : Int)) = _
      rw [spec_mpAt.l0, if_neg (by omega)])
    k (by omega)
  simpa [spec_mpAt.f, stepN] using this
theorem Apply_loop {l : List Int} (h : ∀ x ∈ l, 0 ≤ x ∧ x < (l.length : Int)) {x : Int} (h0 : 0 ≤ x) (h1 : x < (l.length : Int)) (n : Nat) (hn : n ≤ 1000000000) : ∀ k, n < k → impl_ApplyMap.l0 k l x (n : Int) 0 = some (stepN l n x, true) := by
  intro k hk
  have := run0 (fun k (s : Int × Int) => impl_ApplyMap.l0 k l s.1 (n : Int) s.2) n 0 (fun j => (stepN l j x, (j : Int))) (stepN l n x, true)
    (fun j hj k _ => by
      have hr := stepN_range h h0 h1 j
      show impl_ApplyMap.l0 (k + 1) l (stepN l j x) (n : Int) (j : Int) = impl_ApplyMap.l0 k l (stepN l (j + 1) x) (n : Int) ((j + 1 : Nat) : Int)
      rw [impl_ApplyMap.l0, if_pos (by omega), if_pos hr.1, if_pos hr.2, w64s (by omega)]; rfl)
    (fun k _ => by
      show impl_ApplyMap.l0 (k + 1) l (stepN l n x) (n : Int) (n : Int) = _
      rw [impl_ApplyMap.l0, if_neg (by omega)])
    k (by omega)
  simpa [stepN] using this
def asksB (l : List Int) (x : Int) : Bool := isMapB l && decide (0 ≤ x ∧ x ≤ (l.length : Int) - 1)
theorem mpX_eq (l : List Int) (x : Int) (hl : l.length ≤ 1048576) {k : Nat} (hk : l.length < k) : spec_mpX.f k l x = some (asksB l x) := by
  unfold spec_mpX.f asksB
  rw [mpGood_eq l hl hk, w64 (by omega) (by omega), l1In_eq]
  cases h : isMapB l <;> simp
theorem asks_eq (l : List Int) (x n : Int) (hl : l.length ≤ 1048576) : impl_asks.f l x n = some (asksB l x && decide (0 ≤ n ∧ n ≤ 1000000)) := by
  unfold impl_asks.f asksB
  rw [IsMap_eq l hl, w64 (by omega) (by omega), in_eq, in_eq]
  cases h : isMapB l with
  | false => simp
  | true => by_cases h2 : 0 ≤ x ∧ x ≤ (l.length : Int) - 1 <;> simp [h2]
theorem asks_range {l : List Int} {x : Int} (h : asksB l x = true) : isMapB l = true ∧ 0 ≤ x ∧ x < (l.length : Int) := by
  simp only [asksB, Bool.and_eq_true, decide_eq_true_eq] at h
  exact ⟨h.1, by omega, by omega⟩
theorem ApplyMap_both (l : List Int) (x n : Int) (hl : l.length ≤ 1048576) : ∃ (K : Nat) (v : Int × Bool), ∀ k, K ≤ k → spec_ApplyMap.f k l x n = some v ∧ impl_ApplyMap.f k l x n = some v := by
  cases ha : asksB l x with
  | false => exact ⟨l.length + 1, (0, false), fun k hk => ⟨by simp [spec_ApplyMap.f, mpX_eq l x hl (show l.length < k by omega), ha], by simp [impl_ApplyMap.f, asks_eq l x n hl, ha]⟩⟩
  | true =>
    by_cases hn : 0 ≤ n ∧ n ≤ 1000000
    · obtain ⟨hm, h0, h1⟩ := asks_range ha
      obtain ⟨_, _, hr⟩ := isMap_range hm
      obtain ⟨m, rfl⟩ := Int.eq_ofNat_of_zero_le hn.1
      refine ⟨l.length + m + 1, (stepN l m x, true), fun k hk => ⟨?_, ?_⟩⟩
      · simp [spec_ApplyMap.f, mpX_eq l x hl (show l.length < k by omega), ha, spec_mpSteps.f, l1In_eq, hn, mpAt_eq hr h0 h1 m (by omega) k (by omega)]
      · simp [impl_ApplyMap.f, asks_eq l x m hl, ha, Apply_loop hr h0 h1 m (by omega) k (by omega)]
        omega
    · exact ⟨l.length + 1, (0, false), fun k hk => ⟨by simp [spec_ApplyMap.f, mpX_eq l x hl (show l.length < k by omega), ha, spec_mpSteps.f, l1In_eq, hn], by simp [impl_ApplyMap.f, asks_eq l x n hl, ha, hn]⟩⟩
theorem ApplyMap_law : laws_FnExactApplyMap.Pure := by
  intro l x n _ _ _ _ _
  by_cases hl : (l.length : Int) > 1048576
  · exact ⟨0, by rw [laws_FnExactApplyMap.f, if_pos hl]⟩
  obtain ⟨K1, hK1, hk⟩ := list_facts l (by omega)
  obtain ⟨K2, v, h2⟩ := ApplyMap_both l x n (by omega)
  have hT : ∀ k, K1 + K2 ≤ k → laws_toIntS.f k l = some l := fun k h => (hk k (by omega)).1
  have hE : ∀ k, K1 + K2 ≤ k → laws_eqIntS.f k l l = some true := fun k h => (hk k (by omega)).2
  have e1 : ∀ k, K1 + K2 ≤ k → spec_ApplyMap.f k l x n = some v := fun k h => (h2 k (by omega)).1
  have e2 : ∀ k, K1 + K2 ≤ k → impl_ApplyMap.f k l x n = some v := fun k h => (h2 k (by omega)).2
  refine ⟨K1 + K2 + 3, ?_⟩
  simp [laws_FnExactApplyMap.f, laws_FnExactApplyMap.j0, hl, hT, hE, e1, e2]

/-! ### composed -/
theorem composed_loops {f g : List Int} (hf : ∀ x ∈ f, 0 ≤ x ∧ x < (g.length : Int)) (hl : f.length ≤ 1048576) : ∀ k, f.length < k →
    impl_composed.l0 k g [] f (f.length : Int) 0 = some (f.map (rd g)) ∧ spec_ComposeMaps.l0 k g [] f (f.length : Int) 0 = some (f.map (rd g), true) := by
  intro k hk
  have st : ∀ j, j < f.length → 0 ≤ rd f (j : Int) ∧ rd f (j : Int) < (g.length : Int) := fun j hj => rd_range hf (by omega) (by omega)
  constructor
  · have := run0 (fun k (s : List Int × Int) => impl_composed.l0 k g s.1 f (f.length : Int) s.2) f.length 0 (fun j => ((f.take j).map (rd g), (j : Int))) (f.map (rd g))
      (fun j hj k _ => by
        show impl_composed.l0 (k + 1) g ((f.take j).map (rd g)) f (f.length : Int) (j : Int) = impl_composed.l0 k g ((f.take (j + 1)).map (rd g)) f (f.length : Int) ((j + 1 : Nat) : Int)
        rw [impl_composed.l0, if_pos (by omega), if_pos (by omega), if_pos (by omega), if_pos (st j hj).1, if_pos (st j hj).2, if_pos (by simp; omega), w64s (by omega), take_s hj, List.map_append, rd_get hj]; rfl)
      (fun k _ => by
        show impl_composed.l0 (k + 1) g ((f.take f.length).map (rd g)) f (f.length : Int) (f.length : Int) = _
        rw [impl_composed.l0, if_neg (by omega), List.take_length])
      k (by omega)
    simpa using this
  · have := run0 (fun k (s : List Int × Int) => spec_ComposeMaps.l0 k g s.1 f (f.length : Int) s.2) f.length 0 (fun j => ((f.take j).map (rd g), (j : Int))) (f.map (rd g), true)
      (fun j hj k _ => by
        show spec_ComposeMaps.l0 (k + 1) g ((f.take j).map (rd g)) f (f.length : Int) (j : Int) = spec_ComposeMaps.l0 k g ((f.take (j + 1)).map (rd g)) f (f.length : Int) ((j + 1 : Nat) : Int)
        rw [spec_ComposeMaps.l0, if_pos (by omega), if_pos (by omega), if_pos (by omega), if_pos (st j hj).1, if_pos (st j hj).2, if_pos (by simp; omega), w64s (by omega), take_s hj, List.map_append, rd_get hj]; rfl)
      (fun k _ => by
        show spec_ComposeMaps.l0 (k + 1) g ((f.take f.length).map (rd g)) f (f.length : Int) (f.length : Int) = _
        rw [spec_ComposeMaps.l0, if_neg (by omega), List.take_length])
      k (by omega)
    simpa using this
theorem ComposeMaps_both (f g : List Int) (hf : f.length ≤ 1048576) (hg : g.length ≤ 1048576) : ∃ (K : Nat) (r : List Int) (ok : Bool), r.length ≤ 1000 ∧ ∀ k, K ≤ k → spec_ComposeMaps.f k f g = some (r, ok) ∧ impl_ComposeMaps.f k f g = some (r, ok) := by
  cases h1 : isMapB f with
  | false =>
    refine ⟨f.length + g.length + 2, [], false, by simp, fun k hk => ⟨?_, ?_⟩⟩
    · obtain ⟨k, rfl⟩ : ∃ q, k = q + 1 := ⟨k - 1, by omega⟩
      simp [spec_ComposeMaps.f, spec_ComposeMaps.j0, mpGood_eq f hf (show f.length < k + 1 by omega), h1]
    · simp [impl_ComposeMaps.f, IsMap_eq f hf, h1]
  | true =>
    cases h2 : isMapB g with
    | false =>
      refine ⟨f.length + g.length + 2, [], false, by simp, fun k hk => ⟨?_, ?_⟩⟩
      · obtain ⟨k, rfl⟩ : ∃ q, k = q + 1 := ⟨k - 1, by omega⟩
        simp [spec_ComposeMaps.f, spec_ComposeMaps.j0, mpGood_eq f hf (show f.length < k + 1 by omega), mpGood_eq g hg (show g.length < k + 1 by omega), h1, h2]
      · simp [impl_ComposeMaps.f, IsMap_eq f hf, IsMap_eq g hg, h1, h2]
    | true =>
      by_cases h3 : f.length = g.length
      · obtain ⟨_, h60, hr⟩ := isMap_range h1
        refine ⟨f.length + g.length + 2, f.map (rd g), true, by simp; omega, fun k hk => ⟨?_, ?_⟩⟩
        · obtain ⟨k, rfl⟩ : ∃ q, k = q + 1 := ⟨k - 1, by omega⟩
          have := (composed_loops (f := f) (g := g) (by rw [← h3]; exact hr) hf k (by omega)).2
          simp [spec_ComposeMaps.f, spec_ComposeMaps.j0, mpGood_eq f hf (show f.length < k + 1 by omega), mpGood_eq g hg (show g.length < k + 1 by omega), h1, h2, h3]
          rw [← h3]; exact this
        · have := (composed_loops (f := f) (g := g) (by rw [← h3]; exact hr) hf k (by omega)).1
          simp [impl_ComposeMaps.f, impl_composed.f, IsMap_eq f hf, IsMap_eq g hg, h1, h2, this]
          omega
      · refine ⟨f.length + g.length + 2, [], false, by simp, fun k hk => ⟨?_, ?_⟩⟩
        · obtain ⟨k, rfl⟩ : ∃ q, k = q + 1 := ⟨k - 1, by omega⟩
          have h4 : ((f.length : Int) != (g.length : Int)) = true := by simp; omega
          simp only [spec_ComposeMaps.f, mpGood_eq f hf (show f.length < k + 1 by omega), mpGood_eq g hg (show g.length < k + 1 by omega), h1, h2, h4, Option.bind_some, if_true, spec_ComposeMaps.j0]
        · have h4 : ¬ (f.length : Int) = (g.length : Int) := by omega
          simp only [impl_ComposeMaps.f, IsMap_eq f hf, IsMap_eq g hg, h1, h2, Option.bind_some, if_true]
          rw [if_neg h4]

/-! ### before, ends -/
def bef (l : List Int) (x : Int) (n : Nat) : List Int := ((List.range n).filter fun (y : Nat) => decide (rd l (y : Int) = x)).map fun (y : Nat) => (y : Int)
theorem bef_s (l : List Int) (x : Int) (n : Nat) : bef l x (n + 1) = bef l x n ++ (if rd l (n : Int) = x then [(n : Int)] else []) := by
  unfold bef
  rw [List.range_succ, List.filter_append, List.map_append]
  by_cases h : rd l (n : Int) = x <;> simp [h]
theorem bef_length (l : List Int) (x : Int) (n : Nat) : (bef l x n).length ≤ n := by
  unfold bef
  rw [List.length_map]
  exact Nat.le_trans (List.length_filter_le _ _) (by simp)
theorem before_loop_eq : ∀ (k : Nat) (x : Int) (s l : List Int) (n i : Int), impl_before.l0 k x s l n i = spec_mpBefore.l0 k x s l n i := by
  intro k
  induction k with
  | zero => intros; rfl
  | succ k ih => intro x s l n i; simp only [impl_before.l0, spec_mpBefore.l0, ih]
theorem mpBefore_eq (l : List Int) (x : Int) (hl : l.length ≤ 1048576) {k : Nat} (hk : l.length < k) : spec_mpBefore.f k l x = some (bef l x l.length) := by
  have := run0 (fun k (s : List Int × Int) => spec_mpBefore.l0 k x s.1 l (l.length : Int) s.2) l.length 0 (fun j => (bef l x j, (j : Int))) (bef l x l.length)
    (fun j hj k _ => by
      show spec_mpBefore.l0 (k + 1) x (bef l x j) l (l.length : Int) (j : Int) = spec_mpBefore.l0 k x (bef l x (j + 1)) l (l.length : Int) ((j + 1 : Nat) : Int)
      have hb := bef_length l x j
      rw [spec_mpBefore.l0, if_pos (by omega), if_pos (by omega), if_pos (by omega), bef_s, w64s (by omega)]
      by_cases h : rd l (j : Int) = x
      · rw [if_pos h, if_pos h, if_pos (by omega)]
      · rw [if_neg h, if_neg h, List.append_nil])
    (fun k _ => by
      show spec_mpBefore.l0 (k + 1) x (bef l x l.length) l (l.length : Int) (l.length : Int) = _
      rw [spec_mpBefore.l0, if_neg (by omega)])
    k (by omega)
  simpa [spec_mpBefore.f, bef] using this
theorem before_eq (k : Nat) (l : List Int) (x : Int) : impl_before.f k l x = spec_mpBefore.f k l x := by
  unfold impl_before.f spec_mpBefore.f
  rw [before_loop_eq]
theorem BeforeOf_both (l : List Int) (x : Int) (hl : l.length ≤ 1048576) : ∃ (K : Nat) (r : List Int) (ok : Bool), r.length ≤ 1000 ∧ ∀ k, K ≤ k → spec_BeforeOf.f k l x = some (r, ok) ∧ impl_BeforeOf.f k l x = some (r, ok) := by
  cases ha : asksB l x with
  | false => exact ⟨l.length + 1, [], false, by simp, fun k hk => ⟨by simp [spec_BeforeOf.f, mpX_eq l x hl (show l.length < k by omega), ha], by simp [impl_BeforeOf.f, asks_eq l x 0 hl, ha]⟩⟩
  | true =>
    obtain ⟨hm, h0, h1⟩ := asks_range ha
    obtain ⟨_, h60, _⟩ := isMap_range hm
    have hb := bef_length l x l.length
    exact ⟨l.length + 1, bef l x l.length, true, by omega, fun k hk => ⟨by simp [spec_BeforeOf.f, mpX_eq l x hl (show l.length < k by omega), ha, mpBefore_eq l x hl (show l.length < k by omega)],
      by simp [impl_BeforeOf.f, asks_eq l x 0 hl, ha, before_eq, mpBefore_eq l x hl (show l.length < k by omega)]⟩⟩

theorem idxF_any {p : Int → Bool} : ∀ (a : List Int) (i : Int), 0 ≤ i → (decide (0 ≤ idxF p a i)) = a.any p
  | [], _, _ => by simp [idxF]
  | y :: a, i, h => by
    rw [idxF]
    cases hy : p y with
    | true => simp [hy, h]
    | false => rw [if_neg (by decide), idxF_any a (i + 1) (by omega)]; simp [hy]
theorem Index_loop (x : Int) (xs : List Int) (hx : xs.length ≤ 4611686018427387904) : ∀ (suf pre : List Int) (k : Nat), xs = pre ++ suf → suf.length < k →
    slices_Index_int_int.l0 k xs x (xs.length : Int) (pre.length : Int) = some (idxF (fun y => decide (x = y)) suf (pre.length : Int)) := by
  intro suf
  induction suf with
  | nil =>
    intro pre k h hk
    obtain ⟨k, rfl⟩ : ∃ m, k = m + 1 := ⟨k - 1, by omega⟩
    subst h; rw [slices_Index_int_int.l0, if_neg (by simp)]; rfl
  | cons y suf ih =>
    intro pre k h hk
    simp only [List.length_cons] at hk
    obtain ⟨k, rfl⟩ : ∃ m, k = m + 1 := ⟨k - 1, by omega⟩
    have hl : xs.length = pre.length + suf.length + 1 := by subst h; simp; omega
    have e : rd xs (pre.length : Int) = y := by subst h; exact rd_mid _ _ _
    rw [slices_Index_int_int.l0, if_pos (by omega), if_pos (by omega), if_pos (by omega), e, idxF]
    by_cases hc : x = y
    · rw [if_pos hc, if_pos (by simpa using hc)]
    · rw [if_neg hc, if_neg (by simpa using hc), w64 (by omega) (by omega)]
      have := ih (pre ++ [y]) k (by simp [h]) (by omega)
      simpa using this
theorem Index_eq (l : List Int) (x : Int) (hl : l.length ≤ 4611686018427387904) {k : Nat} (hk : l.length < k) : slices_Index_int_int.f k l x = some (idxF (fun y => decide (x = y)) l 0) := by
  have := Index_loop x l hl l [] k rfl hk
  simpa [slices_Index_int_int.f] using this
theorem Contains_eq (l : List Int) (x : Int) (hl : l.length ≤ 4611686018427387904) {k : Nat} (hk : l.length < k) : slices_Contains_int_int.f k l x = some (decide (x ∈ l)) := by
  unfold slices_Contains_int_int.f
  rw [Index_eq l x hl hk]
  simp only [Option.bind_some, ge_iff_le]
  rw [idxF_any l 0 (by omega)]
  congr 1
  rw [Bool.eq_iff_iff]
  simp
theorem bef_none (l : List Int) (x : Int) : (bef l x l.length).length = 0 ↔ ¬ x ∈ l := by
  unfold bef
  rw [List.length_map, List.length_eq_zero_iff, List.filter_eq_nil_iff]
  constructor
  · intro h hx
    obtain ⟨j, hj, rfl⟩ := List.mem_iff_getElem.1 hx
    exact h j (by simpa using hj) (by simp [rd_get hj])
  · intro h j hj hc
    have hj' : j < l.length := by simpa using hj
    apply h
    simp only [decide_eq_true_eq] at hc
    rw [← hc, rd_get hj']
    exact List.getElem_mem hj'
def ends (l : List Int) (n : Nat) : List Int := ((List.range n).filter fun (y : Nat) => decide (¬ (y : Int) ∈ l)).map fun (y : Nat) => (y : Int)
theorem ends_s (l : List Int) (n : Nat) : ends l (n + 1) = ends l n ++ (if (n : Int) ∈ l then [] else [(n : Int)]) := by
  unfold ends
  rw [List.range_succ, List.filter_append, List.map_append]
  by_cases h : (n : Int) ∈ l <;> simp [h]
theorem ends_length (l : List Int) (n : Nat) : (ends l n).length ≤ n := by
  unfold ends
  rw [List.length_map]
  exact Nat.le_trans (List.length_filter_le _ _) (by simp)
theorem Ends_loops (l : List Int) (hl : l.length ≤ 1048576) : ∀ k, 2 * l.length + 2 < k → spec_EndsOf.l0 k l [] (l.length : Int) 0 = some (ends l l.length, true) ∧ impl_EndsOf.l0 k l [] (l.length : Int) 0 = some (ends l l.length, true) := by
  intro k hk
  constructor
  · have := run0 (fun k (s : List Int × Int) => spec_EndsOf.l0 k l s.1 (l.length : Int) s.2) l.length (l.length + 1) (fun j => (ends l j, (j : Int))) (ends l l.length, true)
      (fun j hj k hk => by
        show spec_EndsOf.l0 (k + 1) l (ends l j) (l.length : Int) (j : Int) = spec_EndsOf.l0 k l (ends l (j + 1)) (l.length : Int) ((j + 1 : Nat) : Int)
        have hb := ends_length l j
        have hn := bef_none l (j : Int)
        rw [spec_EndsOf.l0, if_pos (by omega), mpBefore_eq l (j : Int) hl (by omega), w64s (by omega), ends_s]
        simp only [Option.bind_some]
        by_cases h : (j : Int) ∈ l
        · rw [if_neg (by intro h2; exact (hn.1 (by omega)) h), if_pos h, List.append_nil]
        · rw [if_pos (by have := hn.2 h; omega), if_neg h, if_pos (by omega)])
      (fun k _ => by
        show spec_EndsOf.l0 (k + 1) l (ends l l.length) (l.length : Int) (l.length : Int) = _
        rw [spec_EndsOf.l0, if_neg (by omega)])
      k (by omega)
    simpa [ends] using this
  · have := run0 (fun k (s : List Int × Int) => impl_EndsOf.l0 k l s.1 (l.length : Int) s.2) l.length (l.length + 1) (fun j => (ends l j, (j : Int))) (ends l l.length, true)
      (fun j hj k hk => by
        show impl_EndsOf.l0 (k + 1) l (ends l j) (l.length : Int) (j : Int) = impl_EndsOf.l0 k l (ends l (j + 1)) (l.length : Int) ((j + 1 : Nat) : Int)
        have hb := ends_length l j
        rw [impl_EndsOf.l0, if_pos (by omega), Contains_eq l (j : Int) (by omega) (by omega), w64s (by omega), ends_s]
        simp only [Option.bind_some]
        by_cases h : (j : Int) ∈ l
        · rw [if_pos (by simpa using h), if_pos h, List.append_nil]
        · rw [if_neg (by simpa using h), if_neg h, if_pos (by omega)])
      (fun k _ => by
        show impl_EndsOf.l0 (k + 1) l (ends l l.length) (l.length : Int) (l.length : Int) = _
        rw [impl_EndsOf.l0, if_neg (by omega)])
      k (by omega)
    simpa [ends] using this
theorem EndsOf_both (l : List Int) (hl : l.length ≤ 1048576) : ∃ (K : Nat) (r : List Int) (ok : Bool), r.length ≤ 1000 ∧ ∀ k, K ≤ k → spec_EndsOf.f k l = some (r, ok) ∧ impl_EndsOf.f k l = some (r, ok) := by
  cases h1 : isMapB l with
  | false => exact ⟨l.length + 1, [], false, by simp, fun k hk => ⟨by simp [spec_EndsOf.f, mpGood_eq l hl (show l.length < k by omega), h1], by simp [impl_EndsOf.f, IsMap_eq l hl, h1]⟩⟩
  | true =>
    obtain ⟨_, h60, _⟩ := isMap_range h1
    have hb := ends_length l l.length
    exact ⟨2 * l.length + 3, ends l l.length, true, by omega, fun k hk => ⟨by simp [spec_EndsOf.f, mpGood_eq l hl (show l.length < k by omega), h1, (Ends_loops l hl k (by omega)).1], by simp [impl_EndsOf.f, IsMap_eq l hl, h1, (Ends_loops l hl k (by omega)).2]⟩⟩

/-! ### the statements -/
theorem BeforeOf_law : laws_FnExactBeforeOf.Pure := by
  intro l x _ _ _ _
  by_cases hl : (l.length : Int) > 1048576
  · exact ⟨0, by rw [laws_FnExactBeforeOf.f, if_pos hl]⟩
  obtain ⟨K0, r, ok, hr, h0⟩ := BeforeOf_both l x (by omega)
  obtain ⟨K, hK⟩ : ∃ K, K = K0 + l.length + r.length + 1 := ⟨_, rfl⟩
  have hTl : ∀ k, K ≤ k → laws_toIntS.f k l = some l := fun k h => (law_facts l r (by omega) (by omega) (show _ < k by omega)).1
  have hEl : ∀ k, K ≤ k → laws_eqIntS.f k l l = some true := fun k h => (law_facts l r (by omega) (by omega) (show _ < k by omega)).2.1
  have hMl : ∀ k, K ≤ k → laws_markIntS.f k l 1 = some (1 + (l.length : Int), marks 1 l.length) := fun k h => (law_facts l r (by omega) (by omega) (show _ < k by omega)).2.2.2.1
  have hNl := neg_no l
  have hE : ∀ k, K ≤ k → laws_eqIntS.f k r r = some true := fun k h => (law_facts [] r (by simp) (by omega) (show _ < k by simp; omega)).2.2.1
  have hM : ∀ k, K ≤ k → laws_markIntS.f k r 1 = some (1 + (r.length : Int), marks 1 r.length) := fun k h => (law_facts [] r (by simp) (by omega) (show _ < k by simp; omega)).2.2.2.2.1
  have hH : ∀ k, K ≤ k → laws_heldIntS.f k (marks 1 r.length) 1 = some (1 + (r.length : Int)) := fun k h => (law_facts [] r (by simp) (by omega) (show _ < k by simp; omega)).2.2.2.2.2
  have hN := neg_no r
  have e1 : ∀ k, K ≤ k → spec_BeforeOf.f k l x = some (r, ok) := fun k h => (h0 k (by omega)).1
  have e2 : ∀ k, K ≤ k → impl_BeforeOf.f k l x = some (r, ok) := fun k h => (h0 k (by omega)).2
  refine ⟨K + 9, ?_⟩
  simp [laws_FnExactBeforeOf.f, laws_FnExactBeforeOf.j0, laws_FnExactBeforeOf.j1, laws_FnExactBeforeOf.j2, hE, hM, hH, hN, e1, e2, hl, hTl, hEl, hMl, hNl]
theorem EndsOf_law : laws_FnExactEndsOf.Pure := by
  intro l _ _ _
  by_cases hl : (l.length : Int) > 1048576
  · exact ⟨0, by rw [laws_FnExactEndsOf.f, if_pos hl]⟩
  obtain ⟨K0, r, ok, hr, h0⟩ := EndsOf_both l (by omega)
  obtain ⟨K, hK⟩ : ∃ K, K = K0 + l.length + r.length + 1 := ⟨_, rfl⟩
  have hTl : ∀ k, K ≤ k → laws_toIntS.f k l = some l := fun k h => (law_facts l r (by omega) (by omega) (show _ < k by omega)).1
  have hEl : ∀ k, K ≤ k → laws_eqIntS.f k l l = some true := fun k h => (law_facts l r (by omega) (by omega) (show _ < k by omega)).2.1
  have hMl : ∀ k, K ≤ k → laws_markIntS.f k l 1 = some (1 + (l.length : Int), marks 1 l.length) := fun k h => (law_facts l r (by omega) (by omega) (show _ < k by omega)).2.2.2.1
  have hNl := neg_no l
  have hE : ∀ k, K ≤ k → laws_eqIntS.f k r r = some true := fun k h => (law_facts [] r (by simp) (by omega) (show _ < k by simp; omega)).2.2.1
  have hM : ∀ k, K ≤ k → laws_markIntS.f k r 1 = some (1 + (r.length : Int), marks 1 r.length) := fun k h => (law_facts [] r (by simp) (by omega) (show _ < k by simp; omega)).2.2.2.2.1
  have hH : ∀ k, K ≤ k → laws_heldIntS.f k (marks 1 r.length) 1 = some (1 + (r.length : Int)) := fun k h => (law_facts [] r (by simp) (by omega) (show _ < k by simp; omega)).2.2.2.2.2
  have hN := neg_no r
  have e1 : ∀ k, K ≤ k → spec_EndsOf.f k l = some (r, ok) := fun k h => (h0 k (by omega)).1
  have e2 : ∀ k, K ≤ k → impl_EndsOf.f k l = some (r, ok) := fun k h => (h0 k (by omega)).2
  refine ⟨K + 9, ?_⟩
  simp [laws_FnExactEndsOf.f, laws_FnExactEndsOf.j0, laws_FnExactEndsOf.j1, laws_FnExactEndsOf.j2, hE, hM, hH, hN, e1, e2, hl, hTl, hEl, hMl, hNl]
theorem ComposeMaps_law : laws_FnExactComposeMaps.Pure := by
  intro f g _ _ _ _ _ _
  by_cases hf : (f.length : Int) > 1048576
  · exact ⟨0, by rw [laws_FnExactComposeMaps.f, if_pos hf]⟩
  by_cases hg : (g.length : Int) > 1048576
  · exact ⟨0, by rw [laws_FnExactComposeMaps.f, if_neg hf, if_pos hg]⟩
  obtain ⟨K0, r, ok, hr, h0⟩ := ComposeMaps_both f g (by omega) (by omega)
  obtain ⟨K, hK⟩ : ∃ K, K = K0 + f.length + g.length + r.length + 1 := ⟨_, rfl⟩
  have hTf : ∀ k, K ≤ k → laws_toIntS.f k f = some f := fun k h => (law_facts f r (by omega) (by omega) (show _ < k by omega)).1
  have hEf : ∀ k, K ≤ k → laws_eqIntS.f k f f = some true := fun k h => (law_facts f r (by omega) (by omega) (show _ < k by omega)).2.1
  have hMf : ∀ k, K ≤ k → laws_markIntS.f k f 1 = some (1 + (f.length : Int), marks 1 f.length) := fun k h => (law_facts f r (by omega) (by omega) (show _ < k by omega)).2.2.2.1
  have hNf := neg_no f
  have hTg : ∀ k, K ≤ k → laws_toIntS.f k g = some g := fun k h => (law_facts g r (by omega) (by omega) (show _ < k by omega)).1
  have hEg : ∀ k, K ≤ k → laws_eqIntS.f k g g = some true := fun k h => (law_facts g r (by omega) (by omega) (show _ < k by omega)).2.1
  have hMg : ∀ k, K ≤ k → laws_markIntS.f k g 1 = some (1 + (g.length : Int), marks 1 g.length) := fun k h => (law_facts g r (by omega) (by omega) (show _ < k by omega)).2.2.2.1
  have hNg := neg_no g
  have hE : ∀ k, K ≤ k → laws_eqIntS.f k r r = some true := fun k h => (law_facts [] r (by simp) (by omega) (show _ < k by simp; omega)).2.2.1
  have hM : ∀ k, K ≤ k → laws_markIntS.f k r 1 = some (1 + (r.length : Int), marks 1 r.length) := fun k h => (law_facts [] r (by simp) (by omega) (show _ < k by simp; omega)).2.2.2.2.1
  have hH : ∀ k, K ≤ k → laws_heldIntS.f k (marks 1 r.length) 1 = some (1 + (r.length : Int)) := fun k h => (law_facts [] r (by simp) (by omega) (show _ < k by simp; omega)).2.2.2.2.2
  have hN := neg_no r
  have e1 : ∀ k, K ≤ k → spec_ComposeMaps.f k f g = some (r, ok) := fun k h => (h0 k (by omega)).1
  have e2 : ∀ k, K ≤ k → impl_ComposeMaps.f k f g = some (r, ok) := fun k h => (h0 k (by omega)).2
  have hMg2 : ∀ k, K ≤ k → laws_markIntS.f k g (1 + (f.length : Int)) = some (1 + (f.length : Int) + (g.length : Int), marks (1 + (f.length : Int)) g.length) := fun k h => markIntS_eq g (1 + (f.length : Int)) (by omega) (by omega) (by omega) (by omega)
  have hN2 : ¬ (1 + (f.length : Int) + (g.length : Int) < 0) := by omega
  refine ⟨K + 9, ?_⟩
  simp [laws_FnExactComposeMaps.f, laws_FnExactComposeMaps.j0, laws_FnExactComposeMaps.j1, laws_FnExactComposeMaps.j2, hE, hM, hH, hN, e1, e2, hf, hTf, hEf, hMf, hNf, hg, hTg, hEg, hMg, hNg, hMg2, hN2]
end Go.Proofs.YtehhkkbejmhcfaaC
