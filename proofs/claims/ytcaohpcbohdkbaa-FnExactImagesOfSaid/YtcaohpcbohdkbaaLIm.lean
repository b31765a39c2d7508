/-
  The plain law of ImagesOf: how many numbers are reached by so many steps, counted by sorted lists on both sides. No conditions.
-/
import Derived.Test.YtcaohpcbohdkbaaLWs
import Derived.Test.YtcaohpcbohdkbaaCIm
namespace Go.Proofs.YtcaohpcbohdkbaaC
open Go.RowKit Go.Proofs.YtcaohpcbohdkbaaW.PrintWords Go.Proofs.YtcaohpcbohdkbaaW.PrintMore
set_option linter.unusedSimpArgs false
set_option linter.unusedVariables false

/-! ### sorted lists without doubles -/
theorem sorted_ext : ∀ (a b : List Int), a.Pairwise (· < ·) → b.Pairwise (· < ·) → (∀ z, z ∈ a ↔ z ∈ b) → a = b
  | [], [], _, _, _ => rfl
  | [], y :: b, _, _, h => absurd ((h y).2 (by simp)) (by simp)
  | x :: a, [], _, _, h => absurd ((h x).1 (by simp)) (by simp)
  | x :: a, y :: b, ha, hb, h => by
    have ha' := List.pairwise_cons.1 ha
    have hb' := List.pairwise_cons.1 hb
    have e : x = y := by
      rcases List.mem_cons.1 ((h x).1 (by simp)) with e | e
      · exact e
      · rcases List.mem_cons.1 ((h y).2 (by simp)) with e2 | e2
        · exact e2.symm
        · have := hb'.1 x e
          have := ha'.1 y e2
          omega
    subst e
    rw [sorted_ext a b ha'.2 hb'.2 (fun z => ?_)]
    constructor
    · intro hz
      rcases List.mem_cons.1 ((h z).1 (by simp [hz])) with e | e
      · subst e; exact absurd (ha'.1 _ hz) (by omega)
      · exact e
    · intro hz
      rcases List.mem_cons.1 ((h z).2 (by simp [hz])) with e | e
      · subst e; exact absurd (hb'.1 _ hz) (by omega)
      · exact e
theorem compact_upto (zs : List Int) (hs : zs.Pairwise (· ≤ ·)) : ∀ m, m ≤ zs.length → (Lib.compactUpTo zs.toArray m).Pairwise (· < ·) ∧ (∀ x, x ∈ Lib.compactUpTo zs.toArray m ↔ x ∈ zs.take m)
  | 0, _ => by simp [Lib.compactUpTo]
  | m + 1, hm => by
    obtain ⟨h1, h2⟩ := compact_upto zs hs m (by omega)
    have hml : m < zs.length := by omega
    have e1 : zs.toArray[m]! = zs[m] := by simp [hml]
    have ht : zs.take (m + 1) = zs.take m ++ [zs[m]] := List.take_succ_eq_append_getElem hml
    rw [Lib.compactUpTo_succ, e1, ht]
    by_cases hk : Lib.keeps zs.toArray m = true
    · rw [if_pos hk]
      refine ⟨List.pairwise_append.2 ⟨h1, by simp, fun a ha b hb => ?_⟩, fun x => by rw [List.mem_append, List.mem_append, h2 x]⟩
      rw [List.mem_singleton.1 hb]
      have ha' := (h2 a).1 ha
      obtain ⟨j, hj, rfl⟩ := List.getElem_of_mem ha'
      rw [List.length_take] at hj
      rw [List.getElem_take]
      have hm0 : ¬ m = 0 := by omega
      have hne : zs[m] ≠ zs[m - 1] := by
        intro e
        simp [Lib.keeps, hm0, hml, show m - 1 < zs.length by omega, e] at hk
      have hle := List.pairwise_iff_getElem.1 hs (m - 1) m (by omega) hml (by omega)
      by_cases hj2 : j = m - 1
      · subst hj2; omega
      · have := List.pairwise_iff_getElem.1 hs j (m - 1) (by omega) (by omega) (by omega)
        omega
    · rw [if_neg hk, List.append_nil]
      refine ⟨h1, fun x => ?_⟩
      rw [h2 x, List.mem_append, List.mem_singleton]
      constructor
      · exact .inl
      · rintro (h | rfl)
        · exact h
        · have hm0 : m ≠ 0 := by
            rintro rfl
            exact hk (by simp [Lib.keeps])
          have he : zs[m] = zs[m - 1] := by
            rcases Classical.em (zs[m] = zs[m - 1]) with e | e
            · exact e
            · exact absurd (by simp [Lib.keeps, hml, show m - 1 < zs.length by omega, e]) hk
          rw [he]
          exact List.mem_take_iff_getElem.2 ⟨m - 1, by omega, rfl⟩
theorem compact_sorted (zs : List Int) (hs : zs.Pairwise (· ≤ ·)) : (Lib.compact zs).Pairwise (· < ·) ∧ ∀ x, x ∈ Lib.compact zs ↔ x ∈ zs := by
  obtain ⟨h1, h2⟩ := compact_upto zs hs zs.length (Nat.le_refl _)
  exact ⟨h1, fun x => by rw [show Lib.compact zs = Lib.compactUpTo zs.toArray zs.length from rfl, h2 x, List.take_length]⟩
theorem mergeSort_le (l : List Int) : (l.mergeSort fun x y => decide (x ≤ y)).Pairwise (· ≤ ·) := by
  have h := List.pairwise_mergeSort (le := fun x y : Int => decide (x ≤ y)) (fun a b c h1 h2 => by simp only [decide_eq_true_eq] at *; omega) (fun a b => by simp only [Bool.or_eq_true, decide_eq_true_eq]; omega) l
  exact h.imp (fun h => of_decide_eq_true h)
/-- The distinct numbers of a list, in order. -/
def dist (l : List Int) : List Int := Lib.compact (l.mergeSort fun x y => decide (x ≤ y))
theorem dist_sorted (l : List Int) : (dist l).Pairwise (· < ·) := (compact_sorted _ (mergeSort_le l)).1
theorem dist_mem (l : List Int) (x : Int) : x ∈ dist l ↔ x ∈ l := by
  unfold dist
  rw [(compact_sorted _ (mergeSort_le l)).2 x, List.mem_mergeSort]
theorem dist_le (l : List Int) : (dist l).length ≤ l.length := by
  unfold dist Lib.compact Lib.compactUpTo
  rw [List.length_map]
  refine Nat.le_trans (List.length_filter_le _ _) ?_
  simp

/-! ### a number put among sorted ones -/
theorem l1Put_loop {s : List Int} {y : Int} (hs : s.Pairwise (· < ·)) (hl : s.length ≤ 1000) : ∀ (d j : Nat), j + d = s.length → (∀ q (h : q < s.length), q < j → s[q] < y) →
    ∃ s' : List Int, s'.Pairwise (· < ·) ∧ (∀ z, z ∈ s' ↔ z ∈ s ∨ z = y) ∧ s'.length ≤ s.length + 1 ∧ ∀ k, d < k → spec_l1Put.l0 k s y (j : Int) = some s'
  | 0, j, hj, hq => by
    obtain rfl : j = s.length := by omega
    have hlt : ∀ a ∈ s, a < y := fun a ha => by
      obtain ⟨q, h, rfl⟩ := List.getElem_of_mem ha
      exact hq q h h
    refine ⟨s ++ [y], List.pairwise_append.2 ⟨hs, by simp, fun a ha b hb => by rw [List.mem_singleton.1 hb]; exact hlt a ha⟩, fun z => by simp, by simp, fun k hk => ?_⟩
    obtain ⟨k, rfl⟩ : ∃ q, k = q + 1 := ⟨k - 1, by omega⟩
    rw [spec_l1Put.l0, if_neg (by omega), Option.bind_some, if_pos (by omega), if_pos (by omega), Option.bind_some, if_pos (by simp; omega), Option.bind_some, if_pos (by simp; omega), Option.bind_some, Option.bind_some, if_pos (by simp; omega)]
    simp
  | d + 1, j, hj, hq => by
    have hjl : j < s.length := by omega
    by_cases h1 : s[j] < y
    · obtain ⟨s', a1, a2, a3, a4⟩ := l1Put_loop hs hl d (j + 1) (by omega) (fun q h hqj => by
        by_cases e : q = j
        · subst e; exact h1
        · exact hq q h (by omega))
      refine ⟨s', a1, a2, a3, fun k hk => ?_⟩
      obtain ⟨k, rfl⟩ : ∃ q, k = q + 1 := ⟨k - 1, by omega⟩
      rw [spec_l1Put.l0, if_pos (by omega), if_pos (by omega), rd_get hjl, if_pos h1, w64s (by omega)]
      exact a4 k (by omega)
    · by_cases h2 : s[j] = y
      · refine ⟨s, hs, fun z => ⟨.inl, ?_⟩, by omega, fun k hk => ?_⟩
        · rintro (h | rfl)
          · exact h
          · rw [← h2]; exact List.getElem_mem hjl
        · obtain ⟨k, rfl⟩ : ∃ q, k = q + 1 := ⟨k - 1, by omega⟩
          rw [spec_l1Put.l0, if_pos (by omega), if_pos (by omega), rd_get hjl, if_neg h1, if_pos h2]
      · have hlo : ∀ a ∈ s.take j, a < y := fun a ha => by
          obtain ⟨q, h, rfl⟩ := List.getElem_of_mem ha
          rw [List.length_take] at h
          rw [List.getElem_take]
          exact hq q (by omega) (by omega)
        have hhi : ∀ a ∈ s.drop j, y < a := fun a ha => by
          obtain ⟨q, h, rfl⟩ := List.getElem_of_mem ha
          rw [List.length_drop] at h
          rw [List.getElem_drop]
          by_cases e : q = 0
          · subst e; simp only [Nat.add_zero]; omega
          · have := List.pairwise_iff_getElem.1 hs j (j + q) hjl (by omega) (by omega)
            omega
        refine ⟨s.take j ++ [y] ++ s.drop j, ?_, fun z => ?_, by simp; omega, fun k hk => ?_⟩
        · refine List.pairwise_append.2 ⟨List.pairwise_append.2 ⟨hs.sublist (List.take_sublist _ _), by simp, fun a ha b hb => by rw [List.mem_singleton.1 hb]; exact hlo a ha⟩, hs.sublist (List.drop_sublist _ _), fun a ha b hb => ?_⟩
          rcases List.mem_append.1 ha with ha | ha
          · have := hlo a ha; have := hhi b hb; omega
          · rw [List.mem_singleton.1 ha]; exact hhi b hb
        · conv => rhs; rw [← List.take_append_drop j s]
          simp only [List.mem_append, List.mem_singleton]
          constructor
          · rintro ((h | h) | h)
            · exact .inl (.inl h)
            · exact .inr h
            · exact .inl (.inr h)
          · rintro ((h | h) | h)
            · exact .inl (.inl h)
            · exact .inr h
            · exact .inl (.inr h)
        · obtain ⟨k, rfl⟩ : ∃ q, k = q + 1 := ⟨k - 1, by omega⟩
          rw [spec_l1Put.l0, if_pos (by omega), if_pos (by omega), rd_get hjl, if_neg h1, if_neg h2, Option.bind_some, if_pos (by omega), Option.bind_some, if_pos (by simp; omega), Option.bind_some, if_pos (by simp; omega), Option.bind_some, Option.bind_some, if_pos (by simp; omega)]
          simp
theorem l1Put_eq {s : List Int} (hs : s.Pairwise (· < ·)) (hl : s.length ≤ 1000) (y : Int) : ∃ s' : List Int, s'.Pairwise (· < ·) ∧ (∀ z, z ∈ s' ↔ z ∈ s ∨ z = y) ∧ s'.length ≤ s.length + 1 ∧ ∀ k, s.length < k → spec_l1Put.f k s y = some s' :=
  l1Put_loop hs hl s.length 0 (by omega) (fun _ _ h => absurd h (by omega))

/-! ### the greatest depth -/
theorem Max_is {xs : List Int} : ∀ (k j : Nat) (m r : Int), j ≤ 1000 → xs.length ≤ 1000 → slices_Max_int_int.l0 k xs m (j : Int) = some r → m ≤ r ∧ (r = m ∨ r ∈ xs) ∧ ∀ q (h : q < xs.length), j ≤ q → xs[q] ≤ r
  | 0, _, _, _, _, _, h => by rw [slices_Max_int_int.l0] at h; cases h
  | k + 1, j, m, r, hj, hx, h => by
    rw [slices_Max_int_int.l0] at h
    by_cases c : (j : Int) < (xs.length : Int)
    · have hjl : j < xs.length := by omega
      rw [if_pos c, if_pos (by omega), w64s (by omega), rd_get hjl] at h
      obtain ⟨h1, h2, h3⟩ := Max_is k (j + 1) _ r (by omega) hx h
      have hm : m ≤ mx m xs[j] ∧ xs[j] ≤ mx m xs[j] ∧ (mx m xs[j] = m ∨ mx m xs[j] = xs[j]) := by
        unfold mx
        split <;> omega
      refine ⟨by omega, ?_, fun q hq hjq => ?_⟩
      · rcases h2 with h2 | h2
        · rcases hm.2.2 with e | e
          · exact .inl (h2.trans e)
          · exact .inr (by rw [h2, e]; exact List.getElem_mem hjl)
        · exact .inr h2
      · by_cases e : q = j
        · subst e; omega
        · exact h3 q hq (by omega)
    · rw [if_neg c] at h
      obtain rfl := Option.some.inj h
      exact ⟨Int.le_refl _, .inl rfl, fun q hq hjq => absurd hq (by omega)⟩
/-- The greatest depth. -/
structure IsDeep (l : List Int) (m : Nat) : Prop where
  le : ∀ i, i < l.length → rA l (i : Int) ≤ m
  at_ : ∃ i, i < l.length ∧ rA l (i : Int) = m
theorem deep_eq {l : List Int} (h : MapL l) (h1 : 0 < l.length) (h60 : l.length ≤ 60) : ∃ (K m : Nat), IsDeep l m ∧ ∀ k, K ≤ k → spec_mpDeepest.f k l = some (m : Int) ∧ ((impl_depths.f k l).bind fun t234 => slices_Max_int_int.f k t234) = some (m : Int) := by
  obtain ⟨K, r, hr⟩ := deep_both h h1 h60
  have h2 := (hr (K + 200) (by omega)).2
  rw [depths_eq h h60 (by omega), Option.bind_some, slices_Max_int_int.f, if_neg (by rw [upTo_length]; omega), if_pos (by rw [upTo_length]; omega)] at h2
  have hl := upTo_length (dep l) l.length
  obtain ⟨a1, a2, a3⟩ := Max_is _ 1 _ r (by omega) (by omega) h2
  have e0 : rd (upTo (dep l) l.length) 0 = (rA l ((0 : Nat) : Int) : Int) := upTo_at (dep l) h1
  rw [e0] at a1 a2
  have hmem : ∃ i, i < l.length ∧ r = (rA l (i : Int) : Int) := by
    rcases a2 with e | e
    · exact ⟨0, h1, e⟩
    · simp only [upTo, List.mem_map, List.mem_range] at e
      obtain ⟨i, hi, rfl⟩ := e
      exact ⟨i, hi, rfl⟩
  obtain ⟨i, hi, rfl⟩ := hmem
  refine ⟨K, rA l (i : Int), ⟨fun j hj => ?_, i, hi, rfl⟩, hr⟩
  by_cases e : j = 0
  · subst e; exact Int.ofNat_le.1 a1
  · have := a3 j (by omega) (by omega)
    simp only [upTo, List.getElem_map, List.getElem_range, dep] at this
    exact Int.ofNat_le.1 this
theorem IsDeep.lt {l : List Int} (h : MapL l) {m : Nat} (hd : IsDeep l m) : m < l.length := by
  obtain ⟨i, hi, rfl⟩ := hd.at_
  have h2 := rA_lt h (x := (i : Int)) ⟨by omega, by omega⟩
  have h3 := per_pos h (x := (i : Int)) ⟨by omega, by omega⟩
  omega

/-! ### both sides -/
theorem mpPower_loop {l : List Int} (h : MapL l) (hl : l.length ≤ 60) (n : Nat) (hn : n ≤ 1000) : ∀ (d i k : Nat), i + d = l.length → n + d < k → spec_mpPower.l0 k l (n : Int) (upTo (pw l n) i) (l.length : Int) (i : Int) = some (upTo (pw l n) l.length)
  | 0, i, k, hi, hk => by
    obtain ⟨k, rfl⟩ : ∃ q, k = q + 1 := ⟨k - 1, by omega⟩
    obtain rfl : i = l.length := by omega
    rw [spec_mpPower.l0, if_neg (by omega)]
  | d + 1, i, k, hi, hk => by
    obtain ⟨k, rfl⟩ : ∃ q, k = q + 1 := ⟨k - 1, by omega⟩
    rw [spec_mpPower.l0, if_pos (by omega), at_eq h ⟨by omega, by omega⟩ n (by omega) (by omega), Option.bind_some, if_pos (by rw [upTo_length]; omega), w64s (by omega)]
    have := mpPower_loop h hl n hn d (i + 1) k (by omega) (by omega)
    rw [upTo_succ] at this
    exact this
theorem mpPower_eq {l : List Int} (h : MapL l) (hl : l.length ≤ 60) (n : Nat) (hn : n ≤ 1000) {k : Nat} (hk : n + l.length < k) : spec_mpPower.f k l (n : Int) = some (upTo (pw l n) l.length) := mpPower_loop h hl n hn l.length 0 k (by omega) (by omega)
theorem Images_l1 (l x4 xs : List Int) (x5 : Int) (hx : xs.length ≤ 60) : ∀ (d j : Nat) (s : List Int), j + d = xs.length → s.Pairwise (· < ·) → s.length ≤ j → ∃ s' : List Int, s'.Pairwise (· < ·) ∧ (∀ z, z ∈ s' ↔ z ∈ s ∨ z ∈ xs.drop j) ∧
    ∀ k, 100 ≤ k → spec_ImagesOf.l1 (k + d + 1) l x4 x5 s xs (xs.length : Int) (j : Int) = if x4.length < 17592186044416 then spec_ImagesOf.l0 k l (x4 ++ [(s'.length : Int)]) (wrap64 (x5 + 1)) else none
  | 0, j, s, hj, hs, hsl => by
    refine ⟨s, hs, fun z => by rw [List.drop_eq_nil_of_le (by omega)]; simp, fun k hk => ?_⟩
    rw [spec_ImagesOf.l1, if_neg (by omega)]
  | d + 1, j, s, hj, hs, hsl => by
    have hjl : j < xs.length := by omega
    obtain ⟨t, t1, t2, t3, t4⟩ := l1Put_eq hs (by omega) xs[j]
    obtain ⟨s', a1, a2, a3⟩ := Images_l1 l x4 xs x5 hx d (j + 1) t (by omega) t1 (by omega)
    refine ⟨s', a1, fun z => ?_, fun k hk => ?_⟩
    · rw [a2 z, t2 z, List.drop_eq_getElem_cons hjl, List.mem_cons]
      constructor
      · rintro ((h | h) | h)
        · exact .inl h
        · exact .inr (.inl h)
        · exact .inr (.inr h)
      · rintro (h | h | h)
        · exact .inl (.inl h)
        · exact .inl (.inr h)
        · exact .inr h
    · rw [show k + (d + 1) + 1 = (k + d + 1) + 1 by omega, spec_ImagesOf.l1, if_pos (by omega), if_pos (by omega), if_pos (by omega), rd_get hjl, t4 _ (by omega), Option.bind_some, w64s (by omega)]
      exact a3 k hk
/-- How many numbers are reached by t steps. -/
def img (l : List Int) (t : Nat) : Int := ((dist (upTo (pw l t) l.length)).length : Int)
theorem Images_loop {l : List Int} (h : MapL l) (h60 : l.length ≤ 60) {m : Nat} (hm : IsDeep l m) {K0 : Nat} (hK : ∀ k, K0 ≤ k → spec_mpDeepest.f k l = some (m : Int)) : ∀ (d i : Nat), i + d = m + 1 → ∃ K, ∀ k, K ≤ k →
    spec_ImagesOf.l0 k l (upTo (img l) i) (i : Int) = some (upTo (img l) (m + 1), true) ∧ impl_ImagesOf.l0 k l (upTo (img l) i) ((m + 1 : Nat) : Int) (i : Int) = some (upTo (img l) (m + 1), true)
  | 0, i, hi => by
    refine ⟨K0 + 1, fun k hk => ?_⟩
    obtain ⟨k, rfl⟩ : ∃ q, k = q + 1 := ⟨k - 1, by omega⟩
    obtain rfl : i = m + 1 := by omega
    exact ⟨by rw [spec_ImagesOf.l0, hK k (by omega), Option.bind_some, if_neg (by omega)], by rw [impl_ImagesOf.l0, if_neg (by omega)]⟩
  | d + 1, i, hi => by
    obtain ⟨K, hK2⟩ := Images_loop h h60 hm hK d (i + 1) (by omega)
    have hml := hm.lt h
    obtain ⟨xs, hxs⟩ : ∃ xs, xs = upTo (pw l i) l.length := ⟨_, rfl⟩
    have hxl : xs.length = l.length := by rw [hxs, upTo_length]
    have hul := upTo_length (img l) i
    obtain ⟨s', a1, a2, a3⟩ := Images_l1 l (upTo (img l) i) xs (i : Int) (by omega) xs.length 0 [] (by omega) (by simp) (by simp)
    have hs' : s' = dist xs := sorted_ext _ _ a1 (dist_sorted xs) (fun z => by rw [a2 z, dist_mem]; simp)
    refine ⟨K + K0 + 1000, fun k hk => ⟨?_, ?_⟩⟩
    · obtain ⟨k, rfl⟩ : ∃ q, k = (q + xs.length + 1) + 1 := ⟨k - xs.length - 2, by omega⟩
      rw [spec_ImagesOf.l0, hK _ (by omega), Option.bind_some, if_pos (by omega), mpPower_eq h h60 i (by omega) (by omega), Option.bind_some, ← hxs]
      have := a3 k (by omega)
      rw [show ((0 : Nat) : Int) = 0 from rfl] at this
      rw [this, if_pos (by omega), w64s (by omega), hs', hxs]
      have h2 := (hK2 k (by omega)).1
      rw [upTo_succ] at h2
      exact h2
    · obtain ⟨k, rfl⟩ : ∃ q, k = q + 1 := ⟨k - 1, by omega⟩
      rw [impl_ImagesOf.l0, if_pos (by omega), power_eq h h60 i (by omega) (by omega), Option.bind_some, ← hxs, slices_Sort_int_int.f, if_pos (by omega), Option.bind_some, slices_Compact_int_int.f, if_pos (by rw [List.length_mergeSort]; omega), Option.bind_some, if_pos (by omega), w64s (by omega)]
      have h2 := (hK2 k (by omega)).2
      rw [upTo_succ] at h2
      rw [show ((Lib.compact (xs.mergeSort fun x y => decide (x ≤ y))).length : Int) = img l i from by rw [hxs]; rfl]
      exact h2
theorem ImagesOf_eq {l : List Int} (h : MapL l) (h1 : 0 < l.length) (h60 : l.length ≤ 60) (hm : isMapB l = true) : ∃ (K m : Nat), IsDeep l m ∧ ∀ k, K ≤ k → spec_ImagesOf.f k l = some (upTo (img l) (m + 1), true) ∧ impl_ImagesOf.f k l = some (upTo (img l) (m + 1), true) := by
  obtain ⟨K0, m, hd, hK⟩ := deep_eq h h1 h60
  obtain ⟨K1, h2⟩ := Images_loop h h60 hd (fun k hk => (hK k hk).1) (m + 1) 0 (by omega)
  have hml := hd.lt h
  refine ⟨K0 + K1 + 1000, m, hd, fun k hk => ⟨?_, ?_⟩⟩
  · rw [spec_ImagesOf.f, mpGood_eq l (by omega) (by omega), hm, Option.bind_some, if_pos rfl]
    exact (h2 k (by omega)).1
  · have h3 := (hK k (by omega)).2
    rw [impl_ImagesOf.f, IsMap_eq l (by omega), hm, Option.bind_some, if_pos rfl]
    rw [depths_eq h h60 (by omega), Option.bind_some] at h3 ⊢
    rw [h3, Option.bind_some, w64s (by omega)]
    exact (h2 k (by omega)).2
theorem ImagesOf_both (l : List Int) (hl : l.length ≤ 1048576) : ∃ (K : Nat) (r : List Int) (ok : Bool), r.length ≤ 1000 ∧ ∀ k, K ≤ k → spec_ImagesOf.f k l = some (r, ok) ∧ impl_ImagesOf.f k l = some (r, ok) := by
  cases hm : isMapB l with
  | false => exact ⟨l.length + 1, [], false, by simp, fun k hk => ⟨by rw [spec_ImagesOf.f, mpGood_eq l hl (by omega), hm, Option.bind_some, if_neg (by decide)], by rw [impl_ImagesOf.f, IsMap_eq l hl, hm, Option.bind_some, if_neg (by decide)]⟩⟩
  | true =>
    obtain ⟨g1, g2, g3⟩ := isMap_range hm
    obtain ⟨K, m, hd, hK⟩ := ImagesOf_eq (l := l) g3 (by omega) g2 hm
    have hml := hd.lt g3
    exact ⟨K, _, true, by rw [upTo_length]; omega, hK⟩
theorem ImagesOf_law : laws_FnExactImagesOf.Pure := by
  intro l _ _ _
  by_cases hl : (l.length : Int) > 1048576
  · exact ⟨0, by rw [laws_FnExactImagesOf.f, if_pos hl]⟩
  obtain ⟨K0, r, ok, hr, h0⟩ := ImagesOf_both l (by omega)
  obtain ⟨K, hK⟩ : ∃ K, K = K0 + l.length + r.length + 1 := ⟨_, rfl⟩
  have hTl : ∀ k, K ≤ k → laws_toIntS.f k l = some l := fun k h => (law_facts l r (by omega) (by omega) (show _ < k by omega)).1
  have hEl : ∀ k, K ≤ k → laws_eqIntS.f k l l = some true := fun k h => (law_facts l r (by omega) (by omega) (show _ < k by omega)).2.1
  have hMl : ∀ k, K ≤ k → laws_markIntS.f k l 1 = some (1 + (l.length : Int), marks 1 l.length) := fun k h => (law_facts l r (by omega) (by omega) (show _ < k by omega)).2.2.2.1
  have hNl := neg_no l
  have hE : ∀ k, K ≤ k → laws_eqIntS.f k r r = some true := fun k h => (law_facts [] r (by simp) (by omega) (show _ < k by simp; omega)).2.2.1
  have hM : ∀ k, K ≤ k → laws_markIntS.f k r 1 = some (1 + (r.length : Int), marks 1 r.length) := fun k h => (law_facts [] r (by simp) (by omega) (show _ < k by simp; omega)).2.2.2.2.1
  have hH : ∀ k, K ≤ k → laws_heldIntS.f k (marks 1 r.length) 1 = some (1 + (r.length : Int)) := fun k h => (law_facts [] r (by simp) (by omega) (show _ < k by simp; omega)).2.2.2.2.2
  have hN := neg_no r
  have e1 : ∀ k, K ≤ k → spec_ImagesOf.f k l = some (r, ok) := fun k h => (h0 k (by omega)).1
  have e2 : ∀ k, K ≤ k → impl_ImagesOf.f k l = some (r, ok) := fun k h => (h0 k (by omega)).2
  refine ⟨K + 9, ?_⟩
  simp [laws_FnExactImagesOf.f, laws_FnExactImagesOf.j0, laws_FnExactImagesOf.j1, laws_FnExactImagesOf.j2, hE, hM, hH, hN, e1, e2, hl, hTl, hEl, hMl, hNl]

end Go.Proofs.YtcaohpcbohdkbaaC
