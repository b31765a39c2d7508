/-
  The laws of DigitsOf, DigitCounts, DigitalRoot, NumberText, Constants over the printed functions. No conditions.
-/
import Derived.Test.YteacgcilhjjnkaaLLw
namespace Go.Proofs.YteacgcilhjjnkaaC
open Go.RowKit Go.Proofs.YteacgcilhjjnkaaW.PrintWords

theorem Constants_law : laws_FnExactConstants.Pure := rfl


theorem DigitsOf_law : laws_FnExactDigitsOf.Pure := by
  intro n b _ _
  obtain ⟨K, l, ok, hl, e1, e2⟩ : ∃ (K : Nat) (l : List Int) (ok : Bool), l.length ≤ 1000 ∧ (∀ k, K ≤ k → spec_DigitsOf.f k n b = some (l, ok)) ∧ ∀ k, K ≤ k → impl_DigitsOf.f k n b = some (l, ok) := by
    cases h : asked n b with
    | false => exact ⟨0, [], false, by simp, fun k _ => by simp [spec_DigitsOf.f, dgAsked_eq, h], fun k _ => by simp [impl_DigitsOf.f, isNumber_eq, h]⟩
    | true =>
      obtain ⟨m, c, rfl, rfl, hm, hc, hc2⟩ := asked_nat h
      obtain ⟨K, hK, hk⟩ := digits_both (c := c) (m := m) hc hc2 (by omega)
      have hs := dg_short (c := c) (m := m) hc (by omega)
      exact ⟨K, dg c m, true, by omega, fun k hk' => by simp [spec_DigitsOf.f, dgAsked_eq, h, (hk k hk').1], fun k hk' => by simp [impl_DigitsOf.f, isNumber_eq, h, (hk k hk').2]⟩
  obtain ⟨m1, m2, m3, m4⟩ := marked_eq l (k := K + l.length + 3) (by omega) (by omega)
  obtain ⟨n1, n2, n3, n4⟩ := marked_eq l (k := K + l.length + 2) (by omega) (by omega)
  obtain ⟨p1, p2, p3, p4⟩ := marked_eq l (k := K + l.length + 1) (by omega) (by omega)
  refine ⟨K + l.length + 3, ?_⟩
  simp [laws_FnExactDigitsOf.f, laws_FnExactDigitsOf.j0, laws_FnExactDigitsOf.j1, e1 (K + l.length + 3) (by omega), e2 (K + l.length + 3) (by omega), e2 (K + l.length + 2) (by omega), m4, n1, n2, n3, n4, p2]

theorem dgCounts_loop (xs : List Int) (hx : xs.length ≤ 4611686018427387904) (b : Nat) : ∀ (suf pre : List Int) (s : List Int) (k : Nat), xs = pre ++ suf → suf.length < k → s.length = b → (∀ x ∈ suf, 0 ≤ x ∧ x < b) →
    spec_dgCounts.l0 k s xs (xs.length : Int) (pre.length : Int) = some (suf.foldl (fun a d => a.set d.toNat (wrap64 (rd a d + 1))) s) := by
  intro suf
  induction suf with
  | nil =>
    intro pre s k h hk _ _
    obtain ⟨k, rfl⟩ : ∃ m, k = m + 1 := ⟨k - 1, by omega⟩
    subst h; rw [spec_dgCounts.l0, if_neg (by simp)]; rfl
  | cons x suf ih =>
    intro pre s k h hk hs hr
    simp only [List.length_cons] at hk
    obtain ⟨k, rfl⟩ : ∃ m, k = m + 1 := ⟨k - 1, by omega⟩
    have hl : xs.length = pre.length + suf.length + 1 := by subst h; simp; omega
    have e : rd xs (pre.length : Int) = x := by subst h; exact rd_mid _ _ _
    have hx0 := hr x (by simp)
    rw [spec_dgCounts.l0, if_pos (by omega), if_pos (by omega), if_pos (by omega), e, if_pos (by omega), if_pos (by omega), w64 (n := (pre.length : Int) + 1) (by omega) (by omega)]
    have := ih (pre ++ [x]) (s.set x.toNat (wrap64 (rd s x + 1))) k (by simp [h]) (by omega) (by simpa using hs) (fun y hy => hr y (by simp [hy]))
    simpa using this
def countL (b : Nat) (l : List Int) : List Int := l.foldl (fun a d => a.set d.toNat (wrap64 (rd a d + 1))) (List.replicate b 0)
theorem countL_length (b : Nat) (l : List Int) : (countL b l).length = b := by
  have : ∀ (l : List Int) (s : List Int), (l.foldl (fun a d => a.set d.toNat (wrap64 (rd a d + 1))) s).length = s.length := by
    intro l
    induction l with
    | nil => intro s; rfl
    | cons x l ih => intro s; rw [List.foldl_cons, ih]; simp
  rw [countL, this]; simp
theorem dgCounts_eq (b : Nat) (l : List Int) (hb : b ≤ 35184372088832) (hl : l.length ≤ 4611686018427387904) {k : Nat} (hk : l.length < k) (hr : ∀ x ∈ l, 0 ≤ x ∧ x < b) : spec_dgCounts.f k l (b : Int) = some (countL b l) := by
  have := dgCounts_loop l hl b l [] (List.replicate b 0) k rfl hk (by simp) hr
  unfold spec_dgCounts.f
  rw [if_pos (by omega), if_pos (by simpa using hb)]
  simpa [countL] using this
theorem countsOf_loop : ∀ (k : Nat) (s xs : List Int) (n i : Int), impl_countsOf.l0 k s xs n i = spec_dgCounts.l0 k s xs n i := by
  intro k
  induction k with
  | zero => intros; rfl
  | succ k ih => intro s xs n i; simp only [impl_countsOf.l0, spec_dgCounts.l0, ih]
theorem countsOf_is (k : Nat) (l : List Int) (b : Int) : impl_countsOf.f k l b = spec_dgCounts.f k l b := by
  unfold impl_countsOf.f spec_dgCounts.f
  simp only [countsOf_loop]

theorem DigitCounts_law : laws_FnExactDigitCounts.Pure := by
  intro n b _ _
  obtain ⟨K, l, ok, hl, e1, e2⟩ : ∃ (K : Nat) (l : List Int) (ok : Bool), l.length ≤ 1000 ∧ (∀ k, K ≤ k → spec_DigitCounts.f k n b = some (l, ok)) ∧ ∀ k, K ≤ k → impl_DigitCounts.f k n b = some (l, ok) := by
    cases h : asked n b with
    | false => exact ⟨0, [], false, by simp, fun k _ => by simp [spec_DigitCounts.f, dgAsked_eq, h], fun k _ => by simp [impl_DigitCounts.f, isNumber_eq, h]⟩
    | true =>
      obtain ⟨m, c, rfl, rfl, hm, hc, hc2⟩ := asked_nat h
      obtain ⟨K, hK, hk⟩ := digits_both (c := c) (m := m) hc hc2 (by omega)
      have hs := dg_short (c := c) (m := m) hc (by omega)
      have hr := dg_range hc m
      exact ⟨K, countL c (dg c m), true, by rw [countL_length]; omega,
        fun k hk' => by simp [spec_DigitCounts.f, dgAsked_eq, h, (hk k hk').1, dgCounts_eq c (dg c m) (by omega) (by omega) (show _ < k by omega) hr],
        fun k hk' => by simp [impl_DigitCounts.f, isNumber_eq, h, (hk k hk').2, countsOf_is, dgCounts_eq c (dg c m) (by omega) (by omega) (show _ < k by omega) hr]⟩
  obtain ⟨m1, m2, m3, m4⟩ := marked_eq l (k := K + l.length + 3) (by omega) (by omega)
  obtain ⟨n1, n2, n3, n4⟩ := marked_eq l (k := K + l.length + 2) (by omega) (by omega)
  obtain ⟨p1, p2, p3, p4⟩ := marked_eq l (k := K + l.length + 1) (by omega) (by omega)
  refine ⟨K + l.length + 3, ?_⟩
  simp [laws_FnExactDigitCounts.f, laws_FnExactDigitCounts.j0, laws_FnExactDigitCounts.j1, e1 (K + l.length + 3) (by omega), e2 (K + l.length + 3) (by omega), e2 (K + l.length + 2) (by omega), m4, n1, n2, n3, n4, p2]


/-! ### DigitalRoot -/
theorem wsum_eq : ∀ (l : List Int) (s : Int), (∀ x ∈ l, 0 ≤ x ∧ x ≤ 16) → 0 ≤ s → s + 16 * (l.length : Int) ≤ 4611686018427387904 → l.foldl (fun a d => wrap64 (a + d)) s = s + l.sum
  | [], s, _, _, _ => by simp
  | x :: l, s, h, h0, h1 => by
    have hx := h x (by simp)
    simp only [List.length_cons] at h1
    rw [List.foldl_cons, w64 (by omega) (by omega), wsum_eq l (s + x) (fun y hy => h y (by simp [hy])) (by omega) (by omega), List.sum_cons]
    omega
theorem sum_rev (l : List Int) : l.reverse.sum = l.sum := by
  induction l with
  | nil => rfl
  | cons x l ih => rw [List.reverse_cons, List.sum_append, ih]; simp; omega
theorem lsd_sum {b : Nat} (hb : 2 ≤ b) : ∀ (n : Nat), 0 ≤ (lsd b n).sum ∧ (lsd b n).sum ≤ n := by
  intro n
  induction n using Nat.strongRecOn with
  | ind n ih =>
    rcases Nat.eq_zero_or_pos n with rfl | hp
    · simp [lsd_zero]
    · have ih := ih _ (Nat.div_lt_self hp hb)
      rw [lsd_pos hb hp, List.sum_cons]
      have h1 := Nat.div_add_mod n b
      have h2 : n / b ≤ b * (n / b) := Nat.le_mul_of_pos_left _ (by omega)
      generalize n / b = q at *
      generalize n % b = r at *
      generalize b * q = t at *
      omega
theorem dg_sum_lt {b n : Nat} (hb : 2 ≤ b) (hn : b ≤ n) : 0 ≤ (dg b n).sum ∧ (dg b n).sum < n := by
  rw [dg, if_neg (by omega), sum_rev, lsd_pos hb (by omega), List.sum_cons]
  have ih := lsd_sum hb (n / b)
  have h1 := Nat.div_add_mod n b
  have h0 : 1 ≤ n / b := (Nat.one_le_div_iff (by omega)).2 hn
  have h2 : 2 * (n / b) ≤ b * (n / b) := Nat.mul_le_mul_right _ hb
  generalize n / b = q at *
  generalize n % b = r at *
  generalize b * q = t at *
  omega
theorem sumL_dg {b n : Nat} (hb : 2 ≤ b) (hb2 : b ≤ 16) (hn : n ≤ 9223372036854775807) : sumL (dg b n) = (dg b n).sum := by
  have hs := dg_short (c := b) (m := n) hb hn
  have := wsum_eq (dg b n) 0 (fun x hx => by have := dg_range hb n x hx; omega) (by omega) (by omega)
  simpa [sumL] using this
theorem root_loop {b : Nat} (hb : 2 ≤ b) (hb2 : b ≤ 16) : ∀ (n : Nat), n ≤ 9223372036854775807 → ∃ (r : Int) (K : Nat), ∀ k, K ≤ k → spec_DigitalRoot.l0 k n b = some (r, true) ∧ impl_DigitalRoot.l0 k n b = some (r, true) := by
  intro n
  induction n using Nat.strongRecOn with
  | ind n ih =>
    intro hn
    by_cases h : b ≤ n
    · have hlt := dg_sum_lt hb h
      obtain ⟨m, hm⟩ : ∃ m : Nat, (dg b n).sum = m := ⟨_, (Int.toNat_of_nonneg hlt.1).symm⟩
      obtain ⟨r, K1, h1⟩ := ih m (by omega) (by omega)
      obtain ⟨K2, hK2, h2⟩ := digits_both (c := b) (m := n) hb hb2 hn
      have hs := dg_short (c := b) (m := n) hb hn
      refine ⟨r, K1 + K2 + 1, fun k hk => ?_⟩
      obtain ⟨k, rfl⟩ : ∃ q, k = q + 1 := ⟨k - 1, by omega⟩
      obtain ⟨a1, a2⟩ := h1 k (by omega)
      obtain ⟨b1, b2⟩ := h2 k (by omega)
      rw [spec_DigitalRoot.l0, impl_DigitalRoot.l0, if_pos (by omega), if_pos (by omega), b1, digitSum_eq hb hn (by omega) b2]
      simp only [Option.bind_some]
      rw [dgSum_eq (dg b n) (by omega) (by omega)]
      simp only [Option.bind_some]
      rw [sumL_dg hb hb2 hn, hm]
      exact ⟨a1, a2⟩
    · refine ⟨n, 1, fun k hk => ?_⟩
      obtain ⟨k, rfl⟩ : ∃ q, k = q + 1 := ⟨k - 1, by omega⟩
      rw [spec_DigitalRoot.l0, impl_DigitalRoot.l0, if_neg (by omega), if_neg (by omega)]
      exact ⟨rfl, rfl⟩
theorem DigitalRoot_law : laws_FnExactDigitalRoot.Pure := by
  intro n b _ _
  cases h : asked n b with
  | false => exact ⟨0, by simp [laws_FnExactDigitalRoot.f, spec_DigitalRoot.f, impl_DigitalRoot.f, dgAsked_eq, isNumber_eq, h]⟩
  | true =>
    obtain ⟨m, c, rfl, rfl, hm, hc, hc2⟩ := asked_nat h
    obtain ⟨r, K, hK⟩ := root_loop hc hc2 m (by omega)
    obtain ⟨e1, e2⟩ := hK K (by omega)
    exact ⟨K, by simp [laws_FnExactDigitalRoot.f, spec_DigitalRoot.f, impl_DigitalRoot.f, dgAsked_eq, isNumber_eq, h, e1, e2]⟩

/-! ### NumberText -/
def signs : ByteArray := ⟨#[48, 49, 50, 51, 52, 53, 54, 55, 56, 57, 97, 98, 99, 100, 101, 102]⟩
theorem sign_one (d : Nat) (hd : d < 16) : signs.extract d (d + 1) = strOfNums [bt signs d] := by
  have : d = 0 ∨ d = 1 ∨ d = 2 ∨ d = 3 ∨ d = 4 ∨ d = 5 ∨ d = 6 ∨ d = 7 ∨ d = 8 ∨ d = 9 ∨ d = 10 ∨ d = 11 ∨ d = 12 ∨ d = 13 ∨ d = 14 ∨ d = 15 := by omega
  rcases this with rfl | rfl | rfl | rfl | rfl | rfl | rfl | rfl | rfl | rfl | rfl | rfl | rfl | rfl | rfl | rfl <;> decide +kernel
theorem strOfNums_append (a b : List Int) : strOfNums (a ++ b) = strOfNums a ++ strOfNums b := by
  apply ByteArray.ext
  simp [strOfNums]
theorem text_loops (xs : List Int) (hx : xs.length ≤ 1000) : ∀ (suf pre : List Int) (s : List Int) (k : Nat), xs = pre ++ suf → suf.length < k → s.length = pre.length → (∀ x ∈ suf, 0 ≤ x ∧ x < 16) →
    ∃ t, impl_textOf.l0 k s xs (xs.length : Int) (pre.length : Int) = some t ∧ spec_dgText.l0 k (strOfNums s) xs (xs.length : Int) (pre.length : Int) = some t := by
  intro suf
  induction suf with
  | nil =>
    intro pre s k h hk _ _
    obtain ⟨k, rfl⟩ : ∃ m, k = m + 1 := ⟨k - 1, by omega⟩
    subst h
    refine ⟨strOfNums s, ?_, ?_⟩
    · rw [impl_textOf.l0, if_neg (by simp)]
    · rw [spec_dgText.l0, if_neg (by simp)]
  | cons x suf ih =>
    intro pre s k h hk hs hr
    simp only [List.length_cons] at hk
    obtain ⟨k, rfl⟩ : ∃ m, k = m + 1 := ⟨k - 1, by omega⟩
    have hl : xs.length = pre.length + suf.length + 1 := by subst h; simp; omega
    have e : rd xs (pre.length : Int) = x := by subst h; exact rd_mid _ _ _
    have hx0 := hr x (by simp)
    obtain ⟨d, rfl⟩ := Int.eq_ofNat_of_zero_le hx0.1
    obtain ⟨t, h1, h2⟩ := ih (pre ++ [(d : Int)]) (s ++ [bt signs d]) k (by simp [h]) (by omega) (by simp [hs]) (fun y hy => hr y (by simp [hy]))
    have w1 : wrap64 ((d : Int) + 1) = ((d + 1 : Nat) : Int) := by rw [w64 (by omega) (by omega)]; omega
    have w2 : wrap64 ((pre.length : Int) + 1) = (((pre ++ [(d : Int)]).length : Nat) : Int) := by rw [w64 (by omega) (by omega)]; simp
    refine ⟨t, ?_, ?_⟩
    · rw [impl_textOf.l0, if_pos (by omega), if_pos (by omega), if_pos (by omega), e, if_pos (by omega), if_pos (by omega), if_pos (by omega), w2]
      exact h1
    · have hz : (strOfNums s).size = s.length := strOfNums_size s
      have hy : (signs.extract d (d + 1)).size = 1 := by rw [sign_one d (by omega)]; rfl
      have := sign_one d (by omega)
      rw [spec_dgText.l0, if_pos (by omega), if_pos (by omega), if_pos (by omega), e, if_pos (by omega), w1, if_pos (by omega), if_pos (by omega), w2]
      simp only [Int.toNat_natCast]
      change (if (strOfNums s).size + (signs.extract d (d + 1)).size ≤ _ then spec_dgText.l0 k (strOfNums s ++ signs.extract d (d + 1)) _ _ _ else none) = _
      rw [if_pos (by omega), this, ← strOfNums_append]
      exact h2
theorem NumberText_law : laws_FnExactNumberText.Pure := by
  intro n b _ _
  cases h : asked n b with
  | false => exact ⟨0, by simp [laws_FnExactNumberText.f, spec_NumberText.f, impl_NumberText.f, dgAsked_eq, isNumber_eq, h]⟩
  | true =>
    obtain ⟨m, c, rfl, rfl, hm, hc, hc2⟩ := asked_nat h
    obtain ⟨K, hK, hk⟩ := digits_both (c := c) (m := m) hc hc2 (by omega)
    obtain ⟨e1, e2⟩ := hk K (by omega)
    have hs := dg_short (c := c) (m := m) hc (by omega)
    obtain ⟨t, t1, t2⟩ := text_loops (dg c m) (by omega) (dg c m) [] [] K rfl (by omega) rfl (fun x hx => by have := dg_range hc m x hx; omega)
    have f1 : impl_textOf.f K m c = some t := by rw [impl_textOf.f, e2]; exact t1
    have f2 : spec_dgText.f K m c = some t := by rw [spec_dgText.f, e1]; exact t2
    exact ⟨K, by simp [laws_FnExactNumberText.f, spec_NumberText.f, impl_NumberText.f, dgAsked_eq, isNumber_eq, h, f1, f2]⟩
end Go.Proofs.YteacgcilhjjnkaaC
