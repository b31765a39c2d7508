/-
  The laws of AreDigits, NumberOf, IsPalindrome and ReverseNumber over the printed functions. No conditions.
-/
import Derived.Test.YtehhkkbejmhcfaaLB
namespace Go.Proofs.YtehhkkbejmhcfaaC
open Go.RowKit Go.Proofs.YtehhkkbejmhcfaaW.PrintWords

/-! ### are they digits -/
def areD (l : List Int) (b : Int) : Bool := decide (1 ≤ (l.length : Int) ∧ (l.length : Int) ≤ 40) && (between 0 (b - 1) l && (decide (0 < rd l 0) || ((l.length : Int) == 1)))
theorem dgAre_eq (l : List Int) (b : Int) (hb : 2 ≤ b ∧ b ≤ 16) {k : Nat} (hl : l.length ≤ 1048576) (hk : l.length < k) : spec_dgAre.f k l b = some (areD l b) := by
  unfold spec_dgAre.f areD
  rw [l1In_eq, w64 (by omega) (by omega)]
  simp only [Option.bind_some]
  by_cases h1 : 1 ≤ (l.length : Int) ∧ (l.length : Int) ≤ 40
  · rw [if_pos (by simpa using h1), l1All_eq l _ _ (by omega) hk]
    simp only [Option.bind_some]
    cases h2 : between 0 (b - 1) l with
    | false => simp
    | true =>
      rw [if_pos rfl, if_pos (by omega)]
      by_cases h3 : 0 < rd l 0
      · rw [if_pos h3]; simp [h1, h3]
      · rw [if_neg h3]; simp [h1, h3]
  · rw [if_neg (by simpa using h1)]; simp [h1]
theorem areDigits_eq (l : List Int) (b : Int) (hb : 2 ≤ b ∧ b ≤ 16) : impl_areDigits.f l b = some (areD l b) := by
  unfold impl_areDigits.f areD
  rw [areIn_eq, w64 (by omega) (by omega)]
  simp only [Option.bind_some]
  by_cases h1 : 1 ≤ (l.length : Int) ∧ (l.length : Int) ≤ 40
  · cases h2 : between 0 (b - 1) l with
    | false => simp
    | true =>
      rw [if_pos (by simpa using h1), if_pos (by omega)]
      by_cases h3 : 0 < rd l 0
      · rw [if_pos h3]; simp [h1, h3]
      · rw [if_neg h3]; simp [h1, h3]
  · rw [if_neg (by simp [h1])]; simp [h1]
theorem AreDigits_law : laws_FnExactAreDigits.Pure := by
  intro l b _ _ _ hb
  by_cases hl : (l.length : Int) > 1048576
  · exact ⟨0, by rw [laws_FnExactAreDigits.f, if_pos hl]⟩
  obtain ⟨K, hK, hk⟩ := list_facts l (by omega)
  have hT : ∀ k, K ≤ k → laws_toIntS.f k l = some l := fun k h => (hk k h).1
  have hE : ∀ k, K ≤ k → laws_eqIntS.f k l l = some true := fun k h => (hk k h).2
  obtain ⟨v, h1, h2⟩ : ∃ v : Bool × Bool, (∀ k, K ≤ k → spec_AreDigits.f k l b = some v) ∧ impl_AreDigits.f l b = some v := by
    by_cases hb : 2 ≤ b ∧ b ≤ 16
    · by_cases h40 : (l.length : Int) > 40
      · exact ⟨(false, false), fun k _ => by simp [spec_AreDigits.f, dgBase_eq, hb, h40], by simp [impl_AreDigits.f, isBase_eq, hb, h40]⟩
      · exact ⟨(areD l b, true), fun k h => by simp [spec_AreDigits.f, dgBase_eq, hb, h40, dgAre_eq l b hb (by omega) (show l.length < k by omega)], by simp [impl_AreDigits.f, isBase_eq, hb, h40, areDigits_eq]⟩
    · exact ⟨(false, false), fun k _ => by simp [spec_AreDigits.f, dgBase_eq, hb], by simp [impl_AreDigits.f, isBase_eq, hb]⟩
  refine ⟨K + 3, ?_⟩
  simp [laws_FnExactAreDigits.f, laws_FnExactAreDigits.j0, hl, hT, hE, h1, h2]

/-! ### the number of digits -/
/-- The value of digits, and whether it is small enough. -/
def valL (b : Int) : List Int → Int → Option Int
  | [], s => some s
  | d :: l, s => if wrap64 (wrap64 (s * b) + d) > 1000000000000 then none else valL b l (wrap64 (wrap64 (s * b) + d))
theorem dgFrom_loop (b : Int) (xs : List Int) (hx : xs.length ≤ 4611686018427387904) : ∀ (suf pre : List Int) (s : Int) (k : Nat), xs = pre ++ suf → suf.length < k →
    spec_dgFrom.l0 k b s xs (xs.length : Int) (pre.length : Int) = some (match valL b suf s with | some v => (v, true) | none => (0, false)) ∧
    impl_value.l0 k b s xs (xs.length : Int) (pre.length : Int) = some ((valL b suf s).getD 1000000000001) := by
  intro suf
  induction suf with
  | nil =>
    intro pre s k h hk
    obtain ⟨k, rfl⟩ : ∃ m, k = m + 1 := ⟨k - 1, by omega⟩
    subst h
    refine ⟨?_, ?_⟩
    · rw [spec_dgFrom.l0, if_neg (by simp)]; rfl
    · rw [impl_value.l0, if_neg (by simp)]; rfl
  | cons x suf ih =>
    intro pre s k h hk
    simp only [List.length_cons] at hk
    obtain ⟨k, rfl⟩ : ∃ m, k = m + 1 := ⟨k - 1, by omega⟩
    have hl : xs.length = pre.length + suf.length + 1 := by subst h; simp; omega
    have e : rd xs (pre.length : Int) = x := by subst h; exact rd_mid _ _ _
    have e2 : wrap64 ((pre.length : Int) + 1) = (((pre ++ [x]).length : Nat) : Int) := by rw [w64 (by omega) (by omega)]; simp
    obtain ⟨i1, i2⟩ := ih (pre ++ [x]) (wrap64 (wrap64 (s * b) + x)) k (by simp [h]) (by omega)
    by_cases hc : wrap64 (wrap64 (s * b) + x) > 1000000000000
    · refine ⟨?_, ?_⟩
      · rw [spec_dgFrom.l0, if_pos (by omega), if_pos (by omega), if_pos (by omega), e, if_pos hc, valL, if_pos hc]
      · rw [impl_value.l0, if_pos (by omega), if_pos (by omega), if_pos (by omega), e, if_pos hc, valL, if_pos hc]; rfl
    · refine ⟨?_, ?_⟩
      · rw [spec_dgFrom.l0, if_pos (by omega), if_pos (by omega), if_pos (by omega), e, if_neg hc, e2, i1, valL, if_neg hc]
      · rw [impl_value.l0, if_pos (by omega), if_pos (by omega), if_pos (by omega), e, if_neg hc, e2, i2, valL, if_neg hc]
theorem valL_le {b : Int} : ∀ {l : List Int} {s v : Int}, valL b l s = some v → s ≤ 1000000000000 → v ≤ 1000000000000
  | [], s, v, h, hs => by simp [valL] at h; omega
  | d :: l, s, v, h, hs => by
    rw [valL] at h
    by_cases hc : wrap64 (wrap64 (s * b) + d) > 1000000000000
    · rw [if_pos hc] at h; cases h
    · rw [if_neg hc] at h; exact valL_le h (by omega)
theorem dgFrom_eq (b : Int) (l : List Int) (hl : l.length ≤ 4611686018427387904) {k : Nat} (hk : l.length < k) : spec_dgFrom.f k l b = some (match valL b l 0 with | some v => (v, true) | none => (0, false)) := by
  have := (dgFrom_loop b l hl l [] 0 k rfl hk).1
  simpa [spec_dgFrom.f] using this
theorem value_eq (b : Int) (l : List Int) (hl : l.length ≤ 4611686018427387904) {k : Nat} (hk : l.length < k) : impl_value.f k l b = some ((valL b l 0).getD 1000000000001) := by
  have := (dgFrom_loop b l hl l [] 0 k rfl hk).2
  simpa [impl_value.f] using this
theorem told_eq (b : Int) (l : List Int) : impl_told.f ((valL b l 0).getD 1000000000001) = some (match valL b l 0 with | some v => (v, true) | none => (0, false)) := by
  unfold impl_told.f
  cases h : valL b l 0 with
  | none => simp
  | some v =>
    have := valL_le h (by omega)
    simp only [Option.getD_some]
    rw [if_neg (by omega)]
theorem NumberOf_both (l : List Int) (b : Int) (hl : l.length ≤ 1048576) : ∃ v : Int × Bool, (∀ k, l.length < k → spec_NumberOf.f k l b = some v) ∧ ∀ k, l.length + 1 < k → impl_NumberOf.f k l b = some v := by
  by_cases hb : 2 ≤ b ∧ b ≤ 16
  · cases hd : areD l b with
    | false =>
      refine ⟨(0, false), fun k h => by simp [spec_NumberOf.f, dgBase_eq, hb, hd, dgAre_eq l b hb hl (show l.length < k by omega)], fun k h => ?_⟩
      obtain ⟨k, rfl⟩ : ∃ m, k = m + 1 := ⟨k - 1, by omega⟩
      simp [impl_NumberOf.f, impl_NumberOf.j0, isBase_eq, hb, areDigits_eq, hd]
    | true =>
      refine ⟨_, fun k h => by simp only [spec_NumberOf.f, dgBase_eq, hb, hd, dgAre_eq l b hb hl (show l.length < k by omega), dgFrom_eq b l (by omega) (show l.length < k by omega), Option.bind_some]; simp; rfl, fun k h => ?_⟩
      obtain ⟨k, rfl⟩ : ∃ m, k = m + 1 := ⟨k - 1, by omega⟩
      simp [impl_NumberOf.f, impl_NumberOf.j0, isBase_eq, hb, areDigits_eq, hd, value_eq b l (by omega) (show l.length < k by omega), told_eq]
  · refine ⟨(0, false), fun k h => by simp [spec_NumberOf.f, dgBase_eq, hb], fun k h => ?_⟩
    obtain ⟨k, rfl⟩ : ∃ m, k = m + 1 := ⟨k - 1, by omega⟩
    simp [impl_NumberOf.f, impl_NumberOf.j0, isBase_eq, hb]
theorem NumberOf_law : laws_FnExactNumberOf.Pure := by
  intro l b _ _ _ hb
  by_cases hl : (l.length : Int) > 1048576
  · exact ⟨0, by rw [laws_FnExactNumberOf.f, if_pos hl]⟩
  obtain ⟨K, hK, hk⟩ := list_facts l (by omega)
  have hT : ∀ k, K ≤ k → laws_toIntS.f k l = some l := fun k h => (hk k h).1
  have hE : ∀ k, K ≤ k → laws_eqIntS.f k l l = some true := fun k h => (hk k h).2
  obtain ⟨v, h1, h2⟩ := NumberOf_both l b (by omega)
  have h1' := h1 (K + 3) (by omega)
  have h2' := h2 (K + 3) (by omega)
  refine ⟨K + 3, ?_⟩
  simp [laws_FnExactNumberOf.f, laws_FnExactNumberOf.j0, hl, hT, hE, h1', h2']

/-! ### backwards -/
theorem dgBack_eq (l : List Int) (hl : l.length ≤ 1048576) {k : Nat} (hk : l.length < k) : spec_dgBack.f k l = some l.reverse := by
  have h := run0 (fun k (s : List Int × Int) => spec_dgBack.l0 k l s.1 s.2) l.length 0 (fun j => (l.reverse.take j, (l.length : Int) - 1 - (j : Int))) l.reverse
    (fun j hj k _ => by
      show spec_dgBack.l0 (k + 1) l (l.reverse.take j) ((l.length : Int) - 1 - (j : Int)) = spec_dgBack.l0 k l (l.reverse.take (j + 1)) ((l.length : Int) - 1 - ((j + 1 : Nat) : Int))
      have hi : (l.length : Int) - 1 - (j : Int) = ((l.length - 1 - j : Nat) : Int) := by omega
      have hr : j < l.reverse.length := by simpa using hj
      have hm : (l.reverse.take j).length = j := by simp; omega
      rw [spec_dgBack.l0, if_pos (by omega), if_pos (by omega), if_pos (by omega), if_pos (by omega), w64 (by omega) (by omega), take_s hr, hi, rd_get (by omega), List.getElem_reverse]
      congr 1
      omega)
    (fun k _ => by
      show spec_dgBack.l0 (k + 1) l (l.reverse.take l.length) ((l.length : Int) - 1 - (l.length : Int)) = _
      rw [spec_dgBack.l0, if_neg (by omega), List.take_of_length_le (by simp)])
    k (by omega)
  unfold spec_dgBack.f
  rw [w64 (by omega) (by omega)]
  simpa using h
theorem reversed_eq (l : List Int) (hl : l.length ≤ 1048576) {k : Nat} (hk : l.length < k) : impl_reversed.f k l = some l.reverse := by
  simp [impl_reversed.f, slices_Clone_int_int.f, show l.length < 17592186044416 by omega, rev_ev l (by omega) hk]
theorem same_loop (xs ys : List Int) (hx : xs.length ≤ 4611686018427387904) (hxy : xs.length = ys.length) : ∀ (sx sy px py : List Int) (k : Nat), xs = px ++ sx → ys = py ++ sy → px.length = py.length → sx.length < k →
    spec_l1Same.l0 k xs ys (xs.length : Int) (px.length : Int) = some (decide (sx = sy)) ∧ slices_Equal_int_int.l0 k xs ys (xs.length : Int) (px.length : Int) = some (decide (sx = sy)) := by
  intro sx
  induction sx with
  | nil =>
    intro sy px py k h1 h2 hp hk
    obtain ⟨k, rfl⟩ : ∃ m, k = m + 1 := ⟨k - 1, by omega⟩
    obtain rfl : sy = [] := by
      apply List.eq_nil_of_length_eq_zero
      have h3 := congrArg List.length h1
      have h4 := congrArg List.length h2
      rw [List.length_append] at h3 h4
      simp only [List.length_nil] at h3
      omega
    subst h1
    refine ⟨?_, ?_⟩
    · rw [spec_l1Same.l0, if_neg (by simp)]; simp
    · rw [slices_Equal_int_int.l0, if_neg (by simp)]; simp
  | cons x sx ih =>
    intro sy px py k h1 h2 hp hk
    simp only [List.length_cons] at hk
    obtain ⟨k, rfl⟩ : ∃ m, k = m + 1 := ⟨k - 1, by omega⟩
    have hl : xs.length = px.length + sx.length + 1 := by subst h1; simp; omega
    rcases sy with _ | ⟨y, sy⟩
    · have := congrArg List.length h2; simp at this; omega
    have e1 : rd xs (px.length : Int) = x := by subst h1; exact rd_mid _ _ _
    have e2 : rd ys (px.length : Int) = y := by subst h2; rw [hp]; exact rd_mid _ _ _
    have e3 : wrap64 ((px.length : Int) + 1) = (((px ++ [x]).length : Nat) : Int) := by rw [w64 (by omega) (by omega)]; simp
    obtain ⟨i1, i2⟩ := ih sy (px ++ [x]) (py ++ [y]) k (by simp [h1]) (by simp [h2]) (by simp [hp]) (by omega)
    by_cases hc : x = y
    · refine ⟨?_, ?_⟩
      · rw [spec_l1Same.l0, if_pos (by omega), if_pos (by omega), if_pos (by omega), if_pos (by omega), e1, e2, if_pos hc, e3, i1]; simp [hc]
      · rw [slices_Equal_int_int.l0, if_pos (by omega), if_pos (by omega), if_pos (by omega), if_pos (by omega), e1, e2, if_pos hc, e3, i2]; simp [hc]
    · refine ⟨?_, ?_⟩
      · rw [spec_l1Same.l0, if_pos (by omega), if_pos (by omega), if_pos (by omega), if_pos (by omega), e1, e2, if_neg hc]; simp [hc]
      · rw [slices_Equal_int_int.l0, if_pos (by omega), if_pos (by omega), if_pos (by omega), if_pos (by omega), e1, e2, if_neg hc]; simp [hc]
theorem l1Same_eq (xs ys : List Int) (hx : xs.length ≤ 4611686018427387904) {k : Nat} (hk : xs.length < k) : spec_l1Same.f k xs ys = some (decide (xs = ys)) := by
  unfold spec_l1Same.f
  by_cases h : xs.length = ys.length
  · rw [if_pos (by omega)]
    have := (same_loop xs ys hx h xs ys [] [] k rfl rfl rfl hk).1
    simpa using this
  · rw [if_neg (by omega)]
    have : xs ≠ ys := fun e => h (by rw [e])
    simp [this]
theorem Equal_eq (xs ys : List Int) (hx : xs.length ≤ 4611686018427387904) {k : Nat} (hk : xs.length < k) : slices_Equal_int_int.f k xs ys = some (decide (xs = ys)) := by
  unfold slices_Equal_int_int.f
  by_cases h : xs.length = ys.length
  · rw [if_pos (by omega)]
    have := (same_loop xs ys hx h xs ys [] [] k rfl rfl rfl hk).2
    simpa using this
  · rw [if_neg (by omega)]
    have : xs ≠ ys := fun e => h (by rw [e])
    simp [this]
theorem ReverseNumber_law : laws_FnExactReverseNumber.Pure := by
  intro n b _ _
  cases h : asked n b with
  | false => exact ⟨0, by simp [laws_FnExactReverseNumber.f, spec_ReverseNumber.f, impl_ReverseNumber.f, dgAsked_eq, isNumber_eq, h]⟩
  | true =>
    obtain ⟨m, c, rfl, rfl, hm, hc, hc2⟩ := asked_nat h
    obtain ⟨K, hK, hk⟩ := digits_both (c := c) (m := m) hc hc2 (by omega)
    obtain ⟨e1, e2⟩ := hk K (by omega)
    have hs := dg_short (c := c) (m := m) hc (by omega)
    refine ⟨K, ?_⟩
    simp [laws_FnExactReverseNumber.f, spec_ReverseNumber.f, impl_ReverseNumber.f, dgAsked_eq, isNumber_eq, h, e1, e2, dgBack_eq (dg c m) (by omega) (show _ < K by omega), reversed_eq (dg c m) (by omega) (show _ < K by omega),
      dgFrom_eq c (dg c m).reverse (by simp; omega) (show _ < K by simp; omega), value_eq c (dg c m).reverse (by simp; omega) (show _ < K by simp; omega), told_eq]
theorem IsPalindrome_law : laws_FnExactIsPalindrome.Pure := by
  intro n b _ _
  cases h : asked n b with
  | false => exact ⟨0, by simp [laws_FnExactIsPalindrome.f, spec_IsPalindrome.f, impl_IsPalindrome.f, dgAsked_eq, isNumber_eq, h]⟩
  | true =>
    obtain ⟨m, c, rfl, rfl, hm, hc, hc2⟩ := asked_nat h
    obtain ⟨K, hK, hk⟩ := digits_both (c := c) (m := m) hc hc2 (by omega)
    obtain ⟨e1, e2⟩ := hk K (by omega)
    have hs := dg_short (c := c) (m := m) hc (by omega)
    refine ⟨K, ?_⟩
    simp [laws_FnExactIsPalindrome.f, spec_IsPalindrome.f, impl_IsPalindrome.f, spec_dgPalindrome.f, impl_isSymmetric.f, dgAsked_eq, isNumber_eq, h, e1, e2, dgBack_eq (dg c m) (by omega) (show _ < K by omega), reversed_eq (dg c m) (by omega) (show _ < K by omega),
      l1Same_eq (dg c m) (dg c m).reverse (by omega) (show _ < K by omega), Equal_eq (dg c m) (dg c m).reverse (by omega) (show _ < K by omega)]
end Go.Proofs.YtehhkkbejmhcfaaC
