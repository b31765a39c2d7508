/-
  Plain laws on digits: what the printed functions of chapter 1 compute, as lists of digits. Conditions: numbers of at least 0 and below 2^63, bases of at least 2.
-/
import Derived.Test.YtehhkkbejmhcfaaCDg
namespace Go.Proofs.YtehhkkbejmhcfaaC
open Go.RowKit Go.Proofs.YtehhkkbejmhcfaaW.PrintWords

theorem w64 {n : Int} (h : -9223372036854775808 ≤ n) (h' : n ≤ 9223372036854775807) : wrap64 n = n := by unfold wrap64; omega
theorem w64n {n : Nat} (h' : n ≤ 9223372036854775807) : wrap64 (n : Int) = (n : Int) := w64 (by omega) (by omega)

/-! ### lists -/
theorem rd_mid (a c : List Int) (x : Int) : rd (a ++ x :: c) (a.length : Int) = x := by
  simp [rd]
theorem set_mid {α : Type} (a c : List α) (x y : α) : (a ++ x :: c).set a.length y = a ++ y :: c := by
  simp

/-! ### digits -/
/-- The digits of a number, the least place first; none of 0. -/
def lsd (b n : Nat) : List Int :=
  if _h : n = 0 ∨ b < 2 then [] else ((n % b : Nat) : Int) :: lsd b (n / b)
  termination_by n
  decreasing_by exact Nat.div_lt_self (by omega) (by omega)
theorem lsd_zero (b : Nat) : lsd b 0 = [] := by rw [lsd]; simp
theorem lsd_pos {b n : Nat} (hb : 2 ≤ b) (hn : 0 < n) : lsd b n = ((n % b : Nat) : Int) :: lsd b (n / b) := by
  rw [lsd, dif_neg (by omega)]
theorem lsd_length {b : Nat} (hb : 2 ≤ b) : ∀ (d n : Nat), n < 2 ^ d → (lsd b n).length ≤ d := by
  intro d
  induction d with
  | zero => intro n h; obtain rfl : n = 0 := by simpa using h
            simp [lsd_zero]
  | succ d ih =>
    intro n h
    rcases Nat.eq_zero_or_pos n with rfl | hp
    · simp [lsd_zero]
    · rw [lsd_pos hb hp]
      have : n / b < 2 ^ d := by
        have : n / b ≤ n / 2 := Nat.div_le_div_left hb (by omega)
        have : n / 2 < 2 ^ d := by omega
        omega
      have := ih _ this
      simp; omega
theorem lsd_range {b : Nat} (hb : 2 ≤ b) : ∀ (n : Nat), ∀ x ∈ lsd b n, 0 ≤ x ∧ x < b := by
  intro n
  induction n using Nat.strongRecOn with
  | ind n ih =>
    rcases Nat.eq_zero_or_pos n with rfl | hp
    · simp [lsd_zero]
    · rw [lsd_pos hb hp]
      intro x hx
      rcases List.mem_cons.1 hx with rfl | hx
      · have := Nat.mod_lt n (show b > 0 by omega)
        omega
      · exact ih _ (Nat.div_lt_self hp hb) x hx
/-- The digits of a number, the greatest place first. -/
def dg (b n : Nat) : List Int := if n = 0 then [0] else (lsd b n).reverse
theorem dg_range {b : Nat} (hb : 2 ≤ b) (n : Nat) : ∀ x ∈ dg b n, 0 ≤ x ∧ x < b := by
  unfold dg
  split
  · intro x hx; simp at hx; omega
  · intro x hx; exact lsd_range hb n x (by simpa using hx)
theorem dg_length {b n d : Nat} (hb : 2 ≤ b) (hd : 1 ≤ d) (h : n < 2 ^ d) : (dg b n).length ≤ d := by
  unfold dg
  split
  · simpa using hd
  · simpa using lsd_length hb d n h
theorem dg_ne {b : Nat} (hb : 2 ≤ b) (n : Nat) : dg b n ≠ [] := by
  unfold dg
  split
  · simp
  · rw [lsd_pos hb (by omega)]; simp

theorem tdiv_nat (n b : Nat) : Int.tdiv (n : Int) (b : Int) = ((n / b : Nat) : Int) := (Int.ofNat_tdiv n b).symm
theorem tmod_nat (n b : Nat) : Int.tmod (n : Int) (b : Int) = ((n % b : Nat) : Int) := (Int.ofNat_tmod n b).symm

theorem dgOf_loop {b : Nat} (hb : 2 ≤ b) (hb2 : b ≤ 9223372036854775807) : ∀ (n : Nat), n ≤ 9223372036854775807 → ∀ (acc : List Int) (k : Nat), n < k → acc.length + (lsd b n).length ≤ 1000000 →
    spec_dgOf.l0 k (n : Int) (b : Int) acc = some ((lsd b n).reverse ++ acc) := by
  intro n
  induction n using Nat.strongRecOn with
  | ind n ih =>
    intro hn acc k hk hl
    obtain ⟨k, rfl⟩ : ∃ m, k = m + 1 := ⟨k - 1, by omega⟩
    rcases Nat.eq_zero_or_pos n with rfl | hp
    · rw [spec_dgOf.l0, if_neg (by omega)]; simp [lsd_zero]
    · have hlt := Nat.div_lt_self hp hb
      have e := lsd_pos hb hp
      rw [e] at hl
      simp at hl
      rw [spec_dgOf.l0, if_pos (by omega), if_neg (by omega), tmod_nat, tdiv_nat]
      simp only [Option.bind_some]
      rw [if_pos (by simp; omega), w64n (Nat.le_trans (Nat.div_le_self _ _) hn)]
      rw [ih _ hlt (Nat.le_trans (Nat.div_le_self _ _) hn) _ k (Nat.lt_of_lt_of_le hlt (by omega)) (by simp; omega), e]
      simp
theorem dgOf_ev {b n : Nat} (hb : 2 ≤ b) (hb2 : b ≤ 9223372036854775807) (hn : n ≤ 9223372036854775807) : Ev (fun k => spec_dgOf.f k (n : Int) (b : Int)) (dg b n) := by
  refine ⟨n + 1, fun k hk => ?_⟩
  unfold dg
  show (if (n : Int) = 0 then _ else _) = _
  by_cases h : n = 0
  · subst h; simp
  · rw [if_neg (by omega), if_neg h]
    have := lsd_length hb 63 n (by omega)
    rw [dgOf_loop hb hb2 n hn [] k (by omega) (by simp; omega)]
    simp

/-! ### slices.Reverse -/
theorem rev_loop : ∀ (m : Nat) (mid a c : List Int) (k : Nat), mid.length = m → m < k → a.length + mid.length + c.length ≤ 4611686018427387904 →
    slices_Reverse_int_int.l0 k (a ++ (mid ++ c)) (a.length : Int) ((a.length : Int) + mid.length - 1) = some (a ++ (mid.reverse ++ c)) := by
  intro m
  induction m using Nat.strongRecOn with
  | ind m ih =>
    intro mid a c k hm hk hl
    obtain ⟨k, rfl⟩ : ∃ q, k = q + 1 := ⟨k - 1, by omega⟩
    rcases mid with _ | ⟨x, mid⟩
    · rw [slices_Reverse_int_int.l0, if_neg (by simp; omega)]; simp
    · rcases List.eq_nil_or_concat mid with rfl | ⟨mid, y, rfl⟩
      · rw [slices_Reverse_int_int.l0, if_neg (by simp)]; simp
      · simp only [List.concat_eq_append] at hm hl ⊢
        simp only [List.length_cons, List.length_append, List.length_nil] at hm hl
        have e1 : rd (a ++ ((x :: (mid ++ [y])) ++ c)) (a.length : Int) = x := by
          simpa using rd_mid a ((mid ++ [y]) ++ c) x
        have hj : ((a.length : Int) + ((x :: (mid ++ [y])).length : Int) - 1) = ((a ++ x :: mid).length : Int) := by simp; omega
        have e2 : rd (a ++ ((x :: (mid ++ [y])) ++ c)) ((a ++ x :: mid).length : Int) = y := by
          have := rd_mid (a ++ x :: mid) c y
          simpa using this
        have hw : (a ++ ((x :: (mid ++ [y])) ++ c)).length = a.length + mid.length + 2 + c.length := by simp; omega
        have hA : ((a ++ x :: mid).length) = a.length + mid.length + 1 := by simp; omega
        rw [slices_Reverse_int_int.l0, hj, if_pos (by omega), if_pos (by omega), if_pos (by omega), if_pos (by omega), if_pos (by omega), e1, e2]
        have s1 : (a ++ ((x :: (mid ++ [y])) ++ c)).set ((a.length : Int).toNat) y = a ++ (y :: ((mid ++ [y]) ++ c)) := by
          simp
        have s2 : (a ++ (y :: ((mid ++ [y]) ++ c))).set ((((a ++ x :: mid).length : Nat) : Int).toNat) x = (a ++ [y]) ++ (mid ++ (x :: c)) := by
          have hh : (a ++ x :: mid).length = (a ++ y :: mid).length := by simp
          rw [Int.toNat_natCast, hh]
          simp
        rw [s1, s2, w64 (by omega) (by omega), w64 (by omega) (by omega)]
        have := ih mid.length (by omega) mid (a ++ [y]) (x :: c) k rfl (by omega) (by simp; omega)
        have i1 : ((a.length : Int) + 1) = (((a ++ [y]).length : Nat) : Int) := by simp
        have i2 : (((a ++ x :: mid).length : Nat) : Int) - 1 = (((a ++ [y]).length : Nat) : Int) + (mid.length : Int) - 1 := by simp; omega
        rw [i1, i2, this]
        simp
theorem rev_ev (l : List Int) (hl : l.length ≤ 4611686018427387904) {k : Nat} (hk : l.length < k) : slices_Reverse_int_int.f k l = some l.reverse := by
  have := rev_loop l.length l [] [] k rfl hk (by simpa using hl)
  unfold slices_Reverse_int_int.f
  rw [w64 (by omega) (by omega)]
  simpa using this

/-! ### digitsOf -/
theorem digitsOf_loop {b : Nat} (hb : 2 ≤ b) (hb2 : b ≤ 9223372036854775807) : ∀ (n : Nat), n ≤ 9223372036854775807 → ∀ (acc : List Int) (k : Nat), n + acc.length + (lsd b n).length + 1 < k → acc.length + (lsd b n).length ≤ 1000000 →
    impl_digitsOf.l0 k (n : Int) (b : Int) acc = some ((acc ++ lsd b n).reverse) := by
  intro n
  induction n using Nat.strongRecOn with
  | ind n ih =>
    intro hn acc k hk hl
    obtain ⟨k, rfl⟩ : ∃ m, k = m + 1 := ⟨k - 1, by omega⟩
    rcases Nat.eq_zero_or_pos n with rfl | hp
    · simp only [lsd_zero, List.length_nil, List.append_nil] at hk hl ⊢
      rw [impl_digitsOf.l0, if_neg (by omega), rev_ev acc (by omega) (by omega)]; rfl
    · have hlt := Nat.div_lt_self hp hb
      have e := lsd_pos hb hp
      rw [e] at hl hk
      simp only [List.length_cons] at hl hk
      rw [impl_digitsOf.l0, if_pos (by omega), if_neg (by omega), if_pos (by omega), tmod_nat, tdiv_nat, w64n (Nat.le_trans (Nat.div_le_self _ _) hn)]
      generalize hq : n / b = q at *
      rw [ih q hlt (by omega) _ k (by simp; omega) (by simp; omega), e]
      simp
theorem digitsOf_now {b n k : Nat} (hb : 2 ≤ b) (hb2 : b ≤ 9223372036854775807) (hn : n ≤ 9223372036854775807) (hk : n + 200 ≤ k) : impl_digitsOf.f k (n : Int) (b : Int) = some (dg b n) := by
  unfold impl_digitsOf.f dg
  have hd : n / b ≤ n := Nat.div_le_self _ _
  have hl := lsd_length hb 63 (n / b) (by omega)
  show (if (b : Int) = 0 then none else _) = _
  rw [if_neg (by omega), tdiv_nat, tmod_nat, w64n (by omega)]
  rw [digitsOf_loop hb hb2 _ (by omega) _ k (by simp only [List.length_singleton]; omega) (by simp only [List.length_singleton]; omega)]
  by_cases h : n = 0
  · subst h; simp [lsd_zero]
  · rw [if_neg h, lsd_pos hb (Nat.pos_of_ne_zero h)]; simp

theorem digitsOf_ev {b n : Nat} (hb : 2 ≤ b) (hb2 : b ≤ 9223372036854775807) (hn : n ≤ 9223372036854775807) : Ev (fun k => impl_digitsOf.f k (n : Int) (b : Int)) (dg b n) :=
  ⟨n + 200, fun _ hk => digitsOf_now hb hb2 hn hk⟩

/-! ### who is asked -/
theorem l1In_eq (a b c : Int) : spec_l1In.f a b c = some (decide (b ≤ a ∧ a ≤ c)) := by
  unfold spec_l1In.f
  by_cases h : a ≥ b
  · rw [if_pos h]; congr 1; by_cases h2 : a ≤ c <;> simp [h2, show b ≤ a from h]
  · rw [if_neg h]; congr 1; simp [show ¬ b ≤ a from h]
theorem in_eq (a b c : Int) : impl_in.f a b c = some (decide (b ≤ a ∧ a ≤ c)) := by
  unfold impl_in.f
  by_cases h : b ≤ a
  · rw [if_pos h]; congr 1; by_cases h2 : a ≤ c <;> simp [h2, h]
  · rw [if_neg h]; congr 1; simp [h]
def asked (n b : Int) : Bool := decide ((0 ≤ n ∧ n ≤ 1000000000000) ∧ (2 ≤ b ∧ b ≤ 16))
theorem dgBase_eq (b : Int) : spec_dgBase.f b = some (decide (2 ≤ b ∧ b ≤ 16)) := by simp [spec_dgBase.f, l1In_eq]
theorem isBase_eq (b : Int) : impl_isBase.f b = some (decide (2 ≤ b ∧ b ≤ 16)) := by simp [impl_isBase.f, in_eq]
theorem dgAsked_eq (n b : Int) : spec_dgAsked.f n b = some (asked n b) := by
  by_cases h1 : 0 ≤ n ∧ n ≤ 1000000000000 <;> simp [spec_dgAsked.f, spec_dgNumber.f, l1In_eq, dgBase_eq, asked, h1]
theorem isNumber_eq (n b : Int) : impl_isNumber.f n b = some (asked n b) := by
  by_cases h1 : 0 ≤ n ∧ n ≤ 1000000000000 <;> simp [impl_isNumber.f, in_eq, isBase_eq, asked, h1]
theorem asked_nat {n b : Int} (h : asked n b = true) : ∃ m c : Nat, n = m ∧ b = c ∧ m ≤ 1000000000000 ∧ 2 ≤ c ∧ c ≤ 16 := by
  simp [asked] at h
  exact ⟨n.toNat, b.toNat, by omega, by omega, by omega, by omega, by omega⟩

/-! ### CountDigits, DigitSum, DigitProduct -/
theorem CountDigits_law : laws_FnExactCountDigits.Pure := by
  intro n b _ _
  cases h : asked n b with
  | false => exact ⟨0, by simp [laws_FnExactCountDigits.f, spec_CountDigits.f, impl_CountDigits.f, dgAsked_eq, isNumber_eq, h]⟩
  | true =>
    obtain ⟨m, c, rfl, rfl, hm, hc, hc2⟩ := asked_nat h
    obtain ⟨K1, h1⟩ := dgOf_ev (b := c) (n := m) hc (by omega) (by omega)
    obtain ⟨K2, h2⟩ := digitsOf_ev (b := c) (n := m) hc (by omega) (by omega)
    refine ⟨K1 + K2, ?_⟩
    have e1 := h1 (K1 + K2) (by omega)
    have e2 := h2 (K1 + K2) (by omega)
    simp [laws_FnExactCountDigits.f, spec_CountDigits.f, impl_CountDigits.f, dgAsked_eq, isNumber_eq, h, e1, e2]

theorem dgSum_loop (xs : List Int) (hx : xs.length ≤ 4611686018427387904) : ∀ (suf pre : List Int) (s : Int) (k : Nat), xs = pre ++ suf → suf.length < k →
    spec_dgSum.l0 k s xs (xs.length : Int) (pre.length : Int) = some (suf.foldl (fun a d => wrap64 (a + d)) s) := by
  intro suf
  induction suf with
  | nil =>
    intro pre s k h hk
    obtain ⟨k, rfl⟩ : ∃ m, k = m + 1 := ⟨k - 1, by omega⟩
    subst h; rw [spec_dgSum.l0, if_neg (by simp)]; rfl
  | cons x suf ih =>
    intro pre s k h hk
    simp only [List.length_cons] at hk
    obtain ⟨k, rfl⟩ : ∃ m, k = m + 1 := ⟨k - 1, by omega⟩
    have hl : xs.length = pre.length + suf.length + 1 := by subst h; simp; omega
    have e : rd xs (pre.length : Int) = x := by subst h; exact rd_mid _ _ _
    rw [spec_dgSum.l0, if_pos (by omega), if_pos (by omega), if_pos (by omega), e, w64 (n := (pre.length : Int) + 1) (by omega) (by omega)]
    have := ih (pre ++ [x]) (wrap64 (s + x)) k (by simp [h]) (by omega)
    simpa using this
def sumL (l : List Int) : Int := l.foldl (fun a d => wrap64 (a + d)) 0
theorem dgSum_eq (l : List Int) (hl : l.length ≤ 4611686018427387904) {k : Nat} (hk : l.length < k) : spec_dgSum.f k l = some (sumL l) := by
  have := dgSum_loop l hl l [] 0 k rfl hk
  simpa [spec_dgSum.f, sumL] using this
theorem digitSum_loop : ∀ (k : Nat) (s : Int) (xs : List Int) (n i : Int), impl_digitSum.l0 k s xs n i = spec_dgSum.l0 k s xs n i := by
  intro k
  induction k with
  | zero => intros; rfl
  | succ k ih => intro s xs n i; simp only [impl_digitSum.l0, spec_dgSum.l0, ih]
theorem dgProduct_loop (xs : List Int) (hx : xs.length ≤ 4611686018427387904) : ∀ (suf pre : List Int) (s : Int) (k : Nat), xs = pre ++ suf → suf.length < k →
    spec_dgProduct.l0 k s xs (xs.length : Int) (pre.length : Int) = some (suf.foldl (fun a d => wrap64 (a * d)) s) := by
  intro suf
  induction suf with
  | nil =>
    intro pre s k h hk
    obtain ⟨k, rfl⟩ : ∃ m, k = m + 1 := ⟨k - 1, by omega⟩
    subst h; rw [spec_dgProduct.l0, if_neg (by simp)]; rfl
  | cons x suf ih =>
    intro pre s k h hk
    simp only [List.length_cons] at hk
    obtain ⟨k, rfl⟩ : ∃ m, k = m + 1 := ⟨k - 1, by omega⟩
    have hl : xs.length = pre.length + suf.length + 1 := by subst h; simp; omega
    have e : rd xs (pre.length : Int) = x := by subst h; exact rd_mid _ _ _
    rw [spec_dgProduct.l0, if_pos (by omega), if_pos (by omega), if_pos (by omega), e, w64 (n := (pre.length : Int) + 1) (by omega) (by omega)]
    have := ih (pre ++ [x]) (wrap64 (s * x)) k (by simp [h]) (by omega)
    simpa using this
def prodL (l : List Int) : Int := l.foldl (fun a d => wrap64 (a * d)) 1
theorem dgProduct_eq (l : List Int) (hl : l.length ≤ 4611686018427387904) {k : Nat} (hk : l.length < k) : spec_dgProduct.f k l = some (prodL l) := by
  have := dgProduct_loop l hl l [] 1 k rfl hk
  simpa [spec_dgProduct.f, prodL] using this
theorem digitProduct_loop : ∀ (k : Nat) (s : Int) (xs : List Int) (n i : Int), impl_digitProduct.l0 k s xs n i = spec_dgProduct.l0 k s xs n i := by
  intro k
  induction k with
  | zero => intros; rfl
  | succ k ih => intro s xs n i; simp only [impl_digitProduct.l0, spec_dgProduct.l0, ih]
/-- What both programs know of a number's digits, from some number of rounds on. -/
theorem digits_both {c m : Nat} (hc : 2 ≤ c) (hc2 : c ≤ 16) (hm : m ≤ 9223372036854775807) : ∃ K, 200 ≤ K ∧ ∀ k, K ≤ k → spec_dgOf.f k (m : Int) (c : Int) = some (dg c m) ∧ impl_digitsOf.f k (m : Int) (c : Int) = some (dg c m) := by
  obtain ⟨K1, h1⟩ := dgOf_ev (b := c) (n := m) hc (by omega) (by omega)
  obtain ⟨K2, h2⟩ := digitsOf_ev (b := c) (n := m) hc (by omega) (by omega)
  exact ⟨K1 + K2 + 200, by omega, fun k hk => ⟨h1 k (by omega), h2 k (by omega)⟩⟩
theorem dg_short {c m : Nat} (hc : 2 ≤ c) (hm : m ≤ 9223372036854775807) : (dg c m).length ≤ 63 := dg_length hc (by omega) (by omega)
theorem digitSum_eq {c m k : Nat} (hc : 2 ≤ c) (hm : m ≤ 9223372036854775807) (hk : 200 ≤ k) (h : impl_digitsOf.f k (m : Int) (c : Int) = some (dg c m)) : impl_digitSum.f k (m : Int) (c : Int) = some (sumL (dg c m)) := by
  have hs := dg_short hc hm
  have := dgSum_loop (dg c m) (by omega) (dg c m) [] 0 k rfl (by omega)
  simp only [impl_digitSum.f, h, Option.bind_some, digitSum_loop]
  simpa [sumL] using this
theorem digitProduct_eq {c m k : Nat} (hc : 2 ≤ c) (hm : m ≤ 9223372036854775807) (hk : 200 ≤ k) (h : impl_digitsOf.f k (m : Int) (c : Int) = some (dg c m)) : impl_digitProduct.f k (m : Int) (c : Int) = some (prodL (dg c m)) := by
  have hs := dg_short hc hm
  have := dgProduct_loop (dg c m) (by omega) (dg c m) [] 1 k rfl (by omega)
  simp only [impl_digitProduct.f, h, Option.bind_some, digitProduct_loop]
  simpa [prodL] using this
theorem DigitSum_law : laws_FnExactDigitSum.Pure := by
  intro n b _ _
  cases h : asked n b with
  | false => exact ⟨0, by simp [laws_FnExactDigitSum.f, spec_DigitSum.f, impl_DigitSum.f, dgAsked_eq, isNumber_eq, h]⟩
  | true =>
    obtain ⟨m, c, rfl, rfl, hm, hc, hc2⟩ := asked_nat h
    obtain ⟨K, hK, hk⟩ := digits_both (c := c) (m := m) hc hc2 (by omega)
    obtain ⟨e1, e2⟩ := hk K (by omega)
    have hs := dg_short (c := c) (m := m) hc (by omega)
    refine ⟨K, ?_⟩
    simp [laws_FnExactDigitSum.f, spec_DigitSum.f, impl_DigitSum.f, dgAsked_eq, isNumber_eq, h, e1, dgSum_eq (dg c m) (by omega) (show _ < K by omega), digitSum_eq (c := c) (m := m) hc (by omega) hK e2]
theorem DigitProduct_law : laws_FnExactDigitProduct.Pure := by
  intro n b _ _
  cases h : asked n b with
  | false => exact ⟨0, by simp [laws_FnExactDigitProduct.f, spec_DigitProduct.f, impl_DigitProduct.f, dgAsked_eq, isNumber_eq, h]⟩
  | true =>
    obtain ⟨m, c, rfl, rfl, hm, hc, hc2⟩ := asked_nat h
    obtain ⟨K, hK, hk⟩ := digits_both (c := c) (m := m) hc hc2 (by omega)
    obtain ⟨e1, e2⟩ := hk K (by omega)
    have hs := dg_short (c := c) (m := m) hc (by omega)
    refine ⟨K, ?_⟩
    simp [laws_FnExactDigitProduct.f, spec_DigitProduct.f, impl_DigitProduct.f, dgAsked_eq, isNumber_eq, h, e1, dgProduct_eq (dg c m) (by omega) (show _ < K by omega), digitProduct_eq (c := c) (m := m) hc (by omega) hK e2]
end Go.Proofs.YtehhkkbejmhcfaaC
