/-
  The plain laws of ValueOf and WordOf. No conditions.
-/
import Derived.Test.YtndbfkgcmckjlaaLPw
import Derived.Test.YtndbfkgcmckjlaaLD3
import Derived.Test.YtndbfkgcmckjlaaCGp
namespace Go.Proofs.YtndbfkgcmckjlaaC
open Go.RowKit Go.Proofs.YtndbfkgcmckjlaaW.PrintWords Go.Proofs.YtndbfkgcmckjlaaW.PrintMore
set_option linter.unusedSimpArgs false
set_option linter.unusedVariables false

theorem worth_l0 (b : Int) (l : List Int) (n : Int) : ∀ k s i, impl_worth.l0 k b s l n i = spec_gpValue.l0 k b s l n i
  | 0, _, _ => rfl
  | k + 1, s, i => by simp only [impl_worth.l0, spec_gpValue.l0, worth_l0 b l n k]
theorem worth_same (k : Nat) (l : List Int) (b : Int) : impl_worth.f k l b = spec_gpValue.f k l b := worth_l0 b l _ k _ _
theorem wordOf_l0 (b : Int) : ∀ k n l i, impl_wordOf.l0 k n b l i = spec_gpWith.l0 k n b l i
  | 0, _, _, _ => rfl
  | k + 1, n, l, i => by simp only [impl_wordOf.l0, spec_gpWith.l0, wordOf_l0 b k]
theorem wordOf_same (k : Nat) (n w b : Int) : impl_wordOf.f k n w b = spec_gpWith.f k n w b := by simp only [impl_wordOf.f, spec_gpWith.f, wordOf_l0]
/-- The value of digits, as the machine reckons it. -/
def gvalL (b : Int) : List Int → Int → Int
  | [], s => s
  | d :: l, s => gvalL b l (wrap64 (wrap64 (s * b) + d))
theorem gpValue_loop (b : Int) (xs : List Int) (hx : xs.length ≤ 4611686018427387904) : ∀ (suf pre : List Int) (s : Int) (k : Nat), xs = pre ++ suf → suf.length < k →
    spec_gpValue.l0 k b s xs (xs.length : Int) (pre.length : Int) = some (gvalL b suf s) := by
  intro suf
  induction suf with
  | nil =>
    intro pre s k h hk
    obtain ⟨k, rfl⟩ : ∃ m, k = m + 1 := ⟨k - 1, by omega⟩
    subst h
    rw [spec_gpValue.l0, if_neg (by simp)]; rfl
  | cons x suf ih =>
    intro pre s k h hk
    simp only [List.length_cons] at hk
    obtain ⟨k, rfl⟩ : ∃ m, k = m + 1 := ⟨k - 1, by omega⟩
    have hl : xs.length = pre.length + suf.length + 1 := by subst h; simp; omega
    have e : rd xs (pre.length : Int) = x := by subst h; exact rd_mid _ _ _
    have e2 : wrap64 ((pre.length : Int) + 1) = (((pre ++ [x]).length : Nat) : Int) := by rw [w64 (by omega) (by omega)]; simp
    rw [spec_gpValue.l0, if_pos (by omega), if_pos (by omega), if_pos (by omega), e, e2, ih (pre ++ [x]) _ k (by simp [h]) (by omega)]
    rfl
theorem gpValue_eq (b : Int) (l : List Int) (hl : l.length ≤ 4611686018427387904) {k : Nat} (hk : l.length < k) : spec_gpValue.f k l b = some (gvalL b l 0) := by
  have := gpValue_loop b l hl l [] 0 k rfl hk
  simpa [spec_gpValue.f] using this
theorem ValueOf_both (l : List Int) (b : Int) (hl : l.length ≤ 1048576) : ∃ (K : Nat) (v : Int × Bool), ∀ k, K ≤ k → spec_ValueOf.f k l b = some v ∧ impl_ValueOf.f k l b = some v := by
  by_cases hb : 2 ≤ b ∧ b ≤ 16
  · by_cases h1 : 1 ≤ (l.length : Int) ∧ (l.length : Int) ≤ 8
    · cases h2 : between 0 (wrap64 (b - 1)) l with
      | false => exact ⟨l.length + 1, (0, false), fun k hk => ⟨by simp [spec_ValueOf.f, spec_gpWord.f, dgBase_eq, hb, l1In_eq, h1, l1All_eq l _ _ (by omega) (show _ < k by omega), h2], by simp [impl_ValueOf.f, impl_isWord.f, isBase_eq, hb, areIn_eq, h2]⟩⟩
      | true => exact ⟨l.length + 1, (gvalL b l 0, true), fun k hk => ⟨by simp [spec_ValueOf.f, spec_gpWord.f, dgBase_eq, hb, l1In_eq, h1, l1All_eq l _ _ (by omega) (show _ < k by omega), h2, gpValue_eq b l (by omega) (show _ < k by omega)], by simp [impl_ValueOf.f, impl_isWord.f, isBase_eq, hb, areIn_eq, h1, h2, worth_same, gpValue_eq b l (by omega) (show _ < k by omega)]⟩⟩
    · exact ⟨0, (0, false), fun k hk => ⟨by simp [spec_ValueOf.f, spec_gpWord.f, dgBase_eq, hb, l1In_eq, h1], by simp [impl_ValueOf.f, impl_isWord.f, isBase_eq, hb, areIn_eq, h1]⟩⟩
  · exact ⟨0, (0, false), fun k hk => ⟨by simp [spec_ValueOf.f, spec_gpWord.f, dgBase_eq, hb], by simp [impl_ValueOf.f, impl_isWord.f, isBase_eq, hb]⟩⟩
theorem ValueOf_law : laws_FnExactValueOf.Pure := by
  intro l b _ _ _ _
  by_cases hl : (l.length : Int) > 1048576
  · exact ⟨0, by rw [laws_FnExactValueOf.f, if_pos hl]⟩
  obtain ⟨K0, v, h0⟩ := ValueOf_both l b (by omega)
  obtain ⟨K, hK⟩ : ∃ K, K = K0 + l.length + 1 := ⟨_, rfl⟩
  have hTl : ∀ k, K ≤ k → laws_toIntS.f k l = some l := fun k h => (law_facts l [] (by omega) (by simp) (show _ < k by simp; omega)).1
  have hEl : ∀ k, K ≤ k → laws_eqIntS.f k l l = some true := fun k h => (law_facts l [] (by omega) (by simp) (show _ < k by simp; omega)).2.1
  have e1 : ∀ k, K ≤ k → spec_ValueOf.f k l b = some v := fun k h => (h0 k (by omega)).1
  have e2 : ∀ k, K ≤ k → impl_ValueOf.f k l b = some v := fun k h => (h0 k (by omega)).2
  refine ⟨K + 9, ?_⟩
  simp [laws_FnExactValueOf.f, laws_FnExactValueOf.j0, e1, e2, hl, hTl, hEl]

/-! ### words of a width -/
def wdI (b : Int) : Nat → Int → List Int → List Int
  | 0, _, suf => suf
  | w + 1, n, suf => wdI b w (wrap64 (Int.tdiv n b)) (Int.tmod n b :: suf)
theorem gpWith_loop {b : Int} (hb : b ≠ 0) : ∀ (w : Nat) (n : Int) (suf : List Int) (k : Nat), w ≤ 1000 → w < k → spec_gpWith.l0 k n b (List.replicate w 0 ++ suf) ((w : Int) - 1) = some (wdI b w n suf) := by
  intro w
  induction w with
  | zero =>
    intro n suf k _ hk
    obtain ⟨k, rfl⟩ : ∃ m, k = m + 1 := ⟨k - 1, by omega⟩
    rw [spec_gpWith.l0, if_neg (by omega)]; rfl
  | succ w ih =>
    intro n suf k hw hk
    obtain ⟨k, rfl⟩ : ∃ m, k = m + 1 := ⟨k - 1, by omega⟩
    have e0 : ((w + 1 : Nat) : Int) - 1 = (w : Int) := by omega
    have es : List.replicate (w + 1) (0 : Int) ++ suf = List.replicate w 0 ++ 0 :: suf := by rw [List.replicate_succ', List.append_assoc]; rfl
    have e1 := set_mid (List.replicate w (0 : Int)) suf 0 (Int.tmod n b)
    rw [List.length_replicate] at e1
    rw [e0, es, spec_gpWith.l0, if_pos (by omega), if_neg hb, if_pos (by omega), if_pos (by simp; omega), Int.toNat_natCast, e1, w64 (n := (w : Int) - 1) (by omega) (by omega), ih _ _ k (by omega) (by omega)]
    rfl
theorem gpWith_eq {b : Int} (hb : b ≠ 0) (n : Int) (w : Nat) (hw : w ≤ 1000) {k : Nat} (hk : w < k) : spec_gpWith.f k n (w : Int) b = some (wdI b w n []) := by
  have := gpWith_loop hb w n [] k hw hk
  unfold spec_gpWith.f
  rw [if_pos (by omega), if_pos (by omega), Int.toNat_natCast, w64 (n := (w : Int) - 1) (by omega) (by omega)]
  simpa using this
theorem wdI_length (b : Int) : ∀ (w : Nat) (n : Int) (suf : List Int), (wdI b w n suf).length = w + suf.length
  | 0, _, _ => by simp [wdI]
  | w + 1, n, suf => by rw [wdI, wdI_length b w]; simp; omega
/-- The digits of a number in a width. -/
def wd (b : Nat) : Nat → Nat → List Int
  | 0, _ => []
  | w + 1, n => wd b w (n / b) ++ [((n % b : Nat) : Int)]
theorem wdI_nat (b : Nat) : ∀ (w n : Nat) (suf : List Int), n ≤ 4611686018427387904 → wdI (b : Int) w (n : Int) suf = wd b w n ++ suf
  | 0, n, suf, _ => by simp [wdI, wd]
  | w + 1, n, suf, h => by
    have h2 := Nat.div_le_self n b
    rw [wdI, tdiv_nat, tmod_nat, w64n (by omega), wdI_nat b w (n / b) _ (by omega), wd, List.append_assoc]; rfl
theorem wd_length (b : Nat) : ∀ (w n : Nat), (wd b w n).length = w
  | 0, _ => rfl
  | w + 1, n => by rw [wd, List.length_append, wd_length b w]; rfl
theorem gvalL_append (b : Int) : ∀ (l m : List Int) (s : Int), gvalL b (l ++ m) s = gvalL b m (gvalL b l s)
  | [], m, s => rfl
  | d :: l, m, s => gvalL_append b l m _
theorem pow_le_16 {b w : Nat} (hb : b ≤ 16) (hw : w ≤ 8) : b ^ w ≤ 4294967296 := by
  have h1 : b ^ w ≤ 16 ^ w := Nat.pow_le_pow_left hb w
  have h2 : 16 ^ w ≤ 16 ^ 8 := Nat.pow_le_pow_right (by omega) hw
  have h3 : 16 ^ 8 = 4294967296 := by decide
  omega
theorem wd_value {b : Nat} (hb : 2 ≤ b) (hb2 : b ≤ 16) : ∀ (w n : Nat), w ≤ 8 → gvalL (b : Int) (wd b w n) 0 = ((n % b ^ w : Nat) : Int) := by
  intro w
  induction w with
  | zero => intro n _; simp [wd, gvalL, Nat.mod_one]
  | succ w ih =>
    intro n hw
    have h1 := pow_le_16 (b := b) (w := w) hb2 (by omega)
    have h2 : n / b % b ^ w < b ^ w := Nat.mod_lt _ (Nat.pow_pos (by omega))
    have h3 := Nat.mod_lt n (show b > 0 by omega)
    have h4 : n % b ^ (w + 1) = n % b + b * (n / b % b ^ w) := by rw [Nat.pow_succ, Nat.mul_comm (b ^ w) b, Nat.mod_mul]
    rw [wd, gvalL_append, ih (n / b) (by omega), h4]
    show wrap64 (wrap64 (((n / b % b ^ w : Nat) : Int) * (b : Int)) + ((n % b : Nat) : Int)) = _
    generalize n / b % b ^ w = q at *
    have h5 : q * b ≤ 4294967296 * 16 := Nat.mul_le_mul (by omega) hb2
    rw [← Int.natCast_mul, w64n (by omega), ← Int.natCast_add, w64n (by omega), Nat.mul_comm b q, Nat.add_comm]
theorem WordOf_both (n w b : Int) : ∃ (K : Nat) (r : List Int) (ok : Bool), r.length ≤ 1000 ∧ ∀ k, K ≤ k → spec_WordOf.f k n w b = some (r, ok) ∧ impl_WordOf.f k n w b = some (r, ok) := by
  by_cases hb : 2 ≤ b ∧ b ≤ 16
  · by_cases hw : 1 ≤ w ∧ w ≤ 8
    · obtain ⟨c, rfl⟩ := Int.eq_ofNat_of_zero_le (show 0 ≤ b by omega)
      obtain ⟨v, rfl⟩ := Int.eq_ofNat_of_zero_le (show 0 ≤ w by omega)
      have hp := pow_le_16 (b := c) (w := v) (by omega) (by omega)
      have hp0 : 0 < c ^ v := Nat.pow_pos (by omega)
      have hpw : ∀ k, v < k → impl_toPower.f k (c : Int) (v : Int) = some ((c ^ v : Nat) : Int) := fun k hk => by rw [toPower_eq (x := (c : Int)) (by omega) (by omega) v (by omega) k hk, Int.natCast_pow]
      have hval : ∀ m : Nat, gvalL (c : Int) (wd c v m) 0 = ((m % c ^ v : Nat) : Int) := fun m => wd_value (by omega) (by omega) v m (by omega)
      generalize c ^ v = P at *
      have hwr : wrap64 ((P : Int) - 1) = (P : Int) - 1 := w64 (by omega) (by omega)
      by_cases hn : 0 ≤ n ∧ n ≤ 4294967296
      · obtain ⟨m, rfl⟩ := Int.eq_ofNat_of_zero_le hn.1
        have hlen := wd_length c v m
        have g1 : ∀ k, v < k → spec_gpWith.f k (m : Int) (v : Int) (c : Int) = some (wd c v m) := fun k hk => by
          rw [gpWith_eq (by omega) _ v (by omega) hk, wdI_nat c v m [] (by omega), List.append_nil]
        have g2 : ∀ k, v < k → spec_gpValue.f k (wd c v m) (c : Int) = some ((m % P : Nat) : Int) := fun k hk => by
          rw [gpValue_eq _ _ (by omega) (by omega), hval]
        have a1 : ∀ k, spec_WordOf.f (k + 1) (m : Int) (v : Int) (c : Int) = spec_WordOf.j0 (k + 1) (m : Int) (v : Int) (c : Int) false := fun k => by
          simp only [spec_WordOf.f, spec_gpAsked.f, dgBase_eq, l1In_eq, hb, hw]
          simp
          rw [if_neg (by omega), decide_eq_false (by omega)]
        by_cases hlt : m < P
        · refine ⟨v + 2, wd c v m, true, by omega, fun k hk => ?_⟩
          obtain ⟨k, rfl⟩ : ∃ q, k = q + 1 := ⟨k - 1, by omega⟩
          refine ⟨?_, ?_⟩
          · rw [a1, spec_WordOf.j0, if_neg (by simp), g1 k (by omega)]
            simp only [Option.bind_some]
            rw [g2 k (by omega)]
            simp [Nat.mod_eq_of_lt hlt]
          · simp only [impl_WordOf.f, isBase_eq, impl_isWidth.f, in_eq, hb, hw, hpw (k + 1) (by omega), hwr, wordOf_same, g1 (k + 1) (by omega)]
            simp
            omega
        · refine ⟨v + 2, [], false, by simp, fun k hk => ?_⟩
          obtain ⟨k, rfl⟩ : ∃ q, k = q + 1 := ⟨k - 1, by omega⟩
          have hmod := Nat.mod_lt m hp0
          refine ⟨?_, ?_⟩
          · rw [a1, spec_WordOf.j0, if_neg (by simp), g1 k (by omega)]
            simp only [Option.bind_some]
            rw [g2 k (by omega)]
            simp only [Option.bind_some]
            rw [if_neg (by omega)]
          · simp only [impl_WordOf.f, isBase_eq, impl_isWidth.f, in_eq, hb, hw, hpw (k + 1) (by omega), hwr]
            simp
            omega
      · refine ⟨v + 2, [], false, by simp, fun k hk => ?_⟩
        obtain ⟨k, rfl⟩ : ∃ q, k = q + 1 := ⟨k - 1, by omega⟩
        refine ⟨?_, ?_⟩
        · simp only [spec_WordOf.f, spec_gpAsked.f, dgBase_eq, l1In_eq, hb, hw]
          simp [spec_WordOf.j0]
          intro h0 h1
          omega
        · simp only [impl_WordOf.f, isBase_eq, impl_isWidth.f, in_eq, hb, hw, hpw (k + 1) (by omega), hwr]
          simp
          omega
    · refine ⟨1, [], false, by simp, fun k hk => ?_⟩
      obtain ⟨k, rfl⟩ : ∃ q, k = q + 1 := ⟨k - 1, by omega⟩
      exact ⟨by simp [spec_WordOf.f, spec_gpAsked.f, dgBase_eq, l1In_eq, hb, hw, spec_WordOf.j0], by simp [impl_WordOf.f, isBase_eq, impl_isWidth.f, in_eq, hb, hw]⟩
  · refine ⟨1, [], false, by simp, fun k hk => ?_⟩
    obtain ⟨k, rfl⟩ : ∃ q, k = q + 1 := ⟨k - 1, by omega⟩
    exact ⟨by simp [spec_WordOf.f, spec_gpAsked.f, dgBase_eq, hb, spec_WordOf.j0], by simp [impl_WordOf.f, isBase_eq, hb]⟩
theorem WordOf_law : laws_FnExactWordOf.Pure := by
  intro n w b _ _ _
  obtain ⟨K0, r, ok, hr, h0⟩ := WordOf_both n w b 
  obtain ⟨K, hK⟩ : ∃ K, K = K0 + 0 + r.length + 1 := ⟨_, rfl⟩
  have hE : ∀ k, K ≤ k → laws_eqIntS.f k r r = some true := fun k h => (law_facts [] r (by simp) (by omega) (show _ < k by simp; omega)).2.2.1
  have hM : ∀ k, K ≤ k → laws_markIntS.f k r 1 = some (1 + (r.length : Int), marks 1 r.length) := fun k h => (law_facts [] r (by simp) (by omega) (show _ < k by simp; omega)).2.2.2.2.1
  have hH : ∀ k, K ≤ k → laws_heldIntS.f k (marks 1 r.length) 1 = some (1 + (r.length : Int)) := fun k h => (law_facts [] r (by simp) (by omega) (show _ < k by simp; omega)).2.2.2.2.2
  have hN := neg_no r
  have e1 : ∀ k, K ≤ k → spec_WordOf.f k n w b = some (r, ok) := fun k h => (h0 k (by omega)).1
  have e2 : ∀ k, K ≤ k → impl_WordOf.f k n w b = some (r, ok) := fun k h => (h0 k (by omega)).2
  refine ⟨K + 9, ?_⟩
  simp [laws_FnExactWordOf.f, laws_FnExactWordOf.j0, laws_FnExactWordOf.j1, hE, hM, hH, hN, e1, e2]

end Go.Proofs.YtndbfkgcmckjlaaC
