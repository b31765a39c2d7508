/-
  The plain law of LeastWithSum: both programs build the same table and tell the same digits. No conditions.
-/
import Derived.Test.YtocnokalokbgpaaLPw
import Derived.Test.YtocnokalokbgpaaLD3
namespace Go.Proofs.YtocnokalokbgpaaC
open Go.RowKit Go.Proofs.YtocnokalokbgpaaW.PrintWords
set_option linter.unusedSimpArgs false
set_option linter.unusedVariables false

/-! ### tables -/
def tb (T : List Int) (i : Nat) : Int := rd T (i : Int)
theorem rd_getD (T : List Int) (i : Nat) : rd T (i : Int) = T.getD i 0 := by
  by_cases h : i < T.length
  · rw [rd_get h]; simp [h]
  · simp [rd, List.getElem?_eq_none (show T.length ≤ i by omega)]
theorem tb_snoc_lt (T : List Int) (m : Int) {i : Nat} (h : i < T.length) : tb (T ++ [m]) i = tb T i := by
  unfold tb; rw [rd_getD, rd_getD]; simp [List.getD_eq_getElem?_getD, List.getElem?_append_left h]
theorem tb_snoc (T : List Int) (m : Int) : tb (T ++ [m]) T.length = m := by
  unfold tb; rw [rd_getD]; simp [List.getD_eq_getElem?_getD]
theorem tb_set_ne (T : List Int) (m : Int) {i j : Nat} (h : i ≠ j) : tb (T.set i m) j = tb T j := by
  unfold tb; rw [rd_getD, rd_getD]; simp [List.getD_eq_getElem?_getD, List.getElem?_set, h]
theorem tb_set (T : List Int) (m : Int) {i : Nat} (h : i < T.length) : tb (T.set i m) i = m := by
  unfold tb; rw [rd_getD]; simp [List.getD_eq_getElem?_getD, List.getElem?_set, h]
theorem tb_ext {T U : List Int} (hl : T.length = U.length) (h : ∀ i, i < T.length → tb T i = tb U i) : T = U := by
  refine List.ext_getElem hl (fun i h1 h2 => ?_)
  have := h i h1
  unfold tb at this
  rwa [rd_get h1, rd_get h2] at this
/-- What the powers of digits must do. -/
structure Pw (b p : Nat) : Prop where
  hb : 2 ≤ b
  hb2 : b ≤ 16
  hp : 1 ≤ p
  hp2 : p ≤ 8
theorem Pw.le {b p : Nat} (h : Pw b p) {d : Nat} (hd : d < b) : d ^ p ≤ 4294967296 := by
  have h0 := h.hb2
  have h1 : d ^ p ≤ 16 ^ p := Nat.pow_le_pow_left (by omega) p
  have h2 : 16 ^ p ≤ 16 ^ 8 := Nat.pow_le_pow_right (by omega) h.hp2
  have h3 : 16 ^ 8 = 4294967296 := by decide
  omega
theorem Pw.pos {b p : Nat} (h : Pw b p) {d : Nat} (hd : 1 ≤ d) : 1 ≤ d ^ p := Nat.pow_pos hd
theorem Pw.mono {b p : Nat} (h : Pw b p) {d e : Nat} (hd : d ≤ e) : d ^ p ≤ e ^ p := Nat.pow_le_pow_left hd p
theorem Pw.spec {b p : Nat} (h : Pw b p) {d : Nat} (hd : d < b) {k : Nat} (hk : 9 < k) : spec_pwOf.f k (d : Int) (p : Int) = some ((d ^ p : Nat) : Int) := by
  have := h.hb2; have := h.hp2
  rw [pwOf_eq (by omega) (by omega) p (by omega) k (by omega), Int.natCast_pow]
theorem Pw.impl {b p : Nat} (h : Pw b p) {d : Nat} (hd : d < b) {k : Nat} (hk : 9 < k) : impl_toPower.f k (d : Int) (p : Int) = some ((d ^ p : Nat) : Int) := by
  have := h.hb2; have := h.hp2
  rw [toPower_eq (by omega) (by omega) p (by omega) k (by omega), Int.natCast_pow]
/-- A number's bounds in a table. -/
def Bd (T : List Int) (s : Nat) : Prop := ∀ i, i < s → 0 ≤ tb T i ∧ tb T i ≤ (i : Int)
theorem spec_in {b p : Nat} (h : Pw b p) (sum : Int) (T : List Int) (s : Nat) (hs : s ≤ 2000) (hT : T.length = s) (hB : Bd T s) : ∀ (q d : Nat) (m : Int), d + q = b → 1 ≤ d → ∃ m', m' ≤ m ∧ (∀ e, d ≤ e → e < b → e ^ p ≤ s → m' ≤ 1 + tb T (s - e ^ p)) ∧ (m' = m ∨ ∃ e, d ≤ e ∧ e < b ∧ e ^ p ≤ s ∧ m' = 1 + tb T (s - e ^ p)) ∧
    ∃ c, ∀ k, 20 ≤ k → spec_LeastWithSum.l1 (k + c) sum (b : Int) (p : Int) T (s : Int) m (d : Int) = spec_LeastWithSum.l0 k sum (b : Int) (p : Int) (T ++ [m']) ((s + 1 : Nat) : Int) := by
  have hb2 := h.hb2
  intro q
  induction q with
  | zero =>
    intro d m hd h1
    refine ⟨m, by omega, fun e h2 h3 => by omega, Or.inl rfl, 2, fun k _ => ?_⟩
    rw [spec_LeastWithSum.l1, if_neg (by omega), spec_LeastWithSum.j3, if_neg (by simp), if_pos (by omega), w64s (by omega)]
  | succ q ih =>
    intro d m hd h1
    have hP := h.le (d := d) (by omega)
    have hP1 := h.pos h1
    have hmono : ∀ e, d ≤ e → d ^ p ≤ e ^ p := fun e he => h.mono he
    have hs1 : ∀ k, 9 < k → spec_pwOf.f k (d : Int) (p : Int) = some ((d ^ p : Nat) : Int) := fun k hk => h.spec (by omega) hk
    generalize hPd : d ^ p = P at *
    by_cases hc : P ≤ s
    · have hi : s - P < s := by omega
      have hb0 := hB (s - P) hi
      have hw : wrap64 ((s : Int) - (P : Int)) = ((s - P : Nat) : Int) := by rw [w64 (by omega) (by omega)]; omega
      have hw2 : wrap64 (1 + rd T ((s - P : Nat) : Int)) = 1 + tb T (s - P) := w64 (by unfold tb at hb0; omega) (by unfold tb at hb0; omega)
      have hleast : spec_l1Least.f m (1 + tb T (s - P)) = some (min m (1 + tb T (s - P))) := by
        unfold spec_l1Least.f
        by_cases hlt : m < 1 + tb T (s - P)
        · rw [if_pos hlt, Int.min_eq_left (by omega)]
        · rw [if_neg hlt, Int.min_eq_right (by omega)]
      obtain ⟨m', g1, g2, g3, c, g4⟩ := ih (d + 1) (min m (1 + tb T (s - P))) (by omega) (by omega)
      refine ⟨m', by omega, fun e h2 h3 h4 => ?_, ?_, c + 2, fun k hk => ?_⟩
      · by_cases he : e = d
        · subst he; rw [hPd]; omega
        · exact g2 e (by omega) h3 h4
      · rcases g3 with g3 | ⟨e, e1, e2, e3, e4⟩
        · by_cases hlt : m ≤ 1 + tb T (s - P)
          · left; omega
          · right; exact ⟨d, by omega, by omega, by rw [hPd]; exact hc, by rw [hPd]; omega⟩
        · right; exact ⟨e, by omega, e2, e3, e4⟩
      · have g5 := g4 k hk
        clear g1 g2 g3
        rw [← Nat.add_assoc, spec_LeastWithSum.l1, if_pos (by omega), hs1 _ (by omega)]
        simp only [Option.bind_some]
        rw [decide_eq_true (by omega), spec_LeastWithSum.j3, if_pos rfl, hs1 _ (by omega)]
        simp only [Option.bind_some]
        rw [hw, if_pos (by omega), if_pos (by omega), hw2, hleast]
        simp only [Option.bind_some]
        rw [w64s (by omega)]
        exact g5
    · refine ⟨m, by omega, fun e h2 h3 h4 => ?_, Or.inl rfl, 2, fun k hk => ?_⟩
      · have := hmono e h2; omega
      · rw [spec_LeastWithSum.l1, if_pos (by omega), hs1 _ (by omega)]
        simp only [Option.bind_some]
        rw [decide_eq_false (by omega), spec_LeastWithSum.j3, if_neg (by simp), if_pos (by omega), w64s (by omega)]
theorem impl_in_ {b p : Nat} (h : Pw b p) (sum : Int) (U : List Int) (s : Nat) (hs : s ≤ 2000) (hU : s < U.length) (hU2 : U.length ≤ 2001) (hB : Bd U s) : ∀ (q d : Nat) (m : Int), d + q = b → 1 ≤ d → 0 ≤ m → m ≤ 2000 → ∃ m', 0 ≤ m' ∧ m' ≤ m ∧ (∀ e, d ≤ e → e < b → e ^ p ≤ s → m' ≤ 1 + tb U (s - e ^ p)) ∧ (m' = m ∨ ∃ e, d ≤ e ∧ e < b ∧ e ^ p ≤ s ∧ m' = 1 + tb U (s - e ^ p)) ∧
    ∃ c, ∀ k, 20 ≤ k → impl_LeastWithSum.l1 (k + c) sum (b : Int) (p : Int) (U.set s m) (s : Int) (d : Int) = impl_LeastWithSum.l0 k sum (b : Int) (p : Int) (U.set s m') ((s + 1 : Nat) : Int) := by
  have hb2 := h.hb2
  intro q
  induction q with
  | zero =>
    intro d m hd h1 hm0 hm1
    refine ⟨m, hm0, by omega, fun e h2 h3 => by omega, Or.inl rfl, 1, fun k _ => ?_⟩
    rw [impl_LeastWithSum.l1, if_neg (by omega), w64s (by omega)]
  | succ q ih =>
    intro d m hd h1 hm0 hm1
    have hP := h.le (d := d) (by omega)
    have hP1 := h.pos h1
    have hmono : ∀ e, d ≤ e → d ^ p ≤ e ^ p := fun e he => h.mono he
    have hs1 : ∀ k, 9 < k → impl_toPower.f k (d : Int) (p : Int) = some ((d ^ p : Nat) : Int) := fun k hk => h.impl (by omega) hk
    generalize hPd : d ^ p = P at *
    by_cases hc : P ≤ s
    · have hi : s - P < s := by omega
      have hb0 := hB (s - P) hi
      have hw : wrap64 ((s : Int) - (P : Int)) = ((s - P : Nat) : Int) := by rw [w64 (by omega) (by omega)]; omega
      have hl : (U.set s m).length = U.length := List.length_set
      have r1 : rd (U.set s m) (s : Int) = m := tb_set U m hU
      have r2 : rd (U.set s m) ((s - P : Nat) : Int) = tb U (s - P) := tb_set_ne U m (by omega)
      have hw2 : wrap64 (tb U (s - P) + 1) = 1 + tb U (s - P) := by rw [w64 (by omega) (by omega)]; omega
      have hmn : mn m (1 + tb U (s - P)) = min m (1 + tb U (s - P)) := by
        unfold mn
        split <;> omega
      obtain ⟨m', g0, g1, g2, g3, c, g4⟩ := ih (d + 1) (min m (1 + tb U (s - P))) (by omega) (by omega) (by omega) (by omega)
      refine ⟨m', g0, by omega, fun e h2 h3 h4 => ?_, ?_, c + 1, fun k hk => ?_⟩
      · by_cases he : e = d
        · subst he; rw [hPd]; omega
        · exact g2 e (by omega) h3 h4
      · rcases g3 with g3 | ⟨e, e1, e2, e3, e4⟩
        · by_cases hlt : m ≤ 1 + tb U (s - P)
          · left; omega
          · right; exact ⟨d, by omega, by omega, by rw [hPd]; exact hc, by rw [hPd]; omega⟩
        · right; exact ⟨e, by omega, e2, e3, e4⟩
      · have g5 := g4 k hk
        clear g1 g2 g3
        rw [← Nat.add_assoc, impl_LeastWithSum.l1, if_pos (by omega), hs1 _ (by omega)]
        simp only [Option.bind_some]
        rw [if_pos (by omega), if_pos (by omega), if_pos (by omega)]
        rw [hw, if_pos (by omega), if_pos (by omega), r1, r2, hw2, hmn, Int.toNat_natCast, List.set_set, w64s (by omega)]
        exact g5
    · refine ⟨m, hm0, by omega, fun e h2 h3 h4 => ?_, Or.inl rfl, 1, fun k hk => ?_⟩
      · have := hmono e h2; omega
      · rw [impl_LeastWithSum.l1, if_pos (by omega), hs1 _ (by omega)]
        simp only [Option.bind_some]
        rw [if_neg (by omega), w64s (by omega)]
/-- The least numbers of digits, as a table tells them below s. -/
structure Few (b p : Nat) (T : List Int) (s : Nat) : Prop where
  zero : 1 ≤ s → tb T 0 = 0
  least : ∀ i, 1 ≤ i → i < s → ∀ e, 1 ≤ e → e < b → e ^ p ≤ i → tb T i ≤ 1 + tb T (i - e ^ p)
  some : ∀ i, 1 ≤ i → i < s → ∃ e, 1 ≤ e ∧ e < b ∧ e ^ p ≤ i ∧ tb T i = 1 + tb T (i - e ^ p)
theorem Few.same {b p : Nat} {T U : List Int} {s : Nat} (hT : Few b p T s) (hU : Few b p U s) : ∀ i, i < s → tb T i = tb U i := by
  intro i
  induction i using Nat.strongRecOn with
  | ind i ih =>
    intro hi
    rcases Nat.eq_zero_or_pos i with rfl | hpos
    · rw [hT.zero (by omega), hU.zero (by omega)]
    · obtain ⟨e, e1, e2, e3, e4⟩ := hT.some i hpos hi
      obtain ⟨f, f1, f2, f3, f4⟩ := hU.some i hpos hi
      have l1 := hT.least i hpos hi f f1 f2 f3
      have l2 := hU.least i hpos hi e e1 e2 e3
      have p1 : 1 ≤ e ^ p := Nat.pow_pos e1
      have p2 : 1 ≤ f ^ p := Nat.pow_pos f1
      have i1 := ih (i - e ^ p) (by omega) (by omega)
      have i2 := ih (i - f ^ p) (by omega) (by omega)
      omega
theorem Few.bd {b p : Nat} (hb : 2 ≤ b) {T : List Int} {s : Nat} (hT : Few b p T s) : Bd T s := by
  intro i
  induction i using Nat.strongRecOn with
  | ind i ih =>
    intro hi
    rcases Nat.eq_zero_or_pos i with rfl | hpos
    · rw [hT.zero (by omega)]; simp
    · obtain ⟨e, e1, e2, e3, e4⟩ := hT.some i hpos hi
      have p1 : 1 ≤ e ^ p := Nat.pow_pos e1
      have := ih (i - e ^ p) (by omega) (by omega)
      omega
theorem spec_table {b p : Nat} (h : Pw b p) (n : Nat) (hn : n ≤ 2000) : ∀ (q s : Nat) (T : List Int), s + q = n + 1 → 1 ≤ s → T.length = s → Few b p T s → ∃ T' : List Int, T'.length = n + 1 ∧ Few b p T' (n + 1) ∧
    ∃ c, ∀ k, 20 ≤ k → spec_LeastWithSum.l0 (k + c) (n : Int) (b : Int) (p : Int) T (s : Int) = (if (tb T' n) > 40 then (some (0, false)) else (spec_LeastWithSum.l2 k (n : Int) (b : Int) (p : Int) T' 0)) := by
  intro q
  induction q with
  | zero =>
    intro s T hs h1 hl hF
    have : s = n + 1 := by omega
    subst this
    refine ⟨T, hl, hF, 1, fun k hk => ?_⟩
    rw [spec_LeastWithSum.l0, if_neg (by omega), if_pos (by omega), if_pos (by omega)]; rfl
  | succ q ih =>
    intro s T hs h1 hl hF
    obtain ⟨m', g1, g2, g3, c, g4⟩ := spec_in h (n : Int) T s (by omega) hl (hF.bd h.hb) (b - 1) 1 1000000 (by have := h.hb; omega) (by omega)
    have hF' : Few b p (T ++ [m']) (s + 1) := by
      have e0 : ∀ i, i < s → tb (T ++ [m']) i = tb T i := fun i hi => tb_snoc_lt T m' (by omega)
      have es : tb (T ++ [m']) s = m' := by rw [← hl]; exact tb_snoc T m'
      refine ⟨fun _ => by rw [e0 0 (by omega)]; exact hF.zero (by omega), fun i hi1 hi e e1 e2 e3 => ?_, fun i hi1 hi => ?_⟩
      · have p1 : 1 ≤ e ^ p := Nat.pow_pos e1
        by_cases his : i = s
        · subst his; rw [es, e0 _ (by omega)]; exact g2 e e1 e2 e3
        · rw [e0 i (by omega), e0 _ (by omega)]; exact hF.least i hi1 (by omega) e e1 e2 e3
      · by_cases his : i = s
        · subst his
          rcases g3 with g3 | ⟨e, e1, e2, e3, e4⟩
          · have h0 := g2 1 (by omega) (by have := h.hb; omega) (by simp; omega)
            have h2 := hF.bd h.hb (i - 1) (by omega)
            rw [Nat.one_pow] at h0
            omega
          · have p1 : 1 ≤ e ^ p := Nat.pow_pos e1
            exact ⟨e, e1, e2, e3, by rw [es, e0 _ (by omega)]; exact e4⟩
        · obtain ⟨e, e1, e2, e3, e4⟩ := hF.some i hi1 (by omega)
          have p1 : 1 ≤ e ^ p := Nat.pow_pos e1
          exact ⟨e, e1, e2, e3, by rw [e0 i (by omega), e0 _ (by omega)]; exact e4⟩
    obtain ⟨T', t1, t2, c2, t3⟩ := ih (s + 1) (T ++ [m']) (by omega) (by omega) (by simp; omega) hF'
    refine ⟨T', t1, t2, c2 + c + 1, fun k hk => ?_⟩
    have := g4 (k + c2) (by omega)
    have := t3 k hk
    rw [← Nat.add_assoc, ← Nat.add_assoc, spec_LeastWithSum.l0, if_pos (by omega)]
    rename_i a1
    rw [Int.natCast_one] at a1
    rw [a1, this]
/-- The program's table: it starts with ones alone. -/
structure Few2 (b p : Nat) (T : List Int) (s : Nat) : Prop where
  zero : tb T 0 = 0
  ones : ∀ i, i < s → tb T i ≤ (i : Int)
  least : ∀ i, 1 ≤ i → i < s → ∀ e, 2 ≤ e → e < b → e ^ p ≤ i → tb T i ≤ 1 + tb T (i - e ^ p)
  some : ∀ i, 1 ≤ i → i < s → tb T i = (i : Int) ∨ ∃ e, 2 ≤ e ∧ e < b ∧ e ^ p ≤ i ∧ tb T i = 1 + tb T (i - e ^ p)
theorem Few2.bd {b p : Nat} {T : List Int} {s : Nat} (hT : Few2 b p T s) : Bd T s := by
  intro i
  induction i using Nat.strongRecOn with
  | ind i ih =>
    intro hi
    rcases Nat.eq_zero_or_pos i with rfl | hpos
    · rw [hT.zero]; simp
    · have ho := hT.ones i hi
      rcases hT.some i hpos hi with h | ⟨e, e1, e2, e3, e4⟩
      · omega
      · have p1 : 1 ≤ e ^ p := Nat.pow_pos (by omega)
        have := ih (i - e ^ p) (by omega) (by omega)
        omega
theorem Few2.step {b p : Nat} {T : List Int} {s : Nat} (hT : Few2 b p T s) : ∀ i, 1 ≤ i → i < s → tb T i ≤ 1 + tb T (i - 1) := by
  intro i
  induction i using Nat.strongRecOn with
  | ind i ih =>
    intro hpos hi
    have ho := hT.ones i hi
    by_cases h1 : i = 1
    · subst h1
      have : tb T (1 - 1) = 0 := hT.zero
      omega
    · rcases hT.some (i - 1) (by omega) (by omega) with h | ⟨e, e1, e2, e3, e4⟩
      · omega
      · have p1 : 1 ≤ e ^ p := Nat.pow_pos (by omega)
        have l1 := hT.least i hpos hi e e1 e2 (by omega)
        have l2 := ih (i - e ^ p) (by omega) (by omega) (by omega)
        have e5 : i - e ^ p - 1 = i - 1 - e ^ p := by omega
        rw [e5] at l2
        omega
theorem Few2.few {b p : Nat} (hb : 2 ≤ b) {T : List Int} {s : Nat} (hT : Few2 b p T s) : Few b p T s := by
  refine ⟨fun _ => hT.zero, fun i h1 hi e e1 e2 e3 => ?_, fun i h1 hi => ?_⟩
  · by_cases he : e = 1
    · subst he; rw [Nat.one_pow]; exact hT.step i h1 hi
    · exact hT.least i h1 hi e (by omega) e2 e3
  · rcases hT.some i h1 hi with h | ⟨e, e1, e2, e3, e4⟩
    · have l1 := hT.step i h1 hi
      have l2 := hT.ones (i - 1) (by omega)
      exact ⟨1, by omega, by omega, by simp; omega, by rw [Nat.one_pow]; omega⟩
    · exact ⟨e, by omega, e2, e3, e4⟩
theorem impl_table {b p : Nat} (h : Pw b p) (n : Nat) (hn : n ≤ 2000) : ∀ (q s : Nat) (T : List Int), s + q = n + 1 → 1 ≤ s → T.length = n + 1 → Few2 b p T s → ∃ T' : List Int, T'.length = n + 1 ∧ Few2 b p T' (n + 1) ∧
    ∃ c, ∀ k, 20 ≤ k → impl_LeastWithSum.l0 (k + c) (n : Int) (b : Int) (p : Int) T (s : Int) = impl_LeastWithSum.l2 k (b : Int) (p : Int) T' [] (n : Int) := by
  intro q
  induction q with
  | zero =>
    intro s T hs h1 hl hF
    have : s = n + 1 := by omega
    subst this
    refine ⟨T, hl, hF, 1, fun k hk => ?_⟩
    rw [impl_LeastWithSum.l0, if_neg (by omega)]
  | succ q ih =>
    intro s T hs h1 hl hF
    obtain ⟨m', g0, g1, g2, g3, c, g4⟩ := impl_in_ h (n : Int) T s (by omega) (by omega) (by omega) hF.bd (b - 2) 2 (s : Int) (by have := h.hb; omega) (by omega) (by omega) (by omega)
    have hF' : Few2 b p (T.set s m') (s + 1) := by
      have e0 : ∀ i, i < s → tb (T.set s m') i = tb T i := fun i hi => tb_set_ne T m' (by omega)
      have es : tb (T.set s m') s = m' := tb_set T m' (by omega)
      refine ⟨by rw [e0 0 (by omega)]; exact hF.zero, fun i hi => ?_, fun i hi1 hi e e1 e2 e3 => ?_, fun i hi1 hi => ?_⟩
      · by_cases his : i = s
        · subst his; rw [es]; exact g1
        · rw [e0 i (by omega)]; exact hF.ones i (by omega)
      · have p1 : 1 ≤ e ^ p := Nat.pow_pos (by omega)
        by_cases his : i = s
        · subst his; rw [es, e0 _ (by omega)]; exact g2 e e1 e2 e3
        · rw [e0 i (by omega), e0 _ (by omega)]; exact hF.least i hi1 (by omega) e e1 e2 e3
      · by_cases his : i = s
        · subst his
          rcases g3 with g3 | ⟨e, e1, e2, e3, e4⟩
          · left; rw [es]; exact g3
          · right
            have p1 : 1 ≤ e ^ p := Nat.pow_pos (by omega)
            exact ⟨e, e1, e2, e3, by rw [es, e0 _ (by omega)]; exact e4⟩
        · rcases hF.some i hi1 (by omega) with h | ⟨e, e1, e2, e3, e4⟩
          · left; rw [e0 i (by omega)]; exact h
          · right
            have p1 : 1 ≤ e ^ p := Nat.pow_pos (by omega)
            exact ⟨e, e1, e2, e3, by rw [e0 i (by omega), e0 _ (by omega)]; exact e4⟩
    obtain ⟨T', t1, t2, c2, t3⟩ := ih (s + 1) (T.set s m') (by omega) (by omega) (by simpa using hl) hF'
    refine ⟨T', t1, t2, c2 + c + 1, fun k hk => ?_⟩
    have a1 := g4 (k + c2) (by omega)
    have a2 := t3 k hk
    rw [← Nat.add_assoc, ← Nat.add_assoc, impl_LeastWithSum.l0, if_pos (by omega), if_pos (by omega), if_pos (by omega), Int.toNat_natCast]
    exact a1.trans a2
/-! ### the digits out of the table -/
theorem find {b p : Nat} (h : Pw b p) (T : List Int) (n l : Nat) (hn : n ≤ 2000) (hT : T.length = n + 1) (hF : Few b p T (n + 1)) (hl : l ≤ n) (hl1 : 1 ≤ l) (e : Nat) (he : e < b) (hel : e ^ p ≤ l) (heq : tb T l = 1 + tb T (l - e ^ p)) : ∀ (q d : Nat), d + q = e → 1 ≤ d →
    ∃ d', 1 ≤ d' ∧ d' < b ∧ d' ^ p ≤ l ∧ tb T l = 1 + tb T (l - d' ^ p) ∧
      (∀ v : Int, 0 ≤ v → v ≤ 1000000000000 → ∃ c, ∀ k, 20 ≤ k → spec_LeastWithSum.l3 (k + c) (l : Int) (b : Int) (p : Int) T v (d : Int) = (if v * (b : Int) + (d' : Int) > 1000000000000 then (some (0, false)) else spec_LeastWithSum.l2 k ((l - d' ^ p : Nat) : Int) (b : Int) (p : Int) T (v * (b : Int) + (d' : Int)))) ∧
      (∀ ds : List Int, ds.length ≤ 2000 → ∃ c, ∀ k, 20 ≤ k → impl_LeastWithSum.l3 (k + c) (b : Int) (p : Int) T ds (l : Int) (d : Int) = impl_LeastWithSum.l2 k (b : Int) (p : Int) T (ds ++ [(d' : Int)]) ((l - d' ^ p : Nat) : Int)) := by
  have hb2 := h.hb2
  have hBd := hF.bd h.hb
  intro q
  induction q with
  | zero =>
    intro d hd h1
    have hde : d = e := by omega
    subst hde
    have hP := h.le he
    have p1 := h.pos h1
    have hs1 : ∀ k, 9 < k → spec_pwOf.f k (d : Int) (p : Int) = some ((d ^ p : Nat) : Int) := fun k hk => h.spec he hk
    have hs2 : ∀ k, 9 < k → impl_toPower.f k (d : Int) (p : Int) = some ((d ^ p : Nat) : Int) := fun k hk => h.impl he hk
    have b1 := hBd l (by omega)
    refine ⟨d, h1, he, hel, heq, ?_⟩
    generalize hPd : d ^ p = P at *
    have b2 := hBd (l - P) (by omega)
    have hw : wrap64 ((l : Int) - (P : Int)) = ((l - P : Nat) : Int) := by rw [w64 (by omega) (by omega)]; omega
    have r1 : rd T ((l - P : Nat) : Int) = tb T (l - P) := rfl
    have r2 : rd T (l : Int) = tb T l := rfl
    refine ⟨fun v hv hv2 => ⟨1, fun k hk => ?_⟩, fun ds hds => ⟨1, fun k hk => ?_⟩⟩
    · have m1 : 0 ≤ v * (b : Int) ∧ v * (b : Int) ≤ 1000000000000 * 16 := ⟨Int.mul_nonneg hv (by omega), Int.mul_le_mul hv2 (by omega) (by omega) (by omega)⟩
      rw [spec_LeastWithSum.l3, hs1 _ (by omega)]
      simp only [Option.bind_some]
      rw [hw, if_pos (by omega), if_pos (by omega), if_pos (by omega), if_pos (by omega), r1, r2, w64 (n := tb T l - 1) (by omega) (by omega), if_pos (by omega)]
      generalize v * (b : Int) = vb at *
      rw [w64 (n := vb) (by omega) (by omega), w64 (by omega) (by omega)]
    · rw [impl_LeastWithSum.l3, hs2 _ (by omega)]
      simp only [Option.bind_some]
      rw [if_neg (by omega)]
      rw [hw, if_pos (by omega), if_pos (by omega), if_pos (by omega), if_pos (by omega), r1, r2, w64 (n := tb T l - 1) (by omega) (by omega), if_pos (by omega), if_pos (by omega)]
  | succ q ih =>
    intro d hd h1
    have hdb : d < b := by omega
    have hP := h.le hdb
    have p1 := h.pos h1
    have hde := h.mono (d := d) (e := e) (by omega)
    by_cases hg : tb T (l - d ^ p) = tb T l - 1
    · -- d itself
      have hs1 : ∀ k, 9 < k → spec_pwOf.f k (d : Int) (p : Int) = some ((d ^ p : Nat) : Int) := fun k hk => h.spec hdb hk
      have hs2 : ∀ k, 9 < k → impl_toPower.f k (d : Int) (p : Int) = some ((d ^ p : Nat) : Int) := fun k hk => h.impl hdb hk
      have b1 := hBd l (by omega)
      refine ⟨d, h1, hdb, by omega, by omega, ?_⟩
      generalize hPd : d ^ p = P at *
      have b2 := hBd (l - P) (by omega)
      have hw : wrap64 ((l : Int) - (P : Int)) = ((l - P : Nat) : Int) := by rw [w64 (by omega) (by omega)]; omega
      have r1 : rd T ((l - P : Nat) : Int) = tb T (l - P) := rfl
      have r2 : rd T (l : Int) = tb T l := rfl
      refine ⟨fun v hv hv2 => ⟨1, fun k hk => ?_⟩, fun ds hds => ⟨1, fun k hk => ?_⟩⟩
      · have m1 : 0 ≤ v * (b : Int) ∧ v * (b : Int) ≤ 1000000000000 * 16 := ⟨Int.mul_nonneg hv (by omega), Int.mul_le_mul hv2 (by omega) (by omega) (by omega)⟩
        rw [spec_LeastWithSum.l3, hs1 _ (by omega)]
        simp only [Option.bind_some]
        rw [hw, if_pos (by omega), if_pos (by omega), if_pos (by omega), if_pos (by omega), r1, r2, w64 (n := tb T l - 1) (by omega) (by omega), if_pos (by omega)]
        generalize v * (b : Int) = vb at *
        rw [w64 (n := vb) (by omega) (by omega), w64 (by omega) (by omega)]
      · rw [impl_LeastWithSum.l3, hs2 _ (by omega)]
        simp only [Option.bind_some]
        rw [if_neg (by omega)]
        rw [hw, if_pos (by omega), if_pos (by omega), if_pos (by omega), if_pos (by omega), r1, r2, w64 (n := tb T l - 1) (by omega) (by omega), if_pos (by omega), if_pos (by omega)]
    · obtain ⟨d', d1, d2, d3, d4, d5, d6⟩ := ih (d + 1) (by omega) (by omega)
      have hs1 : ∀ k, 9 < k → spec_pwOf.f k (d : Int) (p : Int) = some ((d ^ p : Nat) : Int) := fun k hk => h.spec hdb hk
      have hs2 : ∀ k, 9 < k → impl_toPower.f k (d : Int) (p : Int) = some ((d ^ p : Nat) : Int) := fun k hk => h.impl hdb hk
      have b1 := hBd l (by omega)
      refine ⟨d', d1, d2, d3, d4, fun v hv hv2 => ?_, fun ds hds => ?_⟩
      · obtain ⟨c, h5⟩ := d5 v hv hv2
        refine ⟨c + 1, fun k hk => ?_⟩
        have h6 := h5 k hk
        clear d5 d6 h5
        generalize hPd : d ^ p = P at *
        have b2 := hBd (l - P) (by omega)
        have hw : wrap64 ((l : Int) - (P : Int)) = ((l - P : Nat) : Int) := by rw [w64 (by omega) (by omega)]; omega
        have r1 : rd T ((l - P : Nat) : Int) = tb T (l - P) := rfl
        have r2 : rd T (l : Int) = tb T l := rfl
        rw [← Nat.add_assoc, spec_LeastWithSum.l3, hs1 _ (by omega)]
        simp only [Option.bind_some]
        rw [hw, if_pos (by omega), if_pos (by omega), if_pos (by omega), if_pos (by omega), r1, r2, w64 (n := tb T l - 1) (by omega) (by omega), if_neg (by omega), w64s (by omega)]
        exact h6
      · obtain ⟨c, h5⟩ := d6 ds hds
        refine ⟨c + 1, fun k hk => ?_⟩
        have h6 := h5 k hk
        clear d5 d6 h5
        generalize hPd : d ^ p = P at *
        have b2 := hBd (l - P) (by omega)
        have hw : wrap64 ((l : Int) - (P : Int)) = ((l - P : Nat) : Int) := by rw [w64 (by omega) (by omega)]; omega
        have r1 : rd T ((l - P : Nat) : Int) = tb T (l - P) := rfl
        have r2 : rd T (l : Int) = tb T l := rfl
        rw [← Nat.add_assoc, impl_LeastWithSum.l3, hs2 _ (by omega)]
        simp only [Option.bind_some]
        rw [if_neg (by omega)]
        rw [hw, if_pos (by omega), if_pos (by omega), if_pos (by omega), if_pos (by omega), r1, r2, w64 (n := tb T l - 1) (by omega) (by omega), if_neg (by omega), w64s (by omega)]
        exact h6
theorem valL_append (b : Int) : ∀ (l m : List Int) (s : Int), valL b (l ++ m) s = (valL b l s).bind (valL b m)
  | [], m, s => rfl
  | d :: l, m, s => by
    rw [List.cons_append, valL, valL]
    by_cases hc : wrap64 (wrap64 (s * b) + d) > 1000000000000
    · rw [if_pos hc, if_pos hc]; rfl
    · rw [if_neg hc, if_neg hc, valL_append b l m]
/-- Digits that are not nought make numbers long. -/
theorem valL_long {b : Int} (hb : 2 ≤ b) (hb2 : b ≤ 16) : ∀ (l : List Int) (s v : Int), (∀ x ∈ l, 1 ≤ x ∧ x < b) → 0 ≤ s → s ≤ 1000000000000 → valL b l s = some v → (s + 1) * 2 ^ l.length ≤ v + 1
  | [], s, v, _, h0, _, h => by
    rw [valL] at h; cases h; simp
  | d :: l, s, v, hd, h0, h1, h => by
    have hx := hd d (by simp)
    have m1 : 2 * s ≤ s * b ∧ s * b ≤ 1000000000000 * 16 := ⟨by rw [Int.mul_comm]; exact Int.mul_le_mul_of_nonneg_left hb h0, Int.mul_le_mul h1 hb2 (by omega) (by omega)⟩
    rw [valL] at h
    generalize s * b = sb at *
    rw [w64 (n := sb) (by omega) (by omega), w64 (by omega) (by omega)] at h
    by_cases hc : sb + d > 1000000000000
    · rw [if_pos hc] at h; cases h
    · rw [if_neg hc] at h
      have ih := valL_long hb hb2 l (sb + d) v (fun x hx => hd x (by simp [hx])) (by omega) (by omega) h
      refine Int.le_trans ?_ ih
      rw [List.length_cons, Int.pow_succ, Int.mul_comm (2 ^ l.length) 2, ← Int.mul_assoc]
      exact Int.mul_le_mul_of_nonneg_right (by omega) (Int.pow_nonneg (by omega))
def toldL (b : Int) (l : List Int) : Int × Bool := match valL b l 0 with | some v => (v, true) | none => (0, false)
theorem implAll {b p : Nat} (h : Pw b p) (T : List Int) (n : Nat) (hn : n ≤ 2000) (hT : T.length = n + 1) (hF : Few b p T (n + 1)) : ∀ (l : Nat), l ≤ n → ∀ (ds : List Int), ds.length ≤ 41 →
    ∃ es : List Int, (∃ c, ∀ k, 100 ≤ k → impl_LeastWithSum.l2 (k + c) (b : Int) (p : Int) T ds (l : Int) = some (toldL (b : Int) (ds ++ es))) ∧ (∀ x ∈ es, 1 ≤ x ∧ x < (b : Int)) ∧ (41 ≤ (ds.length : Int) + tb T l → 41 ≤ (ds ++ es).length) := by
  have hBd := hF.bd h.hb
  intro l
  induction l using Nat.strongRecOn with
  | ind l ih =>
    intro hl ds hds
    have b1 := hBd l (by omega)
    have hend : (l = 0 ∨ ds.length = 41) → ∃ c, ∀ k, 100 ≤ k → impl_LeastWithSum.l2 (k + c) (b : Int) (p : Int) T ds (l : Int) = some (toldL (b : Int) ds) := by
      intro hcase
      have hj : ∀ k, 100 ≤ k → impl_LeastWithSum.j4 (k + 1) (b : Int) (p : Int) T ds (l : Int) false = some (toldL (b : Int) ds) := fun k hk => by
        rw [impl_LeastWithSum.j4, if_neg (by simp), value_eq (b : Int) ds (by omega) (by omega)]
        simp only [Option.bind_some]
        rw [told_eq]; rfl
      refine ⟨2, fun k hk => ?_⟩
      rw [impl_LeastWithSum.l2]
      rcases hcase with h0 | h0
      · rw [if_neg (by omega)]; exact hj k hk
      · by_cases hl0 : (l : Int) > 0
        · rw [if_pos hl0, decide_eq_false (by omega)]; exact hj k hk
        · rw [if_neg hl0]; exact hj k hk
    by_cases hcase : l = 0 ∨ ds.length = 41
    · refine ⟨[], by rw [List.append_nil]; exact hend hcase, by simp, fun h41 => ?_⟩
      rw [List.append_nil]
      rcases hcase with h0 | h0
      · subst h0; omega
      · omega
    · obtain ⟨e, e1, e2, e3, e4⟩ := hF.some l (by omega) (by omega)
      obtain ⟨d, d1, d2, d3, d4, _, d6⟩ := find h T n l hn hT hF hl (by omega) e e2 e3 e4 (e - 1) 1 (by omega) (by omega)
      have p1 := h.pos d1
      obtain ⟨c1, h6⟩ := d6 ds (by omega)
      obtain ⟨es, ⟨c2, g1⟩, g2, g3⟩ := ih (l - d ^ p) (by omega) (by omega) (ds ++ [(d : Int)]) (by simp; omega)
      refine ⟨(d : Int) :: es, ⟨c2 + c1 + 2, fun k hk => ?_⟩, fun x hx => ?_, fun h41 => ?_⟩
      · have a1 := h6 (k + c2) (by omega)
        have a2 := g1 k hk
        rw [List.append_assoc, List.singleton_append] at a2
        rw [show k + (c2 + c1 + 2) = (k + c2 + c1) + 1 + 1 by omega, impl_LeastWithSum.l2, if_pos (by omega), decide_eq_true (by omega), impl_LeastWithSum.j4, if_pos rfl]
        exact a1.trans a2
      · rcases List.mem_cons.1 hx with rfl | hx
        · omega
        · exact g2 x hx
      · have := g3 (by simp; omega)
        rw [List.append_assoc, List.singleton_append] at this
        exact this
theorem both {b p : Nat} (h : Pw b p) (T : List Int) (n : Nat) (hn : n ≤ 2000) (hT : T.length = n + 1) (hF : Few b p T (n + 1)) : ∀ (l : Nat), l ≤ n → ∀ (ds : List Int) (v : Int), (ds.length : Int) + tb T l ≤ 40 → valL (b : Int) ds 0 = some v → 0 ≤ v → v ≤ 1000000000000 →
    ∃ r, (∃ c, ∀ k, 100 ≤ k → impl_LeastWithSum.l2 (k + c) (b : Int) (p : Int) T ds (l : Int) = some r) ∧ (∃ c, ∀ k, 100 ≤ k → spec_LeastWithSum.l2 (k + c) (l : Int) (b : Int) (p : Int) T v = some r) := by
  have hBd := hF.bd h.hb
  have hb2 := h.hb2
  intro l
  induction l using Nat.strongRecOn with
  | ind l ih =>
    intro hl ds v hds hv hv0 hv1
    have b1 := hBd l (by omega)
    by_cases hl0 : l = 0
    · subst hl0
      refine ⟨(v, true), ⟨2, fun k hk => ?_⟩, ⟨1, fun k hk => ?_⟩⟩
      · rw [impl_LeastWithSum.l2, if_neg (by omega), impl_LeastWithSum.j4, if_neg (by simp), value_eq (b : Int) ds (by omega) (by omega)]
        simp only [Option.bind_some]
        rw [told_eq, hv]; rfl
      · rw [spec_LeastWithSum.l2, if_neg (by omega)]
    · obtain ⟨e, e1, e2, e3, e4⟩ := hF.some l (by omega) (by omega)
      obtain ⟨d, d1, d2, d3, d4, d5, d6⟩ := find h T n l hn hT hF hl (by omega) e e2 e3 e4 (e - 1) 1 (by omega) (by omega)
      have p1 := h.pos d1
      have b2 := hBd (l - d ^ p) (by omega)
      obtain ⟨c1, h6⟩ := d6 ds (by omega)
      obtain ⟨c3, h5⟩ := d5 v hv0 hv1
      have m1 : 0 ≤ v * (b : Int) ∧ v * (b : Int) ≤ 1000000000000 * 16 := ⟨Int.mul_nonneg hv0 (by omega), Int.mul_le_mul hv1 (by omega) (by omega) (by omega)⟩
      have hval : valL (b : Int) (ds ++ [(d : Int)]) 0 = (if v * (b : Int) + (d : Int) > 1000000000000 then none else some (v * (b : Int) + (d : Int))) := by
        rw [valL_append, hv]
        show valL (b : Int) [(d : Int)] v = _
        rw [valL]
        generalize v * (b : Int) = vb at *
        rw [w64 (n := vb) (by omega) (by omega), w64 (by omega) (by omega)]; rfl
      have a0 : ∀ k, 100 ≤ k → ∀ q, impl_LeastWithSum.l2 (k + q + c1 + 2) (b : Int) (p : Int) T ds (l : Int) = impl_LeastWithSum.l2 (k + q) (b : Int) (p : Int) T (ds ++ [(d : Int)]) ((l - d ^ p : Nat) : Int) := fun k hk q => by
        rw [show k + q + c1 + 2 = (k + q + c1) + 1 + 1 by omega, impl_LeastWithSum.l2, if_pos (by omega), decide_eq_true (by omega), impl_LeastWithSum.j4, if_pos rfl]
        exact h6 (k + q) (by omega)
      by_cases hc : v * (b : Int) + (d : Int) > 1000000000000
      · rw [if_pos hc] at hval
        obtain ⟨es, ⟨c2, g1⟩, g2, g3⟩ := implAll h T n hn hT hF (l - d ^ p) (by omega) (ds ++ [(d : Int)]) (by simp; omega)
        refine ⟨(0, false), ⟨c2 + c1 + 2, fun k hk => ?_⟩, ⟨c3 + 1, fun k hk => ?_⟩⟩
        · have := a0 k hk c2
          rw [show k + (c2 + c1 + 2) = k + c2 + c1 + 2 by omega, this, g1 k hk]
          unfold toldL
          rw [valL_append, hval]; rfl
        · rw [← Nat.add_assoc, spec_LeastWithSum.l2, if_pos (by omega)]
          have := h5 k (by omega)
          rw [if_pos hc] at this
          exact this
      · rw [if_neg hc] at hval
        obtain ⟨r, ⟨c2, g1⟩, ⟨c4, g2⟩⟩ := ih (l - d ^ p) (by omega) (by omega) (ds ++ [(d : Int)]) _ (by simp; omega) hval (by omega) (by omega)
        refine ⟨r, ⟨c2 + c1 + 2, fun k hk => ?_⟩, ⟨c4 + c3 + 1, fun k hk => ?_⟩⟩
        · have := a0 k hk c2
          rw [show k + (c2 + c1 + 2) = k + c2 + c1 + 2 by omega, this, g1 k hk]
        · rw [← Nat.add_assoc, ← Nat.add_assoc, spec_LeastWithSum.l2, if_pos (by omega)]
          have := h5 (k + c4) (by omega)
          rw [if_neg hc] at this
          exact this.trans (g2 k hk)
theorem two41 : 2 ^ 41 = 2199023255552 := rfl
theorem long_none {b : Int} (hb : 2 ≤ b) (hb2 : b ≤ 16) (es : List Int) (g2 : ∀ x ∈ es, 1 ≤ x ∧ x < b) (hlen : 41 ≤ es.length) : valL b es 0 = none := by
  cases hv : valL b es 0 with
  | none => rfl
  | some v =>
    have l1 := valL_long hb hb2 es 0 v g2 (by omega) (by omega) hv
    have l2 := valL_le hv (by omega)
    have l3 : 2 ^ 41 ≤ 2 ^ es.length := Nat.pow_le_pow_right (by omega) hlen
    have l5 : ((2 ^ es.length : Nat) : Int) = (2 : Int) ^ es.length := Int.natCast_pow 2 _
    rw [two41] at l3
    rw [← l5] at l1
    clear l5
    generalize 2 ^ es.length = Z at *
    rw [Int.zero_add, Int.one_mul] at l1
    omega
theorem lws_s0 {n c q : Nat} (hn : n ≤ 2000) (hb : 2 ≤ c ∧ c ≤ 16) (hp : 1 ≤ q ∧ q ≤ 8) (k : Nat) : spec_LeastWithSum.f (k + 1) (n : Int) (c : Int) (q : Int) = spec_LeastWithSum.l0 k (n : Int) (c : Int) (q : Int) [0] 1 := by
  have h1 : decide (0 ≤ (n : Int) ∧ (n : Int) ≤ 2000) = true := decide_eq_true (by omega)
  have h2 : decide (2 ≤ (c : Int) ∧ (c : Int) ≤ 16) = true := decide_eq_true (by omega)
  have h3 : decide (1 ≤ (q : Int) ∧ (q : Int) ≤ 8) = true := decide_eq_true (by omega)
  unfold spec_LeastWithSum.f
  rw [l1In_eq, h1, Option.bind_some, if_pos rfl, dgBase_eq, h2, Option.bind_some, if_pos rfl, pwPower_eq, h3, Option.bind_some, spec_LeastWithSum.j0, if_neg (by simp)]
theorem lws_i0 {n c q : Nat} (hn : n ≤ 2000) (hb : 2 ≤ c ∧ c ≤ 16) (hp : 1 ≤ q ∧ q ≤ 8) (k : Nat) : impl_LeastWithSum.f (k + 1) (n : Int) (c : Int) (q : Int) = impl_LeastWithSum.l0 k (n : Int) (c : Int) (q : Int) (List.replicate (n + 1) 0) 1 := by
  have h1 : decide (0 ≤ (n : Int) ∧ (n : Int) ≤ 2000) = true := decide_eq_true (by omega)
  have h2 : decide (2 ≤ (c : Int) ∧ (c : Int) ≤ 16) = true := decide_eq_true (by omega)
  have h3 : decide (1 ≤ (q : Int) ∧ (q : Int) ≤ 8) = true := decide_eq_true (by omega)
  have hw : wrap64 ((n : Int) + 1) = ((n + 1 : Nat) : Int) := w64s (by omega)
  have a1 : (0 : Int) ≤ ((n + 1 : Nat) : Int) := by omega
  have a2 : n + 1 ≤ 35184372088832 := by omega
  unfold impl_LeastWithSum.f
  rw [in_eq, h1, Option.bind_some, if_pos rfl, isBase_eq, h2, Option.bind_some, if_pos rfl, isPower_eq, h3, Option.bind_some, impl_LeastWithSum.j0, if_neg (by simp), hw, if_pos a1, Int.toNat_natCast, if_pos a2]
theorem lws_go {n c q : Nat} (hn : n ≤ 2000) (hb : 2 ≤ c ∧ c ≤ 16) (hp : 1 ≤ q ∧ q ≤ 8) : ∃ (K : Nat) (v : Int × Bool), ∀ k, K ≤ k → spec_LeastWithSum.l0 k (n : Int) (c : Int) (q : Int) [0] 1 = some v ∧ impl_LeastWithSum.l0 k (n : Int) (c : Int) (q : Int) (List.replicate (n + 1) 0) 1 = some v := by
  have h : Pw c q := ⟨by omega, by omega, by omega, by omega⟩
  obtain ⟨T, t1, t2, c1, t3⟩ := spec_table h n (by omega) n 1 [0] (by omega) (by omega) (List.length_singleton) ⟨fun _ => rfl, fun i h1 h2 => by omega, fun i h1 h2 => by omega⟩
  have hz : ∀ i, tb (List.replicate (n + 1) (0 : Int)) i = 0 := fun i => by
    unfold tb; rw [rd_getD, List.getD_eq_getElem?_getD, List.getElem?_replicate]; split <;> rfl
  obtain ⟨U, u1, u2, c2, u3⟩ := impl_table h n (by omega) n 1 (List.replicate (n + 1) 0) (by omega) (by omega) (List.length_replicate) ⟨hz 0, fun i hi => by rw [hz]; omega, fun i h1 h2 => by omega, fun i h1 h2 => by omega⟩
  have hTU : T = U := tb_ext (by omega) (fun i hi => t2.same (u2.few h.hb) i (by omega))
  subst hTU
  by_cases h40 : tb T n > 40
  · obtain ⟨es, ⟨c3, g1⟩, g2, g3⟩ := implAll h T n (by omega) t1 t2 n (by omega) [] (by simp)
    have hlen := g3 (by simp; omega)
    rw [List.nil_append] at hlen g1
    refine ⟨200 + c1 + c2 + c3, (0, false), fun k hk => ⟨?_, ?_⟩⟩
    · have a1 := t3 (k - c1) (by omega)
      rw [show k - c1 + c1 = k by omega, if_pos h40] at a1
      exact a1
    · have a1 := u3 (k - c2) (by omega)
      rw [show k - c2 + c2 = k by omega] at a1
      have a2 := g1 (k - c2 - c3) (by omega)
      rw [show k - c2 - c3 + c3 = k - c2 by omega] at a2
      have hnone : valL (c : Int) es 0 = none := long_none (by omega) (by omega) es g2 hlen
      refine a1.trans (a2.trans ?_)
      unfold toldL
      rw [hnone]
  · obtain ⟨r, ⟨c3, g1⟩, ⟨c4, g2⟩⟩ := both h T n (by omega) t1 t2 n (by omega) [] 0 (by simp; omega) (by rw [valL]) (by omega) (by omega)
    refine ⟨200 + c1 + c2 + c3 + c4, r, fun k hk => ⟨?_, ?_⟩⟩
    · have a1 := t3 (k - c1) (by omega)
      rw [show k - c1 + c1 = k by omega, if_neg h40] at a1
      have a2 := g2 (k - c1 - c4) (by omega)
      rw [show k - c1 - c4 + c4 = k - c1 by omega] at a2
      exact a1.trans a2
    · have a1 := u3 (k - c2) (by omega)
      rw [show k - c2 + c2 = k by omega] at a1
      have a2 := g1 (k - c2 - c3) (by omega)
      rw [show k - c2 - c3 + c3 = k - c2 by omega] at a2
      exact a1.trans a2
theorem LeastWithSum_both (s b p : Int) : ∃ (K : Nat) (v : Int × Bool), ∀ k, K ≤ k → spec_LeastWithSum.f k s b p = some v ∧ impl_LeastWithSum.f k s b p = some v := by
  by_cases hs : 0 ≤ s ∧ s ≤ 2000
  · by_cases hb : 2 ≤ b ∧ b ≤ 16
    · by_cases hp : 1 ≤ p ∧ p ≤ 8
      · obtain ⟨n, rfl⟩ := Int.eq_ofNat_of_zero_le hs.1
        obtain ⟨c, rfl⟩ := Int.eq_ofNat_of_zero_le (show 0 ≤ b by omega)
        obtain ⟨q, rfl⟩ := Int.eq_ofNat_of_zero_le (show 0 ≤ p by omega)
        obtain ⟨K, v, h⟩ := lws_go (n := n) (c := c) (q := q) (by omega) (by omega) (by omega)
        refine ⟨K + 1, v, fun k hk => ?_⟩
        obtain ⟨k, rfl⟩ : ∃ q, k = q + 1 := ⟨k - 1, by omega⟩
        rw [lws_s0 (by omega) (by omega) (by omega), lws_i0 (by omega) (by omega) (by omega)]
        exact h k (by omega)
      · refine ⟨1, (0, false), fun k hk => ?_⟩
        obtain ⟨k, rfl⟩ : ∃ q, k = q + 1 := ⟨k - 1, by omega⟩
        exact ⟨by simp [spec_LeastWithSum.f, l1In_eq, dgBase_eq, pwPower_eq, hs, hb, hp, spec_LeastWithSum.j0], by simp [impl_LeastWithSum.f, in_eq, isBase_eq, isPower_eq, hs, hb, hp, impl_LeastWithSum.j0]⟩
    · refine ⟨1, (0, false), fun k hk => ?_⟩
      obtain ⟨k, rfl⟩ : ∃ q, k = q + 1 := ⟨k - 1, by omega⟩
      exact ⟨by simp [spec_LeastWithSum.f, l1In_eq, dgBase_eq, hs, hb, spec_LeastWithSum.j0], by simp [impl_LeastWithSum.f, in_eq, isBase_eq, hs, hb, impl_LeastWithSum.j0]⟩
  · refine ⟨1, (0, false), fun k hk => ?_⟩
    obtain ⟨k, rfl⟩ : ∃ q, k = q + 1 := ⟨k - 1, by omega⟩
    exact ⟨by simp [spec_LeastWithSum.f, l1In_eq, hs, spec_LeastWithSum.j0], by simp [impl_LeastWithSum.f, in_eq, hs, impl_LeastWithSum.j0]⟩
theorem LeastWithSum_law : laws_FnExactLeastWithSum.Pure := by
  intro n b p _ _ _
  obtain ⟨K, v, h⟩ := LeastWithSum_both n b p
  exact ⟨K, by simp [laws_FnExactLeastWithSum.f, (h K (by omega)).1, (h K (by omega)).2]⟩
end Go.Proofs.YtocnokalokbgpaaC
