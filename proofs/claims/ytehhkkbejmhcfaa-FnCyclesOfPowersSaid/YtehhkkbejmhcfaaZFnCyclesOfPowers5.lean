/- Plain texts of FnCyclesOfPowers, merged by a program: what Go functions compute, lemmas of the walk, and proofs. No conditions. -/
import Derived.Test.YtehhkkbejmhcfaaZFnCyclesOfPowers2
import Derived.Test.YtehhkkbejmhcfaaZFnCyclesOfPowers3
import Derived.Test.YtehhkkbejmhcfaaZFnCyclesOfPowers4
section
namespace Go.Proofs.YtehhkkbejmhcfaaC
open Go.RowKit Go.Proofs.YtehhkkbejmhcfaaW.PrintWords
set_option linter.unusedSimpArgs false
set_option linter.unusedVariables false
def tb (T : List Int) (i : Nat) : Int := rd T (i : Int)
theorem rd_getD (T : List Int) (i : Nat) : rd T (i : Int) = T.getD i 0 := by
  by_cases h : i < T.length
  · rw [rd_get h]; simp [h]
  · simp [rd, List.getElem?_eq_none (show T.length ≤ i by omega)]
theorem tb_snoc_lt (T : List Int) (m : Int) {i : Nat} (h : i < T.length) : tb (T ++ [m]) i = tb T i := by
  unfold tb; rw [rd_getD, rd_getD]; simp [List.getD_eq_getElem?_getD, List.getElem?_append_left h]
theorem tb_snoc (T : List Int) (m : Int) : tb (T ++ [m]) T.length = m := by
  unfold tb; rw [rd_getD]; simp [List.getD_eq_getElem?_getD]
theorem tb_set_ne (T : List Int) (m : Int) {i j : Nat} (h : i ≠ j) : tb (T.set i m) j = tb T j := by
  unfold tb; rw [rd_getD, rd_getD]; simp [List.getD_eq_getElem?_getD, List.getElem?_set, h]
theorem tb_set (T : List Int) (m : Int) {i : Nat} (h : i < T.length) : tb (T.set i m) i = m := by
  unfold tb; rw [rd_getD]; simp [List.getD_eq_getElem?_getD, List.getElem?_set, h]
theorem tb_ext {T U : List Int} (hl : T.length = U.length) (h : ∀ i, i < T.length → tb T i = tb U i) : T = U := by
  refine List.ext_getElem hl (fun i h1 h2 => ?_)
  have := h i h1
  unfold tb at this
  rwa [rd_get h1, rd_get h2] at this
structure Pw (b p : Nat) : Prop where
  hb : 2 ≤ b
  hb2 : b ≤ 16
  hp : 1 ≤ p
  hp2 : p ≤ 8
theorem Pw.le {b p : Nat} (h : Pw b p) {d : Nat} (hd : d < b) : d ^ p ≤ 4294967296 := by
  have h0 := h.hb2
  have h1 : d ^ p ≤ 16 ^ p := Nat.pow_le_pow_left (by omega) p
  have h2 : 16 ^ p ≤ 16 ^ 8 := Nat.pow_le_pow_right (by omega) h.hp2
  have h3 : 16 ^ 8 = 4294967296 := by decide
  omega
theorem Pw.pos {b p : Nat} (h : Pw b p) {d : Nat} (hd : 1 ≤ d) : 1 ≤ d ^ p := Nat.pow_pos hd
theorem Pw.mono {b p : Nat} (h : Pw b p) {d e : Nat} (hd : d ≤ e) : d ^ p ≤ e ^ p := Nat.pow_le_pow_left hd p
theorem Pw.spec {b p : Nat} (h : Pw b p) {d : Nat} (hd : d < b) {k : Nat} (hk : 9 < k) : spec_pwOf.f k (d : Int) (p : Int) = some ((d ^ p : Nat) : Int) := by
  have := h.hb2; have := h.hp2
  rw [pwOf_eq (by omega) (by omega) p (by omega) k (by omega), Int.natCast_pow]
theorem Pw.impl {b p : Nat} (h : Pw b p) {d : Nat} (hd : d < b) {k : Nat} (hk : 9 < k) : impl_toPower.f k (d : Int) (p : Int) = some ((d ^ p : Nat) : Int) := by
  have := h.hb2; have := h.hp2
  rw [toPower_eq (by omega) (by omega) p (by omega) k (by omega), Int.natCast_pow]
def Bd (T : List Int) (s : Nat) : Prop := ∀ i, i < s → 0 ≤ tb T i ∧ tb T i ≤ (i : Int)
theorem spec_in {b p : Nat} (h : Pw b p) (sum : Int) (T : List Int) (s : Nat) (hs : s ≤ 2000) (hT : T.length = s) (hB : Bd T s) : ∀ (q d : Nat) (m : Int), d + q = b → 1 ≤ d → ∃ m', m' ≤ m ∧ (∀ e, d ≤ e → e < b → e ^ p ≤ s → m' ≤ 1 + tb T (s - e ^ p)) ∧ (m' = m ∨ ∃ e, d ≤ e ∧ e < b ∧ e ^ p ≤ s ∧ m' = 1 + tb T (s - e ^ p)) ∧
    ∃ c, ∀ k, 20 ≤ k → spec_LeastWithSum.l1 (k + c) sum (b : Int) (p : Int) T (s : Int) m (d : Int) = spec_LeastWithSum.l0 k sum (b : Int) (p : Int) (T ++ [m']) ((s + 1 : Nat) : Int) := by
  have hb2 := h.hb2
  intro q
  induction q with
  | zero =>
    intro d m hd h1
    refine ⟨m, by omega, fun e h2 h3 => by omega, Or.inl rfl, 2, fun k _ => ?_⟩
    rw [spec_LeastWithSum.l1, if_neg (by omega), spec_LeastWithSum.j3, if_neg (by simp), if_pos (by omega), w64s (by omega)]
  | succ q ih =>
    intro d m hd h1
    have hP := h.le (d := d) (by omega)
    have hP1 := h.pos h1
    have hmono : ∀ e, d ≤ e → d ^ p ≤ e ^ p := fun e he => h.mono he
    have hs1 : ∀ k, 9 < k → spec_pwOf.f k (d : Int) (p : Int) = some ((d ^ p : Nat) : Int) := fun k hk => h.spec (by omega) hk
    generalize hPd : d ^ p = P at *
    by_cases hc : P ≤ s
    · have hi : s - P < s := by omega
      have hb0 := hB (s - P) hi
      have hw : wrap64 ((s : Int) - (P : Int)) = ((s - P : Nat) : Int) := by rw [w64 (by omega) (by omega)]; omega
      have hw2 : wrap64 (1 + rd T ((s - P : Nat) : Int)) = 1 + tb T (s - P) := w64 (by unfold tb at hb0; omega) (by unfold tb at hb0; omega)
      have hleast : spec_l1Least.f m (1 + tb T (s - P)) = some (min m (1 + tb T (s - P))) := by
        unfold spec_l1Least.f
        by_cases hlt : m < 1 + tb T (s - P)
        · rw [if_pos hlt, Int.min_eq_left (by omega)]
        · rw [if_neg hlt, Int.min_eq_right (by omega)]
      obtain ⟨m', g1, g2, g3, c, g4⟩ := ih (d + 1) (min m (1 + tb T (s - P))) (by omega) (by omega)
      refine ⟨m', by omega, fun e h2 h3 h4 => ?_, ?_, c + 2, fun k hk => ?_⟩
      · by_cases he : e = d
        · subst he; rw [hPd]; omega
        · exact g2 e (by omega) h3 h4
      · rcases g3 with g3 | ⟨e, e1, e2, e3, e4⟩
        · by_cases hlt : m ≤ 1 + tb T (s - P)
          · left; omega
          · right; exact ⟨d, by omega, by omega, by rw [hPd]; exact hc, by rw [hPd]; omega⟩
        · right; exact ⟨e, by omega, e2, e3, e4⟩
      · have g5 := g4 k hk
        clear g1 g2 g3
        rw [← Nat.add_assoc, spec_LeastWithSum.l1, if_pos (by omega), hs1 _ (by omega)]
        simp only [Option.bind_some]
        rw [decide_eq_true (by omega), spec_LeastWithSum.j3, if_pos rfl, hs1 _ (by omega)]
        simp only [Option.bind_some]
        rw [hw, if_pos (by omega), if_pos (by omega), hw2, hleast]
        simp only [Option.bind_some]
        rw [w64s (by omega)]
        exact g5
    · refine ⟨m, by omega, fun e h2 h3 h4 => ?_, Or.inl rfl, 2, fun k hk => ?_⟩
      · have := hmono e h2; omega
      · rw [spec_LeastWithSum.l1, if_pos (by omega), hs1 _ (by omega)]
        simp only [Option.bind_some]
        rw [decide_eq_false (by omega), spec_LeastWithSum.j3, if_neg (by simp), if_pos (by omega), w64s (by omega)]
theorem impl_in_ {b p : Nat} (h : Pw b p) (sum : Int) (U : List Int) (s : Nat) (hs : s ≤ 2000) (hU : s < U.length) (hU2 : U.length ≤ 2001) (hB : Bd U s) : ∀ (q d : Nat) (m : Int), d + q = b → 1 ≤ d → 0 ≤ m → m ≤ 2000 → ∃ m', 0 ≤ m' ∧ m' ≤ m ∧ (∀ e, d ≤ e → e < b → e ^ p ≤ s → m' ≤ 1 + tb U (s - e ^ p)) ∧ (m' = m ∨ ∃ e, d ≤ e ∧ e < b ∧ e ^ p ≤ s ∧ m' = 1 + tb U (s - e ^ p)) ∧
    ∃ c, ∀ k, 20 ≤ k → impl_LeastWithSum.l1 (k + c) sum (b : Int) (p : Int) (U.set s m) (s : Int) (d : Int) = impl_LeastWithSum.l0 k sum (b : Int) (p : Int) (U.set s m') ((s + 1 : Nat) : Int) := by
  have hb2 := h.hb2
  intro q
  induction q with
  | zero =>
    intro d m hd h1 hm0 hm1
    refine ⟨m, hm0, by omega, fun e h2 h3 => by omega, Or.inl rfl, 1, fun k _ => ?_⟩
    rw [impl_LeastWithSum.l1, if_neg (by omega), w64s (by omega)]
  | succ q ih =>
    intro d m hd h1 hm0 hm1
    have hP := h.le (d := d) (by omega)
    have hP1 := h.pos h1
    have hmono : ∀ e, d ≤ e → d ^ p ≤ e ^ p := fun e he => h.mono he
    have hs1 : ∀ k, 9 < k → impl_toPower.f k (d : Int) (p : Int) = some ((d ^ p : Nat) : Int) := fun k hk => h.impl (by omega) hk
    generalize hPd : d ^ p = P at *
    by_cases hc : P ≤ s
    · have hi : s - P < s := by omega
      have hb0 := hB (s - P) hi
      have hw : wrap64 ((s : Int) - (P : Int)) = ((s - P : Nat) : Int) := by rw [w64 (by omega) (by omega)]; omega
      have hl : (U.set s m).length = U.length := List.length_set
      have r1 : rd (U.set s m) (s : Int) = m := tb_set U m hU
      have r2 : rd (U.set s m) ((s - P : Nat) : Int) = tb U (s - P) := tb_set_ne U m (by omega)
      have hw2 : wrap64 (tb U (s - P) + 1) = 1 + tb U (s - P) := by rw [w64 (by omega) (by omega)]; omega
      have hmn : mn m (1 + tb U (s - P)) = min m (1 + tb U (s - P)) := by
        unfold mn
        split <;> omega
      obtain ⟨m', g0, g1, g2, g3, c, g4⟩ := ih (d + 1) (min m (1 + tb U (s - P))) (by omega) (by omega) (by omega) (by omega)
      refine ⟨m', g0, by omega, fun e h2 h3 h4 => ?_, ?_, c + 1, fun k hk => ?_⟩
      · by_cases he : e = d
        · subst he; rw [hPd]; omega
        · exact g2 e (by omega) h3 h4
      · rcases g3 with g3 | ⟨e, e1, e2, e3, e4⟩
        · by_cases hlt : m ≤ 1 + tb U (s - P)
          · left; omega
          · right; exact ⟨d, by omega, by omega, by rw [hPd]; exact hc, by rw [hPd]; omega⟩
        · right; exact ⟨e, by omega, e2, e3, e4⟩
      · have g5 := g4 k hk
        clear g1 g2 g3
        rw [← Nat.add_assoc, impl_LeastWithSum.l1, if_pos (by omega), hs1 _ (by omega)]
        simp only [Option.bind_some]
        rw [if_pos (by omega), if_pos (by omega), if_pos (by omega)]
        rw [hw, if_pos (by omega), if_pos (by omega), r1, r2, hw2, hmn, Int.toNat_natCast, List.set_set, w64s (by omega)]
        exact g5
    · refine ⟨m, hm0, by omega, fun e h2 h3 h4 => ?_, Or.inl rfl, 1, fun k hk => ?_⟩
      · have := hmono e h2; omega
      · rw [impl_LeastWithSum.l1, if_pos (by omega), hs1 _ (by omega)]
        simp only [Option.bind_some]
        rw [if_neg (by omega), w64s (by omega)]
structure Few (b p : Nat) (T : List Int) (s : Nat) : Prop where
  zero : 1 ≤ s → tb T 0 = 0
  least : ∀ i, 1 ≤ i → i < s → ∀ e, 1 ≤ e → e < b → e ^ p ≤ i → tb T i ≤ 1 + tb T (i - e ^ p)
  some : ∀ i, 1 ≤ i → i < s → ∃ e, 1 ≤ e ∧ e < b ∧ e ^ p ≤ i ∧ tb T i = 1 + tb T (i - e ^ p)
theorem Few.same {b p : Nat} {T U : List Int} {s : Nat} (hT : Few b p T s) (hU : Few b p U s) : ∀ i, i < s → tb T i = tb U i := by
  intro i
  induction i using Nat.strongRecOn with
  | ind i ih =>
    intro hi
    rcases Nat.eq_zero_or_pos i with rfl | hpos
    · rw [hT.zero (by omega), hU.zero (by omega)]
    · obtain ⟨e, e1, e2, e3, e4⟩ := hT.some i hpos hi
      obtain ⟨f, f1, f2, f3, f4⟩ := hU.some i hpos hi
      have l1 := hT.least i hpos hi f f1 f2 f3
      have l2 := hU.least i hpos hi e e1 e2 e3
      have p1 : 1 ≤ e ^ p := Nat.pow_pos e1
      have p2 : 1 ≤ f ^ p := Nat.pow_pos f1
      have i1 := ih (i - e ^ p) (by omega) (by omega)
      have i2 := ih (i - f ^ p) (by omega) (by omega)
      omega
theorem Few.bd {b p : Nat} (hb : 2 ≤ b) {T : List Int} {s : Nat} (hT : Few b p T s) : Bd T s := by
  intro i
  induction i using Nat.strongRecOn with
  | ind i ih =>
    intro hi
    rcases Nat.eq_zero_or_pos i with rfl | hpos
    · rw [hT.zero (by omega)]; simp
    · obtain ⟨e, e1, e2, e3, e4⟩ := hT.some i hpos hi
      have p1 : 1 ≤ e ^ p := Nat.pow_pos e1
      have := ih (i - e ^ p) (by omega) (by omega)
      omega
theorem spec_table {b p : Nat} (h : Pw b p) (n : Nat) (hn : n ≤ 2000) : ∀ (q s : Nat) (T : List Int), s + q = n + 1 → 1 ≤ s → T.length = s → Few b p T s → ∃ T' : List Int, T'.length = n + 1 ∧ Few b p T' (n + 1) ∧
    ∃ c, ∀ k, 20 ≤ k → spec_LeastWithSum.l0 (k + c) (n : Int) (b : Int) (p : Int) T (s : Int) = (if (tb T' n) > 40 then (some (0, false)) else (spec_LeastWithSum.l2 k (n : Int) (b : Int) (p : Int) T' 0)) := by
  intro q
  induction q with
  | zero =>
    intro s T hs h1 hl hF
    have : s = n + 1 := by omega
    subst this
    refine ⟨T, hl, hF, 1, fun k hk => ?_⟩
    rw [spec_LeastWithSum.l0, if_neg (by omega), if_pos (by omega), if_pos (by omega)]; rfl
  | succ q ih =>
    intro s T hs h1 hl hF
    obtain ⟨m', g1, g2, g3, c, g4⟩ := spec_in h (n : Int) T s (by omega) hl (hF.bd h.hb) (b - 1) 1 1000000 (by have := h.hb; omega) (by omega)
    have hF' : Few b p (T ++ [m']) (s + 1) := by
      have e0 : ∀ i, i < s → tb (T ++ [m']) i = tb T i := fun i hi => tb_snoc_lt T m' (by omega)
      have es : tb (T ++ [m']) s = m' := by rw [← hl]; exact tb_snoc T m'
      refine ⟨fun _ => by rw [e0 0 (by omega)]; exact hF.zero (by omega), fun i hi1 hi e e1 e2 e3 => ?_, fun i hi1 hi => ?_⟩
      · have p1 : 1 ≤ e ^ p := Nat.pow_pos e1
        by_cases his : i = s
        · subst his; rw [es, e0 _ (by omega)]; exact g2 e e1 e2 e3
        · rw [e0 i (by omega), e0 _ (by omega)]; exact hF.least i hi1 (by omega) e e1 e2 e3
      · by_cases his : i = s
        · subst his
          rcases g3 with g3 | ⟨e, e1, e2, e3, e4⟩
          · have h0 := g2 1 (by omega) (by have := h.hb; omega) (by simp; omega)
            have h2 := hF.bd h.hb (i - 1) (by omega)
            rw [Nat.one_pow] at h0
            omega
          · have p1 : 1 ≤ e ^ p := Nat.pow_pos e1
            exact ⟨e, e1, e2, e3, by rw [es, e0 _ (by omega)]; exact e4⟩
        · obtain ⟨e, e1, e2, e3, e4⟩ := hF.some i hi1 (by omega)
          have p1 : 1 ≤ e ^ p := Nat.pow_pos e1
          exact ⟨e, e1, e2, e3, by rw [e0 i (by omega), e0 _ (by omega)]; exact e4⟩
    obtain ⟨T', t1, t2, c2, t3⟩ := ih (s + 1) (T ++ [m']) (by omega) (by omega) (by simp; omega) hF'
    refine ⟨T', t1, t2, c2 + c + 1, fun k hk => ?_⟩
    have := g4 (k + c2) (by omega)
    have := t3 k hk
    rw [← Nat.add_assoc, ← Nat.add_assoc, spec_LeastWithSum.l0, if_pos (by omega)]
    rename_i a1
    rw [Int.natCast_one] at a1
    rw [a1, this]
structure Few2 (b p : Nat) (T : List Int) (s : Nat) : Prop where
  zero : tb T 0 = 0
  ones : ∀ i, i < s → tb T i ≤ (i : Int)
  least : ∀ i, 1 ≤ i → i < s → ∀ e, 2 ≤ e → e < b → e ^ p ≤ i → tb T i ≤ 1 + tb T (i - e ^ p)
  some : ∀ i, 1 ≤ i → i < s → tb T i = (i : Int) ∨ ∃ e, 2 ≤ e ∧ e < b ∧ e ^ p ≤ i ∧ tb T i = 1 + tb T (i - e ^ p)
theorem Few2.bd {b p : Nat} {T : List Int} {s : Nat} (hT : Few2 b p T s) : Bd T s := by
  intro i
  induction i using Nat.strongRecOn with
  | ind i ih =>
    intro hi
    rcases Nat.eq_zero_or_pos i with rfl | hpos
    · rw [hT.zero]; simp
    · have ho := hT.ones i hi
      rcases hT.some i hpos hi with h | ⟨e, e1, e2, e3, e4⟩
      · omega
      · have p1 : 1 ≤ e ^ p := Nat.pow_pos (by omega)
        have := ih (i - e ^ p) (by omega) (by omega)
        omega
theorem Few2.step {b p : Nat} {T : List Int} {s : Nat} (hT : Few2 b p T s) : ∀ i, 1 ≤ i → i < s → tb T i ≤ 1 + tb T (i - 1) := by
  intro i
  induction i using Nat.strongRecOn with
  | ind i ih =>
    intro hpos hi
    have ho := hT.ones i hi
    by_cases h1 : i = 1
    · subst h1
      have : tb T (1 - 1) = 0 := hT.zero
      omega
    · rcases hT.some (i - 1) (by omega) (by omega) with h | ⟨e, e1, e2, e3, e4⟩
      · omega
      · have p1 : 1 ≤ e ^ p := Nat.pow_pos (by omega)
        have l1 := hT.least i hpos hi e e1 e2 (by omega)
        have l2 := ih (i - e ^ p) (by omega) (by omega) (by omega)
        have e5 : i - e ^ p - 1 = i - 1 - e ^ p := by omega
        rw [e5] at l2
        omega
theorem Few2.few {b p : Nat} (hb : 2 ≤ b) {T : List Int} {s : Nat} (hT : Few2 b p T s) : Few b p T s := by
  refine ⟨fun _ => hT.zero, fun i h1 hi e e1 e2 e3 => ?_, fun i h1 hi => ?_⟩
  · by_cases he : e = 1
    · subst he; rw [Nat.one_pow]; exact hT.step i h1 hi
    · exact hT.least i h1 hi e (by omega) e2 e3
  · rcases hT.some i h1 hi with h | ⟨e, e1, e2, e3, e4⟩
    · have l1 := hT.step i h1 hi
      have l2 := hT.ones (i - 1) (by omega)
      exact ⟨1, by omega, by omega, by simp; omega, by rw [Nat.one_pow]; omega⟩
    · exact ⟨e, by omega, e2, e3, e4⟩
theorem impl_table {b p : Nat} (h : Pw b p) (n : Nat) (hn : n ≤ 2000) : ∀ (q s : Nat) (T : List Int), s + q = n + 1 → 1 ≤ s → T.length = n + 1 → Few2 b p T s → ∃ T' : List Int, T'.length = n + 1 ∧ Few2 b p T' (n + 1) ∧
    ∃ c, ∀ k, 20 ≤ k → impl_LeastWithSum.l0 (k + c) (n : Int) (b : Int) (p : Int) T (s : Int) = impl_LeastWithSum.l2 k (b : Int) (p : Int) T' [] (n : Int) := by
  intro q
  induction q with
  | zero =>
    intro s T hs h1 hl hF
    have : s = n + 1 := by omega
    subst this
    refine ⟨T, hl, hF, 1, fun k hk => ?_⟩
    rw [impl_LeastWithSum.l0, if_neg (by omega)]
  | succ q ih =>
    intro s T hs h1 hl hF
    obtain ⟨m', g0, g1, g2, g3, c, g4⟩ := impl_in_ h (n : Int) T s (by omega) (by omega) (by omega) hF.bd (b - 2) 2 (s : Int) (by have := h.hb; omega) (by omega) (by omega) (by omega)
    have hF' : Few2 b p (T.set s m') (s + 1) := by
      have e0 : ∀ i, i < s → tb (T.set s m') i = tb T i := fun i hi => tb_set_ne T m' (by omega)
      have es : tb (T.set s m') s = m' := tb_set T m' (by omega)
      refine ⟨by rw [e0 0 (by omega)]; exact hF.zero, fun i hi => ?_, fun i hi1 hi e e1 e2 e3 => ?_, fun i hi1 hi => ?_⟩
      · by_cases his : i = s
        · subst his; rw [es]; exact g1
        · rw [e0 i (by omega)]; exact hF.ones i (by omega)
      · have p1 : 1 ≤ e ^ p := Nat.pow_pos (by omega)
        by_cases his : i = s
        · subst his; rw [es, e0 _ (by omega)]; exact g2 e e1 e2 e3
        · rw [e0 i (by omega), e0 _ (by omega)]; exact hF.least i hi1 (by omega) e e1 e2 e3
      · by_cases his : i = s
        · subst his
          rcases g3 with g3 | ⟨e, e1, e2, e3, e4⟩
          · left; rw [es]; exact g3
          · right
            have p1 : 1 ≤ e ^ p := Nat.pow_pos (by omega)
            exact ⟨e, e1, e2, e3, by rw [es, e0 _ (by omega)]; exact e4⟩
        · rcases hF.some i hi1 (by omega) with h | ⟨e, e1, e2, e3, e4⟩
          · left; rw [e0 i (by omega)]; exact h
          · right
            have p1 : 1 ≤ e ^ p := Nat.pow_pos (by omega)
            exact ⟨e, e1, e2, e3, by rw [e0 i (by omega), e0 _ (by omega)]; exact e4⟩
    obtain ⟨T', t1, t2, c2, t3⟩ := ih (s + 1) (T.set s m') (by omega) (by omega) (by simpa using hl) hF'
    refine ⟨T', t1, t2, c2 + c + 1, fun k hk => ?_⟩
    have a1 := g4 (k + c2) (by omega)
    have a2 := t3 k hk
    rw [← Nat.add_assoc, ← Nat.add_assoc, impl_LeastWithSum.l0, if_pos (by omega), if_pos (by omega), if_pos (by omega), Int.toNat_natCast]
    exact a1.trans a2
theorem find {b p : Nat} (h : Pw b p) (T : List Int) (n l : Nat) (hn : n ≤ 2000) (hT : T.length = n + 1) (hF : Few b p T (n + 1)) (hl : l ≤ n) (hl1 : 1 ≤ l) (e : Nat) (he : e < b) (hel : e ^ p ≤ l) (heq : tb T l = 1 + tb T (l - e ^ p)) : ∀ (q d : Nat), d + q = e → 1 ≤ d →
    ∃ d', 1 ≤ d' ∧ d' < b ∧ d' ^ p ≤ l ∧ tb T l = 1 + tb T (l - d' ^ p) ∧
      (∀ v : Int, 0 ≤ v → v ≤ 1000000000000 → ∃ c, ∀ k, 20 ≤ k → spec_LeastWithSum.l3 (k + c) (l : Int) (b : Int) (p : Int) T v (d : Int) = (if v * (b : Int) + (d' : Int) > 1000000000000 then (some (0, false)) else spec_LeastWithSum.l2 k ((l - d' ^ p : Nat) : Int) (b : Int) (p : Int) T (v * (b : Int) + (d' : Int)))) ∧
      (∀ ds : List Int, ds.length ≤ 2000 → ∃ c, ∀ k, 20 ≤ k → impl_LeastWithSum.l3 (k + c) (b : Int) (p : Int) T ds (l : Int) (d : Int) = impl_LeastWithSum.l2 k (b : Int) (p : Int) T (ds ++ [(d' : Int)]) ((l - d' ^ p : Nat) : Int)) := by
  have hb2 := h.hb2
  have hBd := hF.bd h.hb
  intro q
  induction q with
  | zero =>
    intro d hd h1
    have hde : d = e := by omega
    subst hde
    have hP := h.le he
    have p1 := h.pos h1
    have hs1 : ∀ k, 9 < k → spec_pwOf.f k (d : Int) (p : Int) = some ((d ^ p : Nat) : Int) := fun k hk => h.spec he hk
    have hs2 : ∀ k, 9 < k → impl_toPower.f k (d : Int) (p : Int) = some ((d ^ p : Nat) : Int) := fun k hk => h.impl he hk
    have b1 := hBd l (by omega)
    refine ⟨d, h1, he, hel, heq, ?_⟩
    generalize hPd : d ^ p = P at *
    have b2 := hBd (l - P) (by omega)
    have hw : wrap64 ((l : Int) - (P : Int)) = ((l - P : Nat) : Int) := by rw [w64 (by omega) (by omega)]; omega
    have r1 : rd T ((l - P : Nat) : Int) = tb T (l - P) := rfl
    have r2 : rd T (l : Int) = tb T l := rfl
    refine ⟨fun v hv hv2 => ⟨1, fun k hk => ?_⟩, fun ds hds => ⟨1, fun k hk => ?_⟩⟩
    · have m1 : 0 ≤ v * (b : Int) ∧ v * (b : Int) ≤ 1000000000000 * 16 := ⟨Int.mul_nonneg hv (by omega), Int.mul_le_mul hv2 (by omega) (by omega) (by omega)⟩
      rw [spec_LeastWithSum.l3, hs1 _ (by omega)]
      simp only [Option.bind_some]
      rw [hw, if_pos (by omega), if_pos (by omega), if_pos (by omega), if_pos (by omega), r1, r2, w64 (n := tb T l - 1) (by omega) (by omega), if_pos (by omega)]
      generalize v * (b : Int) = vb at *
      rw [w64 (n := vb) (by omega) (by omega), w64 (by omega) (by omega)]
    · rw [impl_LeastWithSum.l3, hs2 _ (by omega)]
      simp only [Option.bind_some]
      rw [if_neg (by omega)]
      rw [hw, if_pos (by omega), if_pos (by omega), if_pos (by omega), if_pos (by omega), r1, r2, w64 (n := tb T l - 1) (by omega) (by omega), if_pos (by omega), if_pos (by omega)]
  | succ q ih =>
    intro d hd h1
    have hdb : d < b := by omega
    have hP := h.le hdb
    have p1 := h.pos h1
    have hde := h.mono (d := d) (e := e) (by omega)
    by_cases hg : tb T (l - d ^ p) = tb T l - 1
    · -- d itself
      have hs1 : ∀ k, 9 < k → spec_pwOf.f k (d : Int) (p : Int) = some ((d ^ p : Nat) : Int) := fun k hk => h.spec hdb hk
      have hs2 : ∀ k, 9 < k → impl_toPower.f k (d : Int) (p : Int) = some ((d ^ p : Nat) : Int) := fun k hk => h.impl hdb hk
      have b1 := hBd l (by omega)
      refine ⟨d, h1, hdb, by omega, by omega, ?_⟩
      generalize hPd : d ^ p = P at *
      have b2 := hBd (l - P) (by omega)
      have hw : wrap64 ((l : Int) - (P : Int)) = ((l - P : Nat) : Int) := by rw [w64 (by omega) (by omega)]; omega
      have r1 : rd T ((l - P : Nat) : Int) = tb T (l - P) := rfl
      have r2 : rd T (l : Int) = tb T l := rfl
      refine ⟨fun v hv hv2 => ⟨1, fun k hk => ?_⟩, fun ds hds => ⟨1, fun k hk => ?_⟩⟩
      · have m1 : 0 ≤ v * (b : Int) ∧ v * (b : Int) ≤ 1000000000000 * 16 := ⟨Int.mul_nonneg hv (by omega), Int.mul_le_mul hv2 (by omega) (by omega) (by omega)⟩
        rw [spec_LeastWithSum.l3, hs1 _ (by omega)]
        simp only [Option.bind_some]
        rw [hw, if_pos (by omega), if_pos (by omega), if_pos (by omega), if_pos (by omega), r1, r2, w64 (n := tb T l - 1) (by omega) (by omega), if_pos (by omega)]
        generalize v * (b : Int) = vb at *
        rw [w64 (n := vb) (by omega) (by omega), w64 (by omega) (by omega)]
      · rw [impl_LeastWithSum.l3, hs2 _ (by omega)]
        simp only [Option.bind_some]
        rw [if_neg (by omega)]
        rw [hw, if_pos (by omega), if_pos (by omega), if_pos (by omega), if_pos (by omega), r1, r2, w64 (n := tb T l - 1) (by omega) (by omega), if_pos (by omega), if_pos (by omega)]
    · obtain ⟨d', d1, d2, d3, d4, d5, d6⟩ := ih (d + 1) (by omega) (by omega)
      have hs1 : ∀ k, 9 < k → spec_pwOf.f k (d : Int) (p : Int) = some ((d ^ p : Nat) : Int) := fun k hk => h.spec hdb hk
      have hs2 : ∀ k, 9 < k → impl_toPower.f k (d : Int) (p : Int) = some ((d ^ p : Nat) : Int) := fun k hk => h.impl hdb hk
      have b1 := hBd l (by omega)
      refine ⟨d', d1, d2, d3, d4, fun v hv hv2 => ?_, fun ds hds => ?_⟩
      · obtain ⟨c, h5⟩ := d5 v hv hv2
        refine ⟨c + 1, fun k hk => ?_⟩
        have h6 := h5 k hk
        clear d5 d6 h5
        generalize hPd : d ^ p = P at *
        have b2 := hBd (l - P) (by omega)
        have hw : wrap64 ((l : Int) - (P : Int)) = ((l - P : Nat) : Int) := by rw [w64 (by omega) (by omega)]; omega
        have r1 : rd T ((l - P : Nat) : Int) = tb T (l - P) := rfl
        have r2 : rd T (l : Int) = tb T l := rfl
        rw [← Nat.add_assoc, spec_LeastWithSum.l3, hs1 _ (by omega)]
        simp only [Option.bind_some]
        rw [hw, if_pos (by omega), if_pos (by omega), if_pos (by omega), if_pos (by omega), r1, r2, w64 (n := tb T l - 1) (by omega) (by omega), if_neg (by omega), w64s (by omega)]
        exact h6
      · obtain ⟨c, h5⟩ := d6 ds hds
        refine ⟨c + 1, fun k hk => ?_⟩
        have h6 := h5 k hk
        clear d5 d6 h5
        generalize hPd : d ^ p = P at *
        have b2 := hBd (l - P) (by omega)
        have hw : wrap64 ((l : Int) - (P : Int)) = ((l - P : Nat) : Int) := by rw [w64 (by omega) (by omega)]; omega
        have r1 : rd T ((l - P : Nat) : Int) = tb T (l - P) := rfl
        have r2 : rd T (l : Int) = tb T l := rfl
        rw [← Nat.add_assoc, impl_LeastWithSum.l3, hs2 _ (by omega)]
        simp only [Option.bind_some]
        rw [if_neg (by omega)]
        rw [hw, if_pos (by omega), if_pos (by omega), if_pos (by omega), if_pos (by omega), r1, r2, w64 (n := tb T l - 1) (by omega) (by omega), if_neg (by omega), w64s (by omega)]
        exact h6
theorem valL_append (b : Int) : ∀ (l m : List Int) (s : Int), valL b (l ++ m) s = (valL b l s).bind (valL b m)
  | [], m, s => rfl
  | d :: l, m, s => by
    rw [List.cons_append, valL, valL]
    by_cases hc : wrap64 (wrap64 (s * b) + d) > 1000000000000
    · rw [if_pos hc, if_pos hc]; rfl
    · rw [if_neg hc, if_neg hc, valL_append b l m]
theorem valL_long {b : Int} (hb : 2 ≤ b) (hb2 : b ≤ 16) : ∀ (l : List Int) (s v : Int), (∀ x ∈ l, 1 ≤ x ∧ x < b) → 0 ≤ s → s ≤ 1000000000000 → valL b l s = some v → (s + 1) * 2 ^ l.length ≤ v + 1
  | [], s, v, _, h0, _, h => by
    rw [valL] at h; cases h; simp
  | d :: l, s, v, hd, h0, h1, h => by
    have hx := hd d (by simp)
    have m1 : 2 * s ≤ s * b ∧ s * b ≤ 1000000000000 * 16 := ⟨by rw [Int.mul_comm]; exact Int.mul_le_mul_of_nonneg_left hb h0, Int.mul_le_mul h1 hb2 (by omega) (by omega)⟩
    rw [valL] at h
    generalize s * b = sb at *
    rw [w64 (n := sb) (by omega) (by omega), w64 (by omega) (by omega)] at h
    by_cases hc : sb + d > 1000000000000
    · rw [if_pos hc] at h; cases h
    · rw [if_neg hc] at h
      have ih := valL_long hb hb2 l (sb + d) v (fun x hx => hd x (by simp [hx])) (by omega) (by omega) h
      refine Int.le_trans ?_ ih
      rw [List.length_cons, Int.pow_succ, Int.mul_comm (2 ^ l.length) 2, ← Int.mul_assoc]
      exact Int.mul_le_mul_of_nonneg_right (by omega) (Int.pow_nonneg (by omega))
def toldL (b : Int) (l : List Int) : Int × Bool := match valL b l 0 with | some v => (v, true) | none => (0, false)
theorem implAll {b p : Nat} (h : Pw b p) (T : List Int) (n : Nat) (hn : n ≤ 2000) (hT : T.length = n + 1) (hF : Few b p T (n + 1)) : ∀ (l : Nat), l ≤ n → ∀ (ds : List Int), ds.length ≤ 41 →
    ∃ es : List Int, (∃ c, ∀ k, 100 ≤ k → impl_LeastWithSum.l2 (k + c) (b : Int) (p : Int) T ds (l : Int) = some (toldL (b : Int) (ds ++ es))) ∧ (∀ x ∈ es, 1 ≤ x ∧ x < (b : Int)) ∧ (41 ≤ (ds.length : Int) + tb T l → 41 ≤ (ds ++ es).length) := by
  have hBd := hF.bd h.hb
  intro l
  induction l using Nat.strongRecOn with
  | ind l ih =>
    intro hl ds hds
    have b1 := hBd l (by omega)
    have hend : (l = 0 ∨ ds.length = 41) → ∃ c, ∀ k, 100 ≤ k → impl_LeastWithSum.l2 (k + c) (b : Int) (p : Int) T ds (l : Int) = some (toldL (b : Int) ds) := by
      intro hcase
      have hj : ∀ k, 100 ≤ k → impl_LeastWithSum.j4 (k + 1) (b : Int) (p : Int) T ds (l : Int) false = some (toldL (b : Int) ds) := fun k hk => by
        rw [impl_LeastWithSum.j4, if_neg (by simp), value_eq (b : Int) ds (by omega) (by omega)]
        simp only [Option.bind_some]
        rw [told_eq]; rfl
      refine ⟨2, fun k hk => ?_⟩
      rw [impl_LeastWithSum.l2]
      rcases hcase with h0 | h0
      · rw [if_neg (by omega)]; exact hj k hk
      · by_cases hl0 : (l : Int) > 0
        · rw [if_pos hl0, decide_eq_false (by omega)]; exact hj k hk
        · rw [if_neg hl0]; exact hj k hk
    by_cases hcase : l = 0 ∨ ds.length = 41
    · refine ⟨[], by rw [List.append_nil]; exact hend hcase, by simp, fun h41 => ?_⟩
      rw [List.append_nil]
      rcases hcase with h0 | h0
      · subst h0; omega
      · omega
    · obtain ⟨e, e1, e2, e3, e4⟩ := hF.some l (by omega) (by omega)
      obtain ⟨d, d1, d2, d3, d4, _, d6⟩ := find h T n l hn hT hF hl (by omega) e e2 e3 e4 (e - 1) 1 (by omega) (by omega)
      have p1 := h.pos d1
      obtain ⟨c1, h6⟩ := d6 ds (by omega)
      obtain ⟨es, ⟨c2, g1⟩, g2, g3⟩ := ih (l - d ^ p) (by omega) (by omega) (ds ++ [(d : Int)]) (by simp; omega)
      refine ⟨(d : Int) :: es, ⟨c2 + c1 + 2, fun k hk => ?_⟩, fun x hx => ?_, fun h41 => ?_⟩
      · have a1 := h6 (k + c2) (by omega)
        have a2 := g1 k hk
        rw [List.append_assoc, List.singleton_append] at a2
        rw [show k + (c2 + c1 + 2) = (k + c2 + c1) + 1 + 1 by omega, impl_LeastWithSum.l2, if_pos (by omega), decide_eq_true (by omega), impl_LeastWithSum.j4, if_pos rfl]
        exact a1.trans a2
      · rcases List.mem_cons.1 hx with rfl | hx
        · omega
        · exact g2 x hx
      · have := g3 (by simp; omega)
        rw [List.append_assoc, List.singleton_append] at this
        exact this
theorem both {b p : Nat} (h : Pw b p) (T : List Int) (n : Nat) (hn : n ≤ 2000) (hT : T.length = n + 1) (hF : Few b p T (n + 1)) : ∀ (l : Nat), l ≤ n → ∀ (ds : List Int) (v : Int), (ds.length : Int) + tb T l ≤ 40 → valL (b : Int) ds 0 = some v → 0 ≤ v → v ≤ 1000000000000 →
    ∃ r, (∃ c, ∀ k, 100 ≤ k → impl_LeastWithSum.l2 (k + c) (b : Int) (p : Int) T ds (l : Int) = some r) ∧ (∃ c, ∀ k, 100 ≤ k → spec_LeastWithSum.l2 (k + c) (l : Int) (b : Int) (p : Int) T v = some r) := by
  have hBd := hF.bd h.hb
  have hb2 := h.hb2
  intro l
  induction l using Nat.strongRecOn with
  | ind l ih =>
    intro hl ds v hds hv hv0 hv1
    have b1 := hBd l (by omega)
    by_cases hl0 : l = 0
    · subst hl0
      refine ⟨(v, true), ⟨2, fun k hk => ?_⟩, ⟨1, fun k hk => ?_⟩⟩
      · rw [impl_LeastWithSum.l2, if_neg (by omega), impl_LeastWithSum.j4, if_neg (by simp), value_eq (b : Int) ds (by omega) (by omega)]
        simp only [Option.bind_some]
        rw [told_eq, hv]; rfl
      · rw [spec_LeastWithSum.l2, if_neg (by omega)]
    · obtain ⟨e, e1, e2, e3, e4⟩ := hF.some l (by omega) (by omega)
      obtain ⟨d, d1, d2, d3, d4, d5, d6⟩ := find h T n l hn hT hF hl (by omega) e e2 e3 e4 (e - 1) 1 (by omega) (by omega)
      have p1 := h.pos d1
      have b2 := hBd (l - d ^ p) (by omega)
      obtain ⟨c1, h6⟩ := d6 ds (by omega)
      obtain ⟨c3, h5⟩ := d5 v hv0 hv1
      have m1 : 0 ≤ v * (b : Int) ∧ v * (b : Int) ≤ 1000000000000 * 16 := ⟨Int.mul_nonneg hv0 (by omega), Int.mul_le_mul hv1 (by omega) (by omega) (by omega)⟩
      have hval : valL (b : Int) (ds ++ [(d : Int)]) 0 = (if v * (b : Int) + (d : Int) > 1000000000000 then none else some (v * (b : Int) + (d : Int))) := by
        rw [valL_append, hv]
        show valL (b : Int) [(d : Int)] v = _
        rw [valL]
        generalize v * (b : Int) = vb at *
        rw [w64 (n := vb) (by omega) (by omega), w64 (by omega) (by omega)]; rfl
      have a0 : ∀ k, 100 ≤ k → ∀ q, impl_LeastWithSum.l2 (k + q + c1 + 2) (b : Int) (p : Int) T ds (l : Int) = impl_LeastWithSum.l2 (k + q) (b : Int) (p : Int) T (ds ++ [(d : Int)]) ((l - d ^ p : Nat) : Int) := fun k hk q => by
        rw [show k + q + c1 + 2 = (k + q + c1) + 1 + 1 by omega, impl_LeastWithSum.l2, if_pos (by omega), decide_eq_true (by omega), impl_LeastWithSum.j4, if_pos rfl]
        exact h6 (k + q) (by omega)
      by_cases hc : v * (b : Int) + (d : Int) > 1000000000000
      · rw [if_pos hc] at hval
        obtain ⟨es, ⟨c2, g1⟩, g2, g3⟩ := implAll h T n hn hT hF (l - d ^ p) (by omega) (ds ++ [(d : Int)]) (by simp; omega)
        refine ⟨(0, false), ⟨c2 + c1 + 2, fun k hk => ?_⟩, ⟨c3 + 1, fun k hk => ?_⟩⟩
        · have := a0 k hk c2
          rw [show k + (c2 + c1 + 2) = k + c2 + c1 + 2 by omega, this, g1 k hk]
          unfold toldL
          rw [valL_append, hval]; rfl
        · rw [← Nat.add_assoc, spec_LeastWithSum.l2, if_pos (by omega)]
          have := h5 k (by omega)
          rw [if_pos hc] at this
          exact this
      · rw [if_neg hc] at hval
        obtain ⟨r, ⟨c2, g1⟩, ⟨c4, g2⟩⟩ := ih (l - d ^ p) (by omega) (by omega) (ds ++ [(d : Int)]) _ (by simp; omega) hval (by omega) (by omega)
        refine ⟨r, ⟨c2 + c1 + 2, fun k hk => ?_⟩, ⟨c4 + c3 + 1, fun k hk => ?_⟩⟩
        · have := a0 k hk c2
          rw [show k + (c2 + c1 + 2) = k + c2 + c1 + 2 by omega, this, g1 k hk]
        · rw [← Nat.add_assoc, ← Nat.add_assoc, spec_LeastWithSum.l2, if_pos (by omega)]
          have := h5 (k + c4) (by omega)
          rw [if_neg hc] at this
          exact this.trans (g2 k hk)
theorem two41 : 2 ^ 41 = 2199023255552 := rfl
theorem long_none {b : Int} (hb : 2 ≤ b) (hb2 : b ≤ 16) (es : List Int) (g2 : ∀ x ∈ es, 1 ≤ x ∧ x < b) (hlen : 41 ≤ es.length) : valL b es 0 = none := by
  cases hv : valL b es 0 with
  | none => rfl
  | some v =>
    have l1 := valL_long hb hb2 es 0 v g2 (by omega) (by omega) hv
    have l2 := valL_le hv (by omega)
    have l3 : 2 ^ 41 ≤ 2 ^ es.length := Nat.pow_le_pow_right (by omega) hlen
    have l5 : ((2 ^ es.length : Nat) : Int) = (2 : Int) ^ es.length := Int.natCast_pow 2 _
    rw [two41] at l3
    rw [← l5] at l1
    clear l5
    generalize 2 ^ es.length = Z at *
    rw [Int.zero_add, Int.one_mul] at l1
    omega
theorem lws_s0 {n c q : Nat} (hn : n ≤ 2000) (hb : 2 ≤ c ∧ c ≤ 16) (hp : 1 ≤ q ∧ q ≤ 8) (k : Nat) : spec_LeastWithSum.f (k + 1) (n : Int) (c : Int) (q : Int) = spec_LeastWithSum.l0 k (n : Int) (c : Int) (q : Int) [0] 1 := by
  have h1 : decide (0 ≤ (n : Int) ∧ (n : Int) ≤ 2000) = true := decide_eq_true (by omega)
  have h2 : decide (2 ≤ (c : Int) ∧ (c : Int) ≤ 16) = true := decide_eq_true (by omega)
  have h3 : decide (1 ≤ (q : Int) ∧ (q : Int) ≤ 8) = true := decide_eq_true (by omega)
  unfold spec_LeastWithSum.f
  rw [l1In_eq, h1, Option.bind_some, if_pos rfl, dgBase_eq, h2, Option.bind_some, if_pos rfl, pwPower_eq, h3, Option.bind_some, spec_LeastWithSum.j0, if_neg (by simp)]
theorem lws_i0 {n c q : Nat} (hn : n ≤ 2000) (hb : 2 ≤ c ∧ c ≤ 16) (hp : 1 ≤ q ∧ q ≤ 8) (k : Nat) : impl_LeastWithSum.f (k + 1) (n : Int) (c : Int) (q : Int) = impl_LeastWithSum.l0 k (n : Int) (c : Int) (q : Int) (List.replicate (n + 1) 0) 1 := by
  have h1 : decide (0 ≤ (n : Int) ∧ (n : Int) ≤ 2000) = true := decide_eq_true (by omega)
  have h2 : decide (2 ≤ (c : Int) ∧ (c : Int) ≤ 16) = true := decide_eq_true (by omega)
  have h3 : decide (1 ≤ (q : Int) ∧ (q : Int) ≤ 8) = true := decide_eq_true (by omega)
  have hw : wrap64 ((n : Int) + 1) = ((n + 1 : Nat) : Int) := w64s (by omega)
  have a1 : (0 : Int) ≤ ((n + 1 : Nat) : Int) := by omega
  have a2 : n + 1 ≤ 35184372088832 := by omega
  unfold impl_LeastWithSum.f
  rw [in_eq, h1, Option.bind_some, if_pos rfl, isBase_eq, h2, Option.bind_some, if_pos rfl, isPower_eq, h3, Option.bind_some, impl_LeastWithSum.j0, if_neg (by simp), hw, if_pos a1, Int.toNat_natCast, if_pos a2]
theorem lws_go {n c q : Nat} (hn : n ≤ 2000) (hb : 2 ≤ c ∧ c ≤ 16) (hp : 1 ≤ q ∧ q ≤ 8) : ∃ (K : Nat) (v : Int × Bool), ∀ k, K ≤ k → spec_LeastWithSum.l0 k (n : Int) (c : Int) (q : Int) [0] 1 = some v ∧ impl_LeastWithSum.l0 k (n : Int) (c : Int) (q : Int) (List.replicate (n + 1) 0) 1 = some v := by
  have h : Pw c q := ⟨by omega, by omega, by omega, by omega⟩
  obtain ⟨T, t1, t2, c1, t3⟩ := spec_table h n (by omega) n 1 [0] (by omega) (by omega) (List.length_singleton) ⟨fun _ => rfl, fun i h1 h2 => by omega, fun i h1 h2 => by omega⟩
  have hz : ∀ i, tb (List.replicate (n + 1) (0 : Int)) i = 0 := fun i => by
    unfold tb; rw [rd_getD, List.getD_eq_getElem?_getD, List.getElem?_replicate]; split <;> rfl
  obtain ⟨U, u1, u2, c2, u3⟩ := impl_table h n (by omega) n 1 (List.replicate (n + 1) 0) (by omega) (by omega) (List.length_replicate) ⟨hz 0, fun i hi => by rw [hz]; omega, fun i h1 h2 => by omega, fun i h1 h2 => by omega⟩
  have hTU : T = U := tb_ext (by omega) (fun i hi => t2.same (u2.few h.hb) i (by omega))
  subst hTU
  by_cases h40 : tb T n > 40
  · obtain ⟨es, ⟨c3, g1⟩, g2, g3⟩ := implAll h T n (by omega) t1 t2 n (by omega) [] (by simp)
    have hlen := g3 (by simp; omega)
    rw [List.nil_append] at hlen g1
    refine ⟨200 + c1 + c2 + c3, (0, false), fun k hk => ⟨?_, ?_⟩⟩
    · have a1 := t3 (k - c1) (by omega)
      rw [show k - c1 + c1 = k by omega, if_pos h40] at a1
      exact a1
    · have a1 := u3 (k - c2) (by omega)
      rw [show k - c2 + c2 = k by omega] at a1
      have a2 := g1 (k - c2 - c3) (by omega)
      rw [show k - c2 - c3 + c3 = k - c2 by omega] at a2
      have hnone : valL (c : Int) es 0 = none := long_none (by omega) (by omega) es g2 hlen
      refine a1.trans (a2.trans ?_)
      unfold toldL
      rw [hnone]
  · obtain ⟨r, ⟨c3, g1⟩, ⟨c4, g2⟩⟩ := both h T n (by omega) t1 t2 n (by omega) [] 0 (by simp; omega) (by rw [valL]) (by omega) (by omega)
    refine ⟨200 + c1 + c2 + c3 + c4, r, fun k hk => ⟨?_, ?_⟩⟩
    · have a1 := t3 (k - c1) (by omega)
      rw [show k - c1 + c1 = k by omega, if_neg h40] at a1
      have a2 := g2 (k - c1 - c4) (by omega)
      rw [show k - c1 - c4 + c4 = k - c1 by omega] at a2
      exact a1.trans a2
    · have a1 := u3 (k - c2) (by omega)
      rw [show k - c2 + c2 = k by omega] at a1
      have a2 := g1 (k - c2 - c3) (by omega)
      rw [show k - c2 - c3 + c3 = k - c2 by omega] at a2
      exact a1.trans a2
theorem LeastWithSum_both (s b p : Int) : ∃ (K : Nat) (v : Int × Bool), ∀ k, K ≤ k → spec_LeastWithSum.f k s b p = some v ∧ impl_LeastWithSum.f k s b p = some v := by
  by_cases hs : 0 ≤ s ∧ s ≤ 2000
  · by_cases hb : 2 ≤ b ∧ b ≤ 16
    · by_cases hp : 1 ≤ p ∧ p ≤ 8
      · obtain ⟨n, rfl⟩ := Int.eq_ofNat_of_zero_le hs.1
        obtain ⟨c, rfl⟩ := Int.eq_ofNat_of_zero_le (show 0 ≤ b by omega)
        obtain ⟨q, rfl⟩ := Int.eq_ofNat_of_zero_le (show 0 ≤ p by omega)
        obtain ⟨K, v, h⟩ := lws_go (n := n) (c := c) (q := q) (by omega) (by omega) (by omega)
        refine ⟨K + 1, v, fun k hk => ?_⟩
        obtain ⟨k, rfl⟩ : ∃ q, k = q + 1 := ⟨k - 1, by omega⟩
        rw [lws_s0 (by omega) (by omega) (by omega), lws_i0 (by omega) (by omega) (by omega)]
        exact h k (by omega)
      · refine ⟨1, (0, false), fun k hk => ?_⟩
        obtain ⟨k, rfl⟩ : ∃ q, k = q + 1 := ⟨k - 1, by omega⟩
        exact ⟨by simp [spec_LeastWithSum.f, l1In_eq, dgBase_eq, pwPower_eq, hs, hb, hp, spec_LeastWithSum.j0], by simp [impl_LeastWithSum.f, in_eq, isBase_eq, isPower_eq, hs, hb, hp, impl_LeastWithSum.j0]⟩
    · refine ⟨1, (0, false), fun k hk => ?_⟩
      obtain ⟨k, rfl⟩ : ∃ q, k = q + 1 := ⟨k - 1, by omega⟩
      exact ⟨by simp [spec_LeastWithSum.f, l1In_eq, dgBase_eq, hs, hb, spec_LeastWithSum.j0], by simp [impl_LeastWithSum.f, in_eq, isBase_eq, hs, hb, impl_LeastWithSum.j0]⟩
  · refine ⟨1, (0, false), fun k hk => ?_⟩
    obtain ⟨k, rfl⟩ : ∃ q, k = q + 1 := ⟨k - 1, by omega⟩
    exact ⟨by simp [spec_LeastWithSum.f, l1In_eq, hs, spec_LeastWithSum.j0], by simp [impl_LeastWithSum.f, in_eq, hs, impl_LeastWithSum.j0]⟩
end Go.Proofs.YtehhkkbejmhcfaaC
end
section
namespace Go.Proofs.YtehhkkbejmhcfaaC
open Go.RowKit Go.Proofs.YtehhkkbejmhcfaaW.PrintWords Go.Proofs.YtehhkkbejmhcfaaW.PrintMore
set_option linter.unusedSimpArgs false
set_option linter.unusedVariables false
def Grd (b p : Nat) (T : List Int) : Nat → List Int → Prop
  | l, [] => l = 0
  | l, d :: es => ∃ e : Nat, d = (e : Int) ∧ 1 ≤ e ∧ e < b ∧ e ^ p ≤ l ∧ tb T l = 1 + tb T (l - e ^ p) ∧ (∀ z, 1 ≤ z → z < e → tb T (l - z ^ p) ≠ tb T l - 1) ∧ Grd b p T (l - e ^ p) es
theorem find2 {b p : Nat} (h : Pw b p) (T : List Int) (n l : Nat) (hn : n ≤ 2000) (hT : T.length = n + 1) (hF : Few b p T (n + 1)) (hl : l ≤ n) (hl1 : 1 ≤ l) (e : Nat) (he : e < b) (hel : e ^ p ≤ l) (heq : tb T l = 1 + tb T (l - e ^ p)) : ∀ (q d : Nat), d + q = e → 1 ≤ d →
    ∃ d', 1 ≤ d' ∧ d' < b ∧ d' ^ p ≤ l ∧ tb T l = 1 + tb T (l - d' ^ p) ∧ (∀ z, d ≤ z → z < d' → tb T (l - z ^ p) ≠ tb T l - 1) ∧
      (∀ v : Int, 0 ≤ v → v ≤ 1000000000000 → ∃ c, ∀ k, 20 ≤ k → spec_LeastWithSum.l3 (k + c) (l : Int) (b : Int) (p : Int) T v (d : Int) = (if v * (b : Int) + (d' : Int) > 1000000000000 then (some (0, false)) else spec_LeastWithSum.l2 k ((l - d' ^ p : Nat) : Int) (b : Int) (p : Int) T (v * (b : Int) + (d' : Int)))) ∧
      (∀ ds : List Int, ds.length ≤ 2000 → ∃ c, ∀ k, 20 ≤ k → impl_LeastWithSum.l3 (k + c) (b : Int) (p : Int) T ds (l : Int) (d : Int) = impl_LeastWithSum.l2 k (b : Int) (p : Int) T (ds ++ [(d' : Int)]) ((l - d' ^ p : Nat) : Int)) := by
  have hb2 := h.hb2
  have hBd := hF.bd h.hb
  intro q
  induction q with
  | zero =>
    intro d hd h1
    have hde : d = e := by omega
    subst hde
    have hP := h.le he
    have p1 := h.pos h1
    have hs1 : ∀ k, 9 < k → spec_pwOf.f k (d : Int) (p : Int) = some ((d ^ p : Nat) : Int) := fun k hk => h.spec he hk
    have hs2 : ∀ k, 9 < k → impl_toPower.f k (d : Int) (p : Int) = some ((d ^ p : Nat) : Int) := fun k hk => h.impl he hk
    have b1 := hBd l (by omega)
    refine ⟨d, h1, he, hel, heq, fun z h2 h3 => by omega, ?_⟩
    generalize hPd : d ^ p = P at *
    have b2 := hBd (l - P) (by omega)
    have hw : wrap64 ((l : Int) - (P : Int)) = ((l - P : Nat) : Int) := by rw [w64 (by omega) (by omega)]; omega
    have r1 : rd T ((l - P : Nat) : Int) = tb T (l - P) := rfl
    have r2 : rd T (l : Int) = tb T l := rfl
    refine ⟨fun v hv hv2 => ⟨1, fun k hk => ?_⟩, fun ds hds => ⟨1, fun k hk => ?_⟩⟩
    · have m1 : 0 ≤ v * (b : Int) ∧ v * (b : Int) ≤ 1000000000000 * 16 := ⟨Int.mul_nonneg hv (by omega), Int.mul_le_mul hv2 (by omega) (by omega) (by omega)⟩
      rw [spec_LeastWithSum.l3, hs1 _ (by omega)]
      simp only [Option.bind_some]
      rw [hw, if_pos (by omega), if_pos (by omega), if_pos (by omega), if_pos (by omega), r1, r2, w64 (n := tb T l - 1) (by omega) (by omega), if_pos (by omega)]
      generalize v * (b : Int) = vb at *
      rw [w64 (n := vb) (by omega) (by omega), w64 (by omega) (by omega)]
    · rw [impl_LeastWithSum.l3, hs2 _ (by omega)]
      simp only [Option.bind_some]
      rw [if_neg (by omega)]
      rw [hw, if_pos (by omega), if_pos (by omega), if_pos (by omega), if_pos (by omega), r1, r2, w64 (n := tb T l - 1) (by omega) (by omega), if_pos (by omega), if_pos (by omega)]
  | succ q ih =>
    intro d hd h1
    have hdb : d < b := by omega
    have hP := h.le hdb
    have p1 := h.pos h1
    have hde := h.mono (d := d) (e := e) (by omega)
    by_cases hg : tb T (l - d ^ p) = tb T l - 1
    · -- d itself
      have hs1 : ∀ k, 9 < k → spec_pwOf.f k (d : Int) (p : Int) = some ((d ^ p : Nat) : Int) := fun k hk => h.spec hdb hk
      have hs2 : ∀ k, 9 < k → impl_toPower.f k (d : Int) (p : Int) = some ((d ^ p : Nat) : Int) := fun k hk => h.impl hdb hk
      have b1 := hBd l (by omega)
      refine ⟨d, h1, hdb, by omega, by omega, fun z h2 h3 => by omega, ?_⟩
      generalize hPd : d ^ p = P at *
      have b2 := hBd (l - P) (by omega)
      have hw : wrap64 ((l : Int) - (P : Int)) = ((l - P : Nat) : Int) := by rw [w64 (by omega) (by omega)]; omega
      have r1 : rd T ((l - P : Nat) : Int) = tb T (l - P) := rfl
      have r2 : rd T (l : Int) = tb T l := rfl
      refine ⟨fun v hv hv2 => ⟨1, fun k hk => ?_⟩, fun ds hds => ⟨1, fun k hk => ?_⟩⟩
      · have m1 : 0 ≤ v * (b : Int) ∧ v * (b : Int) ≤ 1000000000000 * 16 := ⟨Int.mul_nonneg hv (by omega), Int.mul_le_mul hv2 (by omega) (by omega) (by omega)⟩
        rw [spec_LeastWithSum.l3, hs1 _ (by omega)]
        simp only [Option.bind_some]
        rw [hw, if_pos (by omega), if_pos (by omega), if_pos (by omega), if_pos (by omega), r1, r2, w64 (n := tb T l - 1) (by omega) (by omega), if_pos (by omega)]
        generalize v * (b : Int) = vb at *
        rw [w64 (n := vb) (by omega) (by omega), w64 (by omega) (by omega)]
      · rw [impl_LeastWithSum.l3, hs2 _ (by omega)]
        simp only [Option.bind_some]
        rw [if_neg (by omega)]
        rw [hw, if_pos (by omega), if_pos (by omega), if_pos (by omega), if_pos (by omega), r1, r2, w64 (n := tb T l - 1) (by omega) (by omega), if_pos (by omega), if_pos (by omega)]
    · obtain ⟨d', d1, d2, d3, d4, dm, d5, d6⟩ := ih (d + 1) (by omega) (by omega)
      have hs1 : ∀ k, 9 < k → spec_pwOf.f k (d : Int) (p : Int) = some ((d ^ p : Nat) : Int) := fun k hk => h.spec hdb hk
      have hs2 : ∀ k, 9 < k → impl_toPower.f k (d : Int) (p : Int) = some ((d ^ p : Nat) : Int) := fun k hk => h.impl hdb hk
      have b1 := hBd l (by omega)
      refine ⟨d', d1, d2, d3, d4, fun z h2 h3 => (if hz : z = d then by subst hz; exact hg else dm z (by omega) h3), fun v hv hv2 => ?_, fun ds hds => ?_⟩
      · obtain ⟨c, h5⟩ := d5 v hv hv2
        refine ⟨c + 1, fun k hk => ?_⟩
        have h6 := h5 k hk
        clear d5 d6 h5
        generalize hPd : d ^ p = P at *
        have b2 := hBd (l - P) (by omega)
        have hw : wrap64 ((l : Int) - (P : Int)) = ((l - P : Nat) : Int) := by rw [w64 (by omega) (by omega)]; omega
        have r1 : rd T ((l - P : Nat) : Int) = tb T (l - P) := rfl
        have r2 : rd T (l : Int) = tb T l := rfl
        rw [← Nat.add_assoc, spec_LeastWithSum.l3, hs1 _ (by omega)]
        simp only [Option.bind_some]
        rw [hw, if_pos (by omega), if_pos (by omega), if_pos (by omega), if_pos (by omega), r1, r2, w64 (n := tb T l - 1) (by omega) (by omega), if_neg (by omega), w64s (by omega)]
        exact h6
      · obtain ⟨c, h5⟩ := d6 ds hds
        refine ⟨c + 1, fun k hk => ?_⟩
        have h6 := h5 k hk
        clear d5 d6 h5
        generalize hPd : d ^ p = P at *
        have b2 := hBd (l - P) (by omega)
        have hw : wrap64 ((l : Int) - (P : Int)) = ((l - P : Nat) : Int) := by rw [w64 (by omega) (by omega)]; omega
        have r1 : rd T ((l - P : Nat) : Int) = tb T (l - P) := rfl
        have r2 : rd T (l : Int) = tb T l := rfl
        rw [← Nat.add_assoc, impl_LeastWithSum.l3, hs2 _ (by omega)]
        simp only [Option.bind_some]
        rw [if_neg (by omega)]
        rw [hw, if_pos (by omega), if_pos (by omega), if_pos (by omega), if_pos (by omega), r1, r2, w64 (n := tb T l - 1) (by omega) (by omega), if_neg (by omega), w64s (by omega)]
        exact h6
theorem both2 {b p : Nat} (h : Pw b p) (T : List Int) (n : Nat) (hn : n ≤ 2000) (hT : T.length = n + 1) (hF : Few b p T (n + 1)) : ∀ (l : Nat), l ≤ n → ∀ (ds : List Int) (v : Int), (ds.length : Int) + tb T l ≤ 40 → valL (b : Int) ds 0 = some v → 0 ≤ v → v ≤ 1000000000000 →
    ∃ r, (∃ c, ∀ k, 100 ≤ k → impl_LeastWithSum.l2 (k + c) (b : Int) (p : Int) T ds (l : Int) = some r) ∧ (r.2 = true → ∃ es, Grd b p T l es ∧ valL (b : Int) (ds ++ es) 0 = some r.1) := by
  have hBd := hF.bd h.hb
  have hb2 := h.hb2
  intro l
  induction l using Nat.strongRecOn with
  | ind l ih =>
    intro hl ds v hds hv hv0 hv1
    have b1 := hBd l (by omega)
    by_cases hl0 : l = 0
    · subst hl0
      refine ⟨(v, true), ⟨2, fun k hk => ?_⟩, fun _ => ⟨[], rfl, by rw [List.append_nil]; exact hv⟩⟩
      rw [impl_LeastWithSum.l2, if_neg (by omega), impl_LeastWithSum.j4, if_neg (by simp), value_eq (b : Int) ds (by omega) (by omega)]
      simp only [Option.bind_some]
      rw [told_eq, hv]; rfl
    · obtain ⟨e, e1, e2, e3, e4⟩ := hF.some l (by omega) (by omega)
      obtain ⟨d, d1, d2, d3, d4, dm, d5, d6⟩ := find2 h T n l hn hT hF hl (by omega) e e2 e3 e4 (e - 1) 1 (by omega) (by omega)
      have p1 := h.pos d1
      have b2 := hBd (l - d ^ p) (by omega)
      obtain ⟨c1, h6⟩ := d6 ds (by omega)
      obtain ⟨c3, h5⟩ := d5 v hv0 hv1
      have m1 : 0 ≤ v * (b : Int) ∧ v * (b : Int) ≤ 1000000000000 * 16 := ⟨Int.mul_nonneg hv0 (by omega), Int.mul_le_mul hv1 (by omega) (by omega) (by omega)⟩
      have hval : valL (b : Int) (ds ++ [(d : Int)]) 0 = (if v * (b : Int) + (d : Int) > 1000000000000 then none else some (v * (b : Int) + (d : Int))) := by
        rw [valL_append, hv]
        show valL (b : Int) [(d : Int)] v = _
        rw [valL]
        generalize v * (b : Int) = vb at *
        rw [w64 (n := vb) (by omega) (by omega), w64 (by omega) (by omega)]; rfl
      have a0 : ∀ k, 100 ≤ k → ∀ q, impl_LeastWithSum.l2 (k + q + c1 + 2) (b : Int) (p : Int) T ds (l : Int) = impl_LeastWithSum.l2 (k + q) (b : Int) (p : Int) T (ds ++ [(d : Int)]) ((l - d ^ p : Nat) : Int) := fun k hk q => by
        rw [show k + q + c1 + 2 = (k + q + c1) + 1 + 1 by omega, impl_LeastWithSum.l2, if_pos (by omega), decide_eq_true (by omega), impl_LeastWithSum.j4, if_pos rfl]
        exact h6 (k + q) (by omega)
      by_cases hc : v * (b : Int) + (d : Int) > 1000000000000
      · rw [if_pos hc] at hval
        obtain ⟨es, ⟨c2, g1⟩, g2, g3⟩ := implAll h T n hn hT hF (l - d ^ p) (by omega) (ds ++ [(d : Int)]) (by simp; omega)
        refine ⟨(0, false), ⟨c2 + c1 + 2, fun k hk => ?_⟩, fun h => by cases h⟩
        have := a0 k hk c2
        rw [show k + (c2 + c1 + 2) = k + c2 + c1 + 2 by omega, this, g1 k hk]
        unfold toldL
        rw [valL_append, hval]; rfl
      · rw [if_neg hc] at hval
        obtain ⟨r, ⟨c2, g1⟩, g2⟩ := ih (l - d ^ p) (by omega) (by omega) (ds ++ [(d : Int)]) _ (by simp; omega) hval (by omega) (by omega)
        refine ⟨r, ⟨c2 + c1 + 2, fun k hk => ?_⟩, fun hr => ?_⟩
        · have := a0 k hk c2
          rw [show k + (c2 + c1 + 2) = k + c2 + c1 + 2 by omega, this, g1 k hk]
        · obtain ⟨es, e1, e2⟩ := g2 hr
          exact ⟨(d : Int) :: es, ⟨d, rfl, d1, d2, d3, d4, fun z h2 h3 => dm z h2 h3, e1⟩, by simpa using e2⟩
theorem least_facts {n c q : Nat} (hn : n ≤ 2000) (hb : 2 ≤ c ∧ c ≤ 16) (hp : 1 ≤ q ∧ q ≤ 8) : ∃ (K : Nat) (v : Int × Bool), (∀ k, K ≤ k → impl_LeastWithSum.f k (n : Int) (c : Int) (q : Int) = some v) ∧ (v.2 = true → ∃ T es, Few c q T (n + 1) ∧ Grd c q T n es ∧ valL (c : Int) es 0 = some v.1) := by
  have h : Pw c q := ⟨by omega, by omega, by omega, by omega⟩
  have hz : ∀ i, tb (List.replicate (n + 1) (0 : Int)) i = 0 := fun i => by
    unfold tb; rw [rd_getD, List.getD_eq_getElem?_getD, List.getElem?_replicate]; split <;> rfl
  obtain ⟨U, u1, u2, c2, u3⟩ := impl_table h n (by omega) n 1 (List.replicate (n + 1) 0) (by omega) (by omega) (List.length_replicate) ⟨hz 0, fun i hi => by rw [hz]; omega, fun i h1 h2 => by omega, fun i h1 h2 => by omega⟩
  have t2 := u2.few h.hb
  by_cases h40 : tb U n > 40
  · obtain ⟨es, ⟨c3, g1⟩, g2, g3⟩ := implAll h U n (by omega) u1 t2 n (by omega) [] (by simp)
    have hlen := g3 (by simp; omega)
    rw [List.nil_append] at hlen g1
    refine ⟨200 + c2 + c3 + 1, (0, false), fun k hk => ?_, fun h => by cases h⟩
    obtain ⟨k, rfl⟩ : ∃ q, k = q + 1 := ⟨k - 1, by omega⟩
    rw [lws_i0 (by omega) (by omega) (by omega)]
    have a1 := u3 (k - c2) (by omega)
    rw [show k - c2 + c2 = k by omega] at a1
    have a2 := g1 (k - c2 - c3) (by omega)
    rw [show k - c2 - c3 + c3 = k - c2 by omega] at a2
    have hnone : valL (c : Int) es 0 = none := long_none (by omega) (by omega) es g2 hlen
    refine a1.trans (a2.trans ?_)
    unfold toldL
    rw [hnone]
  · obtain ⟨r, ⟨c3, g1⟩, g2⟩ := both2 h U n (by omega) u1 t2 n (by omega) [] 0 (by simp; omega) (by rw [valL]) (by omega) (by omega)
    refine ⟨200 + c2 + c3 + 1, r, fun k hk => ?_, fun hr => ?_⟩
    · obtain ⟨k, rfl⟩ : ∃ q, k = q + 1 := ⟨k - 1, by omega⟩
      rw [lws_i0 (by omega) (by omega) (by omega)]
      have a1 := u3 (k - c2) (by omega)
      rw [show k - c2 + c2 = k by omega] at a1
      have a2 := g1 (k - c2 - c3) (by omega)
      rw [show k - c2 - c3 + c3 = k - c2 by omega] at a2
      exact a1.trans a2
    · obtain ⟨es, e1, e2⟩ := g2 hr
      exact ⟨U, es, t2, e1, by simpa using e2⟩
end Go.Proofs.YtehhkkbejmhcfaaC
end
section
namespace Go.Proofs.YtehhkkbejmhcfaaC
open Go.RowKit Go.Proofs.YtehhkkbejmhcfaaW.PrintWords Go.Proofs.YtehhkkbejmhcfaaW.PrintMore
set_option linter.unusedSimpArgs false
set_option linter.unusedVariables false
set_option linter.unusedSectionVars false
def nv (b : Int) : List Int → Int → Int
  | [], s => s
  | d :: l, s => nv b l (s * b + d)
theorem nv_snoc (b : Int) : ∀ (l : List Int) (d s : Int), nv b (l ++ [d]) s = nv b l s * b + d
  | [], d, s => rfl
  | x :: l, d, s => nv_snoc b l d (s * b + x)
def Dg0 (b : Nat) (l : List Int) : Prop := ∀ x ∈ l, 0 ≤ x ∧ x < (b : Int)
theorem valL_nv {b : Nat} (hb : 2 ≤ b) (hb2 : b ≤ 16) : ∀ (l : List Int) (s v : Int), Dg0 b l → 0 ≤ s → s ≤ 1000000000000 → valL (b : Int) l s = some v → v = nv (b : Int) l s ∧ 0 ≤ v ∧ v ≤ 1000000000000
  | [], s, v, _, h0, h1, h => by
    rw [valL] at h; cases h; exact ⟨rfl, h0, h1⟩
  | d :: l, s, v, hd, h0, h1, h => by
    have hx := hd d (by simp)
    have m1 : 0 ≤ s * (b : Int) ∧ s * (b : Int) ≤ 1000000000000 * 16 := ⟨Int.mul_nonneg h0 (by omega), Int.mul_le_mul h1 (by omega) (by omega) (by omega)⟩
    rw [valL] at h
    rw [nv]
    generalize s * (b : Int) = sb at *
    rw [w64 (n := sb) (by omega) (by omega), w64 (by omega) (by omega)] at h
    by_cases hc : sb + d > 1000000000000
    · rw [if_pos hc] at h; cases h
    · rw [if_neg hc] at h
      exact valL_nv hb hb2 l (sb + d) v (fun x hx => hd x (by simp [hx])) (by omega) (by omega) h
theorem nv_nonneg {b : Nat} : ∀ (l : List Int) (s : Int), Dg0 b l → 0 ≤ s → 0 ≤ nv (b : Int) l s
  | [], s, _, h => h
  | d :: l, s, hd, h => by
    have hx := hd d (by simp)
    have := Int.mul_nonneg h (show (0 : Int) ≤ (b : Int) by omega)
    exact nv_nonneg l _ (fun x hx => hd x (by simp [hx])) (by omega)
theorem nv_bounds {b : Nat} : ∀ (l : List Int) (s : Int), Dg0 b l → 0 ≤ s → s * (b : Int) ^ l.length ≤ nv (b : Int) l s ∧ nv (b : Int) l s < (s + 1) * (b : Int) ^ l.length
  | [], s, _, h => by simp [nv]; omega
  | d :: l, s, hd, h => by
    have hx := hd d (by simp)
    have hsb := Int.mul_nonneg h (show (0 : Int) ≤ (b : Int) by omega)
    have ih := nv_bounds l (s * (b : Int) + d) (fun x hx => hd x (by simp [hx])) (by omega)
    have hp : (0 : Int) ≤ (b : Int) ^ l.length := Int.pow_nonneg (by omega)
    rw [nv, List.length_cons, Int.pow_succ, Int.mul_comm ((b : Int) ^ l.length) (b : Int), ← Int.mul_assoc, ← Int.mul_assoc]
    have e1 : (s + 1) * (b : Int) = s * (b : Int) + (b : Int) := by rw [Int.add_mul, Int.one_mul]
    rw [e1]
    exact ⟨Int.le_trans (Int.mul_le_mul_of_nonneg_right (by omega) hp) ih.1, Int.lt_of_lt_of_le ih.2 (Int.mul_le_mul_of_nonneg_right (by omega) hp)⟩
theorem lsd_nv {b : Nat} (hb : 2 ≤ b) : ∀ (n : Nat) (l : List Int), l.length = n → (∀ x ∈ l, 1 ≤ x ∧ x < (b : Int)) → lsd b (nv (b : Int) l 0).toNat = l.reverse := by
  intro n
  induction n with
  | zero =>
    intro l hl _
    obtain rfl := List.length_eq_zero_iff.1 hl
    show lsd b (0 : Int).toNat = []
    exact lsd_zero b
  | succ n ih =>
    intro l hl hd
    have hne : l ≠ [] := fun h => by rw [h] at hl; simp at hl
    have hl2 := List.dropLast_concat_getLast hne
    obtain ⟨i, d, rfl⟩ : ∃ i d, l = i ++ [d] := ⟨_, _, hl2.symm⟩
    have hx := hd d (by simp)
    have hi : ∀ x ∈ i, 1 ≤ x ∧ x < (b : Int) := fun x hx => hd x (by simp [hx])
    have h0 := nv_nonneg (b := b) i 0 (fun x hx => by have := hi x hx; omega) (by omega)
    have ihi := ih i (by simpa using hl) hi
    obtain ⟨m, hm⟩ := Int.eq_ofNat_of_zero_le h0
    obtain ⟨e, he⟩ := Int.eq_ofNat_of_zero_le (show 0 ≤ d by omega)
    have hv : nv (b : Int) (i ++ [d]) 0 = ((m * b + e : Nat) : Int) := by rw [nv_snoc, hm, he]; simp
    rw [hv, Int.toNat_natCast, lsd_pos hb (by omega), List.reverse_append, List.reverse_singleton]
    rw [hm, Int.toNat_natCast] at ihi
    have e1 : (m * b + e) % b = e := by rw [Nat.add_comm, Nat.add_mul_mod_self_right]; exact Nat.mod_eq_of_lt (by omega)
    have e2 : (m * b + e) / b = m := by rw [Nat.add_comm, Nat.add_mul_div_right _ _ (by omega), Nat.div_eq_of_lt (by omega), Nat.zero_add]
    rw [e1, e2, ihi, he]
    rfl
theorem nv_lsd {b : Nat} (hb : 2 ≤ b) : ∀ n : Nat, nv (b : Int) (lsd b n).reverse 0 = (n : Int) := by
  intro n
  induction n using Nat.strongRecOn with
  | ind n ih =>
    by_cases h0 : n = 0
    · subst h0; rw [lsd_zero]; rfl
    · rw [lsd_pos hb (by omega), List.reverse_cons, nv_snoc, ih (n / b) (Nat.div_lt_self (by omega) (by omega))]
      have h1 := Nat.div_add_mod n b
      have h2 : ((b * (n / b) + n % b : Nat) : Int) = (n : Int) := by rw [h1]
      rw [← h2, Int.natCast_add, Int.natCast_mul, Int.mul_comm]
section
variable {b p n : Nat} {T : List Int} (hb : 2 ≤ b) (hp : 1 ≤ p) (hF : Few b p T (n + 1))
include hb hp hF
theorem few_any : ∀ (u : List Int) (l : Nat), Dg0 b u → l ≤ n → psum p u = (l : Int) → tb T l ≤ (u.length : Int)
  | [], l, _, hl, h => by
    have : l = 0 := by simp [psum] at h; omega
    subst this
    rw [hF.zero (by omega)]; simp
  | d :: u, l, hd, hl, h => by
    have hx := hd d (by simp)
    obtain ⟨e, rfl⟩ := Int.eq_ofNat_of_zero_le hx.1
    have hu : Dg0 b u := fun x hx => hd x (by simp [hx])
    have h2 : psum p ((e : Int) :: u) = ((e ^ p : Nat) : Int) + psum p u := by simp [psum]
    have h3 : 0 ≤ psum p u := by
      clear h h2
      induction u with
      | nil => simp [psum]
      | cons y u ihu =>
        have hy := hu y (by simp)
        have : psum p (y :: u) = y ^ p + psum p u := by simp [psum]
        rw [this]
        have h4 : 0 ≤ y ^ p := Int.pow_nonneg hy.1
        have h5 := ihu (fun x hx => by rcases List.mem_cons.1 hx with h | h; exact hd x (by simp [h]); exact hd x (by simp [h])) (fun x hx => hu x (by simp [hx]))
        omega
    rw [h2] at h
    by_cases he : e = 0
    · subst he
      have hz : (0 : Nat) ^ p = 0 := Nat.zero_pow (by omega)
      rw [hz] at h
      have := few_any u l hu hl (by omega)
      simp only [List.length_cons]; omega
    · have hle : e ^ p ≤ l := by omega
      have h6 := few_any u (l - e ^ p) hu (by omega) (by omega)
      have hpos : 1 ≤ e ^ p := Nat.pow_pos (by omega)
      have h7 := hF.least l (by omega) (by omega) e (by omega) (by omega) hle
      simp only [List.length_cons]; omega
theorem grd_facts : ∀ (es : List Int) (l : Nat), l ≤ n → Grd b p T l es → (∀ x ∈ es, 1 ≤ x ∧ x < (b : Int)) ∧ psum p es = (l : Int) ∧ (es.length : Int) = tb T l
  | [], l, hl, h => by
    have : l = 0 := h
    subst this
    exact ⟨by simp, by simp [psum], by rw [hF.zero (by omega)]; simp⟩
  | d :: es, l, hl, h => by
    obtain ⟨e, rfl, h1, h2, h3, h4, _, h6⟩ := h
    obtain ⟨i1, i2, i3⟩ := grd_facts es (l - e ^ p) (by omega) h6
    refine ⟨fun x hx => ?_, ?_, ?_⟩
    · rcases List.mem_cons.1 hx with rfl | hx
      · omega
      · exact i1 x hx
    · have : psum p ((e : Int) :: es) = ((e ^ p : Nat) : Int) + psum p es := by simp [psum]
      rw [this, i2]; omega
    · simp only [List.length_cons]; omega
theorem grd_least : ∀ (es xs : List Int) (l : Nat) (s : Int), l ≤ n → Grd b p T l es → Dg0 b xs → psum p xs = (l : Int) → xs.length = es.length → 0 ≤ s → nv (b : Int) es s ≤ nv (b : Int) xs s
  | [], xs, l, s, _, _, _, _, hlen, _ => by
    have : xs = [] := List.length_eq_zero_iff.1 (by simpa using hlen)
    subst this
    exact Int.le_refl _
  | d :: es, [], l, s, _, _, _, _, hlen, _ => by simp at hlen
  | d :: es, x :: xs, l, s, hl, hg, hx, hps, hlen, hs => by
    have hlg := (grd_facts hb hp hF (d :: es) l hl hg)
    obtain ⟨e, rfl, h1, h2, h3, h4, h5, h6⟩ := hg
    have hx0 := hx x (by simp)
    obtain ⟨y, rfl⟩ := Int.eq_ofNat_of_zero_le hx0.1
    have hxs : Dg0 b xs := fun z hz => hx z (by simp [hz])
    have e1 : psum p ((y : Int) :: xs) = ((y ^ p : Nat) : Int) + psum p xs := by simp [psum]
    rw [e1] at hps
    have h3l := hlg.2.2
    simp only [List.length_cons] at h3l hlen
    have hpn : 0 ≤ psum p xs := by
      have : ∀ u : List Int, Dg0 b u → 0 ≤ psum p u := by
        intro u
        induction u with
        | nil => intro _; simp [psum]
        | cons y u ihu =>
          intro hu
          have hy := hu y (by simp)
          have e2 : psum p (y :: u) = y ^ p + psum p u := by simp [psum]
          rw [e2]
          have h4 : 0 ≤ y ^ p := Int.pow_nonneg hy.1
          have h5 := ihu (fun x hx => hu x (by simp [hx]))
          omega
      exact this xs hxs
    have hy1 : 1 ≤ y := by
      by_cases hy : y = 0
      · subst hy
        have hz : (0 : Nat) ^ p = 0 := Nat.zero_pow (by omega)
        rw [hz] at hps
        have := few_any hb hp hF xs l hxs hl (by omega)
        omega
      · omega
    have hyl : y ^ p ≤ l := by omega
    have hyp : 1 ≤ y ^ p := Nat.pow_pos hy1
    have hf1 := few_any hb hp hF xs (l - y ^ p) hxs (by omega) (by omega)
    have hf2 := hF.least l (by omega) (by omega) y hy1 (by omega) hyl
    have hey : e ≤ y := by
      by_cases hc : e ≤ y
      · exact hc
      · have := h5 y hy1 (by omega)
        omega
    rw [nv, nv]
    have hsb := Int.mul_nonneg hs (show (0 : Int) ≤ (b : Int) by omega)
    by_cases he : e = y
    · subst he
      exact grd_least es xs (l - e ^ p) _ (by omega) h6 hxs (by omega) (by omega) (by omega)
    · have hes : Dg0 b es := fun z hz => by have := hlg.1 z (by simp [hz]); omega
      have b1 := (nv_bounds es (s * (b : Int) + (e : Int)) hes (by omega)).2
      have b2 := (nv_bounds xs (s * (b : Int) + (y : Int)) hxs (by omega)).1
      have hl2 : xs.length = es.length := by omega
      rw [hl2] at b2
      have hpw : (0 : Int) ≤ (b : Int) ^ es.length := Int.pow_nonneg (by omega)
      have b3 : (s * (b : Int) + (e : Int) + 1) * (b : Int) ^ es.length ≤ (s * (b : Int) + (y : Int)) * (b : Int) ^ es.length := Int.mul_le_mul_of_nonneg_right (by omega) hpw
      omega
end
theorem lsd_lt' {b : Nat} (hb : 2 ≤ b) : ∀ n : Nat, n < b ^ (lsd b n).length := by
  intro n
  induction n using Nat.strongRecOn with
  | ind n ih =>
    by_cases h0 : n = 0
    · subst h0; exact Nat.pow_pos (by omega)
    · rw [lsd_pos hb (by omega), List.length_cons, Nat.pow_succ]
      have h1 := ih (n / b) (Nat.div_lt_self (by omega) (by omega))
      exact (Nat.div_lt_iff_lt_mul (by omega)).1 h1
theorem lsd_len' {b : Nat} (hb : 2 ≤ b) : ∀ (d n : Nat), n < b ^ d → (lsd b n).length ≤ d := by
  intro d
  induction d with
  | zero => intro n hn; obtain rfl : n = 0 := by simpa using hn
            rw [lsd_zero]; simp
  | succ d ih =>
    intro n hn
    by_cases h0 : n = 0
    · subst h0; rw [lsd_zero]; simp
    · rw [lsd_pos hb (by omega)]
      have := ih (n / b) (Nat.div_lt_of_lt_mul (by rw [Nat.pow_succ, Nat.mul_comm] at hn; exact hn))
      simp only [List.length_cons]; omega
theorem least_min {n c q : Nat} (hn : n ≤ 2000) (hb : 2 ≤ c ∧ c ≤ 16) (hp : 1 ≤ q ∧ q ≤ 8) : ∃ (K : Nat) (v : Int × Bool), (∀ k, K ≤ k → impl_LeastWithSum.f k (n : Int) (c : Int) (q : Int) = some v) ∧
    (v.2 = true → 0 ≤ v.1 ∧ v.1 ≤ 1000000000000 ∧ pws c q v.1.toNat = (n : Int) ∧ ∀ m : Nat, (m : Int) < v.1 → pws c q m ≠ (n : Int)) := by
  obtain ⟨K, v, h1, h2⟩ := least_facts hn hb hp
  refine ⟨K, v, h1, fun hv => ?_⟩
  obtain ⟨T, es, hF, hg, hval⟩ := h2 hv
  obtain ⟨g1, g2, g3⟩ := grd_facts (b := c) (p := q) (n := n) (by omega) hp.1 hF es n (Nat.le_refl _) hg
  have hd0 : Dg0 c es := fun x hx => by have := g1 x hx; omega
  obtain ⟨e1, e2, e3⟩ := valL_nv (b := c) (by omega) (by omega) es 0 v.1 hd0 (by omega) (by omega) hval
  have hl := lsd_nv (b := c) (by omega) es.length es rfl g1
  rw [← e1] at hl
  refine ⟨e2, e3, ?_, fun m hm he => ?_⟩
  · unfold pws
    rw [hl, psum_rev, g2]
  · have hmu : Dg0 c (lsd c m) := fun x hx => lsd_range (b := c) (by omega) m x hx
    have hps : psum q (lsd c m) = (n : Int) := he
    have h3 := few_any (b := c) (p := q) (n := n) (by omega) hp.1 hF (lsd c m) n hmu (Nat.le_refl _) hps
    have h4 : (lsd c m).length ≤ (lsd c v.1.toNat).length := lsd_len' (by omega) _ _ (Nat.lt_of_le_of_lt (show m ≤ v.1.toNat by omega) (lsd_lt' (by omega) _))
    rw [hl, List.length_reverse] at h4
    have h5 := grd_least (b := c) (p := q) (n := n) (by omega) hp.1 hF es (lsd c m).reverse n 0 (Nat.le_refl _) hg (fun x hx => hmu x (by simpa using hx)) (by rw [psum_rev]; exact hps) (by rw [List.length_reverse]; omega) (by omega)
    rw [nv_lsd (by omega), ← e1] at h5
    omega
end Go.Proofs.YtehhkkbejmhcfaaC
end
section
namespace Go.Proofs.YtehhkkbejmhcfaaC
open Go.RowKit Go.Proofs.YtehhkkbejmhcfaaW.PrintWords Go.Proofs.YtehhkkbejmhcfaaW.PrintMore
set_option linter.unusedVariables false
def laws_big.f (l0 : List Int) (l1 : List Int) : Option (Bool) := if (l0.length : Int) > 1048576 then (some true) else (some (decide ((l1.length : Int) > (wrap64 (1048576 - (l0.length : Int))))))
def spec_l1Cur_next.f (s0_0 : List Int) (s0_1 : Int) (s0_2 : Int) : Option (Int × Int × Int) := if s0_1 < (s0_0.length : Int) then (if 0 ≤ s0_1 then (if (wrap64 (s0_1 + 1)) ≤ (s0_0.length : Int) then (some (wrap64 (rd s0_0 s0_1), wrap64 (s0_1 + 1), IntKind.u64.wrap ((IntKind.u64.wrap ((IntKind.u64.wrap (s0_2 * 6364136223846793005)) + (IntKind.u64.wrap (wrap64 (rd s0_0 s0_1))))) + 1442695040888963407))) else (some (wrap64 (Go.bits .and .u64 ((IntKind.u64.wrap ((IntKind.u64.wrap ((IntKind.u64.wrap (s0_2 * 6364136223846793005)) + (IntKind.u64.wrap (wrap64 (rd s0_0 s0_1))))) + 1442695040888963407)) / 1099511627776) 255), wrap64 (s0_1 + 1), IntKind.u64.wrap ((IntKind.u64.wrap ((IntKind.u64.wrap (s0_2 * 6364136223846793005)) + (IntKind.u64.wrap (wrap64 (rd s0_0 s0_1))))) + 1442695040888963407)))) else (none)) else (if (wrap64 (s0_1 + 1)) ≤ (s0_0.length : Int) then (some (0, wrap64 (s0_1 + 1), IntKind.u64.wrap ((IntKind.u64.wrap ((IntKind.u64.wrap (s0_2 * 6364136223846793005)) + 0)) + 1442695040888963407))) else (some (wrap64 (Go.bits .and .u64 ((IntKind.u64.wrap ((IntKind.u64.wrap ((IntKind.u64.wrap (s0_2 * 6364136223846793005)) + 0)) + 1442695040888963407)) / 1099511627776) 255), wrap64 (s0_1 + 1), IntKind.u64.wrap ((IntKind.u64.wrap ((IntKind.u64.wrap (s0_2 * 6364136223846793005)) + 0)) + 1442695040888963407))))
def spec_l1Cur_pick.f (s0_0 : List Int) (s0_1 : Int) (s0_2 : Int) (a1 : Int) : Option (Int × Int × Int) := if a1 ≤ 1 then (some (0, s0_1, s0_2)) else ((spec_l1Cur_next.f s0_0 s0_1 s0_2).bind fun bt261 => (if a1 > 200 then ((spec_l1Cur_next.f s0_0 bt261.2.1 bt261.2.2).bind fun bt264 => (if a1 = 0 then (none) else (some (Int.tmod (wrap64 ((wrap64 (bt261.1 * 256)) + bt264.1)) a1, bt264.2.1, bt264.2.2)))) else (if a1 = 0 then (none) else (some (Int.tmod bt261.1 a1, bt261.2.1, bt261.2.2)))))
def spec_l1Cur_among.f (s0_0 : List Int) (s0_1 : Int) (s0_2 : Int) (l1 : List Int) : Option (Int × Int × Int) := (spec_l1Cur_pick.f s0_0 s0_1 s0_2 (l1.length : Int)).bind fun bt267 => (if 0 ≤ bt267.1 then (if bt267.1 < (l1.length : Int) then (some (rd l1 bt267.1, bt267.2.1, bt267.2.2)) else (none)) else (none))
def spec_l1Cur_base.f (s0_0 : List Int) (s0_1 : Int) (s0_2 : Int) : Option (Int × Int × Int) := (spec_l1Cur_among.f s0_0 s0_1 s0_2 (([10, 10, 10, 2, 3, 5, 7, 16, 12, 10, 10, 16, 1, 17, 0] : List Int))).bind fun bt274 => (some (bt274.1, bt274.2.1, bt274.2.2))
def spec_DrawCyclesOfPowers.f (l0 : List Int) : Option (Int × Int) := (spec_l1Cur_among.f l0 0 0 ([2, 3, 4, 5, 6, 7, 8, 9, 10, 11, 1] : List Int)).bind fun b1 => (spec_l1Cur_among.f l0 b1.2.1 b1.2.2 ([1, 2, 2, 3, 3, 4, 5, 0] : List Int)).bind fun b2 => some (b1.1, b2.1)
def laws_rSame.l0 : Nat → List Int → List Int → Int → Int → Option (Bool)
  | 0, _, _, _, _ => none
  | k + 1, x0, x1, x12, x13 => if x13 < x12 then (if 0 ≤ x13 then (if x13 < (x0.length : Int) then (if x13 < (x1.length : Int) then (if (rd x0 x13) = (rd x1 x13) then (laws_rSame.l0 k x0 x1 x12 (wrap64 (x13 + 1))) else (some false)) else (none)) else (none)) else (none)) else (some true)
def laws_rSame.f (k : Nat) (l0 : List Int) (l1 : List Int) : Option (Bool) := if (l0.length : Int) = (l1.length : Int) then (laws_rSame.l0 k l0 l1 (l0.length : Int) 0) else (some false)
def laws_rRows.l0 : Nat → List (List Int) → List (List Int) → Int → Int → Option (Bool)
  | 0, _, _, _, _ => none
  | k + 1, x0, x1, x12, x13 => if x13 < x12 then (if 0 ≤ x13 then (if x13 < (x0.length : Int) then (if x13 < (x1.length : Int) then ((laws_rSame.f k (rd_L2 x0 x13) (rd_L2 x1 x13)).bind fun t281 => (if t281 = true then (laws_rRows.l0 k x0 x1 x12 (wrap64 (x13 + 1))) else (some false))) else (none)) else (none)) else (none)) else (some true)
def laws_rRows.f (k : Nat) (l0 : List (List Int)) (l1 : List (List Int)) : Option (Bool) := if (l0.length : Int) = (l1.length : Int) then (laws_rRows.l0 k l0 l1 (l0.length : Int) 0) else (some false)
def laws_rRising.l0 : Nat → List Int → Int → Option (Bool)
  | 0, _, _ => none
  | k + 1, x0, x3 => if x3 < (x0.length : Int) then (if 0 ≤ (wrap64 (x3 - 1)) then (if (wrap64 (x3 - 1)) < (x0.length : Int) then (if 0 ≤ x3 then (if (rd x0 (wrap64 (x3 - 1))) ≥ (rd x0 x3) then (some false) else (laws_rRising.l0 k x0 (wrap64 (x3 + 1)))) else (none)) else (none)) else (none)) else (some true)
def laws_rRising.f (k : Nat) (l0 : List Int) : Option (Bool) := laws_rRising.l0 k l0 1
def laws_rHas.l0 : Nat → Int → List Int → Int → Int → Option (Bool)
  | 0, _, _, _, _ => none
  | k + 1, x1, x7, x8, x9 => if x9 < x8 then (if 0 ≤ x9 then (if x9 < (x7.length : Int) then (if (rd x7 x9) = x1 then (some true) else (laws_rHas.l0 k x1 x7 x8 (wrap64 (x9 + 1)))) else (none)) else (none)) else (some false)
def laws_rHas.f (k : Nat) (l0 : List Int) (a1 : Int) : Option (Bool) := laws_rHas.l0 k a1 l0 (l0.length : Int) 0
def spec_DrawLeastWithSum.f (l0 : List Int) : Option (Int × Int × Int) := (spec_l1Cur_pick.f l0 0 0 256).bind fun b1 => (spec_l1Cur_among.f l0 b1.2.1 b1.2.2 ([0, 1, 5, 20, 81, 145, 500, 2000, 2001, -1, b1.1] : List Int)).bind fun b2 => (spec_l1Cur_base.f l0 b2.2.1 b2.2.2).bind fun b3 => (spec_l1Cur_among.f l0 b3.2.1 b3.2.2 ([1, 2, 2, 3, 4, 8, 9, 0] : List Int)).bind fun b4 => some (b2.1, b3.1, b4.1)
def laws_FnCyclesOfPowers.c1 : Nat → Int → Int → List Int → Int → Option Bool
  | 0, _, _, _, _ => none
  | k + 1, b, p, c, i => if i < (c.length : Int) then (if 0 ≤ i ∧ 0 ≤ Int.tmod (wrap64 (i + 1)) (c.length : Int) ∧ Int.tmod (wrap64 (i + 1)) (c.length : Int) < (c.length : Int) ∧ ¬ rd c i < rd c 0 then ((impl_PowerSum.f k (rd c i) b p).bind fun s => if s.2 = true ∧ s.1 = rd c (Int.tmod (wrap64 (i + 1)) (c.length : Int)) then laws_FnCyclesOfPowers.c1 k b p c (wrap64 (i + 1)) else none) else none) else some true
def laws_FnCyclesOfPowers.c0 : Nat → Int → Int → List (List Int) → List Int → Int → Option (List Int)
  | 0, _, _, _, _, _ => none
  | k + 1, b, p, cs, first, i => if i < (cs.length : Int) then (if 0 ≤ i ∧ 0 < ((rd_L2 cs i).length : Int) ∧ first.length < 17592186044416 ∧ (i = 0 → rd (rd_L2 cs i) 0 = 0 ∧ ((rd_L2 cs i).length : Int) = 1) then ((laws_FnCyclesOfPowers.c1 k b p (rd_L2 cs i) 0).bind fun _ => laws_FnCyclesOfPowers.c0 k b p cs (first ++ [rd (rd_L2 cs i) 0]) (wrap64 (i + 1))) else none) else some first
def laws_FnCyclesOfPowers.num (n0 n1 : Nat) (i : Int) : Int := Int.tmod (wrap64 (wrap64 (wrap64 (wrap64 (wrap64 (i * i) * i) * 7919) + wrap64 (104729 * (n0 : Int))) + wrap64 (31 * (n1 : Int)))) 1000000
def laws_FnCyclesOfPowers.c2 : Nat → Int → Int → List Int → Nat → Nat → Int → Option Bool
  | 0, _, _, _, _, _, _ => none
  | k + 1, b, p, first, n0, n1, i => if i < 20 then ((impl_EndsIn.f k (laws_FnCyclesOfPowers.num n0 n1 i) b p).bind fun e => (laws_rHas.f k first e.1).bind fun h => if e.2 = true ∧ h = true then laws_FnCyclesOfPowers.c2 k b p first n0 n1 (wrap64 (i + 1)) else none) else some true
def laws_FnCyclesOfPowers.c3 : Nat → Int → Int → Int → Int → Int → Option Bool
  | 0, _, _, _, _, _ => none
  | k + 1, s, c, q, least, m => if m < least ∧ m < 300 then ((impl_PowerSum.f k m c q).bind fun o => if o.2 = true ∧ o.1 ≠ s then laws_FnCyclesOfPowers.c3 k s c q least (wrap64 (m + 1)) else none) else some true
def laws_FnCyclesOfPowers.p1 (k : Nat) (b p : Int) (g : List (List Int)) (n0 n1 : Nat) : Option Bool := (laws_FnCyclesOfPowers.c0 k b p g [] 0).bind fun first => (laws_rRising.f k first).bind fun a => (laws_rHas.f k first 1).bind fun h => if a = true ∧ h = true then laws_FnCyclesOfPowers.c2 k b p first n0 n1 0 else none
def laws_FnCyclesOfPowers.p2 (k : Nat) (l1 : List Int) : Option Bool := (spec_DrawLeastWithSum.f l1).bind fun s => (impl_LeastWithSum.f k s.1 s.2.1 s.2.2).bind fun x => (spec_LeastWithSum.f k s.1 s.2.1 s.2.2).bind fun y => if y.2 = x.2 ∧ y.1 = x.1 then (if x.2 = true then ((impl_PowerSum.f k x.1 s.2.1 s.2.2).bind fun o => if o.2 = true ∧ o.1 = s.1 then laws_FnCyclesOfPowers.c3 k s.1 s.2.1 s.2.2 x.1 0 else none) else some true) else none
def laws_FnCyclesOfPowers.f (k : Nat) (l0 l1 : List Int) : Option Bool := (laws_big.f l0 l1).bind fun t => if t = true then some true else ((spec_DrawCyclesOfPowers.f l0).bind fun d => (impl_CyclesOfPowers.f k d.1 d.2).bind fun g => (spec_CyclesOfPowers.f k d.1 d.2).bind fun w => (laws_rRows.f k g.1 w.1).bind fun e => if w.2 = g.2 ∧ e = true then ((if g.2 = true then laws_FnCyclesOfPowers.p1 k d.1 d.2 g.1 l0.length l1.length else some true).bind fun _ => laws_FnCyclesOfPowers.p2 k l1) else none)
def laws_FnCyclesOfPowers.Pure : Prop := ∀ (l0 : List Int) (l1 : List Int), l0.length ≤ maxLen → l0.length * 1 ≤ 140737488351232 → (∀ x ∈ l0, (Lit.int .u8 x).wf = true) → l1.length ≤ maxLen → l1.length * 1 ≤ 140737488351232 → (∀ x ∈ l1, (Lit.int .u8 x).wf = true) → ∃ k, laws_FnCyclesOfPowers.f k l0 l1 = some true
end Go.Proofs.YtehhkkbejmhcfaaC
end
section
namespace Go.Proofs.YtehhkkbejmhcfaaC
open Go.RowKit Go.Proofs.YtehhkkbejmhcfaaW.PrintWords Go.Proofs.YtehhkkbejmhcfaaW.PrintMore
set_option linter.unusedSimpArgs false
set_option linter.unusedVariables false
theorem and_small (x : Int) : 0 ≤ Go.bits .and .u64 x 255 ∧ Go.bits .and .u64 x 255 ≤ 255 := by
  have h : (BitVec.ofInt 64 x &&& BitVec.ofInt 64 255).toNat ≤ 255 := by
    rw [BitVec.toNat_and]
    exact Nat.le_trans Nat.and_le_right (by decide)
  have e : Go.bits .and .u64 x 255 = IntKind.u64.wrap (((BitVec.ofInt 64 x &&& BitVec.ofInt 64 255).toNat : Nat) : Int) := rfl
  rw [e]
  generalize (BitVec.ofInt 64 x &&& BitVec.ofInt 64 255).toNat = n at h
  have : IntKind.u64.wrap (n : Int) = (n : Int) := by simp [IntKind.wrap, IntKind.bits, IntKind.signed]; omega
  omega
def Byt (l : List Int) : Prop := ∀ x ∈ l, 0 ≤ x ∧ x ≤ 255
theorem byt_rd {l : List Int} (h : Byt l) (i : Int) : 0 ≤ rd l i ∧ rd l i ≤ 255 := by
  simp only [rd, List.getD_eq_getElem?_getD]
  by_cases hi : i.toNat < l.length
  · rw [List.getElem?_eq_getElem hi]; exact h _ (List.getElem_mem hi)
  · rw [List.getElem?_eq_none (by omega)]; simp
theorem next_some {l : List Int} (h : Byt l) {s : Int} (hs : 0 ≤ s) (hs2 : s ≤ 4611686018427387904) (z : Int) : ∃ v t, spec_l1Cur_next.f l s z = some (v, s + 1, t) ∧ 0 ≤ v ∧ v ≤ 255 := by
  have hw : wrap64 (s + 1) = s + 1 := by unfold wrap64; omega
  have hr := byt_rd h s
  have hwr : wrap64 (rd l s) = rd l s := by unfold wrap64; omega
  have hb : ∀ x, 0 ≤ wrap64 (Go.bits .and .u64 x 255) ∧ wrap64 (Go.bits .and .u64 x 255) ≤ 255 := fun x => by
    have := and_small x
    unfold wrap64; omega
  unfold spec_l1Cur_next.f
  rw [hw]
  by_cases c1 : s < (l.length : Int)
  · rw [if_pos c1, if_pos hs, if_pos (by omega)]
    exact ⟨_, _, rfl, by rw [hwr]; exact hr.1, by rw [hwr]; exact hr.2⟩
  · rw [if_neg c1]
    by_cases c2 : s + 1 ≤ (l.length : Int)
    · omega
    · rw [if_neg c2]
      exact ⟨_, _, rfl, hb _⟩
theorem pick_some {l : List Int} (h : Byt l) {s : Int} (hs : 0 ≤ s) (hs2 : s ≤ 1000000000) (z n : Int) (hn : n ≤ 1000000) : ∃ v s' t, spec_l1Cur_pick.f l s z n = some (v, s', t) ∧ 0 ≤ v ∧ (1 ≤ n → v < n) ∧ s ≤ s' ∧ s' ≤ s + 2 := by
  unfold spec_l1Cur_pick.f
  by_cases c1 : n ≤ 1
  · rw [if_pos c1]
    exact ⟨0, s, z, rfl, by omega, fun _ => by omega, by omega, by omega⟩
  · rw [if_neg c1]
    obtain ⟨v, t, e, hv⟩ := next_some h hs (by omega) z
    rw [e, Option.bind_some]
    by_cases c2 : n > 200
    · rw [if_pos c2]
      obtain ⟨v2, t2, e2, hv2⟩ := next_some h (s := s + 1) (by omega) (by omega) t
      rw [e2, Option.bind_some, if_neg (by omega)]
      have w1 : wrap64 (wrap64 (v * 256) + v2) = v * 256 + v2 := by unfold wrap64; omega
      refine ⟨_, _, _, rfl, ?_, fun _ => ?_, by show s ≤ s + 1 + 1; omega, by show s + 1 + 1 ≤ s + 2; omega⟩
      · rw [w1, Int.tmod_eq_emod_of_nonneg (by omega)]; exact Int.emod_nonneg _ (by omega)
      · rw [w1, Int.tmod_eq_emod_of_nonneg (by omega)]; exact Int.emod_lt_of_pos _ (by omega)
    · rw [if_neg c2, if_neg (by omega)]
      refine ⟨_, _, _, rfl, ?_, fun _ => ?_, by show s ≤ s + 1; omega, by show s + 1 ≤ s + 2; omega⟩
      · rw [Int.tmod_eq_emod_of_nonneg (by omega)]; exact Int.emod_nonneg _ (by omega)
      · rw [Int.tmod_eq_emod_of_nonneg (by omega)]; exact Int.emod_lt_of_pos _ (by omega)
theorem among_some {l : List Int} (h : Byt l) {s : Int} (hs : 0 ≤ s) (hs2 : s ≤ 1000000000) (z : Int) {L : List Int} (hL : 1 ≤ L.length) (hL2 : L.length ≤ 1000) : ∃ v s' t, spec_l1Cur_among.f l s z L = some (v, s', t) ∧ v ∈ L ∧ s ≤ s' ∧ s' ≤ s + 2 := by
  obtain ⟨v, s', t, e, h1, h2, h3, h4⟩ := pick_some h hs hs2 z (L.length : Int) (by omega)
  have h2 := h2 (by omega)
  unfold spec_l1Cur_among.f
  rw [e, Option.bind_some, if_pos h1, if_pos h2]
  refine ⟨_, _, _, rfl, ?_, h3, h4⟩
  simp only [rd, List.getD_eq_getElem?_getD, List.getElem?_eq_getElem (show v.toNat < L.length by omega), Option.getD_some]
  exact List.getElem_mem _
theorem base_some {l : List Int} (h : Byt l) {s : Int} (hs : 0 ≤ s) (hs2 : s ≤ 1000000000) (z : Int) : ∃ v s' t, spec_l1Cur_base.f l s z = some (v, s', t) ∧ s ≤ s' ∧ s' ≤ s + 2 := by
  obtain ⟨v, s', t, e, _, h3, h4⟩ := among_some h hs hs2 z (L := [10, 10, 10, 2, 3, 5, 7, 16, 12, 10, 10, 16, 1, 17, 0]) (by decide) (by decide)
  unfold spec_l1Cur_base.f
  rw [e, Option.bind_some]
  exact ⟨_, _, _, rfl, h3, h4⟩
theorem DrawCyclesOfPowers_some {l : List Int} (h : Byt l) : ∃ b p, spec_DrawCyclesOfPowers.f l = some (b, p) := by
  obtain ⟨v1, s1, t1, e1, _, h1, h2⟩ := among_some h (s := 0) (by omega) (by omega) 0 (L := [2, 3, 4, 5, 6, 7, 8, 9, 10, 11, 1]) (by decide) (by decide)
  obtain ⟨v2, s2, t2, e2, _, h3, h4⟩ := among_some h (s := s1) (by omega) (by omega) t1 (L := [1, 2, 2, 3, 3, 4, 5, 0]) (by decide) (by decide)
  unfold spec_DrawCyclesOfPowers.f
  rw [e1, Option.bind_some, e2, Option.bind_some]
  exact ⟨_, _, rfl⟩
theorem DrawLeastWithSum_some {l : List Int} (h : Byt l) : ∃ s b p, spec_DrawLeastWithSum.f l = some (s, b, p) := by
  obtain ⟨v0, s0, t0, e0, _, _, h1, h2⟩ := pick_some h (s := 0) (by omega) (by omega) 0 256 (by omega)
  obtain ⟨v1, s1, t1, e1, _, h3, h4⟩ := among_some h (s := s0) (by omega) (by omega) t0 (L := [0, 1, 5, 20, 81, 145, 500, 2000, 2001, -1, v0]) (by simp) (by simp)
  obtain ⟨v2, s2, t2, e2, h5, h6⟩ := base_some h (s := s1) (by omega) (by omega) t1
  obtain ⟨v3, s3, t3, e3, _, h7, h8⟩ := among_some h (s := s2) (by omega) (by omega) t2 (L := [1, 2, 2, 3, 4, 8, 9, 0]) (by decide) (by decide)
  unfold spec_DrawLeastWithSum.f
  rw [e0, Option.bind_some, e1, Option.bind_some, e2, Option.bind_some, e3, Option.bind_some]
  exact ⟨_, _, _, rfl⟩
end Go.Proofs.YtehhkkbejmhcfaaC
end
section
namespace Go.Proofs.YtehhkkbejmhcfaaC
open Go.RowKit Go.Proofs.YtehhkkbejmhcfaaW.PrintWords Go.Proofs.YtehhkkbejmhcfaaW.PrintMore
set_option linter.unusedSimpArgs false
set_option linter.unusedVariables false
set_option linter.unusedSectionVars false
def greatAll2 : Bool := (List.range 9).all fun b => (List.range 4).all fun p => (List.range 12).any fun d => spec_pwGreatest.f 90 ((b : Int) + 2) ((p : Int) + 1) == some ((d * (b + 1) ^ (p + 1) : Nat) : Int) && impl_greatest.f 90 ((b : Int) + 2) ((p : Int) + 1) == some ((d * (b + 1) ^ (p + 1) : Nat) : Int) && decide ((d + 1) * (b + 1) ^ (p + 1) < (b + 2) ^ d) && decide (d * (b + 1) ^ (p + 1) ≤ 100000 ∧ 1 ≤ d)
theorem great_all2 : greatAll2 = true := by decide +kernel
theorem great_at2 {b p : Nat} (hb : 2 ≤ b) (hb2 : b ≤ 10) (hp : 1 ≤ p) (hp2 : p ≤ 4) : ∃ d : Nat, (d + 1) * (b - 1) ^ p < b ^ d ∧ (d * (b - 1) ^ p ≤ 100000 ∧ 1 ≤ d) ∧ ∀ k, 90 ≤ k → spec_pwGreatest.f k (b : Int) (p : Int) = some ((d * (b - 1) ^ p : Nat) : Int) ∧ impl_greatest.f k (b : Int) (p : Int) = some ((d * (b - 1) ^ p : Nat) : Int) := by
  have h := great_all2
  unfold greatAll2 at h
  rw [List.all_eq_true] at h
  have h1 := h (b - 2) (List.mem_range.2 (by omega))
  rw [List.all_eq_true] at h1
  have h2 := h1 (p - 1) (List.mem_range.2 (by omega))
  rw [List.any_eq_true] at h2
  obtain ⟨d, -, h3⟩ := h2
  simp only [Bool.and_eq_true, beq_iff_eq, decide_eq_true_eq] at h3
  rw [show b - 2 + 1 = b - 1 from by omega, show p - 1 + 1 = p from by omega, show b - 2 + 2 = b from by omega, show ((b - 2 : Nat) : Int) + 2 = (b : Int) from by omega, show ((p - 1 : Nat) : Int) + 1 = (p : Int) from by omega] at h3
  obtain ⟨⟨⟨h4, h5⟩, h6⟩, h7⟩ := h3
  exact ⟨d, h6, h7, fun k hk => ⟨up_to (spec_pwGreatest.mono _ _) h4 k hk, up_to (impl_greatest.mono _ _) h5 k hk⟩⟩
structure Base (c q M : Nat) (R : List (List Int)) : Prop where
  hc : 2 ≤ c ∧ c ≤ 10
  hq : 1 ≤ q ∧ q ≤ 4
  hM : 1 ≤ M ∧ M ≤ 100000
  cl : Closed (stp c q) M
  falls : ∀ x, (M : Int) < x → stp c q x < x
  told : Told (stp c q) M R
theorem Cycles_told (b p : Int) : ∃ (K : Nat) (r : List (List Int)) (ok : Bool), (r.length ≤ 1000000 ∧ (∀ c ∈ r, c.length ≤ 1000000)) ∧ (ok = true → ∃ c q M : Nat, b = c ∧ p = q ∧ Base c q M r) ∧ ∀ k, K ≤ k → spec_CyclesOfPowers.f k b p = some (r, ok) ∧ impl_CyclesOfPowers.f k b p = some (r, ok) := by
  by_cases hbp : (2 ≤ b ∧ b ≤ 10) ∧ 1 ≤ p ∧ p ≤ 4
  · obtain ⟨hb, hp⟩ := hbp
    obtain ⟨c, rfl⟩ := Int.eq_ofNat_of_zero_le (show 0 ≤ b by omega)
    obtain ⟨q, rfl⟩ := Int.eq_ofNat_of_zero_le (show 0 ≤ p by omega)
    obtain ⟨d, hd, ⟨hM, hd1⟩, hg⟩ := great_at2 (b := c) (p := q) (by omega) (by omega) (by omega) (by omega)
    obtain ⟨M, hMe⟩ : ∃ M, M = d * (c - 1) ^ q := ⟨_, rfl⟩
    have hpos : 1 ≤ (c - 1) ^ q := Nat.one_le_pow _ _ (by omega)
    have hd0 : d * (c - 1) ^ q < c ^ d := Nat.lt_of_le_of_lt (Nat.mul_le_mul_right _ (Nat.le_succ d)) hd
    have hf : Closed (stp c q) M := fun x h0 h1 => by
      rw [hMe] at h1 ⊢
      exact stp_closed (by omega) hd0 h0 h1
    have hfall : ∀ x, (M : Int) < x → stp c q x < x := fun x hx => stp_falls (by omega) hd (by rw [← hMe]; exact hx)
    have hM1 : 1 ≤ M := by rw [hMe]; exact Nat.mul_le_mul hd1 hpos
    rw [← hMe] at hM hg
    obtain ⟨K, R, hT, hK⟩ := cycles_main2 (by omega) (by omega) (by omega) (by omega) hM hf (nextL_length c q (M + 1)) (fun x h0 h1 => nextL_rd h0 h1) (M + 1) 0 (by omega) (List.replicate (M + 1) 0) [] [] ⟨⟨by simp, fun x _ _ => by rw [rd_zeros]; omega, List.Perm.refl _, List.Pairwise.nil, by simp, by simp⟩, by simp, fun y _ _ h => absurd (rd_zeros y) h, fun y h0 h1 => by omega⟩
    have e1 : wrap64 ((M : Int) + 1) = ((M + 1 : Nat) : Int) := by unfold wrap64; omega
    refine ⟨K + 3000000 + M, R, true, ⟨by have := hT.len; omega, fun c hc => by have := hT.short c hc; omega⟩, fun _ => ⟨c, q, M, rfl, rfl, ⟨by omega, by omega⟩, ⟨by omega, by omega⟩, ⟨hM1, hM⟩, hf, hfall, hT⟩, fun k hk => ?_⟩
    obtain ⟨k, rfl⟩ : ∃ q, k = q + 1 := ⟨k - 1, by omega⟩
    have hgk := hg k (by omega)
    constructor
    · rw [spec_CyclesOfPowers.f, l1In_eq, decide_eq_true (by omega), Option.bind_some, if_pos rfl, pwPower_eq, decide_eq_true (by omega), Option.bind_some, spec_CyclesOfPowers.j0, if_neg (by decide), hgk.1, Option.bind_some, e1, if_pos (by omega), if_pos (by omega), Int.toNat_natCast]
      exact (hK k (by omega)).1
    · rw [impl_CyclesOfPowers.f, impl_isSmallBase.f, in_eq, decide_eq_true (by omega), Option.bind_some, Option.bind_some, if_pos rfl, in_eq, decide_eq_true (by omega), Option.bind_some, impl_CyclesOfPowers.j0, if_neg (by decide), hgk.2, Option.bind_some, e1]
      refine next_loop (by omega) (by omega) (by omega) (by omega) hM (X := some (R, true)) (K := K + 1) (fun k hk => ?_) (M + 1) 0 (by omega) k (by omega)
      obtain ⟨k, rfl⟩ : ∃ q, k = q + 1 := ⟨k - 1, by omega⟩
      rw [impl_CyclesOfPowers.l0, if_neg (by omega), nextL_length, if_pos (by omega), if_pos (by omega), Int.toNat_natCast]
      exact (hK k (by omega)).2
  · refine ⟨1, [], false, ⟨by simp, by simp⟩, by simp, fun k hk => ?_⟩
    obtain ⟨k, rfl⟩ : ∃ q, k = q + 1 := ⟨k - 1, by omega⟩
    by_cases hb : 2 ≤ b ∧ b ≤ 10
    · have hp : ¬ (1 ≤ p ∧ p ≤ 4) := fun h => hbp ⟨hb, h⟩
      rw [spec_CyclesOfPowers.f, l1In_eq, decide_eq_true (by omega), Option.bind_some, if_pos rfl, pwPower_eq, decide_eq_false (by omega), Option.bind_some, spec_CyclesOfPowers.j0, impl_CyclesOfPowers.f, impl_isSmallBase.f, in_eq, decide_eq_true (by omega), Option.bind_some, Option.bind_some, if_pos rfl, in_eq, decide_eq_false (by omega), Option.bind_some, impl_CyclesOfPowers.j0]
      exact ⟨rfl, rfl⟩
    · constructor
      · rw [spec_CyclesOfPowers.f, l1In_eq, decide_eq_false (by omega), Option.bind_some, if_neg (by decide), spec_CyclesOfPowers.j0, if_pos rfl]
      · rw [impl_CyclesOfPowers.f, impl_isSmallBase.f, in_eq, decide_eq_false (by omega), Option.bind_some, Option.bind_some, if_neg (by decide), impl_CyclesOfPowers.j0, if_pos rfl]
theorem rd_at {l : List Int} {i : Nat} (h : i < l.length) : rd l (i : Int) = l[i] := by
  simp [rd, List.getD_eq_getElem?_getD, h]
theorem rSame_loop {l : List Int} (hl : l.length ≤ 1000000) : ∀ (d i k : Nat), i + d = l.length → d < k → laws_rSame.l0 k l l (l.length : Int) (i : Int) = some true
  | 0, i, k, h, hk => by
    obtain ⟨k, rfl⟩ : ∃ q, k = q + 1 := ⟨k - 1, by omega⟩
    rw [laws_rSame.l0, if_neg (by omega)]
  | d + 1, i, k, h, hk => by
    obtain ⟨k, rfl⟩ : ∃ q, k = q + 1 := ⟨k - 1, by omega⟩
    rw [laws_rSame.l0, if_pos (by omega), if_pos (by omega), if_pos (by omega), if_pos (by omega), if_pos rfl, wrap_small (by omega)]
    exact rSame_loop hl d (i + 1) k (by omega) (by omega)
theorem rRows_loop {R : List (List Int)} (hR : R.length ≤ 1000000) (hs : ∀ c ∈ R, c.length ≤ 1000000) : ∀ (d i k : Nat), i + d = R.length → d + 1000001 < k → laws_rRows.l0 k R R (R.length : Int) (i : Int) = some true
  | 0, i, k, h, hk => by
    obtain ⟨k, rfl⟩ : ∃ q, k = q + 1 := ⟨k - 1, by omega⟩
    rw [laws_rRows.l0, if_neg (by omega)]
  | d + 1, i, k, h, hk => by
    obtain ⟨k, rfl⟩ : ∃ q, k = q + 1 := ⟨k - 1, by omega⟩
    have h1 := hs R[i] (List.getElem_mem (by omega))
    rw [laws_rRows.l0, if_pos (by omega), if_pos (by omega), if_pos (by omega), if_pos (by omega), rdL_at (by omega), laws_rSame.f, if_pos rfl, show (0 : Int) = ((0 : Nat) : Int) from rfl, rSame_loop h1 R[i].length 0 k (by omega) (by omega), Option.bind_some, if_pos rfl, wrap_small (by omega)]
    exact rRows_loop hR hs d (i + 1) k (by omega) (by omega)
theorem rRows_same {R : List (List Int)} (hR : R.length ≤ 1000000) (hs : ∀ c ∈ R, c.length ≤ 1000000) {k : Nat} (hk : 2000002 < k) : laws_rRows.f k R R = some true := by
  rw [laws_rRows.f, if_pos rfl]
  exact rRows_loop hR hs R.length 0 k (by omega) (by omega)
theorem rHas_loop {l : List Int} (hl : l.length ≤ 1000000) {x : Int} : ∀ (d i k : Nat), i + d = l.length → d < k → x ∈ l.drop i → laws_rHas.l0 k x l (l.length : Int) (i : Int) = some true
  | 0, i, k, h, hk, hx => by
    rw [List.drop_eq_nil_of_le (by omega)] at hx
    simp at hx
  | d + 1, i, k, h, hk, hx => by
    obtain ⟨k, rfl⟩ : ∃ q, k = q + 1 := ⟨k - 1, by omega⟩
    rw [laws_rHas.l0, if_pos (by omega), if_pos (by omega), if_pos (by omega), rd_at (show i < l.length by omega)]
    by_cases hc : l[i] = x
    · rw [if_pos hc]
    · rw [if_neg hc, wrap_small (by omega)]
      rw [List.drop_eq_getElem_cons (by omega)] at hx
      rcases List.mem_cons.1 hx with h1 | h1
      · exact absurd h1.symm hc
      · exact rHas_loop hl d (i + 1) k (by omega) (by omega) h1
theorem rHas_in {l : List Int} (hl : l.length ≤ 1000000) {x : Int} (hx : x ∈ l) {k : Nat} (hk : 1000000 < k) : laws_rHas.f k l x = some true := by
  rw [laws_rHas.f]
  exact rHas_loop hl l.length 0 k (by omega) (by omega) (by rw [List.drop_zero]; exact hx)
theorem rRising_loop {l : List Int} (hl : l.length ≤ 1000000) (hs : l.Pairwise (· < ·)) : ∀ (d i k : Nat), i + d = l.length → d < k → 1 ≤ i → laws_rRising.l0 k l (i : Int) = some true
  | 0, i, k, h, hk, h1 => by
    obtain ⟨k, rfl⟩ : ∃ q, k = q + 1 := ⟨k - 1, by omega⟩
    rw [laws_rRising.l0, if_neg (by omega)]
  | d + 1, i, k, h, hk, h1 => by
    obtain ⟨k, rfl⟩ : ∃ q, k = q + 1 := ⟨k - 1, by omega⟩
    obtain ⟨j, rfl⟩ : ∃ j, i = j + 1 := ⟨i - 1, by omega⟩
    have hw : wrap64 (((j + 1 : Nat) : Int) - 1) = (j : Int) := by unfold wrap64; omega
    have h2 := List.pairwise_iff_getElem.1 hs j (j + 1) (by omega) (by omega) (by omega)
    rw [laws_rRising.l0, if_pos (by omega), hw, if_pos (by omega), if_pos (by omega), if_pos (by omega), rd_at (show j < l.length by omega), rd_at (show j + 1 < l.length by omega), if_neg (by omega), wrap_small (by omega)]
    exact rRising_loop hl hs d (j + 2) k (by omega) (by omega) (by omega)
theorem rRising_of {l : List Int} (hl : l.length ≤ 1000000) (hs : l.Pairwise (· < ·)) {k : Nat} (hk : 1000000 < k) : laws_rRising.f k l = some true := by
  rw [laws_rRising.f]
  by_cases h : l.length = 0
  · obtain ⟨k, rfl⟩ : ∃ q, k = q + 1 := ⟨k - 1, by omega⟩
    rw [laws_rRising.l0, if_neg (by omega)]
  · exact rRising_loop hl hs (l.length - 1) 1 k (by omega) (by omega) (by omega)
theorem PowerSum_at {n c q : Nat} (hn : n ≤ 1000000000000) (hc : 2 ≤ c ∧ c ≤ 16) (hq : 1 ≤ q ∧ q ≤ 8) {k : Nat} (hk : n + 201 ≤ k) : impl_PowerSum.f k (n : Int) (c : Int) (q : Int) = some (pws c q n, true) := by
  have h : asked (n : Int) (c : Int) = true := by unfold asked; exact decide_eq_true (by omega)
  rw [impl_PowerSum.f, isNumber_eq, h, Option.bind_some, if_pos rfl, isPower_eq, decide_eq_true (by omega), Option.bind_some, if_pos rfl, powerSum_eq hc.1 hc.2 (show 1 ≤ q by omega) (show q ≤ 8 by omega) (show n ≤ 9223372036854775807 by omega) k (by omega), Option.bind_some]
theorem PowerSum_stp {c q : Nat} {x : Int} (h0 : 0 ≤ x) (hx : x ≤ 1000000000000) (hc : 2 ≤ c ∧ c ≤ 16) (hq : 1 ≤ q ∧ q ≤ 8) {k : Nat} (hk : x.toNat + 201 ≤ k) : impl_PowerSum.f k x (c : Int) (q : Int) = some (stp c q x, true) := by
  obtain ⟨n, rfl⟩ := Int.eq_ofNat_of_zero_le h0
  rw [Int.toNat_natCast] at hk
  rw [PowerSum_at (by omega) hc hq hk, stp, Int.toNat_natCast]
section
variable {c q M : Nat} {R : List (List Int)} (hB : Base c q M R)
include hB
theorem c1_loop {e : Int} {m : Nat} (hr : Rho (stp c q) e m 0) (he : IsMin e (orbit (stp c q) e m)) (hin : ∀ y ∈ orbit (stp c q) e m, 0 ≤ y ∧ y ≤ (M : Int)) (hm : m ≤ 1000000) : ∀ (d i k : Nat), i + d = m → d + 200000 < k → laws_FnCyclesOfPowers.c1 k (c : Int) (q : Int) (orbit (stp c q) e m) (i : Int) = some true := by
  have hl := orbit_length (stp c q) e m
  have hpos := hr.lt
  have hM := hB.hM
  have hc := hB.hc
  have hq := hB.hq
  have hrd : ∀ i, i < m → rd (orbit (stp c q) e m) ((i : Nat) : Int) = it (stp c q) e i := fun i hi => by
    rw [rd_at (show i < (orbit (stp c q) e m).length by omega), orbit_get]
  intro d
  induction d with
  | zero =>
    intro i k h hk
    obtain ⟨k, rfl⟩ : ∃ q, k = q + 1 := ⟨k - 1, by omega⟩
    rw [laws_FnCyclesOfPowers.c1, if_neg (by omega)]
  | succ d ih =>
    intro i k h hk
    obtain ⟨k, rfl⟩ : ∃ q, k = q + 1 := ⟨k - 1, by omega⟩
    have h1 : rd (orbit (stp c q) e m) 0 = e := by
      have := hrd 0 (by omega)
      exact this
    have h2 : it (stp c q) e i ∈ orbit (stp c q) e m := mem_orbit.2 ⟨i, by omega, rfl⟩
    have h3 := he.le _ h2
    have h4 := hin _ h2
    have h5 : ∃ j : Nat, j < m ∧ Int.tmod (wrap64 ((i : Int) + 1)) ((orbit (stp c q) e m).length : Int) = (j : Int) ∧ it (stp c q) e j = it (stp c q) e (i + 1) := by
      rw [hl, wrap_small (by omega), tmod_nat]
      by_cases hi : i + 1 < m
      · exact ⟨i + 1, hi, by rw [Nat.mod_eq_of_lt hi], rfl⟩
      · have : i + 1 = m := by omega
        refine ⟨0, hpos, by rw [this, Nat.mod_self], ?_⟩
        rw [this, hr.back]
    obtain ⟨j, hj, e5, e6⟩ := h5
    have g1 : (i : Int) < ((orbit (stp c q) e m).length : Int) := Int.ofNat_lt.2 (by rw [hl]; clear e5; omega)
    have g2 : (j : Int) < ((orbit (stp c q) e m).length : Int) := Int.ofNat_lt.2 (by rw [hl]; exact hj)
    have g3 : rd (orbit (stp c q) e m) (i : Int) = it (stp c q) e i := hrd i (by clear e5; omega)
    have g4 : ¬ rd (orbit (stp c q) e m) (i : Int) < rd (orbit (stp c q) e m) 0 := by
      rw [g3, h1]; exact Int.not_lt.2 h3
    have g5 : impl_PowerSum.f k (it (stp c q) e i) (c : Int) (q : Int) = some (stp c q (it (stp c q) e i), true) := by
      clear e5
      exact PowerSum_stp h4.1 (by omega) ⟨by omega, by omega⟩ ⟨by omega, by omega⟩ (by omega)
    have g6 : wrap64 ((i : Int) + 1) = ((i + 1 : Nat) : Int) := by clear e5; exact wrap_small (by omega)
    have g7 := ih (i + 1) k (by clear e5; omega) (by clear e5; omega)
    rw [laws_FnCyclesOfPowers.c1, if_pos g1, e5, if_pos ⟨Int.natCast_nonneg _, Int.natCast_nonneg _, g2, g4⟩, g3, g5, Option.bind_some, if_pos ⟨rfl, by rw [hrd j hj, e6]; rfl⟩, g6]
    exact g7
theorem c0_loop (h0 : stp c q 0 = 0) : ∀ (suf pre : List (List Int)) (k : Nat), R = pre ++ suf → suf.length + 1300000 < k → laws_FnCyclesOfPowers.c0 k (c : Int) (q : Int) R (heads pre) (pre.length : Int) = some (heads R) := by
  have hM := hB.hM
  have hlen := hB.told.len
  intro suf
  induction suf with
  | nil =>
    intro pre k h hk
    obtain ⟨k, rfl⟩ : ∃ q, k = q + 1 := ⟨k - 1, by simp at hk; omega⟩
    rw [List.append_nil] at h
    subst h
    rw [laws_FnCyclesOfPowers.c0, if_neg (by omega)]
  | cons x suf ih =>
    intro pre k h hk
    rw [List.length_cons] at hk
    obtain ⟨k, rfl⟩ : ∃ q, k = q + 1 := ⟨k - 1, by omega⟩
    have hRl : R.length = pre.length + (suf.length + 1) := by rw [h]; simp
    have hx : x ∈ R := by rw [h]; simp
    have hrd : rd_L2 R (pre.length : Int) = x := by rw [h]; exact rdL_mid pre suf x
    have hhl : (heads pre).length = pre.length := by simp [heads]
    have hsh := hB.told.short x hx
    obtain ⟨e, m, hr, he, hxe⟩ := hB.told.cyc x hx
    have hpos := hr.lt
    have hxl : x.length = m := by rw [hxe, orbit_length]
    have hfirst : ((pre.length : Int) = 0 → rd x 0 = 0 ∧ (x.length : Int) = 1) := fun hp => by
      obtain ⟨T, hT⟩ := told_first hB.told h0
      have : pre = [] := List.length_eq_zero_iff.1 (by omega)
      rw [this, List.nil_append, hT] at h
      injection h with h1 h2
      rw [← h1]
      exact ⟨rfl, rfl⟩
    rw [laws_FnCyclesOfPowers.c0, if_pos (by omega), hrd, if_pos ⟨by omega, by omega, by omega, hfirst⟩]
    have hc1 : laws_FnCyclesOfPowers.c1 k (c : Int) (q : Int) x 0 = some true := by
      have hi : ∀ y ∈ orbit (stp c q) e m, 0 ≤ y ∧ y ≤ (M : Int) := fun y hy => hB.told.range x hx y (by rw [hxe]; exact hy)
      have := c1_loop hB hr he hi (by omega) m 0 k (by omega) (by omega)
      rw [← hxe] at this
      exact this
    rw [hc1, Option.bind_some, wrap_small (by omega)]
    have e1 : heads pre ++ [rd x 0] = heads (pre ++ [x]) := by simp [heads]
    have e2 : ((pre.length + 1 : Nat) : Int) = ((pre ++ [x]).length : Int) := by simp
    rw [e1, e2]
    exact ih (pre ++ [x]) k (by rw [h]; simp) (by omega)
theorem num_range {n0 n1 i : Nat} (h : n0 + n1 ≤ 1048576) (hi : i ≤ 20) : 0 ≤ laws_FnCyclesOfPowers.num n0 n1 (i : Int) ∧ laws_FnCyclesOfPowers.num n0 n1 (i : Int) < 1000000 := by
  unfold laws_FnCyclesOfPowers.num
  have h1 : i * i ≤ 400 := by
    have := Nat.mul_le_mul hi hi
    omega
  have h2 : i * i * i ≤ 8000 := by
    have := Nat.mul_le_mul h1 hi
    omega
  have w1 : wrap64 ((i : Int) * (i : Int)) = ((i * i : Nat) : Int) := by rw [← Int.natCast_mul]; unfold wrap64; omega
  have w2 : wrap64 (((i * i : Nat) : Int) * (i : Int)) = ((i * i * i : Nat) : Int) := by rw [← Int.natCast_mul]; unfold wrap64; omega
  rw [w1, w2]
  obtain ⟨a, ha⟩ : ∃ a, a = i * i * i := ⟨_, rfl⟩
  rw [← ha] at h2 ⊢
  clear ha w1 w2 h1
  have w3 : wrap64 ((a : Int) * 7919) = ((a * 7919 : Nat) : Int) := by unfold wrap64; omega
  have w4 : wrap64 (104729 * (n0 : Int)) = ((104729 * n0 : Nat) : Int) := by unfold wrap64; omega
  have w5 : wrap64 (31 * (n1 : Int)) = ((31 * n1 : Nat) : Int) := by unfold wrap64; omega
  rw [w3, w4, w5]
  obtain ⟨x, hx⟩ : ∃ x, x = a * 7919 := ⟨_, rfl⟩
  obtain ⟨y, hy⟩ : ∃ y, y = 104729 * n0 := ⟨_, rfl⟩
  obtain ⟨z, hz⟩ : ∃ z, z = 31 * n1 := ⟨_, rfl⟩
  have hb : x ≤ 1000000000 ∧ y ≤ 1000000000000 ∧ z ≤ 1000000000 := by omega
  rw [← hx, ← hy, ← hz]
  clear w3 w4 w5 hx hy hz
  have w6 : wrap64 ((x : Int) + (y : Int)) = ((x + y : Nat) : Int) := by unfold wrap64; omega
  have w7 : wrap64 (((x + y : Nat) : Int) + (z : Int)) = ((x + y + z : Nat) : Int) := by unfold wrap64; omega
  rw [w6, w7, show (1000000 : Int) = ((1000000 : Nat) : Int) from rfl, tmod_nat]
  have := Nat.mod_lt (x + y + z) (show 0 < 1000000 by omega)
  omega
theorem ends_at {n : Int} (h0 : 0 ≤ n) (h1 : n < 1000000) : ∃ (K : Nat) (e : Int), e ∈ heads R ∧ ∀ k, K ≤ k → impl_EndsIn.f k n (c : Int) (q : Int) = some (e, true) := by
  have hc := hB.hc
  have hq := hB.hq
  obtain ⟨x, rfl⟩ := Int.eq_ofNat_of_zero_le h0
  obtain ⟨K, m, a, e, hm, hr, he, hk⟩ := ends_both (b := c) (p := q) (n := x) (by omega) (by omega) (by omega) (by omega) (by omega)
  have hl := hr.lt
  refine ⟨K, e, ?_, fun k hk2 => ?_⟩
  · have hnn : ∀ y, 0 ≤ y → 0 ≤ stp c q y := fun y hy => by
      unfold stp pws
      exact (psum_cap (b := c) (by omega) _ (lsd_range (by omega) _)).1
    rw [orbit_drop] at he
    have hr2 : Rho (stp c q) (it (stp c q) (x : Int) a) (m - a) 0 := ⟨by omega, by rw [← it_add, show a + (m - a) = m from by omega, hr.back]; rfl, fun i j hi hj e => by
      rw [← it_add, ← it_add] at e
      have := hr.inj _ _ (by omega) (by omega) e
      omega⟩
    have hy0 := it_nn hB.cl hB.falls hnn h0 a
    exact told_min hB.told hy0 (cyc_low hB.cl hB.falls hnn hy0 (m := m - a) (by omega) (by rw [hr2.back]; rfl)) hr2 he
  · have hcy : cycledB (x : Int) (c : Int) (q : Int) = true := by
      unfold cycledB asked
      rw [decide_eq_true (by omega), decide_eq_true (by omega)]
      rfl
    rw [impl_EndsIn.f, isCycled_eq, hcy, Option.bind_some, if_pos rfl, (hk k hk2).2.1, Option.bind_some, if_pos (by omega), if_pos (by rw [orbit_length]; omega), Int.toNat_natCast, (hk k hk2).2.2, Option.bind_some]
theorem c2_loop {n0 n1 : Nat} (h : n0 + n1 ≤ 1048576) : ∀ (d i : Nat), i + d = 20 → ∃ K, ∀ k, K ≤ k → laws_FnCyclesOfPowers.c2 k (c : Int) (q : Int) (heads R) n0 n1 (i : Int) = some true := by
  have hM := hB.hM
  have hlen := hB.told.len
  have hhl : (heads R).length = R.length := by simp [heads]
  intro d
  induction d with
  | zero =>
    intro i hi
    refine ⟨1, fun k hk => ?_⟩
    obtain ⟨k, rfl⟩ : ∃ q, k = q + 1 := ⟨k - 1, by omega⟩
    rw [laws_FnCyclesOfPowers.c2, if_neg (by omega)]
  | succ d ih =>
    intro i hi
    obtain ⟨K, hK⟩ := ih (i + 1) (by omega)
    have hn := num_range hB h (show i ≤ 20 by omega)
    obtain ⟨K2, e, he, hK2⟩ := ends_at hB hn.1 hn.2
    refine ⟨K + K2 + 1000002, fun k hk => ?_⟩
    obtain ⟨k, rfl⟩ : ∃ q, k = q + 1 := ⟨k - 1, by omega⟩
    rw [laws_FnCyclesOfPowers.c2, if_pos (by omega), hK2 k (by omega), Option.bind_some, rHas_in (by omega) he (by omega), Option.bind_some, if_pos ⟨rfl, rfl⟩, wrap_small (by omega)]
    exact hK k (by omega)
theorem p1_true {n0 n1 : Nat} (h : n0 + n1 ≤ 1048576) : ∃ K, ∀ k, K ≤ k → laws_FnCyclesOfPowers.p1 k (c : Int) (q : Int) R n0 n1 = some true := by
  have hM := hB.hM
  have hc := hB.hc
  have hq := hB.hq
  have hlen := hB.told.len
  have hhl : (heads R).length = R.length := by simp [heads]
  have hz : stp c q 0 = 0 := stp_fix hc.1 (.inl rfl) hq.1
  have ho : stp c q 1 = 1 := stp_fix hc.1 (.inr rfl) hq.1
  have h1 : (1 : Int) ∈ heads R := List.mem_map.2 ⟨[1], told_fix hB.told (by omega) (by omega) ho, rfl⟩
  obtain ⟨K, hK⟩ := c2_loop hB h 20 0 (by omega)
  refine ⟨K + 3000000, fun k hk => ?_⟩
  have h2 := c0_loop hB hz R [] k rfl (by omega)
  rw [laws_FnCyclesOfPowers.p1, show ([] : List Int) = heads [] from rfl, show (0 : Int) = (([] : List (List Int)).length : Int) from rfl, h2, Option.bind_some, rRising_of (by omega) (heads_rise hB.told) (by omega), Option.bind_some, rHas_in (by omega) h1 (by omega), Option.bind_some, if_pos ⟨rfl, rfl⟩]
  exact hK k (by omega)
end
theorem c3_loop {c q : Nat} {s v : Int} (hc : 2 ≤ c ∧ c ≤ 16) (hq : 1 ≤ q ∧ q ≤ 8) (hmin : ∀ m : Nat, (m : Int) < v → pws c q m ≠ s) : ∀ (d i k : Nat), i + d = 300 → d + 600 < k → laws_FnCyclesOfPowers.c3 k s (c : Int) (q : Int) v (i : Int) = some true
  | 0, i, k, h, hk => by
    obtain ⟨k, rfl⟩ : ∃ q, k = q + 1 := ⟨k - 1, by omega⟩
    rw [laws_FnCyclesOfPowers.c3, if_neg (by omega)]
  | d + 1, i, k, h, hk => by
    obtain ⟨k, rfl⟩ : ∃ q, k = q + 1 := ⟨k - 1, by omega⟩
    rw [laws_FnCyclesOfPowers.c3]
    by_cases hi : (i : Int) < v
    · rw [if_pos ⟨hi, by omega⟩, PowerSum_at (by omega) hc hq (by omega), Option.bind_some, if_pos ⟨rfl, hmin i hi⟩, wrap_small (by omega)]
      exact c3_loop hc hq hmin d (i + 1) k (by omega) (by omega)
    · rw [if_neg (fun h => hi h.1)]
theorem p2_at (s b p : Int) : ∃ (K : Nat) (v : Int × Bool), ∀ k, K ≤ k → spec_LeastWithSum.f k s b p = some v ∧ impl_LeastWithSum.f k s b p = some v ∧
    (if v.2 = true then ((impl_PowerSum.f k v.1 b p).bind fun o => if o.2 = true ∧ o.1 = s then laws_FnCyclesOfPowers.c3 k s b p v.1 0 else none) else some true) = some true := by
  obtain ⟨K, v, hK⟩ := LeastWithSum_both s b p
  by_cases hin : (0 ≤ s ∧ s ≤ 2000) ∧ (2 ≤ b ∧ b ≤ 16) ∧ (1 ≤ p ∧ p ≤ 8)
  · obtain ⟨hs, hb, hp⟩ := hin
    obtain ⟨n, rfl⟩ := Int.eq_ofNat_of_zero_le hs.1
    obtain ⟨c, rfl⟩ := Int.eq_ofNat_of_zero_le (show 0 ≤ b by omega)
    obtain ⟨q, rfl⟩ := Int.eq_ofNat_of_zero_le (show 0 ≤ p by omega)
    have hb' : 2 ≤ c ∧ c ≤ 16 := by omega
    have hp' : 1 ≤ q ∧ q ≤ 8 := by omega
    obtain ⟨K2, v2, h2, h3⟩ := least_min (n := n) (by omega) hb' hp'
    have hv : v2 = v := by
      have a := (hK (K + K2) (by omega)).2
      rw [h2 (K + K2) (by omega)] at a
      exact Option.some.inj a
    subst hv
    obtain ⟨x, ok⟩ := v2
    cases ok with
    | false => exact ⟨K, _, fun k hk => ⟨(hK k hk).1, (hK k hk).2, by rw [if_neg (by simp)]⟩⟩
    | true =>
      obtain ⟨h4, h5, h6, h7⟩ := h3 rfl
      obtain ⟨y, hy⟩ := Int.eq_ofNat_of_zero_le h4
      have hy' : x = (y : Int) := hy
      subst hy'
      refine ⟨K + y + 2000, _, fun k hk => ⟨(hK k (by omega)).1, (hK k (by omega)).2, ?_⟩⟩
      have h6' : pws c q y = (n : Int) := by rw [← h6]; rfl
      have h5' : (y : Int) ≤ 1000000000000 := h5
      rw [if_pos rfl]
      show (impl_PowerSum.f k (y : Int) (c : Int) (q : Int)).bind _ = _
      rw [PowerSum_at (by omega) hb' hp' (by omega), Option.bind_some, if_pos ⟨rfl, h6'⟩]
      exact c3_loop hb' hp' h7 300 0 k (by omega) (by omega)
  · have hv : v = (0, false) := by
      have a := (hK (K + 1) (by omega)).2
      have b2 : impl_LeastWithSum.f (K + 1) s b p = some (0, false) := by
        by_cases hs : 0 ≤ s ∧ s ≤ 2000
        · by_cases hb : 2 ≤ b ∧ b ≤ 16
          · have hp : ¬ (1 ≤ p ∧ p ≤ 8) := fun h => hin ⟨hs, hb, h⟩
            simp [impl_LeastWithSum.f, in_eq, isBase_eq, isPower_eq, hs, hb, hp, impl_LeastWithSum.j0]
          · simp [impl_LeastWithSum.f, in_eq, isBase_eq, hs, hb, impl_LeastWithSum.j0]
        · simp [impl_LeastWithSum.f, in_eq, hs, impl_LeastWithSum.j0]
      rw [b2] at a
      exact (Option.some.inj a).symm
    subst hv
    exact ⟨K, _, fun k hk => ⟨(hK k hk).1, (hK k hk).2, by rw [if_neg (by decide)]⟩⟩
theorem byt_of {l : List Int} (h : ∀ x ∈ l, (Lit.int .u8 x).wf = true) : Byt l := fun x hx => by
  simpa [Lit.wf, IntKind.min, IntKind.max, IntKind.signed, IntKind.bits] using h x hx
theorem p2_true {l : List Int} (h : Byt l) : ∃ K, ∀ k, K ≤ k → laws_FnCyclesOfPowers.p2 k l = some true := by
  obtain ⟨s, b, p, hd⟩ := DrawLeastWithSum_some h
  obtain ⟨K, v, hK⟩ := p2_at s b p
  refine ⟨K, fun k hk => ?_⟩
  obtain ⟨h1, h2, h3⟩ := hK k hk
  rw [laws_FnCyclesOfPowers.p2, hd, Option.bind_some]
  show (impl_LeastWithSum.f k s b p).bind _ = _
  rw [h2, Option.bind_some, h1, Option.bind_some, if_pos ⟨rfl, rfl⟩]
  exact h3
theorem FnCyclesOfPowers_law : laws_FnCyclesOfPowers.Pure := by
  intro l0 l1 _ hl0 hw0 _ hl1 hw1
  have hbig : laws_big.f l0 l1 = some (decide (l0.length + l1.length > 1048576)) := by
    unfold laws_big.f
    by_cases h1 : (l0.length : Int) > 1048576
    · rw [if_pos h1, decide_eq_true (by omega)]
    · rw [if_neg h1]
      have : wrap64 (1048576 - (l0.length : Int)) = 1048576 - (l0.length : Int) := by unfold wrap64; omega
      rw [this]
      congr 1
      exact decide_eq_decide.2 (by omega)
  by_cases hb : l0.length + l1.length > 1048576
  · refine ⟨0, ?_⟩
    rw [laws_FnCyclesOfPowers.f, hbig, decide_eq_true hb, Option.bind_some, if_pos rfl]
  · obtain ⟨b, p, hd⟩ := DrawCyclesOfPowers_some (byt_of hw0)
    obtain ⟨K1, R, ok, ⟨hR1, hR2⟩, htold, hK1⟩ := Cycles_told b p
    obtain ⟨K2, hK2⟩ := p2_true (byt_of hw1)
    have hp1 : ∃ K, ∀ k, K ≤ k → ∃ z, (if ok = true then laws_FnCyclesOfPowers.p1 k b p R l0.length l1.length else some true) = some z := by
      cases ok with
      | false => exact ⟨0, fun k _ => ⟨true, by rw [if_neg (by decide)]⟩⟩
      | true =>
        obtain ⟨c, q, M, rfl, rfl, hB⟩ := htold rfl
        obtain ⟨K, hK⟩ := p1_true hB (n0 := l0.length) (n1 := l1.length) (by omega)
        exact ⟨K, fun k hk => ⟨true, by rw [if_pos rfl]; exact hK k hk⟩⟩
    obtain ⟨K3, hK3⟩ := hp1
    refine ⟨K1 + K2 + K3 + 2000003, ?_⟩
    obtain ⟨z, hz⟩ := hK3 (K1 + K2 + K3 + 2000003) (by omega)
    have h1 := hK1 (K1 + K2 + K3 + 2000003) (by omega)
    rw [laws_FnCyclesOfPowers.f, hbig, decide_eq_false hb, Option.bind_some, if_neg (by decide), hd, Option.bind_some]
    show (impl_CyclesOfPowers.f (K1 + K2 + K3 + 2000003) b p).bind _ = _
    rw [h1.2, Option.bind_some, h1.1, Option.bind_some, rRows_same hR1 hR2 (by omega), Option.bind_some, if_pos ⟨rfl, rfl⟩]
    show (if ok = true then laws_FnCyclesOfPowers.p1 (K1 + K2 + K3 + 2000003) b p R l0.length l1.length else some true).bind _ = _
    rw [hz, Option.bind_some]
    exact hK2 _ (by omega)
end Go.Proofs.YtehhkkbejmhcfaaC
end
