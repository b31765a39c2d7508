/-
  The plain law of ParseNumber over the printed functions. No conditions.
-/
import Derived.Test.YtndbfkgcmckjlaaLD3
import Derived.Test.YtndbfkgcmckjlaaCLs
namespace Go.Proofs.YtndbfkgcmckjlaaC
open Go.RowKit Go.Proofs.YtndbfkgcmckjlaaW.PrintWords Go.Proofs.YtndbfkgcmckjlaaW.PrintMore
set_option linter.unusedSimpArgs false
set_option linter.unusedVariables false

/-- What a list of digits tells in a base. -/
def numV (b : Int) (l : List Int) : Int × Bool := if (2 ≤ b ∧ b ≤ 16) ∧ areD l b = true then (match valL b l 0 with | some v => (v, true) | none => (0, false)) else (0, false)
theorem numOf_eq (l : List Int) (b : Int) (hl : l.length ≤ 1048576) {k : Nat} (hk : l.length + 1 < k) : impl_NumberOf.f k l b = some (numV b l) := by
  obtain ⟨k, rfl⟩ : ∃ m, k = m + 1 := ⟨k - 1, by omega⟩
  by_cases hb : 2 ≤ b ∧ b ≤ 16
  · cases hd : areD l b with
    | false => simp [impl_NumberOf.f, impl_NumberOf.j0, isBase_eq, hb, areDigits_eq, hd, numV]
    | true => simp [impl_NumberOf.f, impl_NumberOf.j0, isBase_eq, hb, areDigits_eq, hd, value_eq b l (by omega) (show l.length < k by omega), told_eq, numV]; cases valL b l 0 <;> rfl
  · simp [impl_NumberOf.f, impl_NumberOf.j0, isBase_eq, hb, numV]

/-! ### the letters -/
def Lt : List Int := [48, 49, 50, 51, 52, 53, 54, 55, 56, 57, 97, 98, 99, 100, 101, 102]
theorem bt_Lt {i : Nat} (h : i < 16) : bt (⟨#[48, 49, 50, 51, 52, 53, 54, 55, 56, 57, 97, 98, 99, 100, 101, 102]⟩ : ByteArray) (i : Int) = rd Lt (i : Int) := by
  have h16 : i = 0 ∨ i = 1 ∨ i = 2 ∨ i = 3 ∨ i = 4 ∨ i = 5 ∨ i = 6 ∨ i = 7 ∨ i = 8 ∨ i = 9 ∨ i = 10 ∨ i = 11 ∨ i = 12 ∨ i = 13 ∨ i = 14 ∨ i = 15 := by omega
  rcases h16 with rfl | rfl | rfl | rfl | rfl | rfl | rfl | rfl | rfl | rfl | rfl | rfl | rfl | rfl | rfl | rfl <;> rfl
/-- The place of a letter from d on, among so many, or -1. -/
def ixd (c : Int) : Nat → Nat → Int
  | _, 0 => -1
  | d, m + 1 => if c = rd Lt (d : Int) then (d : Int) else ixd c (d + 1) m
theorem ixd_range (c : Int) : ∀ (m d : Nat), ixd c d m = -1 ∨ ((d : Int) ≤ ixd c d m ∧ ixd c d m < ((d + m : Nat) : Int))
  | 0, d => .inl rfl
  | m + 1, d => by
    rw [ixd]
    split
    · right; omega
    · rcases ixd_range c m (d + 1) with h | h
      · exact .inl h
      · right; omega
theorem ixd_split (c : Int) : ∀ (m n d : Nat), ixd c d (m + n) = if ixd c d m = -1 then ixd c (d + m) n else ixd c d m
  | 0, n, d => by simp [ixd]
  | m + 1, n, d => by
    rw [show m + 1 + n = (m + n) + 1 by omega, ixd, ixd]
    by_cases h : c = rd Lt (d : Int)
    · rw [if_pos h, if_pos h, if_neg (by omega)]
    · rw [if_neg h, if_neg h, ixd_split c m n (d + 1), show d + 1 + m = d + (m + 1) by omega]
def ix (c : Int) : Int := ixd c 0 16
def sx (b : Nat) (c : Int) : Int := if ixd c 0 b = -1 then (b : Int) else ixd c 0 b
theorem ix_sx {b : Nat} (hb : b ≤ 16) (c : Int) : (0 ≤ ix c ∧ ix c ≤ (b : Int) - 1 → sx b c = ix c) ∧ (0 ≤ sx b c ∧ sx b c ≤ (b : Int) - 1 → sx b c = ix c) := by
  have h := ixd_split c b (16 - b) 0
  rw [show b + (16 - b) = 16 by omega, Nat.zero_add] at h
  have h1 := ixd_range c b 0
  have h2 := ixd_range c (16 - b) b
  unfold ix sx
  rw [h]
  by_cases e : ixd c 0 b = -1
  · rw [if_pos e, if_pos e]
    exact ⟨fun h3 => by omega, fun h3 => by omega⟩
  · rw [if_neg e, if_neg e]
    exact ⟨fun _ => rfl, fun _ => rfl⟩
theorem Index_b (c : Int) : ∀ (m d k : Nat), d + m = 16 → m < k → slices_Index_byte_byte.l0 k Lt c 16 (d : Int) = some (ixd c d m)
  | 0, d, k, hd, hk => by
    obtain ⟨k, rfl⟩ : ∃ q, k = q + 1 := ⟨k - 1, by omega⟩
    rw [slices_Index_byte_byte.l0, if_neg (by omega), ixd]
  | m + 1, d, k, hd, hk => by
    obtain ⟨k, rfl⟩ : ∃ q, k = q + 1 := ⟨k - 1, by omega⟩
    have hl : (Lt.length : Int) = 16 := rfl
    rw [slices_Index_byte_byte.l0, if_pos (by omega), if_pos (by omega), if_pos (by rw [hl]; omega), ixd]
    by_cases h : c = rd Lt (d : Int)
    · rw [if_pos h, if_pos h]
    · rw [if_neg h, if_neg h, w64s (by omega)]
      exact Index_b c m (d + 1) k (by omega) (by omega)
theorem Index_bf (c : Int) {k : Nat} (hk : 16 < k) : slices_Index_byte_byte.f k Lt c = some (ix c) := Index_b c 16 0 k (by omega) hk

/-! ### the digits -/
def dgt (g : Int → Int) (s : ByteArray) (n : Nat) : List Int := (List.range n).map (fun (i : Nat) => g (bt s (i : Int)))
theorem dgt_length (g : Int → Int) (s : ByteArray) (n : Nat) : (dgt g s n).length = n := by simp [dgt]
theorem dgt_succ (g : Int → Int) (s : ByteArray) (n : Nat) : dgt g s (n + 1) = dgt g s n ++ [g (bt s (n : Int))] := by simp [dgt, List.range_succ]
theorem impl_Parse_loop (s : ByteArray) (b : Int) (hs : s.size ≤ 1048576) (N : Nat) (hN : N = min s.size 41) : ∀ (d i k : Nat), i + d = N → d + 200 < k → impl_ParseNumber.l0 k s b (dgt ix s i) (i : Int) = some (numV b (dgt ix s N))
  | 0, i, k, hi, hk => by
    obtain ⟨k, rfl⟩ : ∃ q, k = q + 1 := ⟨k - 1, by omega⟩
    obtain rfl : i = N := by omega
    rw [impl_ParseNumber.l0]
    by_cases h1 : (i : Int) < (s.size : Int)
    · rw [if_pos h1, if_neg (by omega), numOf_eq _ b (by rw [dgt_length]; omega) (by rw [dgt_length]; omega)]; rfl
    · rw [if_neg h1, numOf_eq _ b (by rw [dgt_length]; omega) (by rw [dgt_length]; omega)]; rfl
  | d + 1, i, k, hi, hk => by
    obtain ⟨k, rfl⟩ : ∃ q, k = q + 1 := ⟨k - 1, by omega⟩
    have hix := Index_bf (bt s (i : Int)) (k := k) (by omega)
    unfold Lt at hix
    have ih := impl_Parse_loop s b hs N hN d (i + 1) k (by omega) (by omega)
    rw [dgt_succ] at ih
    rw [impl_ParseNumber.l0, if_pos (by omega), if_pos (by omega), if_pos (by omega), hix, Option.bind_some, if_pos (by rw [dgt_length]; omega), w64s (by omega)]
    exact ih
theorem spec_Parse_l1 (s : ByteArray) {b : Nat} (hb : b ≤ 16) (x6 : List Int) (h6 : x6.length ≤ 1000) (i : Nat) (hi : i < s.size) (hs : s.size ≤ 40) : ∀ (m d k : Nat), d + m = b → spec_ParseNumber.l1 (k + m + 1) s (b : Int) x6 (i : Int) (d : Int) = (if ixd (bt s (i : Int)) d m = -1 then spec_ParseNumber.l0 k s (b : Int) (x6 ++ [(b : Int)]) ((i + 1 : Nat) : Int) else spec_ParseNumber.l0 (k + m - (ixd (bt s (i : Int)) d m - d).toNat) s (b : Int) (x6 ++ [ixd (bt s (i : Int)) d m]) ((i + 1 : Nat) : Int))
  | 0, d, k, hd => by
    obtain rfl : d = b := by omega
    rw [spec_ParseNumber.l1, if_neg (by omega), if_pos (by omega), w64s (by omega), ixd, if_pos rfl]
  | m + 1, d, k, hd => by
    rw [show k + (m + 1) + 1 = (k + m + 1) + 1 by omega, spec_ParseNumber.l1, if_pos (by omega), if_pos (by omega), if_pos (by omega), if_pos (by omega), if_pos (by omega), bt_Lt (by omega), ixd]
    by_cases h : bt s (i : Int) = rd Lt (d : Int)
    · rw [if_pos h.symm, if_pos (by omega), w64s (by omega), if_pos h, if_neg (by omega)]
      congr 1
      omega
    · have hr := ixd_range (bt s (i : Int)) m (d + 1)
      rw [if_neg (fun e => h e.symm), w64s (by omega), if_neg h, spec_Parse_l1 s hb x6 h6 i hi hs m (d + 1) k (by omega)]
      by_cases e : ixd (bt s (i : Int)) (d + 1) m = -1
      · rw [if_pos e, if_pos e]
      · rw [if_neg e, if_neg e]
        congr 1
        omega
theorem spec_Parse_l0 (s : ByteArray) {b : Nat} (hb2 : 2 ≤ b) (hb : b ≤ 16) (hs : s.size ≤ 40) : ∀ (d i : Nat), i + d = s.size → ∃ K, ∀ k, K ≤ k → spec_ParseNumber.l0 k s (b : Int) (dgt (sx b) s i) (i : Int) = some (numV (b : Int) (dgt (sx b) s s.size))
  | 0, i, hi => by
    refine ⟨100, fun k hk => ?_⟩
    obtain ⟨k, rfl⟩ : ∃ q, k = q + 1 := ⟨k - 1, by omega⟩
    obtain rfl : i = s.size := by omega
    have hl := dgt_length (sx b) s s.size
    rw [spec_ParseNumber.l0, if_neg (by omega), dgAre_eq _ (b : Int) ⟨by omega, by omega⟩ (by omega) (by omega), Option.bind_some, numV]
    cases ha : areD (dgt (sx b) s s.size) (b : Int) with
    | false => rw [if_neg (by decide), if_neg (by simp)]
    | true => rw [if_pos rfl, if_pos ⟨⟨by omega, by omega⟩, rfl⟩, dgFrom_eq _ _ (by omega) (by omega), Option.bind_some]; rfl
  | d + 1, i, hi => by
    obtain ⟨K, hK⟩ := spec_Parse_l0 s hb2 hb hs d (i + 1) (by omega)
    refine ⟨K + 100, fun k hk => ?_⟩
    obtain ⟨k, rfl⟩ : ∃ q, k = q + b + 1 + 1 := ⟨k - b - 2, by omega⟩
    have hr := ixd_range (bt s (i : Int)) b 0
    have h1 := spec_Parse_l1 s hb (dgt (sx b) s i) (by rw [dgt_length]; omega) i (by omega) hs b 0 k (by omega)
    rw [show ((0 : Nat) : Int) = 0 from rfl] at h1
    rw [dgt_succ] at hK
    rw [spec_ParseNumber.l0, if_pos (by omega), h1]
    unfold sx at hK ⊢
    by_cases e : ixd (bt s (i : Int)) 0 b = -1
    · rw [if_pos e] at hK ⊢
      exact hK k (by omega)
    · rw [if_neg e] at hK ⊢
      exact hK _ (by omega)
theorem dgt_same {b : Nat} (hb : b ≤ 16) (s : ByteArray) (n : Nat) : numV (b : Int) (dgt ix s n) = numV (b : Int) (dgt (sx b) s n) := by
  have key : ∀ g : Int → Int, (∀ c, 0 ≤ g c ∧ g c ≤ (b : Int) - 1 → sx b c = ix c) → areD (dgt g s n) (b : Int) = true → dgt ix s n = dgt (sx b) s n := fun g hg ha => by
    have hbt : between 0 ((b : Int) - 1) (dgt g s n) = true := by
      simp only [areD, Bool.and_eq_true] at ha
      exact ha.2.1
    apply List.ext_getElem
    · simp [dgt]
    · intro i h1 h2
      rw [dgt_length] at h1
      have := between_mem hbt ((dgt g s n)[i]'(by rw [dgt_length]; exact h1)) (List.getElem_mem _)
      simp only [dgt, List.getElem_map, List.getElem_range] at this ⊢
      exact (hg _ this).symm
  by_cases h1 : areD (dgt ix s n) (b : Int) = true
  · rw [key ix (fun c => (ix_sx hb c).1) h1]
  · by_cases h2 : areD (dgt (sx b) s n) (b : Int) = true
    · rw [key (sx b) (fun c => (ix_sx hb c).2) h2]
    · rw [numV, numV, if_neg (fun h => h1 h.2), if_neg (fun h => h2 h.2)]
theorem ParseNumber_both (s : ByteArray) (b : Int) (hs : s.size ≤ 1048576) : ∃ (K : Nat) (v : Int × Bool), ∀ k, K ≤ k → spec_ParseNumber.f k s b = some v ∧ impl_ParseNumber.f k s b = some v := by
  have himp : ∀ k, 300 ≤ k → impl_ParseNumber.f k s b = some (numV b (dgt ix s (min s.size 41))) := fun k hk =>
    impl_Parse_loop s b hs (min s.size 41) rfl (min s.size 41) 0 k (by omega) (by omega)
  by_cases hb : 2 ≤ b ∧ b ≤ 16
  · by_cases hn : 1 ≤ (s.size : Int) ∧ (s.size : Int) ≤ 40
    · obtain ⟨c, rfl⟩ := Int.eq_ofNat_of_zero_le (show 0 ≤ b by omega)
      obtain ⟨K, hK⟩ := spec_Parse_l0 s (b := c) (by omega) (by omega) (by omega) s.size 0 (by omega)
      refine ⟨K + 301, _, fun k hk => ⟨?_, himp k (by omega)⟩⟩
      obtain ⟨k, rfl⟩ : ∃ q, k = q + 1 := ⟨k - 1, by omega⟩
      rw [spec_ParseNumber.f, dgBase_eq, decide_eq_true hb, Option.bind_some, if_pos rfl, l1In_eq, decide_eq_true hn, Option.bind_some, spec_ParseNumber.j0, if_neg (by decide), Nat.min_eq_left (by omega), dgt_same (by omega)]
      exact hK k (by omega)
    · refine ⟨301, _, fun k hk => ⟨?_, himp k (by omega)⟩⟩
      obtain ⟨k, rfl⟩ : ∃ q, k = q + 1 := ⟨k - 1, by omega⟩
      have hno : ¬ areD (dgt ix s (min s.size 41)) b = true := by
        simp only [areD, Bool.and_eq_true, decide_eq_true_eq, dgt_length]
        omega
      rw [spec_ParseNumber.f, dgBase_eq, decide_eq_true hb, Option.bind_some, if_pos rfl, l1In_eq, decide_eq_false hn, Option.bind_some, spec_ParseNumber.j0, if_pos (by decide), numV, if_neg (fun h => hno h.2)]
  · refine ⟨301, _, fun k hk => ⟨?_, himp k (by omega)⟩⟩
    obtain ⟨k, rfl⟩ : ∃ q, k = q + 1 := ⟨k - 1, by omega⟩
    rw [spec_ParseNumber.f, dgBase_eq, decide_eq_false hb, Option.bind_some, if_neg (by decide), spec_ParseNumber.j0, if_pos rfl, numV, if_neg (fun h => hb h.1)]
theorem ParseNumber_law : laws_FnExactParseNumber.Pure := by
  intro s b _ _
  by_cases hs : (s.size : Int) > 1048576
  · exact ⟨0, by rw [laws_FnExactParseNumber.f, if_pos hs]⟩
  obtain ⟨K, v, h⟩ := ParseNumber_both s b (by omega)
  exact ⟨K, by simp [laws_FnExactParseNumber.f, hs, (h K (by omega)).1, (h K (by omega)).2]⟩
end Go.Proofs.YtndbfkgcmckjlaaC
