/-
  The plain law of LeastWith over the printed functions. No conditions.
-/
import Derived.Test.YtndbfkgcmckjlaaLNp
import Derived.Test.YtndbfkgcmckjlaaLD3
import Derived.Test.YtndbfkgcmckjlaaCLs
namespace Go.Proofs.YtndbfkgcmckjlaaC
open Go.RowKit Go.Proofs.YtndbfkgcmckjlaaW.PrintWords Go.Proofs.YtndbfkgcmckjlaaW.PrintMore
set_option linter.unusedSimpArgs false
set_option linter.unusedVariables false

/-! ### digits by their counts -/
def exG (g : Nat → Nat) : Nat → List Int
  | 0 => []
  | i + 1 => exG g i ++ List.replicate (g i) (i : Int)
def cnt (l : List Int) (i : Nat) : Nat := (rd l (i : Int)).toNat
def lessF (g : Nat → Nat) (f : Nat) (i : Nat) : Nat := if i = f then g i - 1 else g i
theorem exG_mem (g : Nat → Nat) : ∀ (n : Nat) (x : Int), x ∈ exG g n → 0 ≤ x ∧ x < (n : Int)
  | 0, x, h => by simp [exG] at h
  | n + 1, x, h => by
    rw [exG, List.mem_append] at h
    rcases h with h | h
    · have := exG_mem g n x h; omega
    · rw [List.eq_of_mem_replicate h]; omega
theorem exG_length_le (g : Nat → Nat) (hg : ∀ i, g i ≤ 40) : ∀ n, (exG g n).length ≤ 40 * n
  | 0 => by simp [exG]
  | n + 1 => by
    have := exG_length_le g hg n
    have := hg n
    rw [exG, List.length_append, List.length_replicate]
    omega
theorem exG_none (g : Nat → Nat) : ∀ n, (∀ i, 1 ≤ i → i < n → g i = 0) → 1 ≤ n → exG g n = List.replicate (g 0) 0
  | 0, _, h => by omega
  | n + 1, h0, _ => by
    rcases Nat.eq_zero_or_pos n with rfl | hp
    · rw [exG, exG, List.nil_append]; rfl
    · rw [exG, exG_none g n (fun i h1 h2 => h0 i h1 (by omega)) hp, h0 n hp (by omega)]
      simp
theorem exG_first (g : Nat → Nat) {f : Nat} (hf : 1 ≤ f) (h0 : ∀ i, 1 ≤ i → i < f → g i = 0) (hg : 0 < g f) : ∀ n, f < n → ∃ R : List Int, exG g n = List.replicate (g 0) 0 ++ ((f : Int) :: R) ∧ exG (lessF g f) n = List.replicate (g 0) 0 ++ R
  | 0, h => by omega
  | n + 1, h => by
    by_cases hn : f = n
    · subst hn
      refine ⟨List.replicate (g f - 1) (f : Int), ?_, ?_⟩
      · obtain ⟨q, hq⟩ : ∃ q, g f = q + 1 := ⟨g f - 1, by omega⟩
        rw [exG, exG_none g f h0 hf, hq, List.replicate_succ]; rfl
      · rw [exG, exG_none (lessF g f) f (fun i h1 h2 => by rw [lessF, if_neg (by omega)]; exact h0 i h1 h2) hf]
        simp only [lessF, if_pos, if_neg (show ¬ 0 = f by omega)]
    · obtain ⟨R, h1, h2⟩ := exG_first g hf h0 hg n (by omega)
      refine ⟨R ++ List.replicate (g n) (n : Int), ?_, ?_⟩
      · rw [exG, h1]; simp
      · rw [exG, h2]
        simp only [lessF, if_neg (show ¬ n = f from fun e => hn e.symm)]
        simp
/-- What is counted, all together. -/
def sumG (g : Nat → Nat) : Nat → Nat
  | 0 => 0
  | n + 1 => sumG g n + g n
theorem exG_length (g : Nat → Nat) : ∀ n, (exG g n).length = sumG g n
  | 0 => rfl
  | n + 1 => by rw [exG, List.length_append, List.length_replicate, exG_length g n, sumG]
theorem sumL_app (l : List Int) (x : Int) : sumL (l ++ [x]) = wrap64 (sumL l + x) := by simp [sumL]
theorem sumL_cnt {l : List Int} (hr : ∀ x ∈ l, 0 ≤ x ∧ x ≤ 40) (hl : l.length ≤ 1000) : ∀ n, n ≤ l.length → sumL (l.take n) = (sumG (cnt l) n : Int) ∧ sumG (cnt l) n ≤ 40 * n
  | 0, _ => by simp [sumL, sumG]
  | n + 1, h => by
    obtain ⟨h1, h2⟩ := sumL_cnt hr hl n (by omega)
    have hn : n < l.length := by omega
    have h3 := hr _ (List.getElem_mem hn)
    have e : cnt l n = (l[n]).toNat := by rw [cnt, rd_get hn]
    rw [take_s hn, sumL_app, h1, sumG, e]
    have h4 : wrap64 ((sumG (cnt l) n : Int) + l[n]) = (sumG (cnt l) n : Int) + l[n] := w64 (by omega) (by omega)
    rw [h4]
    exact ⟨by omega, by omega⟩
theorem sum_at {l : List Int} (hr : ∀ x ∈ l, 0 ≤ x ∧ x ≤ 40) (hl : l.length ≤ 1000) : sumL l = (sumG (cnt l) l.length : Int) := by
  have := (sumL_cnt hr hl l.length (Nat.le_refl _)).1
  rw [List.take_length] at this
  exact this
theorem cnt_le {l : List Int} (hr : ∀ x ∈ l, 0 ≤ x ∧ x ≤ 40) (i : Nat) : cnt l i ≤ 40 := by
  by_cases h : i < l.length
  · have := hr _ (List.getElem_mem h)
    rw [cnt, rd_get h]; omega
  · have e : rd l (i : Int) = 0 := by simp [rd, List.getD_eq_getElem?_getD, List.getElem?_eq_none (show l.length ≤ i by omega)]
    rw [cnt, e]; simp
/-- Is there a digit above 0? -/
theorem first_or (g : Nat → Nat) : ∀ n, 1 ≤ n → (∀ i, 1 ≤ i → i < n → g i = 0) ∨ ∃ f, 1 ≤ f ∧ f < n ∧ (∀ i, 1 ≤ i → i < f → g i = 0) ∧ 0 < g f
  | 0, h => by omega
  | n + 1, _ => by
    rcases Nat.eq_zero_or_pos n with rfl | hp
    · exact .inl (fun i h1 h2 => by omega)
    · rcases first_or g n hp with h | ⟨f, h1, h2, h3, h4⟩
      · by_cases hz : g n = 0
        · refine .inl (fun i h1 h2 => ?_)
          by_cases hi : i = n
          · rw [hi]; exact hz
          · exact h i h1 (by omega)
        · exact .inr ⟨n, hp, by omega, h, by omega⟩
      · exact .inr ⟨f, h1, by omega, h3, h4⟩

/-! ### the program -/
theorem idxF_zeros : ∀ (z : Nat) (i : Int) (R : List Int), idxF (fun d => decide (0 < d)) (List.replicate z 0 ++ R) i = idxF (fun d => decide (0 < d)) R (i + (z : Int))
  | 0, i, R => by simp
  | z + 1, i, R => by
    rw [List.replicate_succ, List.cons_append, idxF, if_neg (by decide), idxF_zeros z (i + 1) R]
    congr 1; omega
theorem impl_Least_l0 {l : List Int} {b : Int} (hb : (l.length : Int) = b) (h16 : l.length ≤ 16) (hr : ∀ x ∈ l, 0 ≤ x ∧ x ≤ 40) (V : Option (Int × Bool)) (K : Nat)
    (hV : ∀ k, K ≤ k → impl_LeastWith.l0 (k + 1) b (exG (cnt l) l.length) l (l.length : Int) (l.length : Int) = V) : ∀ (d i k : Nat), i + d = l.length → K + d < k → impl_LeastWith.l0 k b (exG (cnt l) i) l (l.length : Int) (i : Int) = V
  | 0, i, k, hi, hk => by
    obtain ⟨k, rfl⟩ : ∃ q, k = q + 1 := ⟨k - 1, by omega⟩
    obtain rfl : i = l.length := by omega
    exact hV k (by omega)
  | d + 1, i, k, hi, hk => by
    obtain ⟨k, rfl⟩ : ∃ q, k = q + 1 := ⟨k - 1, by omega⟩
    have hil : i < l.length := by omega
    have h1 := hr _ (List.getElem_mem hil)
    have h2 := exG_length_le (cnt l) (cnt_le hr) i
    have h3 := cnt_le hr i
    have h4 : (rd l (i : Int)).toNat = cnt l i := rfl
    rw [impl_LeastWith.l0, if_pos (by omega), if_pos (by omega), if_pos (by omega), slices_Repeat_int_int.f, if_pos ⟨rfl, by rw [rd_get hil]; omega, by rw [rd_get hil]; omega⟩, Option.bind_some, h4, show rd ([(i : Int)] : List Int) 0 = (i : Int) from rfl, if_pos (by rw [List.length_replicate]; omega), w64s (by omega)]
    exact impl_Least_l0 hb h16 hr V K hV d (i + 1) k (by omega) (by omega)
theorem swap_eq (z : Nat) (f : Int) (R : List Int) : ((List.replicate (z + 1) 0 ++ f :: R).set 0 f).set (z + 1) 0 = f :: (List.replicate (z + 1) 0 ++ R) := by
  rw [List.replicate_succ, List.cons_append, List.set_cons_zero, List.set_cons_succ]
  have := set_mid (List.replicate z (0 : Int)) R f 0
  rw [List.length_replicate] at this
  rw [this]
  congr 1
  rw [← List.replicate_succ, List.replicate_succ', List.append_assoc]
  rfl
def leastV (D : List Int) (b : Int) : Int × Bool := if areD D b = true then tell (hv b D 0) else (0, false)
theorem impl_j2 {D : List Int} {b : Int} (hb : 2 ≤ b ∧ b ≤ 16) (hd : Dg b D) (hl : D.length ≤ 1000) {k : Nat} (hk : D.length + 1 < k) : impl_LeastWith.j2 k b D = some (leastV D b) := by
  obtain ⟨k, rfl⟩ : ∃ q, k = q + 1 := ⟨k - 1, by omega⟩
  rw [impl_LeastWith.j2, areDigits_eq D b hb, Option.bind_some, leastV]
  by_cases h : areD D b = true
  · obtain ⟨v, a1, a2, _⟩ := impl_tell hb.1 hb.2 hd hl (k := k) (by omega)
    rw [if_pos h, if_pos h, a1, Option.bind_some, a2]; rfl
  · rw [if_neg h, if_neg h]
theorem spec_first {l : List Int} (h16 : l.length ≤ 16) {f : Nat} (hfl : f ≤ l.length) (h0 : ∀ i, 1 ≤ i → i < f → rd l (i : Int) = 0) (hstop : f < l.length → ¬ rd l (f : Int) = 0) : ∀ (d i k : Nat), i + d = f → 1 ≤ i → spec_dgLeast.l0 (k + d + 1) l (i : Int) = spec_dgLeast.j2 k l (f : Int)
  | 0, i, k, hi, h1 => by
    obtain rfl : i = f := by omega
    rw [spec_dgLeast.l0]
    by_cases hlt : i < l.length
    · rw [if_pos (by omega), if_pos (by omega), if_neg (hstop hlt)]
    · rw [if_neg (by omega)]
  | d + 1, i, k, hi, h1 => by
    rw [show k + (d + 1) + 1 = (k + d + 1) + 1 by omega, spec_dgLeast.l0, if_pos (by omega), if_pos (by omega), if_pos (h0 i h1 (by omega)), w64s (by omega)]
    exact spec_first h16 hfl h0 hstop d (i + 1) k (by omega) (by omega)
theorem spec_l2 {l : List Int} (f : Int) (i : Nat) (hi : i ≤ 100) : ∀ (n : Nat) (out : List Int) (k : Nat), out.length + n ≤ 100000 → spec_dgLeast.l2 (k + n + 1) f out (i : Int) (n : Int) l (l.length : Int) (i : Int) = spec_dgLeast.l1 k f (out ++ List.replicate n (i : Int)) l (l.length : Int) ((i + 1 : Nat) : Int)
  | 0, out, k, ho => by rw [spec_dgLeast.l2, if_neg (by omega), w64s (by omega)]; simp
  | n + 1, out, k, ho => by
    rw [show k + (n + 1) + 1 = (k + n + 1) + 1 by omega, spec_dgLeast.l2, if_pos (by omega), if_pos (by omega), show wrap64 (((n + 1 : Nat) : Int) - 1) = (n : Int) by rw [w64 (by omega) (by omega)]; omega, spec_l2 f i hi n (out ++ [(i : Int)]) k (by simp; omega), List.replicate_succ]
    simp
theorem spec_l1 {l : List Int} (h16 : l.length ≤ 16) (hr : ∀ x ∈ l, 0 ≤ x ∧ x ≤ 40) {f : Nat} (hf : 0 < rd l (f : Int)) : ∀ (d i : Nat), i + d = l.length → ∃ K, ∀ k, K ≤ k → spec_dgLeast.l1 k (f : Int) ((f : Int) :: exG (lessF (cnt l) f) i) l (l.length : Int) (i : Int) = some ((f : Int) :: exG (lessF (cnt l) f) l.length)
  | 0, i, hi => ⟨1, fun k hk => by
    obtain ⟨k, rfl⟩ : ∃ q, k = q + 1 := ⟨k - 1, by omega⟩
    obtain rfl : i = l.length := by omega
    rw [spec_dgLeast.l1, if_neg (by omega)]⟩
  | d + 1, i, hi => by
    obtain ⟨K, hK⟩ := spec_l1 h16 hr hf d (i + 1) (by omega)
    have hil : i < l.length := by omega
    have h1 := hr _ (List.getElem_mem hil)
    have hle : ∀ j, lessF (cnt l) f j ≤ 40 := fun j => by
      have := cnt_le hr j
      unfold lessF
      split <;> omega
    have hlen := exG_length_le (lessF (cnt l) f) hle i
    have hli := hle i
    refine ⟨K + 100, fun k hk => ?_⟩
    obtain ⟨k, rfl⟩ : ∃ q, k = q + lessF (cnt l) f i + 1 + 1 + 1 := ⟨k - lessF (cnt l) f i - 3, by omega⟩
    have key : spec_dgLeast.l1 (k + lessF (cnt l) f i + 1 + 1 + 1) (f : Int) ((f : Int) :: exG (lessF (cnt l) f) i) l (l.length : Int) (i : Int) = spec_dgLeast.l2 (k + lessF (cnt l) f i + 1) (f : Int) ((f : Int) :: exG (lessF (cnt l) f) i) (i : Int) ((lessF (cnt l) f i : Nat) : Int) l (l.length : Int) (i : Int) := by
      rw [spec_dgLeast.l1, if_pos (by omega), if_pos (by omega), if_pos (by omega)]
      by_cases hif : i = f
      · subst hif
        have e : wrap64 (rd l (i : Int) - 1) = ((lessF (cnt l) i i : Nat) : Int) := by
          rw [lessF, if_pos rfl, cnt]
          rw [rd_get hil] at hf ⊢
          rw [w64 (by omega) (by omega)]
          omega
        rw [if_pos rfl, spec_dgLeast.j4, e]
      · have e : rd l (i : Int) = ((lessF (cnt l) f i : Nat) : Int) := by
          rw [lessF, if_neg hif, cnt]
          rw [rd_get hil]
          omega
        rw [if_neg (by omega), spec_dgLeast.j4, ← e]
    rw [key, spec_l2 (f : Int) i (by omega) _ _ _ (by simp only [List.length_cons]; omega), List.cons_append]
    exact hK k (by omega)
theorem LeastWith_both (l : List Int) (b : Int) (hl : l.length ≤ 1048576) : ∃ (K : Nat) (v : Int × Bool), ∀ k, K ≤ k → spec_LeastWith.f k l b = some v ∧ impl_LeastWith.f k l b = some v := by
  by_cases hb : 2 ≤ b ∧ b ≤ 16
  · by_cases hlb : (l.length : Int) = b
    · cases hbt : between 0 40 l with
      | false =>
        refine ⟨l.length + 2, (0, false), fun k hk => ?_⟩
        obtain ⟨k, rfl⟩ : ∃ q, k = q + 1 := ⟨k - 1, by omega⟩
        exact ⟨by rw [spec_LeastWith.f, dgBase_eq, decide_eq_true hb, Option.bind_some, if_pos rfl, if_pos hlb, l1All_eq l 0 40 (by omega) (by omega), hbt, Option.bind_some, if_neg (by decide), spec_LeastWith.j0, if_pos rfl],
          by rw [impl_LeastWith.f, isBase_eq, decide_eq_true hb, Option.bind_some, if_pos rfl, areIn_eq, hbt, Bool.and_false, Option.bind_some, impl_LeastWith.j0, if_pos (by decide)]⟩
      | true =>
        have hr := between_mem hbt
        have h16 : l.length ≤ 16 := by omega
        have hs := sum_at hr (by omega)
        have hlen := exG_length (cnt l) l.length
        have hle := exG_length_le (cnt l) (cnt_le hr) l.length
        have hE : Dg b (exG (cnt l) l.length) := fun x hx => by have := exG_mem _ _ x hx; omega
        have hcn : ((cnt l 0 : Nat) : Int) = rd l 0 := by
          have h0 : 0 < l.length := by omega
          have h1 := hr _ (List.getElem_mem h0)
          have h2 : rd l 0 = l[0] := rd_get (j := 0) h0
          rw [cnt, show ((0 : Nat) : Int) = 0 from rfl, h2]
          omega
        have impl_go : ∀ (v : Int × Bool) (K : Nat), (∀ k, K ≤ k → impl_LeastWith.l0 (k + 1) b (exG (cnt l) l.length) l (l.length : Int) (l.length : Int) = some v) → ∀ k, K + 100 ≤ k → impl_LeastWith.f k l b = some v := fun v K hv k hk => by
          obtain ⟨k, rfl⟩ : ∃ q, k = q + 1 := ⟨k - 1, by omega⟩
          rw [impl_LeastWith.f, isBase_eq, decide_eq_true hb, Option.bind_some, if_pos rfl, areIn_eq, hbt, decide_eq_true (show b ≤ (l.length : Int) ∧ (l.length : Int) ≤ b by omega), Option.bind_some, impl_LeastWith.j0, if_neg (by decide)]
          exact impl_Least_l0 hlb h16 hr (some v) K hv l.length 0 k (by omega) (by omega)
        have spec_go : ∀ (v : Int × Bool) (K : Nat), (∀ k, K ≤ k → spec_LeastWith.j0 k l b (decide ((sumG (cnt l) l.length : Int) > 40)) = some v) → ∀ k, K + 100 ≤ k → spec_LeastWith.f k l b = some v := fun v K hv k hk => by
          rw [spec_LeastWith.f, dgBase_eq, decide_eq_true hb, Option.bind_some, if_pos rfl, if_pos hlb, l1All_eq l 0 40 (by omega) (by omega), hbt, Option.bind_some, if_pos rfl, dgSum_eq l (by omega) (by omega), Option.bind_some, hs]
          exact hv k (by omega)
        rcases first_or (cnt l) l.length (by omega) with hno | ⟨f, f1, f2, f3, f4⟩
        · -- no digit above 0
          have hEz := exG_none (cnt l) l.length hno (by omega)
          have hsum : sumG (cnt l) l.length = cnt l 0 := by rw [← hlen, hEz, List.length_replicate]
          have hz40 := cnt_le hr 0
          have himp : ∀ k, 100 ≤ k → impl_LeastWith.l0 (k + 1) b (exG (cnt l) l.length) l (l.length : Int) (l.length : Int) = some (leastV (List.replicate (cnt l 0) 0) b) := fun k hk => by
            have hi := idxF_zeros (cnt l 0) 0 []
            rw [List.append_nil] at hi
            rw [impl_LeastWith.l0, if_neg (by omega), slices_IndexFunc_int_int.f, hEz, hi, Option.bind_some, idxF, if_neg (by decide)]
            exact impl_j2 hb (hEz ▸ hE) (by rw [List.length_replicate]; omega) (by rw [List.length_replicate]; omega)
          refine ⟨1000, leastV (List.replicate (cnt l 0) 0) b, fun k hk => ⟨spec_go _ 800 (fun k hk => ?_) k (by omega), impl_go _ 100 himp k (by omega)⟩⟩
          obtain ⟨k, rfl⟩ : ∃ q, k = q + 1 := ⟨k - 1, by omega⟩
          rw [spec_LeastWith.j0, if_neg (by rw [hsum]; simp; omega), spec_dgLeast.f, dgSum_eq l (by omega) (by omega), Option.bind_some, hs, hsum]
          obtain ⟨k, rfl⟩ : ∃ q, k = q + l.length + 1 + 1 := ⟨k - l.length - 2, by omega⟩
          by_cases h1 : cnt l 0 = 1
          · rw [if_pos (by omega), if_pos (by omega), ← hcn, h1, spec_dgLeast.j0, if_pos (by decide), Option.bind_some, if_neg (by decide), leastV, if_pos (by simp [areD, between, rd]; omega)]
            have hd1 : Dg b [0] := fun x hx => by rw [List.mem_singleton.1 hx]; omega
            rw [spec_tell hb.1 hb.2 hd1 (by simp) (by simp)]; rfl
          · have hj0 : spec_dgLeast.j0 (k + l.length + 1 + 1) l false = some [] := by
              rw [spec_dgLeast.j0, if_neg (by decide)]
              obtain ⟨d, hd⟩ : ∃ d, 1 + d = l.length := ⟨l.length - 1, by omega⟩
              have hsf := spec_first (l := l) h16 (f := l.length) (Nat.le_refl _) (fun i g1 g2 => by
                have := hno i g1 g2
                have h5 := hr _ (List.getElem_mem g2)
                rw [cnt, rd_get g2] at this
                rw [rd_get g2]; omega) (fun h => by omega) d 1 (k + 1) hd (by omega)
              rw [show ((1 : Nat) : Int) = 1 from rfl] at hsf
              rw [show k + l.length + 1 = k + 1 + d + 1 by omega, hsf, spec_dgLeast.j2, if_pos rfl]
            rw [if_neg (by omega), hj0, Option.bind_some, if_pos (by rfl), leastV, if_neg]
            intro ha
            simp only [areD, Bool.and_eq_true, Bool.or_eq_true, decide_eq_true_eq, List.length_replicate] at ha
            obtain ⟨a1, _, a3⟩ := ha
            have a4 : rd (List.replicate (cnt l 0) 0) 0 = 0 := by
              obtain ⟨q, hq⟩ : ∃ q, cnt l 0 = q + 1 := ⟨cnt l 0 - 1, by omega⟩
              rw [hq, List.replicate_succ]; rfl
            rw [a4] at a3
            rcases a3 with a3 | a3
            · omega
            · have a5 : ((cnt l 0 : Nat) : Int) = 1 := by simpa using a3
              omega
        · -- the first digit above 0
          obtain ⟨R, hE1, hE2⟩ := exG_first (cnt l) f1 f3 f4 l.length f2
          have hfl : 0 < rd l (f : Int) := by
            have := hr _ (List.getElem_mem f2)
            rw [cnt, rd_get f2] at f4
            rw [rd_get f2]; omega
          obtain ⟨D, hD⟩ : ∃ D : List Int, D = (f : Int) :: exG (lessF (cnt l) f) l.length := ⟨_, rfl⟩
          have hDR : D = (f : Int) :: (List.replicate (cnt l 0) 0 ++ R) := by rw [hD, hE2]
          have hDlen : D.length = sumG (cnt l) l.length := by rw [← hlen, hE1, hDR]; simp; omega
          have hDd : Dg b D := fun x hx => by
            rw [hDR] at hx
            refine hE x ?_
            rw [hE1]
            simp only [List.mem_cons, List.mem_append] at hx ⊢
            rcases hx with h | h | h
            · exact .inr (.inl h)
            · exact .inl h
            · exact .inr (.inr h)
          have himp : ∀ k, 2000 ≤ k → impl_LeastWith.l0 (k + 1) b (exG (cnt l) l.length) l (l.length : Int) (l.length : Int) = some (leastV D b) := fun k hk => by
            have hi : idxF (fun d => decide (0 < d)) (exG (cnt l) l.length) 0 = ((cnt l 0 : Nat) : Int) := by
              rw [hE1, idxF_zeros, idxF, if_pos (by simp; omega)]; omega
            rw [impl_LeastWith.l0, if_neg (by omega), slices_IndexFunc_int_int.f, hi, Option.bind_some]
            rcases Nat.eq_zero_or_pos (cnt l 0) with hz | hz
            · rw [if_neg (by omega)]
              have : exG (cnt l) l.length = D := by rw [hE1, hDR, hz]; rfl
              rw [this]
              exact impl_j2 hb hDd (by omega) (by omega)
            · obtain ⟨z, hz2⟩ : ∃ z, cnt l 0 = z + 1 := ⟨cnt l 0 - 1, by omega⟩
              have e1 : rd (exG (cnt l) l.length) ((cnt l 0 : Nat) : Int) = (f : Int) := by
                rw [hE1]
                have := rd_mid (List.replicate (cnt l 0) 0) R (f : Int)
                rw [List.length_replicate] at this
                exact this
              have e2 : rd (exG (cnt l) l.length) 0 = 0 := by rw [hE1, hz2, List.replicate_succ]; rfl
              have hlt : cnt l 0 < (exG (cnt l) l.length).length := by rw [hE1]; simp
              have e3 : ((exG (cnt l) l.length).set 0 (f : Int)).set (cnt l 0) 0 = D := by rw [hE1, hDR, hz2]; exact swap_eq z (f : Int) R
              rw [if_pos (by omega), if_pos (by omega), if_pos (by omega), if_pos (by omega), e1, e2, Int.toNat_natCast, Int.toNat_zero, e3]
              exact impl_j2 hb hDd (by omega) (by omega)
          obtain ⟨K, hK⟩ := spec_l1 h16 hr hfl l.length 0 (by omega)
          refine ⟨K + 4000, leastV D b, fun k hk => ⟨spec_go _ (K + 3000) (fun k hk => ?_) k (by omega), impl_go _ 2000 himp k (by omega)⟩⟩
          obtain ⟨k, rfl⟩ : ∃ q, k = q + 1 := ⟨k - 1, by omega⟩
          rw [spec_LeastWith.j0]
          by_cases h40 : (sumG (cnt l) l.length : Int) > 40
          · rw [if_pos (by simpa using h40), leastV, if_neg]
            intro ha
            simp only [areD, Bool.and_eq_true, decide_eq_true_eq] at ha
            omega
          · rw [if_neg (by simpa using h40), spec_dgLeast.f, dgSum_eq l (by omega) (by omega), Option.bind_some, hs]
            have hj0 : spec_dgLeast.j0 k l false = some D := by
              obtain ⟨d, hd⟩ : ∃ d, 1 + d = f := ⟨f - 1, by omega⟩
              obtain ⟨k, rfl⟩ : ∃ q, k = q + 1 + d + 1 + 1 := ⟨k - d - 3, by omega⟩
              rw [spec_dgLeast.j0, if_neg (by decide)]
              have hsf := spec_first (l := l) h16 (f := f) (by omega) (fun i g1 g2 => by
                have g3 := f3 i g1 g2
                have g4 : i < l.length := by omega
                have h5 := hr _ (List.getElem_mem g4)
                rw [cnt, rd_get g4] at g3
                rw [rd_get g4]; omega) (fun _ h => by omega) d 1 (k + 1) hd (by omega)
              rw [show ((1 : Nat) : Int) = 1 from rfl] at hsf
              rw [hsf, spec_dgLeast.j2, if_neg (by omega), hD]
              exact hK k (by omega)
            have hnot : ¬ ((sumG (cnt l) l.length : Int) = 1 ∧ rd l 0 = 1) := by
              rintro ⟨g1, g2⟩
              rw [← hcn] at g2
              have : D.length = cnt l 0 + 1 + R.length := by rw [hDR]; simp; omega
              omega
            have hfin : (spec_dgLeast.j0 k l false).bind (fun t122 => if (t122.length : Int) = 0 then some (0, false) else (spec_dgFrom.f k t122 b).bind fun bt125 => some (bt125.1, bt125.2)) = some (leastV D b) := by
              rw [hj0, Option.bind_some, if_neg (by rw [hDR]; simp; omega), spec_tell hb.1 hb.2 hDd (by omega) (by omega), leastV, if_pos]
              · rfl
              · have hbd : between 0 (b - 1) D = true := by
                  simp only [between, List.all_eq_true, decide_eq_true_eq]
                  exact fun x hx => hDd x hx
                have hpos : 1 ≤ D.length := by rw [hDR]; simp
                have hr0 : rd D 0 = (f : Int) := by rw [hDR]; rfl
                simp only [areD, hbd, hr0, Bool.true_and, Bool.and_eq_true, Bool.or_eq_true, decide_eq_true_eq]
                exact ⟨by omega, .inl (by omega)⟩
            by_cases hone : (sumG (cnt l) l.length : Int) = 1
            · rw [if_pos hone, if_pos (by omega), show (rd l 0 == 1) = false from beq_eq_false_iff_ne.mpr (fun h => hnot ⟨hone, h⟩)]
              exact hfin
            · rw [if_neg hone]
              exact hfin
    · refine ⟨2, (0, false), fun k hk => ?_⟩
      obtain ⟨k, rfl⟩ : ∃ q, k = q + 1 := ⟨k - 1, by omega⟩
      exact ⟨by rw [spec_LeastWith.f, dgBase_eq, decide_eq_true hb, Option.bind_some, if_pos rfl, if_neg hlb, spec_LeastWith.j0, if_pos rfl],
        by rw [impl_LeastWith.f, isBase_eq, decide_eq_true hb, Option.bind_some, if_pos rfl, areIn_eq, decide_eq_false (show ¬ (b ≤ (l.length : Int) ∧ (l.length : Int) ≤ b) by omega), Bool.false_and, Option.bind_some, impl_LeastWith.j0, if_pos (by decide)]⟩
  · refine ⟨2, (0, false), fun k hk => ?_⟩
    obtain ⟨k, rfl⟩ : ∃ q, k = q + 1 := ⟨k - 1, by omega⟩
    exact ⟨by rw [spec_LeastWith.f, dgBase_eq, decide_eq_false hb, Option.bind_some, if_neg (by decide), spec_LeastWith.j0, if_pos rfl], by rw [impl_LeastWith.f, isBase_eq, decide_eq_false hb, Option.bind_some, if_neg (by decide), impl_LeastWith.j0, if_pos rfl]⟩
theorem LeastWith_law : laws_FnExactLeastWith.Pure := by
  intro l b _ _ _ _
  by_cases hl : (l.length : Int) > 1048576
  · exact ⟨0, by rw [laws_FnExactLeastWith.f, if_pos hl]⟩
  obtain ⟨K0, v, h0⟩ := LeastWith_both l b (by omega)
  obtain ⟨K, hK⟩ : ∃ K, K = K0 + l.length + 1 := ⟨_, rfl⟩
  have hTl : ∀ k, K ≤ k → laws_toIntS.f k l = some l := fun k h => (law_facts l [] (by omega) (by simp) (show _ < k by simp; omega)).1
  have hEl : ∀ k, K ≤ k → laws_eqIntS.f k l l = some true := fun k h => (law_facts l [] (by omega) (by simp) (show _ < k by simp; omega)).2.1
  have e1 : ∀ k, K ≤ k → spec_LeastWith.f k l b = some v := fun k h => (h0 k (by omega)).1
  have e2 : ∀ k, K ≤ k → impl_LeastWith.f k l b = some v := fun k h => (h0 k (by omega)).2
  refine ⟨K + 9, ?_⟩
  simp [laws_FnExactLeastWith.f, laws_FnExactLeastWith.j0, e1, e2, hl, hTl, hEl]

end Go.Proofs.YtndbfkgcmckjlaaC
