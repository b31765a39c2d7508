/-
  The plain law of CountRearranged: both programs count the orders of digits alike. No conditions.
-/
import Derived.Test.YtndbfkgcmckjlaaLPs
import Derived.Test.YtndbfkgcmckjlaaCGp
namespace Go.Proofs.YtndbfkgcmckjlaaC
open Go.RowKit Go.Proofs.YtndbfkgcmckjlaaW.PrintWords Go.Proofs.YtndbfkgcmckjlaaW.PrintMore
set_option linter.unusedSimpArgs false
set_option linter.unusedVariables false

theorem dgCounts_loop (xs : List Int) (hx : xs.length ≤ 4611686018427387904) (b : Nat) : ∀ (suf pre : List Int) (s : List Int) (k : Nat), xs = pre ++ suf → suf.length < k → s.length = b → (∀ x ∈ suf, 0 ≤ x ∧ x < b) →
    spec_dgCounts.l0 k s xs (xs.length : Int) (pre.length : Int) = some (suf.foldl (fun a d => a.set d.toNat (wrap64 (rd a d + 1))) s) := by
  intro suf
  induction suf with
  | nil =>
    intro pre s k h hk _ _
    obtain ⟨k, rfl⟩ : ∃ m, k = m + 1 := ⟨k - 1, by omega⟩
    subst h; rw [spec_dgCounts.l0, if_neg (by simp)]; rfl
  | cons x suf ih =>
    intro pre s k h hk hs hr
    simp only [List.length_cons] at hk
    obtain ⟨k, rfl⟩ : ∃ m, k = m + 1 := ⟨k - 1, by omega⟩
    have hl : xs.length = pre.length + suf.length + 1 := by subst h; simp; omega
    have e : rd xs (pre.length : Int) = x := by subst h; exact rd_mid _ _ _
    have hx0 := hr x (by simp)
    rw [spec_dgCounts.l0, if_pos (by omega), if_pos (by omega), if_pos (by omega), e, if_pos (by omega), if_pos (by omega), w64 (n := (pre.length : Int) + 1) (by omega) (by omega)]
    have := ih (pre ++ [x]) (s.set x.toNat (wrap64 (rd s x + 1))) k (by simp [h]) (by omega) (by simpa using hs) (fun y hy => hr y (by simp [hy]))
    simpa using this
def countL (b : Nat) (l : List Int) : List Int := l.foldl (fun a d => a.set d.toNat (wrap64 (rd a d + 1))) (List.replicate b 0)
theorem countL_length (b : Nat) (l : List Int) : (countL b l).length = b := by
  have : ∀ (l : List Int) (s : List Int), (l.foldl (fun a d => a.set d.toNat (wrap64 (rd a d + 1))) s).length = s.length := by
    intro l
    induction l with
    | nil => intro s; rfl
    | cons x l ih => intro s; rw [List.foldl_cons, ih]; simp
  rw [countL, this]; simp
theorem dgCounts_eq (b : Nat) (l : List Int) (hb : b ≤ 35184372088832) (hl : l.length ≤ 4611686018427387904) {k : Nat} (hk : l.length < k) (hr : ∀ x ∈ l, 0 ≤ x ∧ x < b) : spec_dgCounts.f k l (b : Int) = some (countL b l) := by
  have := dgCounts_loop l hl b l [] (List.replicate b 0) k rfl hk (by simp) hr
  unfold spec_dgCounts.f
  rw [if_pos (by omega), if_pos (by simpa using hb)]
  simpa [countL] using this
theorem countsOf_loop : ∀ (k : Nat) (s xs : List Int) (n i : Int), impl_countsOf.l0 k s xs n i = spec_dgCounts.l0 k s xs n i := by
  intro k
  induction k with
  | zero => intros; rfl
  | succ k ih => intro s xs n i; simp only [impl_countsOf.l0, spec_dgCounts.l0, ih]
theorem countsOf_is (k : Nat) (l : List Int) (b : Int) : impl_countsOf.f k l b = spec_dgCounts.f k l b := by
  unfold impl_countsOf.f spec_dgCounts.f
  simp only [countsOf_loop]


theorem countL_fold (b : Nat) : ∀ (l s : List Int), (∀ x ∈ l, 0 ≤ x ∧ x < b) → s.length = b → nneg s → s.sum + (l.length : Int) ≤ 100000 →
    nneg (l.foldl (fun a d => a.set d.toNat (wrap64 (rd a d + 1))) s) ∧ (l.foldl (fun a d => a.set d.toNat (wrap64 (rd a d + 1))) s).sum = s.sum + (l.length : Int)
  | [], s, _, _, h, _ => ⟨h, by simp⟩
  | d :: l, s, hr, hs, hn, hb => by
    have hd := hr d (by simp)
    obtain ⟨j, rfl⟩ := Int.eq_ofNat_of_zero_le hd.1
    have hj : j < s.length := by omega
    obtain ⟨h0, h1⟩ := nneg_sum hn
    have he := h1 j hj
    simp only [List.length_cons] at hb
    have e1 : wrap64 (rd s (j : Int) + 1) = s[j] + 1 := by rw [rd_get hj, w64 (by omega) (by omega)]
    have e2 := set_sum s j (s[j] + 1) hj
    rw [List.foldl_cons, e1, Int.toNat_natCast]
    obtain ⟨g1, g2⟩ := countL_fold b l (s.set j (s[j] + 1)) (fun x hx => hr x (by simp [hx])) (by simpa using hs) (nneg_set hn j (by omega)) (by omega)
    refine ⟨g1, ?_⟩
    rw [g2, e2, List.length_cons]
    omega
theorem countL_facts (b : Nat) (l : List Int) (hr : ∀ x ∈ l, 0 ≤ x ∧ x < b) (hl : l.length ≤ 1000) : nneg (countL b l) ∧ (countL b l).sum = (l.length : Int) := by
  obtain ⟨h1, h2⟩ := countL_fold b l (List.replicate b 0) hr (by simp) (nneg_zeros b) (by rw [sum_zeros]; omega)
  refine ⟨h1, ?_⟩
  rw [countL, h2, sum_zeros]; omega

/-! ### ways to choose -/
def sumsTo (f : Nat → Nat) : Nat → Nat
  | 0 => f 0
  | c + 1 => sumsTo f c + f (c + 1)
/-- In how many ways c things lie among u others. -/
def pas : Nat → Nat → Nat
  | 0, _ => 1
  | u + 1, c => sumsTo (pas u) c
theorem pas_zero : ∀ u, pas u 0 = 1
  | 0 => rfl
  | u + 1 => pas_zero u
theorem pas_succ (u c : Nat) : pas (u + 1) (c + 1) = pas (u + 1) c + pas u (c + 1) := rfl
theorem pas_swap : ∀ u c, pas u c = pas c u := by
  intro u
  induction u with
  | zero => intro c; rw [pas_zero]; rfl
  | succ u ihu =>
    intro c
    induction c with
    | zero => rw [pas_zero]; rfl
    | succ c ihc => rw [pas_succ, pas_succ, ihc, ihu (c + 1), Nat.add_comm]
theorem pas_step : ∀ n u c, u + c = n → (c + 1) * pas u (c + 1) = (u + c + 1) * pas u c := by
  intro n
  induction n using Nat.strongRecOn with
  | ind n ih =>
    intro u c h
    rcases u with _ | v
    · show (c + 1) * 1 = (0 + c + 1) * 1
      omega
    · have a1 := ih (v + c) (by omega) v c rfl
      have a2 := ih (c + v) (by omega) c v rfl
      rw [pas_swap c (v + 1), pas_swap c v] at a2
      rw [pas_succ, Nat.mul_add, a1]
      generalize pas (v + 1) c = X at *
      generalize pas v c = Y at *
      have e1 : (v + 1 + c + 1) * X = (c + 1) * X + (v + 1) * X := by rw [← Nat.add_mul]; congr 1; omega
      have e2 : (c + v + 1) * Y = (v + c + 1) * Y := by congr 1; omega
      rw [e1, a2, e2]
theorem pas_bound (i : Nat) : ∀ u c, pas u c * i ^ u ≤ (i + 1) ^ (u + c) := by
  intro u
  induction u with
  | zero =>
    intro c
    show 1 * 1 ≤ _
    exact Nat.pow_pos (by omega)
  | succ u ihu =>
    intro c
    induction c with
    | zero => rw [pas_zero, Nat.one_mul]; exact Nat.pow_le_pow_left (by omega) _
    | succ c ihc =>
      have a1 := Nat.mul_le_mul_right i (ihu (c + 1))
      have e1 : pas u (c + 1) * i ^ (u + 1) = pas u (c + 1) * i ^ u * i := by rw [Nat.pow_succ, Nat.mul_assoc]
      have e2 : (i + 1) ^ (u + 1 + (c + 1)) = (i + 1) ^ (u + (c + 1)) * i + (i + 1) ^ (u + 1 + c) := by
        rw [show u + 1 + (c + 1) = u + (c + 1) + 1 by omega, Nat.pow_succ, Nat.mul_add, Nat.mul_one, show u + 1 + c = u + (c + 1) by omega]
      rw [pas_succ, Nat.add_mul, e1, e2, Nat.add_comm]
      exact Nat.add_le_add a1 ihc
theorem pas_pos (u c : Nat) : 1 ≤ pas u c := by
  induction u generalizing c with
  | zero => exact Nat.le_refl 1
  | succ u ihu =>
    induction c with
    | zero => rw [pas_zero]; omega
    | succ c ihc => rw [pas_succ]; omega
/-- One turn of the reckoning. -/
theorem turn {W u j : Nat} (h : W * pas u j ≤ 100000000000000) (hu : u + j ≤ 100) : wrap64 (Int.tdiv (wrap64 (((W * pas u j : Nat) : Int) * ((u + j + 1 : Nat) : Int))) ((j + 1 : Nat) : Int)) = ((W * pas u (j + 1) : Nat) : Int) := by
  have e := pas_step (u + j) u j rfl
  have e1 : W * pas u j * (u + j + 1) = W * pas u (j + 1) * (j + 1) := by
    rw [Nat.mul_assoc, Nat.mul_comm (pas u j), ← e, Nat.mul_comm (j + 1), Nat.mul_assoc]
  have e2 : W * pas u j * (u + j + 1) ≤ 100000000000000 * 101 := Nat.mul_le_mul h (by omega)
  have e3 : W * pas u (j + 1) ≤ W * pas u j * (u + j + 1) := by rw [e1]; exact Nat.le_mul_of_pos_right _ (by omega)
  rw [← Int.natCast_mul, w64n (Nat.le_trans e2 (by decide)), tdiv_nat, e1, Nat.mul_div_cancel _ (by omega), w64n (Nat.le_trans e3 (Nat.le_trans e2 (by decide)))]
theorem ways_in {W u c : Nat} (hb : ∀ j, j ≤ c → W * pas u j ≤ 100000000000000) (hu : u + c ≤ 99) (xs : List Int) (n i : Int) : ∀ (r j : Nat), j + r = c → ∀ k, spec_dgWays.l1 (k + (r + 1)) ((W * pas u j : Nat) : Int) ((u + j : Nat) : Int) (c : Int) ((j + 1 : Nat) : Int) xs n i = spec_dgWays.l0 k ((W * pas u c : Nat) : Int) ((u + c : Nat) : Int) xs n (wrap64 (i + 1)) := by
  intro r
  induction r with
  | zero =>
    intro j h k
    have : j = c := by omega
    subst this
    rw [Nat.zero_add, spec_dgWays.l1, if_neg (by omega)]
  | succ r ih =>
    intro j h k
    have ht : Aside0 _ := ⟨turn (hb j (by omega)) (by omega)⟩
    rw [← Nat.add_assoc, spec_dgWays.l1, if_pos (by omega), if_neg (by omega), w64s (j := u + j) (by omega), ht.out, w64s (j := j + 1) (by omega)]
    exact ih (j + 1) (by omega) k
theorem choose_in {W u c : Nat} (hW : 1 ≤ W) (hb : ∀ j, j ≤ c → W * pas u j ≤ 100000000000000) (hu : u + c ≤ 99) : ∀ (r j : Nat), j + r = c → ∀ k, impl_choose.l0 (k + (r + 1)) ((u + c : Nat) : Int) (c : Int) ((pas u j : Nat) : Int) ((j + 1 : Nat) : Int) = some ((pas u c : Nat) : Int) := by
  intro r
  induction r with
  | zero =>
    intro j h k
    have : j = c := by omega
    subst this
    rw [Nat.zero_add, impl_choose.l0, if_neg (by omega)]
  | succ r ih =>
    intro j h k
    have hb1 : 1 * pas u j ≤ 100000000000000 := Nat.le_trans (Nat.mul_le_mul_right _ hW) (hb j (by omega))
    have ht : Aside0 _ := ⟨turn hb1 (show u + j ≤ 100 by omega)⟩
    have hw : wrap64 (wrap64 (((u + c : Nat) : Int) - (c : Int)) + ((j + 1 : Nat) : Int)) = ((u + j + 1 : Nat) : Int) := by
      rw [show ((u + c : Nat) : Int) - (c : Int) = (u : Int) by omega, w64n (by omega), w64 (by omega) (by omega)]; omega
    have ht2 := ht.out
    rw [Nat.one_mul, Nat.one_mul] at ht2
    rw [← Nat.add_assoc, impl_choose.l0, if_pos (by omega), if_neg (by omega), hw, ht2, w64s (j := j + 1) (by omega)]
    exact ih (j + 1) (by omega) k
/-- The ways of all counts. -/
def wys : List Int → Nat → Nat → Nat
  | [], _, W => W
  | c :: cs, u, W => wys cs (u + c.toNat) (W * pas u c.toNat)
theorem ways_loop (b m : Nat) (hbm : b ^ m ≤ 100000000000000) (hb1 : 1 ≤ b) (hm : m ≤ 99) (xs : List Int) (hx : xs.length ≤ 1000) : ∀ (suf pre : List Int) (u W : Nat), xs = pre ++ suf → nneg suf → (u : Int) + suf.sum ≤ (m : Int) → pre.length + suf.length ≤ b → 1 ≤ W → W ≤ pre.length ^ u →
    (∃ c, ∀ k, spec_dgWays.l0 (k + c) (W : Int) (u : Int) xs (xs.length : Int) (pre.length : Int) = some ((wys suf u W : Nat) : Int)) ∧
    (∀ k, 200 + suf.length < k → impl_orders.l0 k (W : Int) (u : Int) xs (xs.length : Int) (pre.length : Int) = some ((wys suf u W : Nat) : Int)) ∧ (wys suf u W : Nat) ≤ 100000000000000 := by
  intro suf
  induction suf with
  | nil =>
    intro pre u W h _ hs hl hW hWb
    refine ⟨⟨1, fun k => ?_⟩, fun k hk => ?_, ?_⟩
    · subst h; rw [spec_dgWays.l0, if_neg (by simp)]; rfl
    · obtain ⟨k, rfl⟩ : ∃ m, k = m + 1 := ⟨k - 1, by omega⟩
      subst h; rw [impl_orders.l0, if_neg (by simp)]; rfl
    · have hu : u ≤ m := by simp at hs; omega
      have h1 : pre.length ^ u ≤ b ^ u := Nat.pow_le_pow_left (by simpa using hl) u
      have h2 : b ^ u ≤ b ^ m := Nat.pow_le_pow_right hb1 hu
      exact Nat.le_trans hWb (Nat.le_trans h1 (Nat.le_trans h2 hbm))
  | cons x suf ih =>
    intro pre u W h hn hs hl hW hWb
    have hx0 := hn x (by simp)
    obtain ⟨c, rfl⟩ := Int.eq_ofNat_of_zero_le hx0
    have hns : nneg suf := fun y hy => hn y (by simp [hy])
    have h0 := (nneg_sum hns).1
    simp only [List.sum_cons, List.length_cons] at hs hl
    have hlx : xs.length = pre.length + suf.length + 1 := by subst h; simp; omega
    have e : rd xs (pre.length : Int) = (c : Int) := by subst h; exact rd_mid _ _ _
    have hbj : ∀ j, j ≤ c → W * pas u j ≤ (pre.length + 1) ^ (u + j) := fun j hj => by
      have := Nat.mul_le_mul_right (pas u j) hWb
      have h2 := pas_bound pre.length u j
      rw [Nat.mul_comm] at h2
      exact Nat.le_trans this h2
    have hbound : ∀ j, j ≤ c → W * pas u j ≤ 100000000000000 := fun j hj => by
      have h1 : (pre.length + 1) ^ (u + j) ≤ b ^ (u + j) := Nat.pow_le_pow_left (by omega) _
      have h2 : b ^ (u + j) ≤ b ^ m := Nat.pow_le_pow_right hb1 (by omega)
      exact Nat.le_trans (hbj j hj) (Nat.le_trans h1 (Nat.le_trans h2 hbm))
    obtain ⟨⟨c1, g1⟩, g2, g3⟩ := ih (pre ++ [(c : Int)]) (u + c) (W * pas u c) (by simp [h]) hns (by omega) (by simp; omega) (by have := Nat.mul_le_mul hW (pas_pos u c); omega) (by simpa using hbj c (Nat.le_refl c))
    simp only [List.length_append, List.length_singleton] at g1 g2
    have hin := ways_in hbound (by omega) xs (xs.length : Int) (pre.length : Int) c 0 (by omega)
    have hch := choose_in hW hbound (by omega) c 0 (by omega)
    have hprod : Aside0 (wrap64 ((W : Int) * ((pas u c : Nat) : Int)) = ((W * pas u c : Nat) : Int)) := ⟨by rw [← Int.natCast_mul, w64n (Nat.le_trans (hbound c (Nat.le_refl c)) (by decide))]⟩
    simp only [pas_zero, Nat.mul_one, Nat.add_zero, Nat.zero_add, Int.natCast_one] at hin hch
    refine ⟨⟨c1 + (c + 1) + 1, fun k => ?_⟩, fun k hk => ?_, ?_⟩
    · have a1 := hin (k + c1)
      rw [w64s (by omega)] at a1
      rw [← Nat.add_assoc, ← Nat.add_assoc, spec_dgWays.l0, if_pos (by omega), if_pos (by omega), if_pos (by omega), e]
      exact a1.trans (g1 k)
    · obtain ⟨k, rfl⟩ : ∃ m, k = m + 1 := ⟨k - 1, by omega⟩
      simp only [List.length_cons] at hk
      have a1 := hch (k - (c + 1))
      rw [show k - (c + 1) + (c + 1) = k by omega] at a1
      have hw : wrap64 ((u : Int) + (c : Int)) = ((u + c : Nat) : Int) := by rw [← Int.natCast_add, w64n (by omega)]
      rw [impl_orders.l0, if_pos (by omega), if_pos (by omega), if_pos (by omega), e, hw, impl_choose.f, a1]
      simp only [Option.bind_some]
      rw [hprod.out, w64s (by omega)]
      exact g2 k (by omega)
    · exact g3
theorem ways_both (b m : Nat) (hbm : b ^ m ≤ 100000000000000) (hb1 : 1 ≤ b) (hm : m ≤ 99) (xs : List Int) (hx : xs.length ≤ b) (hb2 : b ≤ 1000) (hn : nneg xs) (hs : xs.sum ≤ (m : Int)) : ∃ (K w : Nat), w ≤ 100000000000000 ∧ ∀ k, K ≤ k → spec_dgWays.f k xs = some (w : Int) ∧ impl_orders.f k xs = some (w : Int) := by
  obtain ⟨⟨c, g1⟩, g2, g3⟩ := ways_loop b m hbm hb1 hm xs (by omega) xs [] 0 1 rfl hn (by simpa using hs) (by simpa using hx) (Nat.le_refl 1) (Nat.le_refl 1)
  refine ⟨201 + xs.length + c, _, g3, fun k hk => ⟨?_, g2 k (by omega)⟩⟩
  have := g1 (k - c)
  rw [show k - c + c = k by omega] at this
  exact this
theorem lsd_pow {b : Nat} (hb : 2 ≤ b) : ∀ n : Nat, 0 < n → b ^ (lsd b n).length ≤ b * n := by
  intro n
  induction n using Nat.strongRecOn with
  | ind n ih =>
    intro hn
    rw [lsd_pos hb hn, List.length_cons]
    rcases Nat.eq_zero_or_pos (n / b) with h | h
    · rw [h, lsd_zero]
      show b ^ 1 ≤ b * n
      rw [Nat.pow_one]; exact Nat.le_mul_of_pos_right b hn
    · have i1 := ih (n / b) (Nat.div_lt_self hn hb) h
      rw [Nat.pow_succ, Nat.mul_comm]
      refine Nat.mul_le_mul_left b (Nat.le_trans i1 ?_)
      exact Nat.mul_div_le n b
theorem dg_pow {b n : Nat} (hb : 2 ≤ b) (hb2 : b ≤ 16) (hn : n ≤ 1000000000000) : b ^ (dg b n).length ≤ 16000000000000 := by
  by_cases h : n = 0
  · subst h
    show b ^ 1 ≤ _
    rw [Nat.pow_one]; omega
  · rw [dg, if_neg h, List.length_reverse]
    refine Nat.le_trans (lsd_pow hb n (by omega)) ?_
    exact Nat.mul_le_mul hb2 hn
theorem CountRearranged_both (n b : Int) : ∃ (K : Nat) (v : Int × Bool), ∀ k, K ≤ k → spec_CountRearranged.f k n b = some v ∧ impl_CountRearranged.f k n b = some v := by
  cases h : asked n b with
  | false => exact ⟨0, (0, false), fun k _ => ⟨by simp [spec_CountRearranged.f, dgAsked_eq, h], by simp [impl_CountRearranged.f, isNumber_eq, h]⟩⟩
  | true =>
    obtain ⟨m, c, rfl, rfl, hm, hc, hc2⟩ := asked_nat h
    obtain ⟨K, hK, hk⟩ := digits_both (c := c) (m := m) hc hc2 (by omega)
    have hs := dg_short (c := c) (m := m) hc (by omega)
    have hr := dg_range hc m
    obtain ⟨cf1, cf2⟩ := countL_facts c (dg c m) hr (by omega)
    have hcl := countL_length c (dg c m)
    have hp := dg_pow hc hc2 hm
    obtain ⟨L, hL⟩ : ∃ L, L = (dg c m).length := ⟨_, rfl⟩
    obtain ⟨C, hC⟩ : ∃ C, C = countL c (dg c m) := ⟨_, rfl⟩
    have hcnt : ∀ k, K ≤ k → spec_dgCounts.f k (dg c m) (c : Int) = some C ∧ impl_countsOf.f k (dg c m) (c : Int) = some C := fun k hk => by
      rw [countsOf_is, dgCounts_eq c (dg c m) (by omega) (by omega) (by omega) hr, hC]; exact ⟨rfl, rfl⟩
    rw [← hC] at cf1 cf2 hcl
    rw [← hL] at cf2 hp hs
    by_cases hz : m = 0
    · subst hz
      have hC0 : C = countL c [0] := by rw [hC]; rfl
      obtain ⟨q, hq⟩ : ∃ q, c = q + 1 := ⟨c - 1, by omega⟩
      have hC1 : C = 1 :: List.replicate q 0 := by
        rw [hC0, hq]
        show (List.replicate (q + 1) (0 : Int)).set (Int.toNat 0) (wrap64 (rd (List.replicate (q + 1) 0) 0 + 1)) = _
        have hr0 : rd (0 :: List.replicate q (0 : Int)) 0 = 0 := rfl
        rw [List.replicate_succ, hr0, w64 (by omega) (by omega)]; rfl
      obtain ⟨K2, w, hw1, hw2⟩ := ways_both c L (by omega) (by omega) (by omega) C (by omega) (by omega) cf1 (by omega)
      -- one digit, one way
      have hwys : ∀ q u, wys (List.replicate q 0) u 1 = 1 := by
        intro q
        induction q with
        | zero => intro u; rfl
        | succ q ih =>
          intro u
          show wys (List.replicate q 0) (u + 0) (1 * pas u 0) = 1
          rw [pas_zero]; exact ih u
      have hone : ∃ K3, ∀ k, K3 ≤ k → impl_orders.f k C = some 1 := by
        obtain ⟨_, g2, _⟩ := ways_loop c L (by omega) (by omega) (by omega) C (by omega) C [] 0 1 rfl cf1 (by simp; omega) (by simp; omega) (Nat.le_refl 1) (Nat.le_refl 1)
        refine ⟨201 + C.length, fun k hk => ?_⟩
        have := g2 k (by omega)
        have e : wys C 0 1 = 1 := by rw [hC1]; exact hwys q 1
        rw [e] at this
        exact this
      obtain ⟨K3, h3⟩ := hone
      refine ⟨K + K3, (1, true), fun k hk' => ?_⟩
      obtain ⟨e1, e2⟩ := hk k (by omega)
      obtain ⟨e3, e4⟩ := hcnt k (by omega)
      have e5 := h3 k (by omega)
      have e6 : 0 < (C.length : Int) := by omega
      refine ⟨?_, ?_⟩
      · simp only [spec_CountRearranged.f, dgAsked_eq, h, e1, e3, Option.bind_some]
        rw [if_pos trivial, if_pos (by omega)]
      · have r0 : rd C 0 = 1 := by rw [hC1]; rfl
        simp only [impl_CountRearranged.f, isNumber_eq, h, e2, e4, e5, Option.bind_some, r0]
        rw [if_pos trivial, if_pos e6, if_pos (by omega), if_neg (by omega)]
    · obtain ⟨K2, w, hw1, hw2⟩ := ways_both c L (by omega) (by omega) (by omega) C (by omega) (by omega) cf1 (by omega)
      have h0l : 0 < C.length := by omega
      have r0 : rd C 0 = C[0] := rd_get (j := 0) h0l
      have hc0 := (nneg_sum cf1).2 0 h0l
      have e6 : 0 < (C.length : Int) := by omega
      by_cases hpos : C[0] > 0
      · have hset := set_sum C 0 (C[0] - 1) h0l
        obtain ⟨K3, w3, hw3, hw4⟩ := ways_both c L (by omega) (by omega) (by omega) (C.set 0 (C[0] - 1)) (by simp; omega) (by omega) (nneg_set cf1 0 (by omega)) (by omega)
        refine ⟨K + K2 + K3, ((w : Int) - (w3 : Int), true), fun k hk' => ?_⟩
        obtain ⟨e1, e2⟩ := hk k (by omega)
        obtain ⟨e3, e4⟩ := hcnt k (by omega)
        obtain ⟨e7, e8⟩ := hw2 k (by omega)
        obtain ⟨e9, e10⟩ := hw4 k (by omega)
        have ew : wrap64 (C[0] - 1) = C[0] - 1 := w64 (by omega) (by omega)
        have ew2 : wrap64 ((w : Int) - (w3 : Int)) = (w : Int) - (w3 : Int) := w64 (by omega) (by omega)
        refine ⟨?_, ?_⟩
        · simp only [spec_CountRearranged.f, dgAsked_eq, h, e1, e3, e7, Option.bind_some]
          rw [if_pos trivial, if_neg (by omega), if_pos e6, r0, if_pos hpos, ew, Int.toNat_zero, e9, Option.bind_some, ew2]
        · simp only [impl_CountRearranged.f, isNumber_eq, h, e2, e4, e8, Option.bind_some]
          rw [if_pos trivial, if_pos e6, r0, if_pos hpos, if_pos (by omega), ew, Int.toNat_zero, e10, Option.bind_some, ew2]
      · refine ⟨K + K2, ((w : Int), true), fun k hk' => ?_⟩
        obtain ⟨e1, e2⟩ := hk k (by omega)
        obtain ⟨e3, e4⟩ := hcnt k (by omega)
        obtain ⟨e7, e8⟩ := hw2 k (by omega)
        refine ⟨?_, ?_⟩
        · simp only [spec_CountRearranged.f, dgAsked_eq, h, e1, e3, e7, Option.bind_some]
          rw [if_pos trivial, if_neg (by omega), if_pos e6, r0, if_neg hpos]
        · simp only [impl_CountRearranged.f, isNumber_eq, h, e2, e4, e8, Option.bind_some]
          rw [if_pos trivial, if_pos e6, r0, if_neg hpos]
theorem CountRearranged_law : laws_FnExactCountRearranged.Pure := by
  intro n b _ _
  obtain ⟨K, v, h⟩ := CountRearranged_both n b
  exact ⟨K, by simp [laws_FnExactCountRearranged.f, (h K (by omega)).1, (h K (by omega)).2]⟩
end Go.Proofs.YtndbfkgcmckjlaaC
