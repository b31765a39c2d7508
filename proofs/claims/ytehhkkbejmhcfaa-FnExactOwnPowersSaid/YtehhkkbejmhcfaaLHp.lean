/-
  The plain laws of PowerTail, PowerRun, EndsIn, IsHappy, HappyUpTo and CountHappy over the printed functions. No conditions.
-/
import Derived.Test.YtehhkkbejmhcfaaLPt
import Derived.Test.YtehhkkbejmhcfaaLMp
import Derived.Test.YtehhkkbejmhcfaaLMt
import Derived.Test.YtehhkkbejmhcfaaCHp
namespace Go.Proofs.YtehhkkbejmhcfaaC
open Go.RowKit Go.Proofs.YtehhkkbejmhcfaaW.PrintWords Go.Proofs.YtehhkkbejmhcfaaW.PrintMore
set_option linter.unusedSimpArgs false
set_option linter.unusedVariables false

/-! ### a step -/
def stp (b p : Nat) (x : Int) : Int := pws b p x.toNat
theorem pow4 {d : Int} (h0 : 0 ≤ d) (h1 : d ≤ 16) {p : Nat} (h : p ≤ 4) : 0 ≤ d ^ p ∧ d ^ p ≤ 65536 := by
  refine ⟨(pow_bound h0 h1 p).1, Int.le_trans (pow_bound h0 h1 p).2 ?_⟩
  have : p = 0 ∨ p = 1 ∨ p = 2 ∨ p = 3 ∨ p = 4 := by omega
  rcases this with rfl | rfl | rfl | rfl | rfl <;> decide
theorem psum4 {p : Nat} (hp : p ≤ 4) : ∀ (l : List Int), (∀ x ∈ l, 0 ≤ x ∧ x ≤ 16) → 0 ≤ psum p l ∧ psum p l ≤ 65536 * (l.length : Int)
  | [], _ => by simp [psum]
  | d :: l, h => by
    have ih := psum4 hp l (fun x hx => h x (by simp [hx]))
    have hd := pow4 (h d (by simp)).1 (h d (by simp)).2 hp
    simp only [psum, List.map_cons, List.sum_cons, List.length_cons] at ih ⊢
    omega
theorem stp_range {b p : Nat} (hb : 2 ≤ b) (hb2 : b ≤ 16) (hp : p ≤ 4) {x : Int} (hx : x ≤ 1000000000000) : 0 ≤ stp b p x ∧ stp b p x ≤ 1000000000000 := by
  have h1 := lsd_length hb 63 x.toNat (by omega)
  have h2 := psum4 hp (lsd b x.toNat) (fun y hy => by have := lsd_range hb x.toNat y hy; omega)
  unfold stp pws
  omega
theorem stps_range {b p : Nat} (hb : 2 ≤ b) (hb2 : b ≤ 16) (hp : p ≤ 4) {x : Int} (h0 : 0 ≤ x) (hx : x ≤ 1000000000000) : ∀ i, 0 ≤ it (stp b p) x i ∧ it (stp b p) x i ≤ 1000000000000
  | 0 => ⟨h0, hx⟩
  | i + 1 => stp_range hb hb2 hp (stps_range hb hb2 hp h0 hx i).2

/-! ### the two runs -/
theorem runF_rho {step : Int → Option Int} {f : Int → Int} {x : Int} {m a : Nat} (h : Rho f x m a) (hm : m < 17592186044415) (hs : ∀ i, step (it f x i) = some (it f x (i + 1))) (hr : ∀ i, -9223372036854775808 ≤ it f x i ∧ it f x i ≤ 9223372036854775807) :
    ∀ (d i k : Nat), i + d = m → d < k → runF step k (orbit f x i) (it f x i) = some (orbit f x m, (a : Int))
  | 0, i, k, hi, hk => by
    obtain ⟨k, rfl⟩ : ∃ q, k = q + 1 := ⟨k - 1, by omega⟩
    obtain rfl : i = m := by omega
    rw [runF, if_pos ⟨(hr i).1, (hr i).2, by rw [orbit_length]; exact hm⟩, h.back, if_pos (mem_orbit.2 ⟨a, h.lt, rfl⟩), idxOf_orbit h.inj h.lt]
  | d + 1, i, k, hi, hk => by
    obtain ⟨k, rfl⟩ : ∃ q, k = q + 1 := ⟨k - 1, by omega⟩
    rw [runF, if_pos ⟨(hr i).1, (hr i).2, by rw [orbit_length]; omega⟩, if_neg (h.fresh (by omega)), hs, Option.bind_some, ← orbit_succ]
    exact runF_rho h hm hs hr d (i + 1) k (by omega) (by omega)
theorem pwRunF_rho {step : Int → Option Int} {f : Int → Int} {x : Int} {m a : Nat} (h : Rho f x m a) (hm : m < 17592186044415) (hs : ∀ i, step (it f x i) = some (it f x (i + 1))) :
    ∀ (d i k : Nat), i + 1 + d = m → d < k → pwRunF step k (orbit f x (i + 1)) (it f x i) = some (orbit f x m, (a : Int))
  | 0, i, k, hi, hk => by
    obtain ⟨k, rfl⟩ : ∃ q, k = q + 1 := ⟨k - 1, by omega⟩
    obtain rfl : i + 1 = m := by omega
    rw [pwRunF, hs, Option.bind_some, if_pos (by rw [orbit_length]; omega), h.back, if_pos (mem_orbit.2 ⟨a, h.lt, rfl⟩), idxOf_orbit h.inj h.lt]
  | d + 1, i, k, hi, hk => by
    obtain ⟨k, rfl⟩ : ∃ q, k = q + 1 := ⟨k - 1, by omega⟩
    rw [pwRunF, hs, Option.bind_some, if_pos (by rw [orbit_length]; omega), if_neg (h.fresh (by omega)), ← orbit_succ]
    exact pwRunF_rho h hm hs d (i + 1) k (by omega) (by omega)
theorem powerRun_both {b p n : Nat} (hb : 2 ≤ b) (hb2 : b ≤ 16) (hp1 : 1 ≤ p) (hp : p ≤ 4) (hn : n ≤ 1000000000000) :
    ∃ (K m a : Nat), m ≤ 1000000000001 ∧ Rho (stp b p) (n : Int) m a ∧ ∀ k, K ≤ k → spec_pwRun.f k (n : Int) (b : Int) (p : Int) = some (orbit (stp b p) (n : Int) m, (a : Int)) ∧ impl_powerRun.f k (n : Int) (b : Int) (p : Int) = some (orbit (stp b p) (n : Int) m, (a : Int)) := by
  have hr := stps_range hb hb2 hp (x := (n : Int)) (by omega) (by omega)
  obtain ⟨m, a, hm, h⟩ := rho_exists (stp b p) (n : Int) 1000000000001 (fun i => by have := hr i; omega)
  refine ⟨1000000000500 + m, m, a, hm, h, fun k hk => ⟨?_, ?_⟩⟩
  · have hl := h.lt
    have := pwRunF_rho (step := fun n => spec_pwSum.f k n (b : Int) (p : Int)) h (by omega) (fun i => by
      have h1 := hr i
      obtain ⟨y, hy⟩ := Int.eq_ofNat_of_zero_le h1.1
      show spec_pwSum.f k (it (stp b p) (n : Int) i) (b : Int) (p : Int) = some (stp b p (it (stp b p) (n : Int) i))
      rw [hy] at h1 ⊢
      exact pwSum_eq hb hb2 (by omega) (by omega) k (by omega)) (m - 1) 0 k (by omega) (by omega)
    exact this
  · exact runF_rho (step := fun n => impl_powerSum.f k n (b : Int) (p : Int)) h (by omega) (fun i => by
      have h1 := hr i
      obtain ⟨y, hy⟩ := Int.eq_ofNat_of_zero_le h1.1
      show impl_powerSum.f k (it (stp b p) (n : Int) i) (b : Int) (p : Int) = some (stp b p (it (stp b p) (n : Int) i))
      rw [hy] at h1 ⊢
      exact powerSum_eq hb hb2 hp1 (by omega) (by omega) k (by omega)) (fun i => by have := hr i; omega) m 0 k (by omega) (by omega)
/-- Are runs asked for? -/
def cycledB (n b p : Int) : Bool := asked n b && decide (1 ≤ p ∧ p ≤ 4)
theorem isCycled_eq (n b p : Int) : impl_isCycled.f n b p = some (cycledB n b p) := by
  rw [impl_isCycled.f, isNumber_eq, Option.bind_some, cycledB]
  cases h : asked n b with
  | false => rw [if_neg (by decide)]; rfl
  | true => rw [if_pos rfl, in_eq]; rfl
theorem cycled_nat {n b p : Int} (h : cycledB n b p = true) : ∃ m c q : Nat, n = m ∧ b = c ∧ p = q ∧ m ≤ 1000000000000 ∧ 2 ≤ c ∧ c ≤ 16 ∧ 1 ≤ q ∧ q ≤ 4 := by
  simp only [cycledB, Bool.and_eq_true, decide_eq_true_eq] at h
  obtain ⟨m, c, h1, h2, h3, h4, h5⟩ := asked_nat h.1
  exact ⟨m, c, p.toNat, h1, h2, by omega, h3, h4, h5, by omega, by omega⟩
theorem PowerTail_both (n b p : Int) : ∃ (K : Nat) (v : Int × Int × Bool), ∀ k, K ≤ k → spec_PowerTail.f k n b p = some v ∧ impl_PowerTail.f k n b p = some v := by
  cases hc : cycledB n b p with
  | false =>
    refine ⟨0, (0, 0, false), fun k _ => ⟨?_, by rw [impl_PowerTail.f, isCycled_eq, hc, Option.bind_some, if_neg (by decide)]⟩⟩
    rw [spec_PowerTail.f, dgAsked_eq, Option.bind_some]
    cases h : asked n b with
    | false => rw [if_neg (by decide)]
    | true =>
      rw [cycledB, h, Bool.true_and] at hc
      rw [if_pos rfl, pwPower_eq, hc, Option.bind_some, if_neg (by decide)]
  | true =>
    obtain ⟨x, c, q, rfl, rfl, rfl, h1, h2, h3, h4, h5⟩ := cycled_nat hc
    have hc2 := hc
    rw [cycledB, Bool.and_eq_true] at hc2
    obtain ⟨K, m, a, hm, hr, hk⟩ := powerRun_both h2 h3 h4 h5 h1
    refine ⟨K, ((a : Int), wrap64 ((m : Int) - (a : Int)), true), fun k hk2 => ⟨?_, ?_⟩⟩
    · rw [spec_PowerTail.f, dgAsked_eq, hc2.1, Option.bind_some, if_pos rfl, pwPower_eq, hc2.2, Option.bind_some, if_pos rfl, (hk k hk2).1, Option.bind_some, orbit_length]
    · rw [impl_PowerTail.f, isCycled_eq, hc, Option.bind_some, if_pos rfl, (hk k hk2).2, Option.bind_some, orbit_length]
theorem PowerTail_law : laws_FnExactPowerTail.Pure := by
  intro n b p _ _ _
  obtain ⟨K, v, h⟩ := PowerTail_both n b p
  exact ⟨K, by simp [laws_FnExactPowerTail.f, (h K (by omega)).1, (h K (by omega)).2]⟩
theorem PowerRun_both (n b p : Int) : ∃ (K : Nat) (r : List Int) (ok : Bool), r.length ≤ 1000000000001 ∧ ∀ k, K ≤ k → spec_PowerRun.f k n b p = some (r, ok) ∧ impl_PowerRun.f k n b p = some (r, ok) := by
  cases hc : cycledB n b p with
  | false =>
    refine ⟨0, [], false, by simp, fun k _ => ⟨?_, by rw [impl_PowerRun.f, isCycled_eq, hc, Option.bind_some, if_neg (by decide)]⟩⟩
    rw [spec_PowerRun.f, dgAsked_eq, Option.bind_some]
    cases h : asked n b with
    | false => rw [if_neg (by decide)]
    | true =>
      rw [cycledB, h, Bool.true_and] at hc
      rw [if_pos rfl, pwPower_eq, hc, Option.bind_some, if_neg (by decide)]
  | true =>
    obtain ⟨x, c, q, rfl, rfl, rfl, h1, h2, h3, h4, h5⟩ := cycled_nat hc
    have hc2 := hc
    rw [cycledB, Bool.and_eq_true] at hc2
    obtain ⟨K, m, a, hm, hr, hk⟩ := powerRun_both h2 h3 h4 h5 h1
    refine ⟨K, orbit (stp c q) (x : Int) m, true, by rw [orbit_length]; exact hm, fun k hk2 => ⟨?_, ?_⟩⟩
    · rw [spec_PowerRun.f, dgAsked_eq, hc2.1, Option.bind_some, if_pos rfl, pwPower_eq, hc2.2, Option.bind_some, if_pos rfl, (hk k hk2).1, Option.bind_some]
    · rw [impl_PowerRun.f, isCycled_eq, hc, Option.bind_some, if_pos rfl, (hk k hk2).2, Option.bind_some]
theorem law_facts_long (r : List Int) (hr : r.length ≤ 1000000000001) {k : Nat} (hk : r.length < k) :
    laws_eqIntS.f k r r = some true ∧ laws_markIntS.f k r 1 = some (1 + (r.length : Int), marks 1 r.length) ∧ laws_heldIntS.f k (marks 1 r.length) 1 = some (1 + (r.length : Int)) :=
  ⟨eqIntS_same r (by omega) (by omega), markIntS_eq r 1 (by omega) (by omega) (by omega) (by omega), heldIntS_eq r.length 1 (by omega) (by omega) (by omega) (by omega)⟩
theorem PowerRun_law : laws_FnExactPowerRun.Pure := by
  intro n b p _ _ _
  obtain ⟨K0, r, ok, hr, h0⟩ := PowerRun_both n b p
  obtain ⟨K, hK⟩ : ∃ K, K = K0 + r.length + 1 := ⟨_, rfl⟩
  have hE : ∀ k, K ≤ k → laws_eqIntS.f k r r = some true := fun k h => (law_facts_long r hr (show _ < k by omega)).1
  have hM : ∀ k, K ≤ k → laws_markIntS.f k r 1 = some (1 + (r.length : Int), marks 1 r.length) := fun k h => (law_facts_long r hr (show _ < k by omega)).2.1
  have hH : ∀ k, K ≤ k → laws_heldIntS.f k (marks 1 r.length) 1 = some (1 + (r.length : Int)) := fun k h => (law_facts_long r hr (show _ < k by omega)).2.2
  have hN := neg_no r
  have e1 : ∀ k, K ≤ k → spec_PowerRun.f k n b p = some (r, ok) := fun k h => (h0 k (by omega)).1
  have e2 : ∀ k, K ≤ k → impl_PowerRun.f k n b p = some (r, ok) := fun k h => (h0 k (by omega)).2
  refine ⟨K + 9, ?_⟩
  simp [laws_FnExactPowerRun.f, laws_FnExactPowerRun.j0, laws_FnExactPowerRun.j1, hE, hM, hH, hN, e1, e2]

/-! ### the least of a list -/
structure IsMin (e : Int) (l : List Int) : Prop where
  mem : e ∈ l
  le : ∀ y ∈ l, e ≤ y
theorem IsMin.unique {e e' : Int} {l : List Int} (h : IsMin e l) (h' : IsMin e' l) : e = e' := by
  have := h.le e' h'.mem
  have := h'.le e h.mem
  omega
theorem isMin_exists : ∀ (l : List Int), l ≠ [] → ∃ e, IsMin e l
  | [], h => absurd rfl h
  | [x], _ => ⟨x, by simp, by simp⟩
  | x :: y :: l, _ => by
    obtain ⟨e, h1, h2⟩ := isMin_exists (y :: l) (by simp)
    by_cases hx : x ≤ e
    · refine ⟨x, by simp, fun z hz => ?_⟩
      rcases List.mem_cons.1 hz with rfl | hz
      · omega
      · have := h2 z hz; omega
    · refine ⟨e, by simp [h1], fun z hz => ?_⟩
      rcases List.mem_cons.1 hz with rfl | hz
      · omega
      · exact h2 z hz
theorem Min_loop {e : Int} {xs : List Int} (he : IsMin e xs) (hx : xs.length ≤ 4611686018427387904) : ∀ (d i : Nat) (m : Int) (k : Nat), i + d = xs.length → d < k → m ∈ xs → (∀ j (h : j < xs.length), j < i → m ≤ xs[j]) →
    slices_Min_int_int.l0 k xs m (i : Int) = some e
  | 0, i, m, k, hi, hk, hm, hle => by
    obtain ⟨k, rfl⟩ : ∃ q, k = q + 1 := ⟨k - 1, by omega⟩
    rw [slices_Min_int_int.l0, if_neg (by omega)]
    have : IsMin m xs := ⟨hm, fun y hy => by
      obtain ⟨j, hj, rfl⟩ := List.getElem_of_mem hy
      exact hle j hj (by omega)⟩
    rw [this.unique he]
  | d + 1, i, m, k, hi, hk, hm, hle => by
    obtain ⟨k, rfl⟩ : ∃ q, k = q + 1 := ⟨k - 1, by omega⟩
    have hil : i < xs.length := by omega
    rw [slices_Min_int_int.l0, if_pos (by omega), if_pos (by omega), w64s (by omega), rd_get hil]
    refine Min_loop he hx d (i + 1) _ k (by omega) (by omega) ?_ (fun j hj hji => ?_)
    · unfold mn
      split
      · exact List.getElem_mem hil
      · exact hm
    · have h1 : j < i → m ≤ xs[j] := hle j hj
      unfold mn
      by_cases hji2 : j = i
      · subst hji2; split <;> omega
      · have := h1 (by omega)
        split <;> omega
theorem Min_eq {e : Int} {xs : List Int} (he : IsMin e xs) (hx : xs.length ≤ 4611686018427387904) {k : Nat} (hk : xs.length < k) : slices_Min_int_int.f k xs = some e := by
  have hp : 0 < xs.length := List.length_pos_of_mem he.mem
  rw [slices_Min_int_int.f, if_neg (by omega), if_pos (by omega)]
  have e0 : rd xs 0 = xs[0] := rd_get (j := 0) hp
  rw [e0]
  exact Min_loop he hx (xs.length - 1) 1 _ k (by omega) (by omega) (List.getElem_mem hp) (fun j hj h1 => by
    have : j = 0 := by omega
    subst this; exact Int.le_refl _)
theorem idxOf_first {xs : List Int} {at_ : Nat} (ha : at_ < xs.length) {e : Int} (he : xs[at_] = e) (hf : ∀ j (h : j < xs.length), j < at_ → xs[j] ≠ e) : xs.idxOf e = at_ := by
  have hn : ¬ e ∈ xs.take at_ := fun hm => by
    obtain ⟨j, hj, h⟩ := List.getElem_of_mem hm
    rw [List.length_take] at hj
    rw [List.getElem_take] at h
    exact hf j (by omega) (by omega) h
  have h1 : xs = xs.take at_ ++ xs.drop at_ := (List.take_append_drop at_ xs).symm
  have h2 : xs.drop at_ = xs[at_] :: xs.drop (at_ + 1) := List.drop_eq_getElem_cons ha
  conv => lhs; rw [h1]
  rw [List.idxOf_append, if_neg hn, h2, he, List.idxOf_cons_self, List.length_take]
  omega
/-- A cycle with its least number first. -/
def turned (xs : List Int) (e : Int) : List Int := xs.drop (xs.idxOf e) ++ xs.take (xs.idxOf e)
theorem turned_length (xs : List Int) (e : Int) : (turned xs e).length = xs.length := by
  simp only [turned, List.length_append, List.length_drop, List.length_take]; omega
theorem pwTurned_loop {e : Int} {xs : List Int} (he : IsMin e xs) (hx : xs.length ≤ 1000000000001) : ∀ (d i at_ : Nat) (k : Nat), i + d = xs.length → d < k → (ha : at_ < xs.length) → (∀ j (h : j < xs.length), j < at_ → xs[at_] < xs[j]) → (∀ j (h : j < xs.length), j < i → xs[at_] ≤ xs[j]) →
    spec_pwTurned.l0 k xs (at_ : Int) xs (xs.length : Int) (i : Int) = some (turned xs e)
  | 0, i, at_, k, hi, hk, ha, hf, hle => by
    obtain ⟨k, rfl⟩ : ∃ q, k = q + 1 := ⟨k - 1, by omega⟩
    have hm : IsMin xs[at_] xs := ⟨List.getElem_mem ha, fun y hy => by
      obtain ⟨j, hj, rfl⟩ := List.getElem_of_mem hy
      exact hle j hj (by omega)⟩
    have hee := hm.unique he
    have hidx := idxOf_first ha hee (fun j hj hji => by have := hf j hj hji; omega)
    rw [spec_pwTurned.l0, if_neg (by omega), if_pos (by omega), if_pos (by omega), spec_l1Own.f, Option.bind_some, if_pos (by simp; omega), Option.bind_some, if_pos (by simp; omega), turned, hidx]
    simp
  | d + 1, i, at_, k, hi, hk, ha, hf, hle => by
    obtain ⟨k, rfl⟩ : ∃ q, k = q + 1 := ⟨k - 1, by omega⟩
    have hil : i < xs.length := by omega
    rw [spec_pwTurned.l0, if_pos (by omega), if_pos (by omega), if_pos (by omega), if_pos (by omega), if_pos (by omega), w64s (by omega), rd_get hil, rd_get ha]
    by_cases hc : xs[i] < xs[at_]
    · rw [if_pos hc]
      refine pwTurned_loop he hx d (i + 1) i k (by omega) (by omega) hil (fun j hj hji => ?_) (fun j hj hji => ?_)
      · have := hle j hj hji; omega
      · by_cases h : j = i
        · subst h; exact Int.le_refl _
        · have := hle j hj (by omega); omega
    · rw [if_neg hc]
      refine pwTurned_loop he hx d (i + 1) at_ k (by omega) (by omega) ha hf (fun j hj hji => ?_)
      by_cases h : j = i
      · subst h; omega
      · exact hle j hj (by omega)
theorem pwTurned_eq {e : Int} {xs : List Int} (he : IsMin e xs) (hx : xs.length ≤ 1000000000001) {k : Nat} (hk : xs.length < k) : spec_pwTurned.f k xs = some (turned xs e) := by
  have hp : 0 < xs.length := List.length_pos_of_mem he.mem
  exact pwTurned_loop he hx xs.length 0 0 k (by omega) hk hp (fun j hj h => by omega) (fun j hj h => by omega)
theorem turned_first {e : Int} {xs : List Int} (he : IsMin e xs) : rd (turned xs e) 0 = e ∧ 0 < (turned xs e).length := by
  have hl : xs.idxOf e < xs.length := List.idxOf_lt_length_iff.2 he.mem
  have hg := List.getElem_idxOf hl
  refine ⟨?_, by rw [turned_length]; omega⟩
  rw [turned, List.drop_eq_getElem_cons hl, hg]
  rfl

/-! ### EndsIn -/
theorem ends_both {b p n : Nat} (hb : 2 ≤ b) (hb2 : b ≤ 16) (hp1 : 1 ≤ p) (hp : p ≤ 4) (hn : n ≤ 1000000000000) :
    ∃ (K m a : Nat) (e : Int), m ≤ 1000000000001 ∧ Rho (stp b p) (n : Int) m a ∧ IsMin e ((orbit (stp b p) (n : Int) m).drop a) ∧ ∀ k, K ≤ k → spec_pwEnds.f k (n : Int) (b : Int) (p : Int) = some e ∧
      impl_powerRun.f k (n : Int) (b : Int) (p : Int) = some (orbit (stp b p) (n : Int) m, (a : Int)) ∧ slices_Min_int_int.f k ((orbit (stp b p) (n : Int) m).drop a) = some e := by
  obtain ⟨K, m, a, hm, hr, hk⟩ := powerRun_both hb hb2 hp1 hp hn
  have hl := hr.lt
  have hol := orbit_length (stp b p) (n : Int) m
  have hdl : ((orbit (stp b p) (n : Int) m).drop a).length = m - a := by rw [List.length_drop, hol]
  obtain ⟨e, he⟩ := isMin_exists ((orbit (stp b p) (n : Int) m).drop a) (fun h => by rw [h] at hdl; simp at hdl; omega)
  refine ⟨K + m + 1, m, a, e, hm, hr, he, fun k hk2 => ⟨?_, (hk k (by omega)).2, Min_eq he (by omega) (by omega)⟩⟩
  rw [spec_pwEnds.f, (hk k (by omega)).1, Option.bind_some, if_pos (by omega), if_pos (by rw [hol]; omega), Int.toNat_natCast, pwTurned_eq he (by omega) (by omega), Option.bind_some, if_pos (by have := (turned_first he).2; omega), (turned_first he).1]
theorem EndsIn_both (n b p : Int) : ∃ (K : Nat) (v : Int × Bool), ∀ k, K ≤ k → spec_EndsIn.f k n b p = some v ∧ impl_EndsIn.f k n b p = some v := by
  cases hc : cycledB n b p with
  | false =>
    refine ⟨0, (0, false), fun k _ => ⟨?_, by rw [impl_EndsIn.f, isCycled_eq, hc, Option.bind_some, if_neg (by decide)]⟩⟩
    rw [spec_EndsIn.f, dgAsked_eq, Option.bind_some]
    cases h : asked n b with
    | false => rw [if_neg (by decide)]
    | true =>
      rw [cycledB, h, Bool.true_and] at hc
      rw [if_pos rfl, pwPower_eq, hc, Option.bind_some, if_neg (by decide)]
  | true =>
    obtain ⟨x, c, q, rfl, rfl, rfl, h1, h2, h3, h4, h5⟩ := cycled_nat hc
    have hc2 := hc
    rw [cycledB, Bool.and_eq_true] at hc2
    obtain ⟨K, m, a, e, hm, hr, he, hk⟩ := ends_both h2 h3 h4 h5 h1
    have hl := hr.lt
    refine ⟨K, (e, true), fun k hk2 => ⟨?_, ?_⟩⟩
    · rw [spec_EndsIn.f, dgAsked_eq, hc2.1, Option.bind_some, if_pos rfl, pwPower_eq, hc2.2, Option.bind_some, if_pos rfl, (hk k hk2).1, Option.bind_some]
    · rw [impl_EndsIn.f, isCycled_eq, hc, Option.bind_some, if_pos rfl, (hk k hk2).2.1, Option.bind_some, if_pos (by omega), if_pos (by rw [orbit_length]; omega), Int.toNat_natCast, (hk k hk2).2.2, Option.bind_some]
theorem EndsIn_law : laws_FnExactEndsIn.Pure := by
  intro n b p _ _ _
  obtain ⟨K, v, h⟩ := EndsIn_both n b p
  exact ⟨K, by simp [laws_FnExactEndsIn.f, (h K (by omega)).1, (h K (by omega)).2]⟩

/-! ### happy numbers -/
theorem one_pw : ∀ q : Nat, (1 : Int) ^ q = 1
  | 0 => rfl
  | q + 1 => by rw [Int.pow_succ, one_pw q]; rfl
theorem stp_fix {b p : Nat} (hb : 2 ≤ b) {x : Int} (hx : x = 0 ∨ x = 1) (hp : 1 ≤ p) : stp b p x = x := by
  obtain ⟨q, rfl⟩ : ∃ q, p = q + 1 := ⟨p - 1, by omega⟩
  rcases hx with rfl | rfl
  · show pws b (q + 1) 0 = 0
    rw [pws, lsd_zero]; rfl
  · show pws b (q + 1) 1 = 1
    rw [pws, lsd_pos hb (by omega), Nat.mod_eq_of_lt (by omega), Nat.div_eq_of_lt (by omega), lsd_zero]
    simp only [psum, List.map_cons, List.map_nil, List.sum_cons, List.sum_nil, Int.add_zero]
    exact one_pw _
theorem it_fix {f : Int → Int} {x : Int} (h : f x = x) : ∀ k, it f x k = x
  | 0 => rfl
  | k + 1 => by
    show f (it f x k) = x
    rw [it_fix h k, h]
theorem happy_iff {b : Nat} (hb : 2 ≤ b) {x : Int} {m a : Nat} {e : Int} (h : Rho (stp b 2) x m a) (he : IsMin e ((orbit (stp b 2) x m).drop a)) : e = 1 ↔ (1 : Int) ∈ orbit (stp b 2) x m := by
  constructor
  · intro e1
    have := he.mem
    rw [e1] at this
    exact List.mem_of_mem_drop this
  · intro h1
    obtain ⟨i, hi, hi2⟩ := mem_orbit.1 h1
    have hm := he.mem
    rw [orbit_drop] at hm
    obtain ⟨j, hj, hj2⟩ := mem_orbit.1 hm
    rw [← it_add] at hj2
    have hl := h.lt
    have h3 := h.rounds (a + j) (by omega) i
    have hge : i ≤ i * (m - a) := Nat.le_mul_of_pos_right _ (by omega)
    rw [← hj2, ← h3, show a + j + i * (m - a) = i + (a + j + i * (m - a) - i) by omega, it_add, hi2, it_fix (stp_fix hb (Or.inr rfl) (by omega))]
theorem happy_both {b n : Nat} (hb : 2 ≤ b) (hb2 : b ≤ 16) (hn : n ≤ 1000000000000) : ∃ (K : Nat) (v : Bool), ∀ k, K ≤ k → spec_pwHappy.f k (n : Int) (b : Int) = some v ∧ impl_isHappy.f k (n : Int) (b : Int) = some v := by
  obtain ⟨K, m, a, e, hm, hr, he, hk⟩ := ends_both (p := 2) hb hb2 (by omega) (by omega) hn
  have hiff := happy_iff hb hr he
  have hC : ∀ k, K + m + 1 ≤ k → impl_isHappy.f k (n : Int) (b : Int) = some (decide ((1 : Int) ∈ orbit (stp b 2) (n : Int) m)) := fun k hk2 => by
    have := (hk k (by omega)).2.1
    rw [show (((2 : Nat) : Int)) = 2 from rfl] at this
    rw [impl_isHappy.f, this, Option.bind_some, Contains_eq _ _ (by rw [orbit_length]; omega) (by rw [orbit_length]; omega), Option.bind_some]
  refine ⟨K + m + 1, decide ((1 : Int) ∈ orbit (stp b 2) (n : Int) m), fun k hk2 => ⟨?_, hC k hk2⟩⟩
  rw [spec_pwHappy.f]
  by_cases h0 : (n : Int) > 0
  · have := (hk k (by omega)).1
    rw [show (((2 : Nat) : Int)) = 2 from rfl] at this
    rw [if_pos h0, this, Option.bind_some]
    congr 1
    apply Bool.eq_iff_iff.2
    rw [beq_iff_eq, decide_eq_true_eq]
    exact hiff
  · have hn0 : n = 0 := by omega
    subst hn0
    rw [if_neg h0, decide_eq_false]
    intro hm1
    obtain ⟨i, hi, hi2⟩ := mem_orbit.1 hm1
    have := it_fix (f := stp b 2) (x := ((0 : Nat) : Int)) (stp_fix hb (Or.inl rfl) (by omega)) i
    rw [this] at hi2
    omega
theorem IsHappy_both (n b : Int) : ∃ (K : Nat) (v : Bool × Bool), ∀ k, K ≤ k → spec_IsHappy.f k n b = some v ∧ impl_IsHappy.f k n b = some v := by
  cases hask : asked n b with
  | false => exact ⟨0, (false, false), fun k _ => ⟨by rw [spec_IsHappy.f, dgAsked_eq, hask, Option.bind_some, if_neg (by simp)], by rw [impl_IsHappy.f, isNumber_eq, hask, Option.bind_some, if_neg (by simp)]⟩⟩
  | true =>
    obtain ⟨n, c, rfl, rfl, hm, hc, hc2⟩ := asked_nat hask
    obtain ⟨K, v, hk⟩ := happy_both hc hc2 hm
    exact ⟨K, (v, true), fun k hk2 => ⟨by rw [spec_IsHappy.f, dgAsked_eq, hask, Option.bind_some, if_pos rfl, (hk k hk2).1, Option.bind_some], by rw [impl_IsHappy.f, isNumber_eq, hask, Option.bind_some, if_pos rfl, (hk k hk2).2, Option.bind_some]⟩⟩
theorem IsHappy_law : laws_FnExactIsHappy.Pure := by
  intro n b _ _
  obtain ⟨K, v, h⟩ := IsHappy_both n b
  exact ⟨K, by simp [laws_FnExactIsHappy.f, (h K (by omega)).1, (h K (by omega)).2]⟩
theorem HappyUpTo_loop {b t : Nat} (hb : 2 ≤ b) (hb2 : b ≤ 16) (ht : t ≤ 2000) : ∀ (d i : Nat) (out : List Int), i + d = t + 1 → out.length ≤ i →
    ∃ (K : Nat) (r : List Int), r.length ≤ t + 1 ∧ ∀ k, K ≤ k → spec_HappyUpTo.l0 k (t : Int) (b : Int) out (i : Int) = some (r, true) ∧ impl_HappyUpTo.l0 k (t : Int) (b : Int) out (i : Int) = some (r, true)
  | 0, i, out, hi, ho => by
    refine ⟨1, out, by omega, fun k hk => ?_⟩
    obtain ⟨k, rfl⟩ : ∃ q, k = q + 1 := ⟨k - 1, by omega⟩
    exact ⟨by rw [spec_HappyUpTo.l0, if_neg (by omega)], by rw [impl_HappyUpTo.l0, if_neg (by omega)]⟩
  | d + 1, i, out, hi, ho => by
    obtain ⟨K1, v, h1⟩ := happy_both (n := i) hb hb2 (by omega)
    cases v with
    | true =>
      obtain ⟨K2, r, hr, h2⟩ := HappyUpTo_loop hb hb2 ht d (i + 1) (out ++ [(i : Int)]) (by omega) (by simp; omega)
      refine ⟨K1 + K2 + 1, r, hr, fun k hk => ?_⟩
      obtain ⟨k, rfl⟩ : ∃ q, k = q + 1 := ⟨k - 1, by omega⟩
      obtain ⟨a1, a2⟩ := h1 k (by omega)
      obtain ⟨b1, b2⟩ := h2 k (by omega)
      exact ⟨by rw [spec_HappyUpTo.l0, if_pos (by omega), a1, Option.bind_some, if_pos rfl, if_pos (by omega), w64s (by omega), b1], by rw [impl_HappyUpTo.l0, if_pos (by omega), a2, Option.bind_some, if_pos rfl, if_pos (by omega), w64s (by omega), b2]⟩
    | false =>
      obtain ⟨K2, r, hr, h2⟩ := HappyUpTo_loop hb hb2 ht d (i + 1) out (by omega) (by omega)
      refine ⟨K1 + K2 + 1, r, hr, fun k hk => ?_⟩
      obtain ⟨k, rfl⟩ : ∃ q, k = q + 1 := ⟨k - 1, by omega⟩
      obtain ⟨a1, a2⟩ := h1 k (by omega)
      obtain ⟨b1, b2⟩ := h2 k (by omega)
      exact ⟨by rw [spec_HappyUpTo.l0, if_pos (by omega), a1, Option.bind_some, if_neg (by decide), w64s (by omega), b1], by rw [impl_HappyUpTo.l0, if_pos (by omega), a2, Option.bind_some, if_neg (by decide), w64s (by omega), b2]⟩
theorem HappyUpTo_both (t b : Int) : ∃ (K : Nat) (r : List Int) (ok : Bool), r.length ≤ 3000 ∧ ∀ k, K ≤ k → spec_HappyUpTo.f k t b = some (r, ok) ∧ impl_HappyUpTo.f k t b = some (r, ok) := by
  by_cases ht : 0 ≤ t ∧ t ≤ 2000
  · by_cases hb : 2 ≤ b ∧ b ≤ 16
    · obtain ⟨t, rfl⟩ := Int.eq_ofNat_of_zero_le ht.1
      obtain ⟨b, rfl⟩ := Int.eq_ofNat_of_zero_le (show 0 ≤ b by omega)
      obtain ⟨K, r, hr, hk⟩ := HappyUpTo_loop (b := b) (t := t) (by omega) (by omega) (by omega) t 1 [] (by omega) (by simp)
      refine ⟨K + 1, r, true, by omega, fun k hk2 => ?_⟩
      obtain ⟨k, rfl⟩ : ∃ q, k = q + 1 := ⟨k - 1, by omega⟩
      obtain ⟨a1, a2⟩ := hk k (by omega)
      rw [show (((1 : Nat) : Int)) = 1 from rfl] at a1 a2
      exact ⟨by rw [spec_HappyUpTo.f, l1In_eq, decide_eq_true ht, Option.bind_some, if_pos rfl, dgBase_eq, decide_eq_true hb, Option.bind_some, spec_HappyUpTo.j0, if_neg (by decide), a1],
        by rw [impl_HappyUpTo.f, isBase_eq, decide_eq_true hb, Option.bind_some, if_pos rfl, in_eq, decide_eq_true ht, Option.bind_some, impl_HappyUpTo.j0, if_neg (by decide), a2]⟩
    · refine ⟨1, [], false, by simp, fun k hk2 => ?_⟩
      obtain ⟨k, rfl⟩ : ∃ q, k = q + 1 := ⟨k - 1, by omega⟩
      exact ⟨by rw [spec_HappyUpTo.f, l1In_eq, decide_eq_true ht, Option.bind_some, if_pos rfl, dgBase_eq, decide_eq_false hb, Option.bind_some, spec_HappyUpTo.j0, if_pos (by decide)],
        by rw [impl_HappyUpTo.f, isBase_eq, decide_eq_false hb, Option.bind_some, if_neg (by decide), impl_HappyUpTo.j0, if_pos rfl]⟩
  · refine ⟨1, [], false, by simp, fun k hk2 => ?_⟩
    obtain ⟨k, rfl⟩ : ∃ q, k = q + 1 := ⟨k - 1, by omega⟩
    refine ⟨by rw [spec_HappyUpTo.f, l1In_eq, decide_eq_false ht, Option.bind_some, if_neg (by decide), spec_HappyUpTo.j0, if_pos rfl], ?_⟩
    by_cases hb : 2 ≤ b ∧ b ≤ 16
    · rw [impl_HappyUpTo.f, isBase_eq, decide_eq_true hb, Option.bind_some, if_pos rfl, in_eq, decide_eq_false ht, Option.bind_some, impl_HappyUpTo.j0, if_pos (by decide)]
    · rw [impl_HappyUpTo.f, isBase_eq, decide_eq_false hb, Option.bind_some, if_neg (by decide), impl_HappyUpTo.j0, if_pos rfl]
theorem HappyUpTo_law : laws_FnExactHappyUpTo.Pure := by
  intro t b _ _
  obtain ⟨K0, r, ok, hr, h0⟩ := HappyUpTo_both t b
  obtain ⟨K, hK⟩ : ∃ K, K = K0 + r.length + 1 := ⟨_, rfl⟩
  have hE : ∀ k, K ≤ k → laws_eqIntS.f k r r = some true := fun k h => (law_facts_long r (by omega) (show _ < k by omega)).1
  have hM : ∀ k, K ≤ k → laws_markIntS.f k r 1 = some (1 + (r.length : Int), marks 1 r.length) := fun k h => (law_facts_long r (by omega) (show _ < k by omega)).2.1
  have hH : ∀ k, K ≤ k → laws_heldIntS.f k (marks 1 r.length) 1 = some (1 + (r.length : Int)) := fun k h => (law_facts_long r (by omega) (show _ < k by omega)).2.2
  have hN := neg_no r
  have e1 : ∀ k, K ≤ k → spec_HappyUpTo.f k t b = some (r, ok) := fun k h => (h0 k (by omega)).1
  have e2 : ∀ k, K ≤ k → impl_HappyUpTo.f k t b = some (r, ok) := fun k h => (h0 k (by omega)).2
  refine ⟨K + 9, ?_⟩
  simp [laws_FnExactHappyUpTo.f, laws_FnExactHappyUpTo.j0, laws_FnExactHappyUpTo.j1, hE, hM, hH, hN, e1, e2]
theorem wrap_wrap (x : Int) : wrap64 (wrap64 x) = wrap64 x := by unfold wrap64; omega
theorem CountHappy_loop {b : Nat} (hb : 2 ≤ b) (hb2 : b ≤ 16) (xs : List Int) (hx : xs.length ≤ 1000) (hn : nneg xs) : ∀ (d i : Nat) (acc : Int), i + d = xs.length → wrap64 acc = acc →
    ∃ (K : Nat) (v : Int × Bool), ∀ k, K ≤ k → spec_CountHappy.l0 k (b : Int) acc xs (xs.length : Int) (i : Int) = some v ∧ impl_CountHappy.l0 k (b : Int) acc xs (xs.length : Int) (i : Int) = some v
  | 0, i, acc, hi, hw => by
    refine ⟨1, (acc, true), fun k hk => ?_⟩
    obtain ⟨k, rfl⟩ : ∃ q, k = q + 1 := ⟨k - 1, by omega⟩
    exact ⟨by rw [spec_CountHappy.l0, if_neg (by omega)], by rw [impl_CountHappy.l0, if_neg (by omega)]⟩
  | d + 1, i, acc, hi, hw => by
    have hil : i < xs.length := by omega
    have h0 : 0 ≤ xs[i] := hn _ (List.getElem_mem hil)
    obtain ⟨K1, v, h1⟩ := happy_both (n := i) hb hb2 (by omega)
    obtain ⟨K2, r2, h2⟩ := CountHappy_loop hb hb2 xs hx hn d (i + 1) acc (by omega) hw
    obtain ⟨K3, r3, h3⟩ := CountHappy_loop hb hb2 xs hx hn d (i + 1) (wrap64 (acc + xs[i])) (by omega) (wrap_wrap _)
    by_cases hz : xs[i] > 0
    · cases v with
      | true =>
        refine ⟨K1 + K2 + K3 + 1, r3, fun k hk => ?_⟩
        obtain ⟨k, rfl⟩ : ∃ q, k = q + 1 := ⟨k - 1, by omega⟩
        obtain ⟨a1, a2⟩ := h1 k (by omega)
        obtain ⟨b1, b2⟩ := h3 k (by omega)
        exact ⟨by rw [spec_CountHappy.l0, if_pos (by omega), if_pos (by omega), if_pos (by omega), a1, Option.bind_some, if_pos rfl, w64s (by omega), rd_get hil, b1],
          by rw [impl_CountHappy.l0, if_pos (by omega), if_pos (by omega), if_pos (by omega), rd_get hil, if_pos hz, a2, Option.bind_some, if_pos rfl, w64s (by omega), b2]⟩
      | false =>
        refine ⟨K1 + K2 + K3 + 1, r2, fun k hk => ?_⟩
        obtain ⟨k, rfl⟩ : ∃ q, k = q + 1 := ⟨k - 1, by omega⟩
        obtain ⟨a1, a2⟩ := h1 k (by omega)
        obtain ⟨b1, b2⟩ := h2 k (by omega)
        exact ⟨by rw [spec_CountHappy.l0, if_pos (by omega), if_pos (by omega), if_pos (by omega), a1, Option.bind_some, if_neg (by decide), w64s (by omega), b1],
          by rw [impl_CountHappy.l0, if_pos (by omega), if_pos (by omega), if_pos (by omega), rd_get hil, if_pos hz, a2, Option.bind_some, if_neg (by decide), w64s (by omega), b2]⟩
    · have hz0 : xs[i] = 0 := by omega
      rw [hz0, Int.add_zero, hw] at h3
      refine ⟨K1 + K2 + K3 + 1, r2, fun k hk => ?_⟩
      obtain ⟨k, rfl⟩ : ∃ q, k = q + 1 := ⟨k - 1, by omega⟩
      obtain ⟨a1, a2⟩ := h1 k (by omega)
      obtain ⟨b1, b2⟩ := h2 k (by omega)
      refine ⟨?_, by rw [impl_CountHappy.l0, if_pos (by omega), if_pos (by omega), if_pos (by omega), rd_get hil, if_neg hz, w64s (by omega), b2]⟩
      rw [spec_CountHappy.l0, if_pos (by omega), if_pos (by omega), if_pos (by omega), a1, Option.bind_some, w64s (by omega), rd_get hil, hz0, Int.add_zero, hw, b1]
      split <;> rfl
theorem CountHappy_both (n b : Int) : ∃ (K : Nat) (v : Int × Bool), ∀ k, K ≤ k → spec_CountHappy.f k n b = some v ∧ impl_CountHappy.f k n b = some v := by
  by_cases h1 : 0 ≤ n ∧ n ≤ 12
  · by_cases h2 : 2 ≤ b ∧ b ≤ 10
    · obtain ⟨m, rfl⟩ := Int.eq_ofNat_of_zero_le h1.1
      obtain ⟨c, rfl⟩ := Int.eq_ofNat_of_zero_le (show 0 ≤ b by omega)
      obtain ⟨K1, r, hr, hnn, hk⟩ := spread_both (m := m) (c := c) (by omega) (by omega) (by omega)
      obtain ⟨K2, v, hv⟩ := CountHappy_loop (b := c) (by omega) (by omega) r hr hnn r.length 0 0 (by omega) (by unfold wrap64; omega)
      refine ⟨K1 + K2 + 1, v, fun k hk2 => ?_⟩
      obtain ⟨k, rfl⟩ : ∃ q, k = q + 1 := ⟨k - 1, by omega⟩
      refine ⟨?_, ?_⟩
      · rw [spec_CountHappy.f, spec_pwSpreadAsked.f, l1In_eq, decide_eq_true h1, Option.bind_some, if_pos rfl, l1In_eq, decide_eq_true h2, Option.bind_some, Option.bind_some, if_pos rfl, (hk (k + 1) (by omega)).1, Option.bind_some]
        exact (hv (k + 1) (by omega)).1
      · rw [impl_CountHappy.f, impl_isSmallBase.f, in_eq, decide_eq_true h2, Option.bind_some, Option.bind_some, if_pos rfl, in_eq, decide_eq_true h1, Option.bind_some, impl_CountHappy.j0, if_neg (by decide), (hk k (by omega)).2, Option.bind_some]
        exact (hv k (by omega)).2
    · refine ⟨1, (0, false), fun k hk2 => ?_⟩
      obtain ⟨k, rfl⟩ : ∃ q, k = q + 1 := ⟨k - 1, by omega⟩
      exact ⟨by rw [spec_CountHappy.f, spec_pwSpreadAsked.f, l1In_eq, decide_eq_true h1, Option.bind_some, if_pos rfl, l1In_eq, decide_eq_false h2, Option.bind_some, Option.bind_some, if_neg (by decide)],
        by rw [impl_CountHappy.f, impl_isSmallBase.f, in_eq, decide_eq_false h2, Option.bind_some, Option.bind_some, if_neg (by decide), impl_CountHappy.j0, if_pos rfl]⟩
  · refine ⟨1, (0, false), fun k hk2 => ?_⟩
    obtain ⟨k, rfl⟩ : ∃ q, k = q + 1 := ⟨k - 1, by omega⟩
    refine ⟨by rw [spec_CountHappy.f, spec_pwSpreadAsked.f, l1In_eq, decide_eq_false h1, Option.bind_some, if_neg (by decide), Option.bind_some, if_neg (by decide)], ?_⟩
    by_cases h2 : 2 ≤ b ∧ b ≤ 10
    · rw [impl_CountHappy.f, impl_isSmallBase.f, in_eq, decide_eq_true h2, Option.bind_some, Option.bind_some, if_pos rfl, in_eq, decide_eq_false h1, Option.bind_some, impl_CountHappy.j0, if_pos (by decide)]
    · rw [impl_CountHappy.f, impl_isSmallBase.f, in_eq, decide_eq_false h2, Option.bind_some, Option.bind_some, if_neg (by decide), impl_CountHappy.j0, if_pos rfl]
theorem CountHappy_law : laws_FnExactCountHappy.Pure := by
  intro n b _ _
  obtain ⟨K, v, h⟩ := CountHappy_both n b
  exact ⟨K, by simp [laws_FnExactCountHappy.f, (h K (by omega)).1, (h K (by omega)).2]⟩
end Go.Proofs.YtehhkkbejmhcfaaC
