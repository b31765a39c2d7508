/-
  The plain law of CyclesOfPowers over the printed functions. No conditions.
-/
import Derived.Test.YtehhkkbejmhcfaaLHp
import Derived.Test.YtehhkkbejmhcfaaCCp
namespace Go.Proofs.YtehhkkbejmhcfaaC
open Go.RowKit Go.Proofs.YtehhkkbejmhcfaaW.PrintWords Go.Proofs.YtehhkkbejmhcfaaW.PrintMore
set_option linter.unusedSimpArgs false
set_option linter.unusedVariables false
set_option linter.unusedSectionVars false

/-! ### more rounds, the same answer -/
theorem spec_pwLimited.mono_l : ∀ k, (∀ y0 y1 y2, LeO (spec_pwLimited.l0 k y0 y1 y2) (spec_pwLimited.l0 (k + 1) y0 y1 y2))
  | 0 => fun _ _ _ r h => by simp [spec_pwLimited.l0] at h
  | k + 1 => by
    have ih0 := spec_pwLimited.mono_l k
    · intro y0 y1 y2
      unfold spec_pwLimited.l0
      repeat' first
      | (with_reducible exact ih0 _ _ _)
      | (with_reducible exact LeO.refl _)
      | (with_reducible exact LeO.none _)
      | (with_reducible refine LeO.ite ?_ ?_)
      | (with_reducible refine LeO.bind ?_ (fun _ => ?_))
      | exact ih0 _ _ _
      | exact LeO.none _
      | refine LeO.ite ?_ ?_
      | refine LeO.bind ?_ (fun _ => ?_)

theorem spec_pwLimited.mono : ∀ a0 a1 k, LeO (spec_pwLimited.f k a0 a1) (spec_pwLimited.f (k + 1) a0 a1) := by
  intro a0 a1 k
  have ih0 := spec_pwLimited.mono_l k
  unfold spec_pwLimited.f
  repeat' first
      | (with_reducible exact ih0 _ _ _)
      | (with_reducible exact LeO.refl _)
      | (with_reducible exact LeO.none _)
      | (with_reducible refine LeO.ite ?_ ?_)
      | (with_reducible refine LeO.bind ?_ (fun _ => ?_))
      | exact ih0 _ _ _
      | exact LeO.none _
      | refine LeO.ite ?_ ?_
      | refine LeO.bind ?_ (fun _ => ?_)

theorem spec_pwOf.mono_l : ∀ k, (∀ y0 y1 y2, LeO (spec_pwOf.l0 k y0 y1 y2) (spec_pwOf.l0 (k + 1) y0 y1 y2))
  | 0 => fun _ _ _ r h => by simp [spec_pwOf.l0] at h
  | k + 1 => by
    have ih0 := spec_pwOf.mono_l k
    · intro y0 y1 y2
      unfold spec_pwOf.l0
      repeat' first
      | (with_reducible exact ih0 _ _ _)
      | (with_reducible exact LeO.refl _)
      | (with_reducible exact LeO.none _)
      | (with_reducible refine LeO.ite ?_ ?_)
      | (with_reducible refine LeO.bind ?_ (fun _ => ?_))
      | exact ih0 _ _ _
      | exact LeO.none _
      | refine LeO.ite ?_ ?_
      | refine LeO.bind ?_ (fun _ => ?_)

theorem spec_pwOf.mono : ∀ a0 a1 k, LeO (spec_pwOf.f k a0 a1) (spec_pwOf.f (k + 1) a0 a1) := by
  intro a0 a1 k
  have ih0 := spec_pwOf.mono_l k
  unfold spec_pwOf.f
  repeat' first
      | (with_reducible exact ih0 _ _ _)
      | (with_reducible exact LeO.refl _)
      | (with_reducible exact LeO.none _)
      | (with_reducible refine LeO.ite ?_ ?_)
      | (with_reducible refine LeO.bind ?_ (fun _ => ?_))
      | exact ih0 _ _ _
      | exact LeO.none _
      | refine LeO.ite ?_ ?_
      | refine LeO.bind ?_ (fun _ => ?_)

theorem spec_pwFalls.mono_l : ∀ k, (∀ y0 y1 y2 y3, LeO (spec_pwFalls.l0 k y0 y1 y2 y3) (spec_pwFalls.l0 (k + 1) y0 y1 y2 y3))
  | 0 => fun _ _ _ _ r h => by simp [spec_pwFalls.l0] at h
  | k + 1 => by
    have ih0 := spec_pwFalls.mono_l k
    · intro y0 y1 y2 y3
      unfold spec_pwFalls.l0
      repeat' first
      | (with_reducible exact ih0 _ _ _ _)
      | (with_reducible exact spec_pwLimited.mono _ _ _)
      | (with_reducible exact spec_pwOf.mono _ _ _)
      | (with_reducible exact LeO.refl _)
      | (with_reducible exact LeO.none _)
      | (with_reducible refine LeO.ite ?_ ?_)
      | (with_reducible refine LeO.bind ?_ (fun _ => ?_))
      | exact ih0 _ _ _ _
      | exact spec_pwLimited.mono _ _ _
      | exact spec_pwOf.mono _ _ _
      | exact LeO.none _
      | refine LeO.ite ?_ ?_
      | refine LeO.bind ?_ (fun _ => ?_)

theorem spec_pwFalls.mono : ∀ a0 a1 k, LeO (spec_pwFalls.f k a0 a1) (spec_pwFalls.f (k + 1) a0 a1) := by
  intro a0 a1 k
  have ih0 := spec_pwFalls.mono_l k
  unfold spec_pwFalls.f
  repeat' first
      | (with_reducible exact ih0 _ _ _ _)
      | (with_reducible exact spec_pwLimited.mono _ _ _)
      | (with_reducible exact spec_pwOf.mono _ _ _)
      | (with_reducible exact LeO.refl _)
      | (with_reducible exact LeO.none _)
      | (with_reducible refine LeO.ite ?_ ?_)
      | (with_reducible refine LeO.bind ?_ (fun _ => ?_))
      | exact ih0 _ _ _ _
      | exact spec_pwLimited.mono _ _ _
      | exact spec_pwOf.mono _ _ _
      | exact LeO.none _
      | refine LeO.ite ?_ ?_
      | refine LeO.bind ?_ (fun _ => ?_)

theorem spec_pwGreatest.mono : ∀ a0 a1 k, LeO (spec_pwGreatest.f k a0 a1) (spec_pwGreatest.f (k + 1) a0 a1) := by
  intro a0 a1 k
  unfold spec_pwGreatest.f
  repeat' first
      | (with_reducible exact spec_pwFalls.mono _ _ _)
      | (with_reducible exact spec_pwOf.mono _ _ _)
      | (with_reducible exact LeO.refl _)
      | (with_reducible exact LeO.none _)
      | (with_reducible refine LeO.ite ?_ ?_)
      | (with_reducible refine LeO.bind ?_ (fun _ => ?_))
      | exact spec_pwFalls.mono _ _ _
      | exact spec_pwOf.mono _ _ _
      | exact LeO.none _
      | refine LeO.ite ?_ ?_
      | refine LeO.bind ?_ (fun _ => ?_)

theorem impl_toPower.mono_l : ∀ k, (∀ y0 y1 y2 y3, LeO (impl_toPower.l0 k y0 y1 y2 y3) (impl_toPower.l0 (k + 1) y0 y1 y2 y3))
  | 0 => fun _ _ _ _ r h => by simp [impl_toPower.l0] at h
  | k + 1 => by
    have ih0 := impl_toPower.mono_l k
    · intro y0 y1 y2 y3
      unfold impl_toPower.l0
      repeat' first
      | (with_reducible exact ih0 _ _ _ _)
      | (with_reducible exact LeO.refl _)
      | (with_reducible exact LeO.none _)
      | (with_reducible refine LeO.ite ?_ ?_)
      | (with_reducible refine LeO.bind ?_ (fun _ => ?_))
      | exact ih0 _ _ _ _
      | exact LeO.none _
      | refine LeO.ite ?_ ?_
      | refine LeO.bind ?_ (fun _ => ?_)

theorem impl_toPower.mono : ∀ a0 a1 k, LeO (impl_toPower.f k a0 a1) (impl_toPower.f (k + 1) a0 a1) := by
  intro a0 a1 k
  have ih0 := impl_toPower.mono_l k
  unfold impl_toPower.f
  repeat' first
      | (with_reducible exact ih0 _ _ _ _)
      | (with_reducible exact LeO.refl _)
      | (with_reducible exact LeO.none _)
      | (with_reducible refine LeO.ite ?_ ?_)
      | (with_reducible refine LeO.bind ?_ (fun _ => ?_))
      | exact ih0 _ _ _ _
      | exact LeO.none _
      | refine LeO.ite ?_ ?_
      | refine LeO.bind ?_ (fun _ => ?_)

theorem impl_fallsFrom.mono_l : ∀ k, (∀ y0 y1 y2, LeO (impl_fallsFrom.l0 k y0 y1 y2) (impl_fallsFrom.l0 (k + 1) y0 y1 y2))
  | 0 => fun _ _ _ r h => by simp [impl_fallsFrom.l0] at h
  | k + 1 => by
    have ih0 := impl_fallsFrom.mono_l k
    · intro y0 y1 y2
      unfold impl_fallsFrom.l0
      repeat' first
      | (with_reducible exact ih0 _ _ _)
      | (with_reducible exact impl_toPower.mono _ _ _)
      | (with_reducible exact LeO.refl _)
      | (with_reducible exact LeO.none _)
      | (with_reducible refine LeO.ite ?_ ?_)
      | (with_reducible refine LeO.bind ?_ (fun _ => ?_))
      | exact ih0 _ _ _
      | exact impl_toPower.mono _ _ _
      | exact LeO.none _
      | refine LeO.ite ?_ ?_
      | refine LeO.bind ?_ (fun _ => ?_)

theorem impl_fallsFrom.mono : ∀ a0 a1 k, LeO (impl_fallsFrom.f k a0 a1) (impl_fallsFrom.f (k + 1) a0 a1) := by
  intro a0 a1 k
  have ih0 := impl_fallsFrom.mono_l k
  unfold impl_fallsFrom.f
  repeat' first
      | (with_reducible exact ih0 _ _ _)
      | (with_reducible exact impl_toPower.mono _ _ _)
      | (with_reducible exact LeO.refl _)
      | (with_reducible exact LeO.none _)
      | (with_reducible refine LeO.ite ?_ ?_)
      | (with_reducible refine LeO.bind ?_ (fun _ => ?_))
      | exact ih0 _ _ _
      | exact impl_toPower.mono _ _ _
      | exact LeO.none _
      | refine LeO.ite ?_ ?_
      | refine LeO.bind ?_ (fun _ => ?_)

theorem impl_greatest.mono : ∀ a0 a1 k, LeO (impl_greatest.f k a0 a1) (impl_greatest.f (k + 1) a0 a1) := by
  intro a0 a1 k
  unfold impl_greatest.f
  repeat' first
      | (with_reducible exact impl_fallsFrom.mono _ _ _)
      | (with_reducible exact impl_toPower.mono _ _ _)
      | (with_reducible exact LeO.refl _)
      | (with_reducible exact LeO.none _)
      | (with_reducible refine LeO.ite ?_ ?_)
      | (with_reducible refine LeO.bind ?_ (fun _ => ?_))
      | exact impl_fallsFrom.mono _ _ _
      | exact impl_toPower.mono _ _ _
      | exact LeO.none _
      | refine LeO.ite ?_ ?_
      | refine LeO.bind ?_ (fun _ => ?_)
theorem up_to {f : Nat → Option Int} (h : ∀ k, LeO (f k) (f (k + 1))) {a : Nat} {r : Int} (ha : f a = some r) : ∀ k, a ≤ k → f k = some r := by
  intro k hk
  obtain ⟨d, rfl⟩ := Nat.exists_eq_add_of_le hk
  clear hk
  induction d with
  | zero => exact ha
  | succ d ih => exact h _ _ ih
/-! ### the greatest sum -/
def greatAll : Bool := (List.range 9).all fun b => (List.range 4).all fun p => (List.range 12).any fun d => spec_pwGreatest.f 90 ((b : Int) + 2) ((p : Int) + 1) == some ((d * (b + 1) ^ (p + 1) : Nat) : Int) && impl_greatest.f 90 ((b : Int) + 2) ((p : Int) + 1) == some ((d * (b + 1) ^ (p + 1) : Nat) : Int) && decide (d * (b + 1) ^ (p + 1) < (b + 2) ^ d) && decide (d * (b + 1) ^ (p + 1) ≤ 100000)
theorem great_all : greatAll = true := by decide +kernel
theorem great_at {b p : Nat} (hb : 2 ≤ b) (hb2 : b ≤ 10) (hp : 1 ≤ p) (hp2 : p ≤ 4) : ∃ d : Nat, d * (b - 1) ^ p < b ^ d ∧ d * (b - 1) ^ p ≤ 100000 ∧ ∀ k, 90 ≤ k → spec_pwGreatest.f k (b : Int) (p : Int) = some ((d * (b - 1) ^ p : Nat) : Int) ∧ impl_greatest.f k (b : Int) (p : Int) = some ((d * (b - 1) ^ p : Nat) : Int) := by
  have h := great_all
  unfold greatAll at h
  rw [List.all_eq_true] at h
  have h1 := h (b - 2) (List.mem_range.2 (by omega))
  rw [List.all_eq_true] at h1
  have h2 := h1 (p - 1) (List.mem_range.2 (by omega))
  rw [List.any_eq_true] at h2
  obtain ⟨d, -, h3⟩ := h2
  simp only [Bool.and_eq_true, beq_iff_eq, decide_eq_true_eq] at h3
  rw [show b - 2 + 1 = b - 1 from by omega, show p - 1 + 1 = p from by omega, show b - 2 + 2 = b from by omega, show ((b - 2 : Nat) : Int) + 2 = (b : Int) from by omega, show ((p - 1 : Nat) : Int) + 1 = (p : Int) from by omega] at h3
  obtain ⟨⟨⟨h4, h5⟩, h6⟩, h7⟩ := h3
  exact ⟨d, h6, h7, fun k hk => ⟨up_to (spec_pwGreatest.mono _ _) h4 k hk, up_to (impl_greatest.mono _ _) h5 k hk⟩⟩
theorem lsd_len {b : Nat} (hb : 2 ≤ b) : ∀ (d n : Nat), n < b ^ d → (lsd b n).length ≤ d := by
  intro d
  induction d with
  | zero => intro n hn; obtain rfl : n = 0 := by simpa using hn
            rw [lsd_zero]; simp
  | succ d ih =>
    intro n hn
    by_cases h0 : n = 0
    · subst h0; rw [lsd_zero]; simp
    · rw [lsd_pos hb (by omega)]
      have := ih (n / b) (Nat.div_lt_of_lt_mul (by rw [Nat.pow_succ, Nat.mul_comm] at hn; exact hn))
      simp only [List.length_cons]; omega
theorem psum_cap {b p : Nat} (hb : 2 ≤ b) : ∀ (l : List Int), (∀ x ∈ l, 0 ≤ x ∧ x < (b : Int)) → 0 ≤ psum p l ∧ psum p l ≤ ((l.length * (b - 1) ^ p : Nat) : Int)
  | [], _ => by simp [psum]
  | x :: l, h => by
    have ih := psum_cap (p := p) hb l (fun y hy => h y (by simp [hy]))
    have hx := h x (by simp)
    obtain ⟨m, rfl⟩ := Int.eq_ofNat_of_zero_le hx.1
    have h1 : (m : Int) ^ p = ((m ^ p : Nat) : Int) := by simp
    have h2 : m ^ p ≤ (b - 1) ^ p := Nat.pow_le_pow_left (by omega) p
    have e : psum p ((m : Int) :: l) = (m : Int) ^ p + psum p l := by simp [psum]
    have e2 : (((m : Int) :: l).length * (b - 1) ^ p : Nat) = l.length * (b - 1) ^ p + (b - 1) ^ p := by rw [List.length_cons, Nat.succ_mul]
    rw [e, e2, h1]
    omega
theorem stp_closed {b p d : Nat} (hb : 2 ≤ b) (hd : d * (b - 1) ^ p < b ^ d) {x : Int} (h0 : 0 ≤ x) (h1 : x ≤ ((d * (b - 1) ^ p : Nat) : Int)) : 0 ≤ stp b p x ∧ stp b p x ≤ ((d * (b - 1) ^ p : Nat) : Int) := by
  have hl := lsd_len hb d x.toNat (by omega)
  have hc := psum_cap (p := p) hb (lsd b x.toNat) (lsd_range hb x.toNat)
  have hm : (lsd b x.toNat).length * (b - 1) ^ p ≤ d * (b - 1) ^ p := Nat.mul_le_mul_right _ hl
  unfold stp pws
  omega
/-! ### marks -/
def mark (st : List Int) (v : Int) (ys : List Int) : List Int := ys.foldl (fun s y => s.set y.toNat v) st
theorem mark_snoc (st : List Int) (v : Int) (ys : List Int) (y : Int) : mark st v (ys ++ [y]) = (mark st v ys).set y.toNat v := by simp [mark]
theorem mark_length (v : Int) : ∀ (ys st : List Int), (mark st v ys).length = st.length
  | [], _ => rfl
  | y :: ys, st => by
    show (mark (st.set y.toNat v) v ys).length = _
    rw [mark_length v ys]; simp
theorem rd_set {st : List Int} {x y v : Int} (hx : 0 ≤ x) (hy : 0 ≤ y) (hl : y < (st.length : Int)) : rd (st.set y.toNat v) x = if x = y then v else rd st x := by
  simp only [rd, List.getD_eq_getElem?_getD, List.getElem?_set]
  by_cases h : x = y
  · subst h; simp [show x.toNat < st.length by omega]
  · rw [if_neg (by omega), if_neg h]
theorem rd_mark (v : Int) {x : Int} (hx : 0 ≤ x) : ∀ (ys st : List Int), (∀ y ∈ ys, 0 ≤ y ∧ y < (st.length : Int)) → rd (mark st v ys) x = if x ∈ ys then v else rd st x
  | [], _, _ => by simp [mark]
  | y :: ys, st, h => by
    show rd (mark (st.set y.toNat v) v ys) x = _
    have hy := h y (by simp)
    rw [rd_mark v hx ys _ (fun z hz => by have := h z (by simp [hz]); simpa using this), rd_set hx hy.1 hy.2]
    by_cases h1 : x ∈ ys
    · simp [h1]
    · by_cases h2 : x = y
      · simp [h2]
      · simp [h1, h2]
/-! ### the inner run -/
section
variable {f : Int → Int} {M : Nat}
def Closed (f : Int → Int) (M : Nat) : Prop := ∀ x, 0 ≤ x → x ≤ (M : Int) → 0 ≤ f x ∧ f x ≤ (M : Int)
theorem it_closed (hf : Closed f M) {x : Int} (h0 : 0 ≤ x) (h1 : x ≤ (M : Int)) : ∀ k, 0 ≤ it f x k ∧ it f x k ≤ (M : Int)
  | 0 => ⟨h0, h1⟩
  | k + 1 => by
    have := it_closed hf h0 h1 k
    exact hf _ this.1 this.2
theorem orbit_in (hf : Closed f M) {x : Int} (h0 : 0 ≤ x) (h1 : x ≤ (M : Int)) {st : List Int} (hst : st.length = M + 1) (j : Nat) : ∀ y ∈ orbit f x j, 0 ≤ y ∧ y < (st.length : Int) := fun y hy => by
  obtain ⟨i, _, rfl⟩ := mem_orbit.1 hy
  have := it_closed hf h0 h1 i
  omega
theorem orbit_short (hf : Closed f M) {x : Int} (h0 : 0 ≤ x) (h1 : x ≤ (M : Int)) {j : Nat} (hn : (orbit f x j).Nodup) : j ≤ M + 1 := by
  have := nodup_le (orbit f x j) ((List.range (M + 1)).map Int.ofNat) hn (fun y hy => by
    obtain ⟨i, _, rfl⟩ := mem_orbit.1 hy
    have := it_closed hf h0 h1 i
    exact List.mem_map.2 ⟨(it f x i).toNat, List.mem_range.2 (by omega), by simp; omega⟩)
  rw [orbit_length] at this
  simpa using this
theorem run_stops (hf : Closed f M) {x : Int} (h0 : 0 ≤ x) (h1 : x ≤ (M : Int)) {st : List Int} (hst : st.length = M + 1) {v : Int} (hv : v ≠ 0) :
    ∀ d i, i + d = M + 1 → (orbit f x i).Nodup → (∀ j, j < i → rd st (it f x j) = 0) → ∃ j, i ≤ j ∧ j ≤ M + 1 ∧ (orbit f x j).Nodup ∧ (∀ j', j' < j → rd st (it f x j') = 0) ∧ rd (mark st v (orbit f x j)) (it f x j) ≠ 0 ∧ ∀ i', i ≤ i' → i' < j → rd (mark st v (orbit f x i')) (it f x i') = 0 := by
  intro d
  induction d with
  | zero =>
    intro i hi hn hz
    by_cases hc : rd (mark st v (orbit f x i)) (it f x i) = 0
    · have hxr := it_closed hf h0 h1 i
      rw [rd_mark v hxr.1 _ _ (orbit_in hf h0 h1 hst i)] at hc
      by_cases hm : it f x i ∈ orbit f x i
      · rw [if_pos hm] at hc; exact absurd hc hv
      · have hn2 : (orbit f x (i + 1)).Nodup := by
          rw [orbit_succ, List.nodup_append]
          exact ⟨hn, by simp, fun a ha b hb e => by simp only [List.mem_singleton] at hb; subst hb; exact hm (e ▸ ha)⟩
        have := orbit_short hf h0 h1 hn2
        omega
    · exact ⟨i, Nat.le_refl _, by omega, hn, hz, hc, fun i' h1 h2 => by omega⟩
  | succ d ih =>
    intro i hi hn hz
    by_cases hc : rd (mark st v (orbit f x i)) (it f x i) = 0
    · have hc0 := hc
      have hxr := it_closed hf h0 h1 i
      rw [rd_mark v hxr.1 _ _ (orbit_in hf h0 h1 hst i)] at hc
      by_cases hm : it f x i ∈ orbit f x i
      · rw [if_pos hm] at hc; exact absurd hc hv
      · rw [if_neg hm] at hc
        have hn2 : (orbit f x (i + 1)).Nodup := by
          rw [orbit_succ, List.nodup_append]
          exact ⟨hn, by simp, fun a ha b hb e => by simp only [List.mem_singleton] at hb; subst hb; exact hm (e ▸ ha)⟩
        obtain ⟨j, h3, h4, h5, h6, h7, h8⟩ := ih (i + 1) (by omega) hn2 (fun j hj => by
          by_cases e : j = i
          · rw [e]; exact hc
          · exact hz j (by omega))
        refine ⟨j, by omega, h4, h5, h6, h7, fun i' h9 h10 => ?_⟩
        by_cases e : i' = i
        · rw [e]; exact hc0
        · exact h8 i' (by omega) h10
    · exact ⟨i, Nat.le_refl _, by omega, hn, hz, hc, fun i' h1 h2 => by omega⟩
end
/-! ### the two inner loops -/
theorem wrap_small {n : Nat} (h : n ≤ 1000000) : wrap64 ((n : Int) + 1) = ((n + 1 : Nat) : Int) := by unfold wrap64; omega
section
variable {b p M : Nat} (hb : 2 ≤ b) (hb2 : b ≤ 10) (hp1 : 1 ≤ p) (hp : p ≤ 4) (hM : M ≤ 100000) (hf : Closed (stp b p) M)
include hb hb2 hp1 hp hM hf
theorem spec_run {n : Nat} (hn : n ≤ M) {st : List Int} (hst : st.length = M + 1) (outS : List (List Int)) {j : Nat} (hz : ∀ i, i < j → rd (mark st ((n + 1 : Nat) : Int) (orbit (stp b p) (n : Int) i)) (it (stp b p) (n : Int) i) = 0) {X : Option (List (List Int) × Bool)} {K : Nat}
    (hX : ∀ k, K ≤ k → spec_CyclesOfPowers.l1 k (b : Int) (p : Int) (M : Int) (mark st ((n + 1 : Nat) : Int) (orbit (stp b p) (n : Int) j)) outS (n : Int) (it (stp b p) (n : Int) j) = X) :
    ∀ e i, i + e = j → ∀ k, K + e + 1000000 ≤ k → spec_CyclesOfPowers.l1 k (b : Int) (p : Int) (M : Int) (mark st ((n + 1 : Nat) : Int) (orbit (stp b p) (n : Int) i)) outS (n : Int) (it (stp b p) (n : Int) i) = X
  | 0, i, hi, k, hk => by
    obtain rfl : i = j := by omega
    exact hX k (by omega)
  | e + 1, i, hi, k, hk => by
    obtain ⟨k, rfl⟩ : ∃ q, k = q + 1 := ⟨k - 1, by omega⟩
    have hr := it_closed hf (x := (n : Int)) (by omega) (by omega) i
    have hs : spec_pwSum.f k (it (stp b p) (n : Int) i) (b : Int) (p : Int) = some (it (stp b p) (n : Int) (i + 1)) := by
      obtain ⟨m, hm⟩ := Int.eq_ofNat_of_zero_le hr.1
      show _ = some (stp b p (it (stp b p) (n : Int) i))
      rw [hm]
      exact pwSum_eq hb (by omega) (by omega) (by omega) k (by omega)
    rw [spec_CyclesOfPowers.l1, if_pos hr.1, if_pos (by rw [mark_length, hst]; omega), if_pos (hz i (by omega)), hs, Option.bind_some, wrap_small (by omega), ← mark_snoc, ← orbit_succ]
    exact spec_run hn hst outS hz hX e (i + 1) (by omega) k (by omega)
theorem impl_run {n : Nat} (hn : n ≤ M) {st : List Int} (hst : st.length = M + 1) {next : List Int} (hnx : next.length = M + 1) (hrd : ∀ x, 0 ≤ x → x ≤ (M : Int) → rd next x = stp b p x) (outI : List (List Int)) {j : Nat} (hj : j ≤ M + 1) (hz : ∀ i, i < j → rd (mark st ((n + 1 : Nat) : Int) (orbit (stp b p) (n : Int) i)) (it (stp b p) (n : Int) i) = 0) {X : Option (List (List Int) × Bool)} {K : Nat}
    (hX : ∀ k, K ≤ k → impl_CyclesOfPowers.l2 k next outI (mark st ((n + 1 : Nat) : Int) (orbit (stp b p) (n : Int) j)) (n : Int) (orbit (stp b p) (n : Int) j) (it (stp b p) (n : Int) j) ((M + 1 : Nat) : Int) (n : Int) = X) :
    ∀ e i, i + e = j → ∀ k, K + e ≤ k → impl_CyclesOfPowers.l2 k next outI (mark st ((n + 1 : Nat) : Int) (orbit (stp b p) (n : Int) i)) (n : Int) (orbit (stp b p) (n : Int) i) (it (stp b p) (n : Int) i) ((M + 1 : Nat) : Int) (n : Int) = X
  | 0, i, hi, k, hk => by
    obtain rfl : i = j := by omega
    exact hX k (by omega)
  | e + 1, i, hi, k, hk => by
    obtain ⟨k, rfl⟩ : ∃ q, k = q + 1 := ⟨k - 1, by omega⟩
    have hr := it_closed hf (x := (n : Int)) (by omega) (by omega) i
    rw [impl_CyclesOfPowers.l2, if_pos hr.1, if_pos (by rw [mark_length, hst]; omega), if_pos (hz i (by omega)), if_pos (by rw [orbit_length]; omega), if_pos (by rw [hnx]; omega), wrap_small (by omega), ← mark_snoc, ← orbit_succ, hrd _ hr.1 hr.2]
    exact impl_run hn hst hnx hrd outI hj hz hX e (i + 1) (by omega) k (by omega)
end
/-! ### a cycle put in its place -/
theorem rdL_at {l : List (List Int)} {i : Nat} (h : i < l.length) : rd_L2 l (i : Int) = l[i] := by
  simp [rd_L2, List.getD_eq_getElem?_getD, List.getElem?_eq_getElem h]
theorem put_in {b p M st : _} (outS : List (List Int)) (cy : List Int) (n : Int) (hc : 0 < cy.length) (hl : outS.length ≤ 1000000) (hne : ∀ c ∈ outS, 0 < c.length) {t : Nat} (ht : t ≤ outS.length) (h1 : ∀ i (h : i < outS.length), i < t → rd outS[i] 0 < rd cy 0) (h2 : ∀ (h : t < outS.length), ¬ rd outS[t] 0 < rd cy 0) {X : Option (List (List Int) × Bool)} {K : Nat}
    (hX : ∀ k, K ≤ k → spec_CyclesOfPowers.l0 k b p M st (outS.take t ++ [cy] ++ outS.drop t) (wrap64 (n + 1)) = X) :
    ∀ e i, i + e = t → ∀ k, K + e + 1 ≤ k → spec_CyclesOfPowers.l2 k b p M st outS n cy (i : Int) = X
  | 0, i, hi, k, hk => by
    obtain rfl : i = t := by omega
    obtain ⟨k, rfl⟩ : ∃ q, k = q + 1 := ⟨k - 1, by omega⟩
    have hX' := hX k (by omega)
    rw [spec_CyclesOfPowers.l2]
    by_cases hc2 : i < outS.length
    · rw [if_pos (by omega), if_pos (by omega), rdL_at hc2, if_pos (by have := hne _ (List.getElem_mem hc2); omega), if_pos (by omega), if_neg (h2 hc2)]
      simp only [Option.bind_some, Int.toNat_natCast, List.nil_append, List.length_nil]
      rw [if_pos (by omega), if_pos (by rw [List.length_take]; omega), if_pos (by rw [List.length_take]; omega), if_pos (by rw [List.length_append, List.length_take, List.length_drop, List.length_singleton]; omega)]
      exact hX'
    · rw [if_neg (by omega)]
      simp only [Option.bind_some, Int.toNat_natCast, List.nil_append, List.length_nil]
      rw [if_pos (by omega), if_pos (by omega), if_pos (by rw [List.length_take]; omega), if_pos (by rw [List.length_take]; omega), if_pos (by rw [List.length_append, List.length_take, List.length_drop, List.length_singleton]; omega)]
      exact hX'
  | e + 1, i, hi, k, hk => by
    obtain ⟨k, rfl⟩ : ∃ q, k = q + 1 := ⟨k - 1, by omega⟩
    have hc2 : i < outS.length := by omega
    have e1 : wrap64 ((i : Int) + 1) = ((i + 1 : Nat) : Int) := by unfold wrap64; omega
    rw [spec_CyclesOfPowers.l2, if_pos (by omega), if_pos (by omega), rdL_at hc2, if_pos (by have := hne _ (List.getElem_mem hc2); omega), if_pos (by omega), if_pos (h1 i hc2 (by omega)), e1]
    exact put_in outS cy n hc hl hne ht h1 h2 hX e (i + 1) (by omega) k (by omega)
/-! ### a start -/
theorem place : ∀ (l : List (List Int)) (e : Int), l.Pairwise (fun a c => rd a 0 < rd c 0) → ∃ t, t ≤ l.length ∧ (∀ a ∈ l.take t, rd a 0 < e) ∧ ∀ a ∈ l.drop t, ¬ rd a 0 < e
  | [], e, _ => ⟨0, by simp, by simp, by simp⟩
  | c :: l, e, h => by
    by_cases hc : rd c 0 < e
    · obtain ⟨t, h1, h2, h3⟩ := place l e (List.pairwise_cons.1 h).2
      refine ⟨t + 1, by simp; omega, fun a ha => ?_, fun a ha => h3 a (by simpa using ha)⟩
      rw [List.take_succ_cons] at ha
      rcases List.mem_cons.1 ha with rfl | ha
      · exact hc
      · exact h2 a ha
    · refine ⟨0, by simp, by simp, fun a ha => ?_⟩
      rcases List.mem_cons.1 (show a ∈ c :: l from ha) with rfl | ha
      · exact hc
      · have := (List.pairwise_cons.1 h).1 a ha
        omega
structure PInv (M n : Nat) (st : List Int) (outI outS : List (List Int)) : Prop where
  hst : st.length = M + 1
  hv : ∀ x, 0 ≤ x → x ≤ (M : Int) → 0 ≤ rd st x ∧ rd st x ≤ (n : Int)
  perm : outS.Perm outI
  sorted : outS.Pairwise (fun a c => rd a 0 < rd c 0)
  good : ∀ c ∈ outS, 0 < c.length ∧ c.length ≤ M + 1 ∧ ∀ y ∈ c, 0 ≤ y ∧ y ≤ (M : Int) ∧ rd st y ≠ 0
  len : outS.length ≤ n
theorem rd_head {c : List Int} (h : 0 < c.length) : rd c 0 ∈ c := by
  rcases c with _ | ⟨x, t⟩
  · simp at h
  · simp [rd]
theorem lt_of_head {a c : List Int} (ha : 0 < a.length) (hc : 0 < c.length) (h : rd a 0 < rd c 0) : a < c := by
  rcases a with _ | ⟨x, t⟩
  · simp at ha
  · rcases c with _ | ⟨y, s⟩
    · simp at hc
    · rw [List.cons_lt_cons_iff]
      exact .inl (by simpa [rd] using h)
theorem same_sorted {a b : List (List Int)} (hp : a.Perm b) (ha : a.Pairwise (· ≤ ·)) (hb : b.Pairwise (· ≤ ·)) : a = b :=
  hp.eq_of_pairwise (fun x y _ _ h1 h2 => List.le_antisymm h1 h2) ha hb
theorem sort_end {M n : Nat} {st : List Int} {outI outS : List (List Int)} (hI : PInv M n st outI outS) (hM : M ≤ 100000) (hn : n ≤ 1000000) : slices_SortFunc_int_int.f outI = some outS := by
  rw [slices_SortFunc_int_int.f, if_pos ⟨by rw [← hI.perm.length_eq]; have := hI.len; omega, fun c hc => by have := (hI.good c (hI.perm.mem_iff.2 hc)).2.1; omega⟩]
  congr 1
  refine same_sorted ((List.mergeSort_perm _ _).trans hI.perm.symm) ?_ ?_
  · have := List.pairwise_mergeSort (le := fun x y : List Int => decide (x ≤ y)) (fun a b c h1 h2 => by simp only [decide_eq_true_eq] at *; exact List.le_trans h1 h2) (fun a b => by
      simp only [Bool.or_eq_true, decide_eq_true_eq]; exact List.le_total a b) outI
    exact this.imp (fun h => by simpa using h)
  · refine List.Pairwise.imp_of_mem (fun {a c} ha hc h => ?_) hI.sorted
    exact List.le_of_lt (lt_of_head (hI.good a ha).1 (hI.good c hc).1 h)
theorem turned_mem {xs : List Int} {e y : Int} (h : y ∈ turned xs e) : y ∈ xs := by
  rcases List.mem_append.1 h with h | h
  · exact List.mem_of_mem_drop h
  · exact List.mem_of_mem_take h
theorem idx_at {x : Int} : ∀ (l : List Int) (i : Int), x ∈ l → idxF (fun y => decide (x = y)) l i = i + (l.idxOf x : Int)
  | [], i, h => by simp at h
  | y :: l, i, h => by
    by_cases e : x = y
    · subst e; simp [idxF]
    · have hm : x ∈ l := by rcases List.mem_cons.1 h with h | h; exact absurd h e; exact h
      have hb : (y == x) = false := by simpa using fun h => e h.symm
      rw [idxF, decide_eq_false e, if_neg (by decide), idx_at l (i + 1) hm, List.idxOf_cons, hb]
      simp only [cond_false]
      omega
theorem least_first {e : Int} {xs : List Int} (he : IsMin e xs) (hx : xs.length ≤ 1000000) {k : Nat} (hk : xs.length < k) : impl_leastFirst.f k xs = some (turned xs e) := by
  have hl : xs.idxOf e < xs.length := List.idxOf_lt_length_iff.2 he.mem
  rw [impl_leastFirst.f, impl_leastFirst0.f, Min_eq he (by omega) hk, Option.bind_some, Index_eq _ _ (by omega) hk, idx_at xs 0 he.mem, Option.bind_some, Int.zero_add, if_pos (by omega), if_pos (by omega), Int.toNat_natCast, slices_Concat_int_int.f, if_pos ⟨by simp, by simp; omega⟩, Option.bind_some]
  simp [turned]
set_option maxHeartbeats 1000000 in
theorem cycles_main {b p M : Nat} (hb : 2 ≤ b) (hb2 : b ≤ 10) (hp1 : 1 ≤ p) (hp : p ≤ 4) (hM : M ≤ 100000) (hf : Closed (stp b p) M) {next : List Int} (hnx : next.length = M + 1) (hrd : ∀ x, 0 ≤ x → x ≤ (M : Int) → rd next x = stp b p x) :
    ∀ d n, n + d = M + 1 → ∀ st outI outS, PInv M n st outI outS → ∃ (K : Nat) (R : List (List Int)), R.length ≤ M + 1 ∧ (∀ c ∈ R, c.length ≤ M + 1) ∧ ∀ k, K ≤ k →
      spec_CyclesOfPowers.l0 k (b : Int) (p : Int) (M : Int) st outS (n : Int) = some (R, true) ∧ impl_CyclesOfPowers.l1 k next outI st ((M + 1 : Nat) : Int) (n : Int) = some (R, true) := by
  intro d
  induction d with
  | zero =>
    intro n hn st outI outS hI
    refine ⟨1, outS, by have := hI.len; omega, fun c hc => (hI.good c hc).2.1, fun k hk => ?_⟩
    obtain ⟨k, rfl⟩ : ∃ q, k = q + 1 := ⟨k - 1, by omega⟩
    rw [spec_CyclesOfPowers.l0, if_neg (by omega), impl_CyclesOfPowers.l1, if_neg (by omega), sort_end hI hM (by omega), Option.bind_some]
    exact ⟨rfl, rfl⟩
  | succ d ih =>
    intro n hn st outI outS hI
    have hn0 : (0 : Int) ≤ (n : Int) := by omega
    have hnM : (n : Int) ≤ (M : Int) := by omega
    obtain ⟨j, -, hj, hnd, hz0, hstop, hz1⟩ := run_stops hf hn0 hnM hI.hst (v := ((n + 1 : Nat) : Int)) (by omega) (M + 1) 0 (by omega) (by simp [orbit]) (fun j h => by omega)
    have hz : ∀ i, i < j → rd (mark st ((n + 1 : Nat) : Int) (orbit (stp b p) (n : Int) i)) (it (stp b p) (n : Int) i) = 0 := fun i hi => hz1 i (by omega) hi
    have hw := wrap_small (n := n) (by omega)
    have hin := orbit_in hf hn0 hnM hI.hst j
    have hrm : ∀ y, 0 ≤ y → rd (mark st ((n + 1 : Nat) : Int) (orbit (stp b p) (n : Int) j)) y = if y ∈ orbit (stp b p) (n : Int) j then ((n + 1 : Nat) : Int) else rd st y := fun y hy => rd_mark _ hy _ _ hin
    obtain ⟨x, hx⟩ : ∃ x, x = it (stp b p) (n : Int) j := ⟨_, rfl⟩
    have hxr := it_closed hf hn0 hnM j
    rw [← hx] at hxr hstop
    obtain ⟨st', hst'⟩ : ∃ st', st' = mark st ((n + 1 : Nat) : Int) (orbit (stp b p) (n : Int) j) := ⟨_, rfl⟩
    rw [← hst'] at hrm hstop
    have hlen' : st'.length = M + 1 := by rw [hst', mark_length]; exact hI.hst
    have hv' : ∀ y, 0 ≤ y → y ≤ (M : Int) → 0 ≤ rd st' y ∧ rd st' y ≤ ((n + 1 : Nat) : Int) := by
      intro y h1 h2
      have := hI.hv y h1 h2
      rw [hrm y h1]
      split <;> omega
    have hgood' : ∀ c ∈ outS, 0 < c.length ∧ c.length ≤ M + 1 ∧ ∀ y ∈ c, 0 ≤ y ∧ y ≤ (M : Int) ∧ rd st' y ≠ 0 := by
      intro c hc
      obtain ⟨h1, h2, h3⟩ := hI.good c hc
      refine ⟨h1, h2, fun y hy => ?_⟩
      obtain ⟨h4, h5, h6⟩ := h3 y hy
      refine ⟨h4, h5, ?_⟩
      rw [hrm y h4]
      split
      · omega
      · exact h6
    have hsrun := fun (X : Option (List (List Int) × Bool)) (K : Nat) => spec_run (X := X) (K := K) hb hb2 hp1 hp hM hf (n := n) (by omega) hI.hst outS hz
    have hirun := fun (X : Option (List (List Int) × Bool)) (K : Nat) => impl_run (X := X) (K := K) hb hb2 hp1 hp hM hf (n := n) (by omega) hI.hst hnx hrd outI hj hz
    rw [← hst', ← hx] at hsrun hirun
    by_cases hm : x ∈ orbit (stp b p) (n : Int) j
    · obtain ⟨i, hi, hix⟩ := mem_orbit.1 hm
      have hinj : ∀ a c, a < j → c < j → it (stp b p) (n : Int) a = it (stp b p) (n : Int) c → a = c := by
        intro a c ha hc h
        have h1 := List.pairwise_iff_getElem.1 hnd
        rcases Nat.lt_trichotomy a c with h2 | h2 | h2
        · exact absurd (by rw [orbit_get, orbit_get, h]) (h1 a c (by rw [orbit_length]; omega) (by rw [orbit_length]; omega) h2)
        · exact h2
        · exact absurd (by rw [orbit_get, orbit_get, h]) (h1 c a (by rw [orbit_length]; omega) (by rw [orbit_length]; omega) h2)
      have hsh : ∀ q, it (stp b p) x q = it (stp b p) (n : Int) (i + q) := fun q => by rw [it_add, hix]
      have hrho : Rho (stp b p) x (j - i) 0 := ⟨by omega, by rw [hsh, show i + (j - i) = j from by omega, ← hx]; rfl, fun a c ha hc h => by
        rw [hsh, hsh] at h
        have := hinj _ _ (by omega) (by omega) h
        omega⟩
      obtain ⟨e, he⟩ := isMin_exists (orbit (stp b p) x (j - i)) (by
        intro h
        have := congrArg List.length h
        rw [orbit_length] at this
        simp at this
        omega)
      have hfirst := turned_first he
      have hlenc : (turned (orbit (stp b p) x (j - i)) e).length = j - i := by rw [turned_length, orbit_length]
      have hcy : ∀ y ∈ turned (orbit (stp b p) x (j - i)) e, 0 ≤ y ∧ y ≤ (M : Int) ∧ rd st y = 0 ∧ rd st' y = ((n + 1 : Nat) : Int) := by
        intro y hy
        obtain ⟨q, hq, rfl⟩ := mem_orbit.1 (turned_mem hy)
        rw [hsh]
        have h1 := it_closed hf hn0 hnM (i + q)
        refine ⟨h1.1, h1.2, hz0 (i + q) (by omega), ?_⟩
        rw [hrm _ h1.1, if_pos (mem_orbit.2 ⟨i + q, by omega, rfl⟩)]
      obtain ⟨cy, hcydef⟩ : ∃ cy, cy = turned (orbit (stp b p) x (j - i)) e := ⟨_, rfl⟩
      rw [← hcydef] at hfirst hlenc hcy
      obtain ⟨t, ht, hbefore, hafter⟩ := place outS e hI.sorted
      have hafter' : ∀ a ∈ outS.drop t, e < rd a 0 := by
        intro a ha
        have h1 := hafter a ha
        have hao := List.mem_of_mem_drop ha
        have h2 := (hI.good a hao)
        have h3 := (h2.2.2 _ (rd_head h2.1)).2.2
        have h4 := (hcy _ (rd_head hfirst.2)).2.2.1
        rw [hfirst.1] at h4
        have : rd a 0 ≠ e := fun h => h3 (by rw [h]; exact h4)
        omega
      have hI' : PInv M (n + 1) st' (outI ++ [cy]) (outS.take t ++ [cy] ++ outS.drop t) := by
        refine ⟨hlen', hv', ?_, ?_, ?_, ?_⟩
        · refine List.Perm.trans ?_ (hI.perm.append_right [cy])
          have h1 : (outS.take t ++ [cy] ++ outS.drop t).Perm (outS.take t ++ outS.drop t ++ [cy]) := by
            rw [List.append_assoc, List.append_assoc]
            exact List.Perm.append_left _ List.perm_append_comm
          rw [List.take_append_drop] at h1
          exact h1
        · have h0 := hI.sorted
          rw [← List.take_append_drop t outS, List.pairwise_append] at h0
          rw [List.pairwise_append, List.pairwise_append]
          refine ⟨⟨h0.1, by simp, fun a ha c hc => ?_⟩, h0.2.1, fun a ha c hc => ?_⟩
          · rw [List.mem_singleton.1 hc, hfirst.1]; exact hbefore a ha
          · rcases List.mem_append.1 ha with ha | ha
            · exact h0.2.2 a ha c hc
            · rw [List.mem_singleton.1 ha, hfirst.1]; exact hafter' c hc
        · intro c hc
          rcases List.mem_append.1 hc with hc | hc
          · rcases List.mem_append.1 hc with hc | hc
            · exact hgood' c (List.mem_of_mem_take hc)
            · rw [List.mem_singleton.1 hc]
              refine ⟨hfirst.2, by omega, fun y hy => ?_⟩
              obtain ⟨h1, h2, _, h4⟩ := hcy y hy
              exact ⟨h1, h2, by rw [h4]; omega⟩
          · exact hgood' c (List.mem_of_mem_drop hc)
        · have := hI.len
          simp only [List.length_append, List.length_take, List.length_drop, List.length_singleton]
          omega
      obtain ⟨K, R, hR1, hR2, hK⟩ := ih (n + 1) (by omega) st' (outI ++ [cy]) _ hI'
      refine ⟨K + 2000000 + 5 * (M + 1), R, hR1, hR2, fun k hk => ?_⟩
      obtain ⟨k, rfl⟩ : ∃ q, k = q + 1 := ⟨k - 1, by omega⟩
      constructor
      · rw [spec_CyclesOfPowers.l0, if_pos (by omega)]
        refine hsrun (some (R, true)) (K + 1000000 + 3 * (M + 1)) (fun k hk => ?_) j 0 (by omega) k (by omega)
        obtain ⟨k, rfl⟩ : ∃ q, k = q + 1 := ⟨k - 1, by omega⟩
        have hmk : rd st' x = ((n + 1 : Nat) : Int) := by rw [hrm x hxr.1, if_pos hm]
        have hrun : spec_pwRun.f k x (b : Int) (p : Int) = some (orbit (stp b p) x (j - i), ((0 : Nat) : Int)) := by
          have := pwRunF_rho (step := fun n => spec_pwSum.f k n (b : Int) (p : Int)) hrho (by omega) (fun q => by
            have h1 := it_closed hf hxr.1 hxr.2 q
            obtain ⟨y, hy⟩ := Int.eq_ofNat_of_zero_le h1.1
            show spec_pwSum.f k (it (stp b p) x q) (b : Int) (p : Int) = some (stp b p (it (stp b p) x q))
            rw [hy] at h1 ⊢
            exact pwSum_eq hb (by omega) (by omega) (by omega) k (by omega)) (j - i - 1) 0 k (by omega) (by omega)
          exact this
        rw [spec_CyclesOfPowers.l1, if_pos hxr.1, if_pos (by omega), if_neg hstop, hw, if_pos hmk, hrun, Option.bind_some, if_pos (by simp), if_pos (by simp)]
        simp only [Int.toNat_natCast, List.drop_zero]
        rw [pwTurned_eq he (by rw [orbit_length]; omega) (by rw [orbit_length]; omega), Option.bind_some, ← hcydef]
        refine put_in outS cy (n : Int) hfirst.2 (by have := hI.len; omega) (fun c hc => (hI.good c hc).1) ht (fun i h h2 => ?_) (fun h => ?_) (X := some (R, true)) (K := K) (fun k hk => ?_) t 0 (by omega) k (by have := hI.len; omega)
        · rw [hfirst.1]
          exact hbefore _ (List.mem_take_iff_getElem.2 ⟨i, by omega, rfl⟩)
        · rw [hfirst.1]
          have hmem : outS[t] ∈ outS.drop t := by rw [List.drop_eq_getElem_cons h]; exact List.mem_cons_self
          exact hafter _ hmem
        · rw [hw]; exact (hK k hk).1
      · rw [impl_CyclesOfPowers.l1, if_pos (by omega)]
        refine hirun (some (R, true)) (K + 1000000) (fun k hk => ?_) j 0 (by omega) k (by omega)
        obtain ⟨k, rfl⟩ : ∃ q, k = q + 1 := ⟨k - 1, by omega⟩
        have hidx : (orbit (stp b p) (n : Int) j).idxOf x = i := by rw [← hix]; exact idxOf_orbit hinj hi
        have hdrop : (orbit (stp b p) (n : Int) j).drop i = orbit (stp b p) x (j - i) := by rw [orbit_drop, hix]
        rw [impl_CyclesOfPowers.l2, if_pos hxr.1, if_pos (by omega), if_neg hstop, Index_eq _ _ (by rw [orbit_length]; omega) (by rw [orbit_length]; omega), idx_at _ 0 hm, hidx, Option.bind_some, Int.zero_add, if_pos (by omega), if_pos (by omega), if_pos (by rw [orbit_length]; omega), Int.toNat_natCast, hdrop, least_first he (by rw [orbit_length]; omega) (by rw [orbit_length]; omega), Option.bind_some, ← hcydef, if_pos (by rw [← hI.perm.length_eq]; have := hI.len; omega), hw]
        exact (hK k (by omega)).2
    · have hI' : PInv M (n + 1) st' outI outS := ⟨hlen', hv', hI.perm, hI.sorted, hgood', by have := hI.len; omega⟩
      obtain ⟨K, R, hR1, hR2, hK⟩ := ih (n + 1) (by omega) st' outI outS hI'
      refine ⟨K + 2000000 + 5 * (M + 1), R, hR1, hR2, fun k hk => ?_⟩
      obtain ⟨k, rfl⟩ : ∃ q, k = q + 1 := ⟨k - 1, by omega⟩
      have hmk : rd st' x ≠ ((n + 1 : Nat) : Int) := by
        rw [hrm x hxr.1, if_neg hm]
        have := hI.hv x hxr.1 hxr.2
        omega
      constructor
      · rw [spec_CyclesOfPowers.l0, if_pos (by omega)]
        refine hsrun (some (R, true)) (K + 1) (fun k hk => ?_) j 0 (by omega) k (by omega)
        obtain ⟨k, rfl⟩ : ∃ q, k = q + 1 := ⟨k - 1, by omega⟩
        rw [spec_CyclesOfPowers.l1, if_pos hxr.1, if_pos (by omega), if_neg hstop, hw, if_neg hmk]
        exact (hK k (by omega)).1
      · rw [impl_CyclesOfPowers.l1, if_pos (by omega)]
        refine hirun (some (R, true)) (K + 1000000) (fun k hk => ?_) j 0 (by omega) k (by omega)
        obtain ⟨k, rfl⟩ : ∃ q, k = q + 1 := ⟨k - 1, by omega⟩
        have hneg : ¬ (idxF (fun y => decide (x = y)) (orbit (stp b p) (n : Int) j) 0 ≥ 0) := by
          have h1 := idxF_any (p := fun y => decide (x = y)) (orbit (stp b p) (n : Int) j) 0 (by omega)
          have h2 : (orbit (stp b p) (n : Int) j).any (fun y => decide (x = y)) = false := by
            refine Bool.eq_false_iff.2 (fun h => ?_)
            obtain ⟨y, hy, h3⟩ := List.any_eq_true.1 h
            have h4 : x = y := of_decide_eq_true h3
            exact hm (h4 ▸ hy)
          rw [h2] at h1
          exact of_decide_eq_false h1
        rw [impl_CyclesOfPowers.l2, if_pos hxr.1, if_pos (by omega), if_neg hstop, Index_eq _ _ (by rw [orbit_length]; omega) (by rw [orbit_length]; omega), Option.bind_some, if_neg hneg, hw]
        exact (hK k (by omega)).2

/-! ### the whole -/
def nextL (b p m : Nat) : List Int := (List.range m).map (fun n => pws b p n)
theorem nextL_length (b p m : Nat) : (nextL b p m).length = m := by simp [nextL]
theorem next_loop {b p M : Nat} (hb : 2 ≤ b) (hb2 : b ≤ 10) (hp1 : 1 ≤ p) (hp : p ≤ 4) (hM : M ≤ 100000) {X : Option (List (List Int) × Bool)} {K : Nat} (hX : ∀ k, K ≤ k → impl_CyclesOfPowers.l0 k (b : Int) (p : Int) (nextL b p (M + 1)) [] ((M + 1 : Nat) : Int) ((M + 1 : Nat) : Int) = X) :
    ∀ d i, i + d = M + 1 → ∀ k, K + d + 1000000 ≤ k → impl_CyclesOfPowers.l0 k (b : Int) (p : Int) (nextL b p i) [] ((M + 1 : Nat) : Int) (i : Int) = X
  | 0, i, hi, k, hk => by
    obtain rfl : i = M + 1 := by omega
    exact hX k (by omega)
  | d + 1, i, hi, k, hk => by
    obtain ⟨k, rfl⟩ : ∃ q, k = q + 1 := ⟨k - 1, by omega⟩
    have e1 : wrap64 ((i : Int) + 1) = ((i + 1 : Nat) : Int) := by unfold wrap64; omega
    have e2 : nextL b p i ++ [pws b p i] = nextL b p (i + 1) := by simp [nextL, List.range_succ]
    rw [impl_CyclesOfPowers.l0, if_pos (by omega), powerSum_eq hb (by omega) hp1 (by omega) (by omega) k (by omega), Option.bind_some, if_pos (by rw [nextL_length]; omega), e1, e2]
    exact next_loop hb hb2 hp1 hp hM hX d (i + 1) (by omega) k (by omega)
theorem nextL_rd {b p M : Nat} {x : Int} (h0 : 0 ≤ x) (h1 : x ≤ (M : Int)) : rd (nextL b p (M + 1)) x = stp b p x := by
  have h : x.toNat < M + 1 := by omega
  simp [rd, nextL, List.getD_eq_getElem?_getD, h, stp]
theorem rd_zeros {m : Nat} (x : Int) : rd (List.replicate m (0 : Int)) x = 0 := by
  simp only [rd, List.getD_eq_getElem?_getD, List.getElem?_replicate]
  split <;> simp
theorem CyclesOfPowers_both (b p : Int) : ∃ (K : Nat) (r : List (List Int)) (ok : Bool), r.length ≤ 1000000 ∧ (∀ c ∈ r, c.length ≤ 1000000) ∧ ∀ k, K ≤ k → spec_CyclesOfPowers.f k b p = some (r, ok) ∧ impl_CyclesOfPowers.f k b p = some (r, ok) := by
  by_cases hb : 2 ≤ b ∧ b ≤ 10
  · by_cases hp : 1 ≤ p ∧ p ≤ 4
    · obtain ⟨c, rfl⟩ := Int.eq_ofNat_of_zero_le (show 0 ≤ b by omega)
      obtain ⟨q, rfl⟩ := Int.eq_ofNat_of_zero_le (show 0 ≤ p by omega)
      obtain ⟨d, hd, hM, hg⟩ := great_at (b := c) (p := q) (by omega) (by omega) (by omega) (by omega)
      obtain ⟨M, hMe⟩ : ∃ M, M = d * (c - 1) ^ q := ⟨_, rfl⟩
      have hf : Closed (stp c q) M := fun x h0 h1 => by
        rw [hMe] at h1 ⊢
        exact stp_closed (by omega) hd h0 h1
      rw [← hMe] at hM hg
      obtain ⟨K, R, hR1, hR2, hK⟩ := cycles_main (by omega) (by omega) (by omega) (by omega) hM hf (nextL_length c q (M + 1)) (fun x h0 h1 => nextL_rd h0 h1) (M + 1) 0 (by omega) (List.replicate (M + 1) 0) [] [] ⟨by simp, fun x _ _ => by rw [rd_zeros]; omega, List.Perm.refl _, List.Pairwise.nil, by simp, by simp⟩
      have e1 : wrap64 ((M : Int) + 1) = ((M + 1 : Nat) : Int) := by unfold wrap64; omega
      refine ⟨K + 3000000 + M, R, true, by omega, fun c hc => by have := hR2 c hc; omega, fun k hk => ?_⟩
      obtain ⟨k, rfl⟩ : ∃ q, k = q + 1 := ⟨k - 1, by omega⟩
      have hgk := hg k (by omega)
      constructor
      · rw [spec_CyclesOfPowers.f, l1In_eq, decide_eq_true (by omega), Option.bind_some, if_pos rfl, pwPower_eq, decide_eq_true (by omega), Option.bind_some, spec_CyclesOfPowers.j0, if_neg (by decide), hgk.1, Option.bind_some, e1, if_pos (by omega), if_pos (by omega), Int.toNat_natCast]
        exact (hK k (by omega)).1
      · rw [impl_CyclesOfPowers.f, impl_isSmallBase.f, in_eq, decide_eq_true (by omega), Option.bind_some, Option.bind_some, if_pos rfl, in_eq, decide_eq_true (by omega), Option.bind_some, impl_CyclesOfPowers.j0, if_neg (by decide), hgk.2, Option.bind_some, e1]
        refine next_loop (by omega) (by omega) (by omega) (by omega) hM (X := some (R, true)) (K := K + 1) (fun k hk => ?_) (M + 1) 0 (by omega) k (by omega)
        obtain ⟨k, rfl⟩ : ∃ q, k = q + 1 := ⟨k - 1, by omega⟩
        rw [impl_CyclesOfPowers.l0, if_neg (by omega), nextL_length, if_pos (by omega), if_pos (by omega), Int.toNat_natCast]
        exact (hK k (by omega)).2
    · refine ⟨1, [], false, by simp, by simp, fun k hk => ?_⟩
      obtain ⟨k, rfl⟩ : ∃ q, k = q + 1 := ⟨k - 1, by omega⟩
      rw [spec_CyclesOfPowers.f, l1In_eq, decide_eq_true (by omega), Option.bind_some, if_pos rfl, pwPower_eq, decide_eq_false (by omega), Option.bind_some, spec_CyclesOfPowers.j0, impl_CyclesOfPowers.f, impl_isSmallBase.f, in_eq, decide_eq_true (by omega), Option.bind_some, Option.bind_some, if_pos rfl, in_eq, decide_eq_false (by omega), Option.bind_some, impl_CyclesOfPowers.j0]
      exact ⟨rfl, rfl⟩
  · refine ⟨1, [], false, by simp, by simp, fun k hk => ?_⟩
    obtain ⟨k, rfl⟩ : ∃ q, k = q + 1 := ⟨k - 1, by omega⟩
    constructor
    · rw [spec_CyclesOfPowers.f, l1In_eq, decide_eq_false (by omega), Option.bind_some, if_neg (by decide), spec_CyclesOfPowers.j0, if_pos rfl]
    · rw [impl_CyclesOfPowers.f, impl_isSmallBase.f, in_eq, decide_eq_false (by omega), Option.bind_some, Option.bind_some, if_neg (by decide), impl_CyclesOfPowers.j0, if_pos rfl]
/-! ### rows of rows -/
theorem rdL_mid (a c : List (List Int)) (x : List Int) : rd_L2 (a ++ x :: c) (a.length : Int) = x := by
  simp [rd_L2, List.getD_eq_getElem?_getD]
/-- How many numbers rows have. -/
def tot : List (List Int) → Nat
  | [] => 0
  | r :: rs => r.length + tot rs
/-- Rows marked from s on. -/
def marksS (s : Int) : List (List Int) → List (List Int)
  | [] => []
  | r :: rs => marks s r.length :: marksS (s + (r.length : Int)) rs
theorem marksS_length : ∀ (rs : List (List Int)) (s : Int), (marksS s rs).length = rs.length
  | [], _ => rfl
  | r :: rs, s => by simp [marksS, marksS_length rs]
theorem eqIntSS_loop (xs : List (List Int)) (hx : xs.length ≤ 1000000) (hr : ∀ r ∈ xs, r.length ≤ 1000000) : ∀ (suf pre : List (List Int)) (k : Nat), xs = pre ++ suf → suf.length + 1000000 < k → laws_eqIntSS.l0 k xs xs (pre.length : Int) = some true
  | [], pre, k, h, hk => by
    obtain ⟨k, rfl⟩ : ∃ q, k = q + 1 := ⟨k - 1, by omega⟩
    subst h
    rw [laws_eqIntSS.l0, if_neg (by simp)]
  | r :: suf, pre, k, h, hk => by
    simp only [List.length_cons] at hk
    obtain ⟨k, rfl⟩ : ∃ q, k = q + 1 := ⟨k - 1, by omega⟩
    have hl : xs.length = pre.length + suf.length + 1 := by subst h; simp; omega
    have e : rd_L2 xs (pre.length : Int) = r := by subst h; exact rdL_mid _ _ _
    have hrl := hr r (by subst h; simp)
    rw [laws_eqIntSS.l0, if_pos (by omega), if_pos (by omega), if_pos (by omega), e, eqIntS_same r (by omega) (by omega), Option.bind_some, if_pos rfl, w64s (by omega)]
    have := eqIntSS_loop xs hx hr suf (pre ++ [r]) k (by simp [h]) (by omega)
    simpa using this
theorem eqIntSS_same (xs : List (List Int)) (hx : xs.length ≤ 1000000) (hr : ∀ r ∈ xs, r.length ≤ 1000000) {k : Nat} (hk : xs.length + 1000000 < k) : laws_eqIntSS.f k xs xs = some true := by
  rw [laws_eqIntSS.f, if_pos rfl]
  exact eqIntSS_loop xs hx hr xs [] k rfl hk
theorem markIntSS_loop : ∀ (suf pre : List (List Int)) (s : Int) (k : Nat), pre.length + suf.length ≤ 1000000 → (∀ r ∈ suf, r.length ≤ 1000000) → 0 ≤ s → s + (tot suf : Int) ≤ 1000000000000000 → suf.length + 1000000 < k →
    laws_markIntSS.l0 k (pre ++ suf) s (pre.length : Int) = some (s + (tot suf : Int), pre ++ marksS s suf)
  | [], pre, s, k, hl, hr, h0, hs, hk => by
    obtain ⟨k, rfl⟩ : ∃ q, k = q + 1 := ⟨k - 1, by omega⟩
    rw [laws_markIntSS.l0, if_neg (by simp)]
    simp [tot, marksS]
  | r :: suf, pre, s, k, hl, hr, h0, hs, hk => by
    simp only [List.length_cons] at hk hl
    obtain ⟨k, rfl⟩ : ∃ q, k = q + 1 := ⟨k - 1, by omega⟩
    have hrl := hr r (by simp)
    have ht : (tot (r :: suf) : Int) = (r.length : Int) + (tot suf : Int) := by simp [tot]
    rw [ht] at hs
    rw [laws_markIntSS.l0, if_pos (by simp; omega), if_pos (by omega), rdL_mid, markIntS_eq r s (by omega) (by omega) h0 (by omega), Option.bind_some]
    simp only [Int.toNat_natCast]
    rw [set_mid, w64s (by omega)]
    have := markIntSS_loop suf (pre ++ [marks s r.length]) (s + (r.length : Int)) k (by simp; omega) (fun r' h => hr r' (by simp [h])) (by omega) (by omega) (by omega)
    simp only [List.append_assoc, List.singleton_append, List.length_append, List.length_singleton] at this
    rw [this, ht]
    simp only [marksS]
    congr 2
    omega
theorem heldIntSS_loop : ∀ (suf : List (List Int)) (pre : List (List Int)) (s : Int) (k : Nat), pre.length + suf.length ≤ 1000000 → (∀ r ∈ suf, r.length ≤ 1000000) → 0 ≤ s → s + (tot suf : Int) ≤ 1000000000000000 → suf.length + 1000000 < k →
    laws_heldIntSS.l0 k (pre ++ marksS s suf) s (pre.length : Int) = some (s + (tot suf : Int))
  | [], pre, s, k, hl, hr, h0, hs, hk => by
    obtain ⟨k, rfl⟩ : ∃ q, k = q + 1 := ⟨k - 1, by omega⟩
    rw [laws_heldIntSS.l0, if_neg (by simp [marksS])]
    simp [tot]
  | r :: suf, pre, s, k, hl, hr, h0, hs, hk => by
    simp only [List.length_cons] at hk hl
    obtain ⟨k, rfl⟩ : ∃ q, k = q + 1 := ⟨k - 1, by omega⟩
    have hrl := hr r (by simp)
    have ht : (tot (r :: suf) : Int) = (r.length : Int) + (tot suf : Int) := by simp [tot]
    rw [ht] at hs
    simp only [marksS]
    rw [laws_heldIntSS.l0, if_pos (by simp; omega), if_pos (by omega), rdL_mid, heldIntS_eq r.length s (by omega) (by omega) h0 (by omega), Option.bind_some, if_neg (by omega), w64s (by omega)]
    have := heldIntSS_loop suf (pre ++ [marks s r.length]) (s + (r.length : Int)) k (by simp; omega) (fun r' h => hr r' (by simp [h])) (by omega) (by omega) (by omega)
    simp only [List.append_assoc, List.singleton_append, List.length_append, List.length_singleton] at this
    rw [show ((pre.length + 1 : Nat) : Int) = ((pre.length + 1 : Nat) : Int) from rfl, this, ht]
    congr 1
    omega
theorem tot_le : ∀ (rs : List (List Int)) (b : Nat), (∀ r ∈ rs, r.length ≤ b) → tot rs ≤ rs.length * b
  | [], _, _ => by simp [tot]
  | r :: rs, b, h => by
    have h1 := tot_le rs b (fun r' h' => h r' (by simp [h']))
    have h2 := h r (by simp)
    simp only [tot, List.length_cons, Nat.succ_mul]
    omega
/-- What every statement over rows of rows knows. -/
theorem rows_facts (xs : List (List Int)) (hx : xs.length ≤ 1000000) (hr : ∀ r ∈ xs, r.length ≤ 1000000) {k : Nat} (hk : xs.length + 1000000 < k) :
    laws_eqIntSS.f k xs xs = some true ∧ laws_markIntSS.f k xs 1 = some (1 + (tot xs : Int), marksS 1 xs) ∧ laws_heldIntSS.f k (marksS 1 xs) 1 = some (1 + (tot xs : Int)) := by
  have ht := tot_le xs 1000000 hr
  have h1 : xs.length * 1000000 ≤ 1000000 * 1000000 := Nat.mul_le_mul_right _ hx
  have hb : (1 : Int) + (tot xs : Int) ≤ 1000000000000000 := by omega
  refine ⟨eqIntSS_same xs hx hr hk, ?_, ?_⟩
  · have := markIntSS_loop xs [] 1 k (by simpa using hx) hr (by omega) hb hk
    rw [laws_markIntSS.f]
    simpa using this
  · have := heldIntSS_loop xs [] 1 k (by simpa using hx) hr (by omega) hb hk
    rw [laws_heldIntSS.f]
    simpa using this
theorem CyclesOfPowers_law : laws_FnExactCyclesOfPowers.Pure := by
  intro b p _ _
  obtain ⟨K0, r, ok, hr, hr2, h0⟩ := CyclesOfPowers_both b p
  obtain ⟨K, hK⟩ : ∃ K, K = K0 + r.length + 2000000 := ⟨_, rfl⟩
  obtain ⟨f1, f2, f3⟩ := rows_facts r (by omega) (fun c hc => by have := hr2 c hc; omega) (k := K) (by omega)
  obtain ⟨e1, e2⟩ := h0 K (by omega)
  refine ⟨K, ?_⟩
  rw [laws_FnExactCyclesOfPowers.f, e1, Option.bind_some, e2, Option.bind_some, f1, Option.bind_some, f2, Option.bind_some, f3, Option.bind_some, if_pos ⟨rfl, rfl, by omega, rfl⟩]
end Go.Proofs.YtehhkkbejmhcfaaC
