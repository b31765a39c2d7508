/-
  Plain facts on the cycles of a map as the program tells them: the way of a number, turned to its least. No conditions.
-/
import Derived.Test.YtcaohpcbohdkbaaLMu
import Derived.Test.YtcaohpcbohdkbaaCMb
namespace Go.Proofs.YtcaohpcbohdkbaaC
open Go.RowKit Go.Proofs.YtcaohpcbohdkbaaW.PrintWords Go.Proofs.YtcaohpcbohdkbaaW.PrintMore
set_option linter.unusedSimpArgs false
set_option linter.unusedVariables false

/-! ### the least of a list -/
structure IsMin (e : Int) (l : List Int) : Prop where
  mem : e ∈ l
  le : ∀ y ∈ l, e ≤ y
theorem IsMin.unique {e e' : Int} {l : List Int} (h : IsMin e l) (h' : IsMin e' l) : e = e' := by
  have := h.le e' h'.mem
  have := h'.le e h.mem
  omega
theorem isMin_exists : ∀ (l : List Int), l ≠ [] → ∃ e, IsMin e l
  | [], h => absurd rfl h
  | [x], _ => ⟨x, by simp, by simp⟩
  | x :: y :: l, _ => by
    obtain ⟨e, h1, h2⟩ := isMin_exists (y :: l) (by simp)
    by_cases hx : x ≤ e
    · refine ⟨x, by simp, fun z hz => ?_⟩
      rcases List.mem_cons.1 hz with rfl | hz
      · omega
      · have := h2 z hz; omega
    · refine ⟨e, by simp [h1], fun z hz => ?_⟩
      rcases List.mem_cons.1 hz with rfl | hz
      · omega
      · exact h2 z hz
theorem Min_loop {e : Int} {xs : List Int} (he : IsMin e xs) (hx : xs.length ≤ 4611686018427387904) : ∀ (d i : Nat) (m : Int) (k : Nat), i + d = xs.length → d < k → m ∈ xs → (∀ j (h : j < xs.length), j < i → m ≤ xs[j]) →
    slices_Min_int_int.l0 k xs m (i : Int) = some e
  | 0, i, m, k, hi, hk, hm, hle => by
    obtain ⟨k, rfl⟩ : ∃ q, k = q + 1 := ⟨k - 1, by omega⟩
    rw [slices_Min_int_int.l0, if_neg (by omega)]
    have : IsMin m xs := ⟨hm, fun y hy => by
      obtain ⟨j, hj, rfl⟩ := List.getElem_of_mem hy
      exact hle j hj (by omega)⟩
    rw [this.unique he]
  | d + 1, i, m, k, hi, hk, hm, hle => by
    obtain ⟨k, rfl⟩ : ∃ q, k = q + 1 := ⟨k - 1, by omega⟩
    have hil : i < xs.length := by omega
    rw [slices_Min_int_int.l0, if_pos (by omega), if_pos (by omega), w64s (by omega), rd_get hil]
    refine Min_loop he hx d (i + 1) _ k (by omega) (by omega) ?_ (fun j hj hji => ?_)
    · unfold mn
      split
      · exact List.getElem_mem hil
      · exact hm
    · have h1 : j < i → m ≤ xs[j] := hle j hj
      unfold mn
      by_cases hji2 : j = i
      · subst hji2; split <;> omega
      · have := h1 (by omega)
        split <;> omega
theorem Min_eq {e : Int} {xs : List Int} (he : IsMin e xs) (hx : xs.length ≤ 4611686018427387904) {k : Nat} (hk : xs.length < k) : slices_Min_int_int.f k xs = some e := by
  have hp : 0 < xs.length := List.length_pos_of_mem he.mem
  rw [slices_Min_int_int.f, if_neg (by omega), if_pos (by omega)]
  have e0 : rd xs 0 = xs[0] := rd_get (j := 0) hp
  rw [e0]
  exact Min_loop he hx (xs.length - 1) 1 _ k (by omega) (by omega) (List.getElem_mem hp) (fun j hj h1 => by
    have : j = 0 := by omega
    subst this; exact Int.le_refl _)
theorem idxOf_first {xs : List Int} {at_ : Nat} (ha : at_ < xs.length) {e : Int} (he : xs[at_] = e) (hf : ∀ j (h : j < xs.length), j < at_ → xs[j] ≠ e) : xs.idxOf e = at_ := by
  have hn : ¬ e ∈ xs.take at_ := fun hm => by
    obtain ⟨j, hj, h⟩ := List.getElem_of_mem hm
    rw [List.length_take] at hj
    rw [List.getElem_take] at h
    exact hf j (by omega) (by omega) h
  have h1 : xs = xs.take at_ ++ xs.drop at_ := (List.take_append_drop at_ xs).symm
  have h2 : xs.drop at_ = xs[at_] :: xs.drop (at_ + 1) := List.drop_eq_getElem_cons ha
  conv => lhs; rw [h1]
  rw [List.idxOf_append, if_neg hn, h2, he, List.idxOf_cons_self, List.length_take]
  omega
/-- A cycle with its least number first. -/
def turned (xs : List Int) (e : Int) : List Int := xs.drop (xs.idxOf e) ++ xs.take (xs.idxOf e)
theorem turned_length (xs : List Int) (e : Int) : (turned xs e).length = xs.length := by
  simp only [turned, List.length_append, List.length_drop, List.length_take]; omega
theorem turned_first {e : Int} {xs : List Int} (he : IsMin e xs) : rd (turned xs e) 0 = e ∧ 0 < (turned xs e).length := by
  have hl : xs.idxOf e < xs.length := List.idxOf_lt_length_iff.2 he.mem
  have hg := List.getElem_idxOf hl
  refine ⟨?_, by rw [turned_length]; omega⟩
  rw [turned, List.drop_eq_getElem_cons hl, hg]
  rfl


theorem idxF_idx {x : Int} : ∀ (l : List Int) (i : Int), x ∈ l → idxF (fun y => decide (x = y)) l i = i + (l.idxOf x : Int)
  | [], i, h => by simp at h
  | y :: l, i, h => by
    rw [idxF, List.idxOf_cons]
    by_cases e : x = y
    · subst e; simp
    · have hm : x ∈ l := by
        rcases List.mem_cons.1 h with h | h
        · exact absurd h e
        · exact h
      have hb : (y == x) = false := beq_eq_false_iff_ne.mpr (fun h => e h.symm)
      rw [decide_eq_false e, if_neg (by decide), idxF_idx l (i + 1) hm, hb]
      simp; omega
theorem leastFirst_eq {e : Int} {xs : List Int} (he : IsMin e xs) (hx : xs.length ≤ 1000) {k : Nat} (hk : xs.length < k) : impl_leastFirst.f k xs = some (turned xs e) := by
  have hl : xs.idxOf e < xs.length := List.idxOf_lt_length_iff.2 he.mem
  rw [impl_leastFirst.f, Min_eq he (by omega) hk, Option.bind_some, Index_eq _ _ (by omega) hk, idxF_idx xs 0 he.mem, Option.bind_some, Int.zero_add, if_pos (by omega), if_pos (by omega), Int.toNat_natCast, slices_Concat_int_int.f, if_pos ⟨by simp, by simp; omega⟩, Option.bind_some]
  simp [turned]
/-- Where a number comes to its cycle. -/
def ent (l : List Int) (x : Int) : Int := it (rd l) x (rA l x)
theorem ent_cyc {l : List Int} (h : MapL l) {x : Int} (hx : Has l x) : Has l (ent l x) ∧ cyc l (ent l x) = true ∧ per l (ent l x) = per l x := by
  refine ⟨it_has h hx _, ?_, (rA_it h hx _).2⟩
  unfold ent
  rw [cyc_it h hx]; simp
theorem cycleAt_eq {l : List Int} (h : MapL l) (hl : l.length ≤ 60) {x : Int} (hx : Has l x) {e : Int} (he : IsMin e (cyL l (ent l x))) {k : Nat} (hk : l.length < k) : impl_cycleAt.f k l x = some (turned (cyL l (ent l x)) e) := by
  obtain ⟨hr, hm, _⟩ := rho_map h hx
  have hlt := hr.lt
  have hcl := cyL_length l (ent l x)
  have hpe := (ent_cyc h hx).2.2
  have hra := rA_lt h hx
  have hd : (orbit (rd l) x (rM l x)).drop (rA l x) = cyL l (ent l x) := by
    rw [orbit_drop, cyL, hpe]; rfl
  rw [impl_cycleAt.f, wayOf_eq h hl hx hk, Option.bind_some, if_pos ⟨by omega, by rw [orbit_length]; omega⟩, Int.toNat_natCast, hd]
  exact leastFirst_eq he (by omega) (by omega)
theorem cyL_cons {l : List Int} (h : MapL l) {x : Int} (hx : Has l x) : ∃ c, cyL l x = x :: c := by
  have := per_pos h hx
  obtain ⟨p, hp⟩ : ∃ p, per l x = p + 1 := ⟨per l x - 1, by omega⟩
  exact ⟨_, by rw [cyL, hp, orbit_cons]⟩
theorem cyL_first {l : List Int} (h : MapL l) {x : Int} (hx : Has l x) : rd (cyL l x) 0 = x := by
  obtain ⟨c, hc⟩ := cyL_cons h hx
  rw [hc]; rfl
theorem lead_min {l : List Int} (h : MapL l) {x : Int} (hx : Has l x) (hl : lead l x = true) : IsMin x (cyL l x) := by
  have hc := lead_cyc hl
  unfold lead at hl
  rw [hc, Bool.true_and, List.all_eq_true] at hl
  exact ⟨cyL_self h hx hc, fun y hy => by simpa using hl y hy⟩
theorem min_lead {l : List Int} (h : MapL l) {x e : Int} (hx : Has l x) (hc : cyc l x = true) (he : IsMin e (cyL l x)) : Has l e ∧ lead l e = true := by
  obtain ⟨h1, h2, _⟩ := cyL_has h hx hc he.mem
  refine ⟨h1, ?_⟩
  unfold lead
  rw [h2, Bool.true_and, List.all_eq_true]
  intro y hy
  have := he.le y ((cyL_same h hx hc he.mem y).1 hy)
  simpa using this
theorem ent_self {l : List Int} {x : Int} (hc : cyc l x = true) : ent l x = x := by
  have h0 : rA l x = 0 := by simpa [cyc] using hc
  unfold ent
  rw [h0]; rfl
theorem turned_lead {l : List Int} (h : MapL l) {x : Int} (hx : Has l x) : turned (cyL l x) x = cyL l x := by
  obtain ⟨c, hc⟩ := cyL_cons h hx
  rw [hc, turned, List.idxOf_cons_self]
  simp
theorem cycles_loop {l : List Int} (h : MapL l) (hl : l.length ≤ 60) : ∀ (d i k : Nat), i + d = l.length → l.length + d < k → impl_cycles.l0 k l (cycs l i) (l.length : Int) (i : Int) = some (cycs l l.length)
  | 0, i, k, hi, hk => by
    obtain ⟨k, rfl⟩ : ∃ q, k = q + 1 := ⟨k - 1, by omega⟩
    obtain rfl : i = l.length := by omega
    rw [impl_cycles.l0, if_neg (by omega)]
  | d + 1, i, k, hi, hk => by
    obtain ⟨k, rfl⟩ : ∃ q, k = q + 1 := ⟨k - 1, by omega⟩
    have hx : Has l (i : Int) := ⟨by omega, by omega⟩
    obtain ⟨e1, e2, e3⟩ := ent_cyc h hx
    obtain ⟨e, he⟩ := isMin_exists (cyL l (ent l (i : Int))) (by obtain ⟨c, hc⟩ := cyL_cons h e1; rw [hc]; simp)
    obtain ⟨f1, f2⟩ := turned_first he
    have hcl := cycs_length l i
    have ih := cycles_loop h hl d (i + 1) k (by omega) (by omega)
    rw [cycs] at ih
    rw [impl_cycles.l0, if_pos (by omega), cycleAt_eq h hl hx he (by omega), Option.bind_some, if_pos (by omega), f1, w64s (by omega)]
    by_cases hei : e = (i : Int)
    · have hm := he.mem
      rw [hei] at hm
      have hc := (cyL_has h e1 e2 hm).2.1
      have hz := ent_self hc
      rw [hz] at he
      have hld : lead l (i : Int) = true := by
        have := (min_lead h hx hc he).2
        rw [hei] at this
        exact this
      rw [if_pos hei, if_pos (by omega), hz, hei, turned_lead h hx]
      rw [if_pos hld] at ih
      exact ih
    · have hld : lead l (i : Int) = false := by
        cases hld : lead l (i : Int) with
        | false => rfl
        | true =>
          have hc := lead_cyc hld
          rw [ent_self hc] at he
          exact absurd (he.unique (lead_min h hx hld)) hei
      rw [if_neg hei]
      rw [if_neg (by rw [hld]; decide), List.append_nil] at ih
      exact ih
theorem cycles_eq {l : List Int} (h : MapL l) (hl : l.length ≤ 60) {k : Nat} (hk : 2 * l.length < k) : impl_cycles.f k l = some (cycs l l.length) := cycles_loop h hl l.length 0 k (by omega) (by omega)
end Go.Proofs.YtcaohpcbohdkbaaC
