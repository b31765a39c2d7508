/-
  Plain facts on runs that come back, and on depths and cycles of a map. No conditions.
-/
import Derived.Test.YtcaohpcbohdkbaaWMore
namespace Go.Proofs.YtcaohpcbohdkbaaC
set_option linter.unusedSimpArgs false
set_option linter.unusedVariables false

/-! ### a list without repeats in another one is no longer -/
theorem nodup_le : ∀ (l m : List Int), l.Nodup → (∀ x ∈ l, x ∈ m) → l.length ≤ m.length
  | [], m, _, _ => by simp
  | a :: l, m, hn, h => by
    rw [List.nodup_cons] at hn
    have ha := h a (by simp)
    have := nodup_le l (m.erase a) hn.2 (fun x hx => (List.mem_erase_of_ne (show x ≠ a from fun e => hn.1 (by rw [← e]; exact hx))).2 (h x (by simp [hx])))
    rw [List.length_erase_of_mem ha] at this
    have : 0 < m.length := List.length_pos_of_mem ha
    simp only [List.length_cons]; omega

/-! ### steps -/
def it (f : Int → Int) (x : Int) : Nat → Int
  | 0 => x
  | k + 1 => f (it f x k)
theorem it_add (f : Int → Int) (x : Int) (a : Nat) : ∀ b, it f x (a + b) = it f (it f x a) b
  | 0 => rfl
  | b + 1 => by
    show f (it f x (a + b)) = f (it f (it f x a) b)
    rw [it_add f x a b]
theorem it_one (f : Int → Int) (x : Int) (k : Nat) : it f (f x) k = it f x (k + 1) := by
  rw [show k + 1 = 1 + k by omega, it_add]; rfl
def orbit (f : Int → Int) (x : Int) (m : Nat) : List Int := (List.range m).map (it f x)
theorem orbit_length (f : Int → Int) (x : Int) (m : Nat) : (orbit f x m).length = m := by simp [orbit]
theorem orbit_succ (f : Int → Int) (x : Int) (m : Nat) : orbit f x (m + 1) = orbit f x m ++ [it f x m] := by simp [orbit, List.range_succ]
theorem orbit_get (f : Int → Int) (x : Int) (m i : Nat) (h : i < (orbit f x m).length) : (orbit f x m)[i] = it f x i := by simp [orbit]
theorem mem_orbit {f : Int → Int} {x : Int} {m : Nat} {y : Int} : y ∈ orbit f x m ↔ ∃ i, i < m ∧ it f x i = y := by simp [orbit]
theorem orbit_cons (f : Int → Int) (x : Int) (m : Nat) : orbit f x (m + 1) = x :: orbit f (f x) m := by
  apply List.ext_getElem
  · simp [orbit_length]
  · intro i h1 h2
    rw [orbit_get]
    cases i with
    | zero => rfl
    | succ i => rw [List.getElem_cons_succ, orbit_get, it_one]
theorem orbit_drop (f : Int → Int) (x : Int) (m k : Nat) : (orbit f x m).drop k = orbit f (it f x k) (m - k) := by
  apply List.ext_getElem
  · simp [orbit_length]
  · intro i h1 h2
    rw [List.getElem_drop, orbit_get, orbit_get, it_add]
theorem orbit_take (f : Int → Int) (x : Int) (m k : Nat) (h : k ≤ m) : (orbit f x m).take k = orbit f x k := by
  apply List.ext_getElem
  · simp [orbit_length]; omega
  · intro i h1 h2
    rw [List.getElem_take, orbit_get, orbit_get]

/-- The run of x: m numbers, each once, and the last one leads to that at place a. -/
structure Rho (f : Int → Int) (x : Int) (m a : Nat) : Prop where
  lt : a < m
  back : it f x m = it f x a
  inj : ∀ i j, i < m → j < m → it f x i = it f x j → i = j

theorem rho_or (f : Int → Int) (x : Int) : ∀ m, (∀ i j, i < m → j < m → it f x i = it f x j → i = j) ∨ ∃ m' a, m' < m ∧ Rho f x m' a
  | 0 => .inl (fun i j h => by omega)
  | m + 1 => by
    rcases rho_or f x m with h | ⟨m', a, h1, h2⟩
    · by_cases hm : ∃ a, a < m ∧ it f x m = it f x a
      · obtain ⟨a, ha, he⟩ := hm
        exact .inr ⟨m, a, by omega, ha, he, h⟩
      · refine .inl (fun i j hi hj e => ?_)
        by_cases hi2 : i = m
        · by_cases hj2 : j = m
          · omega
          · subst hi2; exact absurd ⟨j, by omega, e⟩ hm
        · by_cases hj2 : j = m
          · subst hj2; exact absurd ⟨i, by omega, e.symm⟩ hm
          · exact h i j (by omega) (by omega) e
    · exact .inr ⟨m', a, by omega, h2⟩
/-- Among numbers below M each run comes back within M steps. -/
theorem rho_exists (f : Int → Int) (x : Int) (M : Nat) (h : ∀ i, 0 ≤ it f x i ∧ it f x i < (M : Int)) : ∃ m a, m ≤ M ∧ Rho f x m a := by
  rcases rho_or f x (M + 1) with hi | ⟨m, a, h1, h2⟩
  · exfalso
    have hn : (orbit f x (M + 1)).Nodup := by
      rw [List.nodup_iff_pairwise_ne, List.pairwise_iff_getElem]
      intro i j h1 h2 hij e
      rw [orbit_get, orbit_get] at e
      have := hi i j (by simpa [orbit_length] using h1) (by simpa [orbit_length] using h2) e
      omega
    have := nodup_le _ ((List.range M).map Int.ofNat) hn (fun y hy => by
      obtain ⟨i, _, rfl⟩ := mem_orbit.1 hy
      have := h i
      rw [List.mem_map]
      exact ⟨(it f x i).toNat, by rw [List.mem_range]; omega, by simp; omega⟩)
    rw [orbit_length] at this
    simp at this
    omega
  · exact ⟨m, a, by omega, h2⟩
theorem Rho.fresh {f : Int → Int} {x : Int} {m a : Nat} (h : Rho f x m a) {i : Nat} (hi : i < m) : it f x i ∉ orbit f x i := fun hm => by
  obtain ⟨j, hj, e⟩ := mem_orbit.1 hm
  have := h.inj j i (by omega) hi e
  omega
/-- On the cycle a step more by its length changes nothing. -/
theorem Rho.round {f : Int → Int} {x : Int} {m a : Nat} (h : Rho f x m a) : ∀ i, a ≤ i → it f x (i + (m - a)) = it f x i := by
  intro i hi
  obtain ⟨d, rfl⟩ := Nat.exists_eq_add_of_le hi
  rw [show a + d + (m - a) = m + d by have := h.lt; omega, it_add, h.back, ← it_add]
theorem Rho.rounds {f : Int → Int} {x : Int} {m a : Nat} (h : Rho f x m a) (i : Nat) (hi : a ≤ i) : ∀ q, it f x (i + q * (m - a)) = it f x i
  | 0 => by simp
  | q + 1 => by
    rw [Nat.succ_mul, ← Nat.add_assoc, h.round _ (by omega), h.rounds i hi q]
theorem Rho.mod {f : Int → Int} {x : Int} {m a : Nat} (h : Rho f x m a) (i : Nat) (hi : a ≤ i) : it f x i = it f x (a + (i - a) % (m - a)) := by
  have := h.rounds (a + (i - a) % (m - a)) (by omega) ((i - a) / (m - a))
  rw [← this]
  congr 1
  have := Nat.mod_add_div (i - a) (m - a)
  rw [Nat.mul_comm] at this
  omega
/-- Every number that is come to is among the first m. -/
theorem Rho.all {f : Int → Int} {x : Int} {m a : Nat} (h : Rho f x m a) (i : Nat) : ∃ j, j < m ∧ it f x i = it f x j := by
  have hl := h.lt
  by_cases hi : i < m
  · exact ⟨i, hi, rfl⟩
  · exact ⟨a + (i - a) % (m - a), by have := Nat.mod_lt (i - a) (show 0 < m - a by omega); omega, h.mod i (by omega)⟩
theorem Rho.unique {f : Int → Int} {x : Int} {m a m' a' : Nat} (h : Rho f x m a) (h' : Rho f x m' a') : m = m' ∧ a = a' := by
  have hm : m = m' := by
    rcases Nat.lt_trichotomy m m' with hlt | rfl | hlt
    · have := h'.inj m a hlt (by have := h.lt; omega) h.back
      have := h.lt; omega
    · rfl
    · have := h.inj m' a' hlt (by have := h'.lt; omega) h'.back
      have := h'.lt; omega
  subst hm
  exact ⟨rfl, h.inj a a' h.lt h'.lt (h.back.symm.trans h'.back)⟩

open Go.RowKit Go.Proofs.YtcaohpcbohdkbaaW.PrintWords Go.Proofs.YtcaohpcbohdkbaaW.PrintMore

theorem Rho.next_tail {f : Int → Int} {x : Int} {m a : Nat} (h : Rho f x m (a + 1)) : Rho f (f x) (m - 1) a := by
  have hl := h.lt
  refine ⟨by omega, ?_, fun i j hi hj e => ?_⟩
  · rw [it_one, it_one, show m - 1 + 1 = m by omega]; exact h.back
  · rw [it_one, it_one] at e
    have := h.inj (i + 1) (j + 1) (by omega) (by omega) e
    omega
theorem Rho.next_cycle {f : Int → Int} {x : Int} {m : Nat} (h : Rho f x m 0) : Rho f (f x) m 0 := by
  have hl := h.lt
  have hb : it f x m = x := h.back
  refine ⟨hl, ?_, fun i j hi hj e => ?_⟩
  · rw [it_one]
    show f (it f x m) = f x
    rw [hb]
  · rw [it_one, it_one] at e
    by_cases h1 : i + 1 < m
    · by_cases h2 : j + 1 < m
      · have := h.inj (i + 1) (j + 1) h1 h2 e
        omega
      · have ej : j + 1 = m := by omega
        rw [ej, hb] at e
        have := h.inj (i + 1) 0 h1 hl e
        omega
    · have ei : i + 1 = m := by omega
      by_cases h2 : j + 1 < m
      · rw [ei, hb] at e
        have := h.inj (j + 1) 0 h2 hl e.symm
        omega
      · omega
/-- The way of a number, as a program finds it. -/
def wayF (f : Int → Int) : Nat → List Int → Int → List Int × Nat
  | 0, out, _ => (out, 0)
  | k + 1, out, n => if n ∈ out then (out, out.idxOf n) else wayF f k (out ++ [n]) (f n)
theorem idxOf_orbit {f : Int → Int} {x : Int} {m : Nat} (h : ∀ i j, i < m → j < m → it f x i = it f x j → i = j) {i : Nat} (hi : i < m) : (orbit f x m).idxOf (it f x i) = i := by
  have hm : it f x i ∈ orbit f x m := mem_orbit.2 ⟨i, hi, rfl⟩
  have hl : (orbit f x m).idxOf (it f x i) < (orbit f x m).length := List.idxOf_lt_length_iff.2 hm
  have := List.getElem_idxOf hl
  rw [orbit_get] at this
  rw [orbit_length] at hl
  exact h _ _ hl hi this
theorem wayF_eq {f : Int → Int} {x : Int} {m a : Nat} (h : Rho f x m a) : ∀ (k i : Nat), i ≤ m → m < i + k → wayF f k (orbit f x i) (it f x i) = (orbit f x m, a)
  | 0, i, h1, h2 => by omega
  | k + 1, i, h1, h2 => by
    rw [wayF]
    by_cases hi : i = m
    · subst hi
      rw [if_pos (by rw [h.back]; exact mem_orbit.2 ⟨a, h.lt, rfl⟩), h.back, idxOf_orbit h.inj h.lt]
    · rw [if_neg (h.fresh (by omega)), ← orbit_succ]
      exact wayF_eq h k (i + 1) (by omega) (by omega)
def way (l : List Int) (x : Int) : List Int × Nat := wayF (rd l) (l.length + 1) [] x
/-- How many numbers a run has, and how many of them are not on its cycle. -/
def rM (l : List Int) (x : Int) : Nat := (way l x).1.length
def rA (l : List Int) (x : Int) : Nat := (way l x).2
def per (l : List Int) (x : Int) : Nat := rM l x - rA l x

/-- A list that is a map. -/
def MapL (l : List Int) : Prop := ∀ x ∈ l, 0 ≤ x ∧ x < (l.length : Int)
def Has (l : List Int) (x : Int) : Prop := 0 ≤ x ∧ x < (l.length : Int)
theorem rd_has {l : List Int} (h : MapL l) {x : Int} (hx : Has l x) : Has l (rd l x) := by
  obtain ⟨n, rfl⟩ := Int.eq_ofNat_of_zero_le hx.1
  have hn : n < l.length := by have := hx.2; omega
  have e : rd l (n : Int) = l[n] := by simp [rd, List.getD_eq_getElem?_getD, List.getElem?_eq_getElem hn]
  rw [e]
  exact h _ (List.getElem_mem hn)
theorem it_has {l : List Int} (h : MapL l) {x : Int} (hx : Has l x) : ∀ k, Has l (it (rd l) x k)
  | 0 => hx
  | k + 1 => rd_has h (it_has h hx k)
theorem rho_map {l : List Int} (h : MapL l) {x : Int} (hx : Has l x) : Rho (rd l) x (rM l x) (rA l x) ∧ rM l x ≤ l.length ∧ way l x = (orbit (rd l) x (rM l x), rA l x) := by
  obtain ⟨m, a, h1, h2⟩ := rho_exists (rd l) x l.length (fun i => it_has h hx i)
  have e : way l x = (orbit (rd l) x m, a) := wayF_eq h2 (l.length + 1) 0 (by omega) (by omega)
  have em : rM l x = m := by rw [rM, e]; exact orbit_length _ _ _
  have ea : rA l x = a := by rw [rA, e]
  rw [em, ea]
  exact ⟨h2, h1, e⟩
theorem rho_is {l : List Int} (h : MapL l) {x : Int} (hx : Has l x) {m a : Nat} (hr : Rho (rd l) x m a) : rM l x = m ∧ rA l x = a := (rho_map h hx).1.unique hr
theorem rA_next {l : List Int} (h : MapL l) {x : Int} (hx : Has l x) : rA l (rd l x) = rA l x - 1 ∧ per l (rd l x) = per l x := by
  obtain ⟨hr, _⟩ := rho_map h hx
  have hl := hr.lt
  unfold per
  cases ha : rA l x with
  | zero =>
    rw [ha] at hr
    obtain ⟨e1, e2⟩ := rho_is h (rd_has h hx) hr.next_cycle
    rw [e1, e2]
    omega
  | succ a =>
    rw [ha] at hr
    obtain ⟨e1, e2⟩ := rho_is h (rd_has h hx) hr.next_tail
    rw [e1, e2]
    omega
theorem rA_it {l : List Int} (h : MapL l) {x : Int} (hx : Has l x) : ∀ k, rA l (it (rd l) x k) = rA l x - k ∧ per l (it (rd l) x k) = per l x
  | 0 => ⟨rfl, rfl⟩
  | k + 1 => by
    obtain ⟨h1, h2⟩ := rA_next h (it_has h hx k)
    obtain ⟨h3, h4⟩ := rA_it h hx k
    show rA l (rd l (it (rd l) x k)) = _ ∧ per l (rd l (it (rd l) x k)) = _
    rw [h1, h2, h3, h4]
    omega
theorem per_pos {l : List Int} (h : MapL l) {x : Int} (hx : Has l x) : 0 < per l x := by
  have := (rho_map h hx).1.lt
  unfold per; omega
theorem rA_lt {l : List Int} (h : MapL l) {x : Int} (hx : Has l x) : rA l x + per l x ≤ l.length := by
  obtain ⟨h1, h2, _⟩ := rho_map h hx
  have := h1.lt
  unfold per; omega
/-- Is it on a cycle? -/
def cyc (l : List Int) (x : Int) : Bool := decide (rA l x = 0)
theorem cyc_round {l : List Int} (h : MapL l) {x : Int} (hx : Has l x) (hc : cyc l x = true) : Rho (rd l) x (per l x) 0 ∧ it (rd l) x (per l x) = x := by
  have h0 : rA l x = 0 := by simpa [cyc] using hc
  obtain ⟨h1, h2, _⟩ := rho_map h hx
  rw [h0] at h1
  have e : per l x = rM l x := by unfold per; omega
  rw [e]
  exact ⟨h1, h1.back⟩
theorem cyc_of_round {l : List Int} (h : MapL l) {x : Int} (hx : Has l x) {p : Nat} (hp : 0 < p) (e : it (rd l) x p = x) : cyc l x = true := by
  have h1 := (rA_it h hx p).1
  rw [e] at h1
  simp only [cyc, decide_eq_true_eq]
  omega
theorem cyc_it {l : List Int} (h : MapL l) {x : Int} (hx : Has l x) (k : Nat) : cyc l (it (rd l) x k) = decide (rA l x ≤ k) := by
  have h1 := (rA_it h hx k).1
  simp only [cyc, h1]
  apply decide_eq_decide.2
  omega
theorem cyc_next {l : List Int} (h : MapL l) {x : Int} (hx : Has l x) (hc : cyc l x = true) : cyc l (rd l x) = true := by
  have h1 := (rA_next h hx).1
  simp only [cyc, decide_eq_true_eq] at hc ⊢
  omega
/-- Whoever is on a cycle is come to in whatever number of steps. -/
theorem cyc_from {l : List Int} (h : MapL l) {x : Int} (hx : Has l x) (hc : cyc l x = true) (k : Nat) : ∃ y, Has l y ∧ cyc l y = true ∧ it (rd l) y k = x := by
  obtain ⟨hr, _⟩ := cyc_round h hx hc
  have hp := hr.lt
  refine ⟨it (rd l) x (k * per l x - k), it_has h hx _, by rw [cyc_it h hx]; simp only [cyc, decide_eq_true_eq] at hc; simp; omega, ?_⟩
  rw [← it_add]
  have hk : k ≤ k * per l x := Nat.le_mul_of_pos_right _ hp
  have h2 := hr.rounds 0 (by omega) k
  rw [Nat.sub_zero, Nat.zero_add] at h2
  rw [show k * per l x - k + k = k * per l x by omega]
  exact h2

end Go.Proofs.YtcaohpcbohdkbaaC
