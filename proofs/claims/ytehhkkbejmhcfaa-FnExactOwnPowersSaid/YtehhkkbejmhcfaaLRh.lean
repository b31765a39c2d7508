/-
  Plain facts on the run of a number under a function: it comes back, and where. No conditions.
-/
import Derived.Test.YtehhkkbejmhcfaaWMore
namespace Go.Proofs.YtehhkkbejmhcfaaC
set_option linter.unusedSimpArgs false
set_option linter.unusedVariables false

/-! ### a list without repeats in another one is no longer -/
theorem nodup_le : ∀ (l m : List Int), l.Nodup → (∀ x ∈ l, x ∈ m) → l.length ≤ m.length
  | [], m, _, _ => by simp
  | a :: l, m, hn, h => by
    rw [List.nodup_cons] at hn
    have ha := h a (by simp)
    have := nodup_le l (m.erase a) hn.2 (fun x hx => (List.mem_erase_of_ne (show x ≠ a from fun e => hn.1 (by rw [← e]; exact hx))).2 (h x (by simp [hx])))
    rw [List.length_erase_of_mem ha] at this
    have : 0 < m.length := List.length_pos_of_mem ha
    simp only [List.length_cons]; omega

/-! ### steps -/
def it (f : Int → Int) (x : Int) : Nat → Int
  | 0 => x
  | k + 1 => f (it f x k)
theorem it_add (f : Int → Int) (x : Int) (a : Nat) : ∀ b, it f x (a + b) = it f (it f x a) b
  | 0 => rfl
  | b + 1 => by
    show f (it f x (a + b)) = f (it f (it f x a) b)
    rw [it_add f x a b]
theorem it_one (f : Int → Int) (x : Int) (k : Nat) : it f (f x) k = it f x (k + 1) := by
  rw [show k + 1 = 1 + k by omega, it_add]; rfl
def orbit (f : Int → Int) (x : Int) (m : Nat) : List Int := (List.range m).map (it f x)
theorem orbit_length (f : Int → Int) (x : Int) (m : Nat) : (orbit f x m).length = m := by simp [orbit]
theorem orbit_succ (f : Int → Int) (x : Int) (m : Nat) : orbit f x (m + 1) = orbit f x m ++ [it f x m] := by simp [orbit, List.range_succ]
theorem orbit_get (f : Int → Int) (x : Int) (m i : Nat) (h : i < (orbit f x m).length) : (orbit f x m)[i] = it f x i := by simp [orbit]
theorem mem_orbit {f : Int → Int} {x : Int} {m : Nat} {y : Int} : y ∈ orbit f x m ↔ ∃ i, i < m ∧ it f x i = y := by simp [orbit]
theorem orbit_cons (f : Int → Int) (x : Int) (m : Nat) : orbit f x (m + 1) = x :: orbit f (f x) m := by
  apply List.ext_getElem
  · simp [orbit_length]
  · intro i h1 h2
    rw [orbit_get]
    cases i with
    | zero => rfl
    | succ i => rw [List.getElem_cons_succ, orbit_get, it_one]
theorem orbit_drop (f : Int → Int) (x : Int) (m k : Nat) : (orbit f x m).drop k = orbit f (it f x k) (m - k) := by
  apply List.ext_getElem
  · simp [orbit_length]
  · intro i h1 h2
    rw [List.getElem_drop, orbit_get, orbit_get, it_add]
theorem orbit_take (f : Int → Int) (x : Int) (m k : Nat) (h : k ≤ m) : (orbit f x m).take k = orbit f x k := by
  apply List.ext_getElem
  · simp [orbit_length]; omega
  · intro i h1 h2
    rw [List.getElem_take, orbit_get, orbit_get]

/-- The run of x: m numbers, each once, and the last one leads to that at place a. -/
structure Rho (f : Int → Int) (x : Int) (m a : Nat) : Prop where
  lt : a < m
  back : it f x m = it f x a
  inj : ∀ i j, i < m → j < m → it f x i = it f x j → i = j

theorem rho_or (f : Int → Int) (x : Int) : ∀ m, (∀ i j, i < m → j < m → it f x i = it f x j → i = j) ∨ ∃ m' a, m' < m ∧ Rho f x m' a
  | 0 => .inl (fun i j h => by omega)
  | m + 1 => by
    rcases rho_or f x m with h | ⟨m', a, h1, h2⟩
    · by_cases hm : ∃ a, a < m ∧ it f x m = it f x a
      · obtain ⟨a, ha, he⟩ := hm
        exact .inr ⟨m, a, by omega, ha, he, h⟩
      · refine .inl (fun i j hi hj e => ?_)
        by_cases hi2 : i = m
        · by_cases hj2 : j = m
          · omega
          · subst hi2; exact absurd ⟨j, by omega, e⟩ hm
        · by_cases hj2 : j = m
          · subst hj2; exact absurd ⟨i, by omega, e.symm⟩ hm
          · exact h i j (by omega) (by omega) e
    · exact .inr ⟨m', a, by omega, h2⟩
/-- Among numbers below M each run comes back within M steps. -/
theorem rho_exists (f : Int → Int) (x : Int) (M : Nat) (h : ∀ i, 0 ≤ it f x i ∧ it f x i < (M : Int)) : ∃ m a, m ≤ M ∧ Rho f x m a := by
  rcases rho_or f x (M + 1) with hi | ⟨m, a, h1, h2⟩
  · exfalso
    have hn : (orbit f x (M + 1)).Nodup := by
      rw [List.nodup_iff_pairwise_ne, List.pairwise_iff_getElem]
      intro i j h1 h2 hij e
      rw [orbit_get, orbit_get] at e
      have := hi i j (by simpa [orbit_length] using h1) (by simpa [orbit_length] using h2) e
      omega
    have := nodup_le _ ((List.range M).map Int.ofNat) hn (fun y hy => by
      obtain ⟨i, _, rfl⟩ := mem_orbit.1 hy
      have := h i
      rw [List.mem_map]
      exact ⟨(it f x i).toNat, by rw [List.mem_range]; omega, by simp; omega⟩)
    rw [orbit_length] at this
    simp at this
    omega
  · exact ⟨m, a, by omega, h2⟩
theorem Rho.fresh {f : Int → Int} {x : Int} {m a : Nat} (h : Rho f x m a) {i : Nat} (hi : i < m) : it f x i ∉ orbit f x i := fun hm => by
  obtain ⟨j, hj, e⟩ := mem_orbit.1 hm
  have := h.inj j i (by omega) hi e
  omega
/-- On the cycle a step more by its length changes nothing. -/
theorem Rho.round {f : Int → Int} {x : Int} {m a : Nat} (h : Rho f x m a) : ∀ i, a ≤ i → it f x (i + (m - a)) = it f x i := by
  intro i hi
  obtain ⟨d, rfl⟩ := Nat.exists_eq_add_of_le hi
  rw [show a + d + (m - a) = m + d by have := h.lt; omega, it_add, h.back, ← it_add]
theorem Rho.rounds {f : Int → Int} {x : Int} {m a : Nat} (h : Rho f x m a) (i : Nat) (hi : a ≤ i) : ∀ q, it f x (i + q * (m - a)) = it f x i
  | 0 => by simp
  | q + 1 => by
    rw [Nat.succ_mul, ← Nat.add_assoc, h.round _ (by omega), h.rounds i hi q]
theorem Rho.mod {f : Int → Int} {x : Int} {m a : Nat} (h : Rho f x m a) (i : Nat) (hi : a ≤ i) : it f x i = it f x (a + (i - a) % (m - a)) := by
  have := h.rounds (a + (i - a) % (m - a)) (by omega) ((i - a) / (m - a))
  rw [← this]
  congr 1
  have := Nat.mod_add_div (i - a) (m - a)
  rw [Nat.mul_comm] at this
  omega
/-- Every number that is come to is among the first m. -/
theorem Rho.all {f : Int → Int} {x : Int} {m a : Nat} (h : Rho f x m a) (i : Nat) : ∃ j, j < m ∧ it f x i = it f x j := by
  have hl := h.lt
  by_cases hi : i < m
  · exact ⟨i, hi, rfl⟩
  · exact ⟨a + (i - a) % (m - a), by have := Nat.mod_lt (i - a) (show 0 < m - a by omega); omega, h.mod i (by omega)⟩
theorem Rho.unique {f : Int → Int} {x : Int} {m a m' a' : Nat} (h : Rho f x m a) (h' : Rho f x m' a') : m = m' ∧ a = a' := by
  have hm : m = m' := by
    rcases Nat.lt_trichotomy m m' with hlt | rfl | hlt
    · have := h'.inj m a hlt (by have := h.lt; omega) h.back
      have := h.lt; omega
    · rfl
    · have := h.inj m' a' hlt (by have := h'.lt; omega) h'.back
      have := h'.lt; omega
  subst hm
  exact ⟨rfl, h.inj a a' h.lt h'.lt (h.back.symm.trans h'.back)⟩
end Go.Proofs.YtehhkkbejmhcfaaC
