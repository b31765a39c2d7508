/-
  Plain facts on maps: how far a number is from its cycle, and how long that is. No conditions.
-/
import Derived.Test.YtehhkkbejmhcfaaLRh
namespace Go.Proofs.YtehhkkbejmhcfaaC
open Go.RowKit Go.Proofs.YtehhkkbejmhcfaaW.PrintWords Go.Proofs.YtehhkkbejmhcfaaW.PrintMore
set_option linter.unusedSimpArgs false
set_option linter.unusedVariables false

theorem Rho.next_tail {f : Int → Int} {x : Int} {m a : Nat} (h : Rho f x m (a + 1)) : Rho f (f x) (m - 1) a := by
  have hl := h.lt
  refine ⟨by omega, ?_, fun i j hi hj e => ?_⟩
  · rw [it_one, it_one, show m - 1 + 1 = m by omega]; exact h.back
  · rw [it_one, it_one] at e
    have := h.inj (i + 1) (j + 1) (by omega) (by omega) e
    omega
theorem Rho.next_cycle {f : Int → Int} {x : Int} {m : Nat} (h : Rho f x m 0) : Rho f (f x) m 0 := by
  have hl := h.lt
  have hb : it f x m = x := h.back
  refine ⟨hl, ?_, fun i j hi hj e => ?_⟩
  · rw [it_one]
    show f (it f x m) = f x
    rw [hb]
  · rw [it_one, it_one] at e
    by_cases h1 : i + 1 < m
    · by_cases h2 : j + 1 < m
      · have := h.inj (i + 1) (j + 1) h1 h2 e
        omega
      · have ej : j + 1 = m := by omega
        rw [ej, hb] at e
        have := h.inj (i + 1) 0 h1 hl e
        omega
    · have ei : i + 1 = m := by omega
      by_cases h2 : j + 1 < m
      · rw [ei, hb] at e
        have := h.inj (j + 1) 0 h2 hl e.symm
        omega
      · omega
/-- The way of a number, as a program finds it. -/
def wayF (f : Int → Int) : Nat → List Int → Int → List Int × Nat
  | 0, out, _ => (out, 0)
  | k + 1, out, n => if n ∈ out then (out, out.idxOf n) else wayF f k (out ++ [n]) (f n)
theorem idxOf_orbit {f : Int → Int} {x : Int} {m : Nat} (h : ∀ i j, i < m → j < m → it f x i = it f x j → i = j) {i : Nat} (hi : i < m) : (orbit f x m).idxOf (it f x i) = i := by
  have hm : it f x i ∈ orbit f x m := mem_orbit.2 ⟨i, hi, rfl⟩
  have hl : (orbit f x m).idxOf (it f x i) < (orbit f x m).length := List.idxOf_lt_length_iff.2 hm
  have := List.getElem_idxOf hl
  rw [orbit_get] at this
  rw [orbit_length] at hl
  exact h _ _ hl hi this
theorem wayF_eq {f : Int → Int} {x : Int} {m a : Nat} (h : Rho f x m a) : ∀ (k i : Nat), i ≤ m → m < i + k → wayF f k (orbit f x i) (it f x i) = (orbit f x m, a)
  | 0, i, h1, h2 => by omega
  | k + 1, i, h1, h2 => by
    rw [wayF]
    by_cases hi : i = m
    · subst hi
      rw [if_pos (by rw [h.back]; exact mem_orbit.2 ⟨a, h.lt, rfl⟩), h.back, idxOf_orbit h.inj h.lt]
    · rw [if_neg (h.fresh (by omega)), ← orbit_succ]
      exact wayF_eq h k (i + 1) (by omega) (by omega)
def way (l : List Int) (x : Int) : List Int × Nat := wayF (rd l) (l.length + 1) [] x
/-- How many numbers a run has, and how many of them are not on its cycle. -/
def rM (l : List Int) (x : Int) : Nat := (way l x).1.length
def rA (l : List Int) (x : Int) : Nat := (way l x).2
def per (l : List Int) (x : Int) : Nat := rM l x - rA l x

/-- A list that is a map. -/
def MapL (l : List Int) : Prop := ∀ x ∈ l, 0 ≤ x ∧ x < (l.length : Int)
def Has (l : List Int) (x : Int) : Prop := 0 ≤ x ∧ x < (l.length : Int)
theorem rd_has {l : List Int} (h : MapL l) {x : Int} (hx : Has l x) : Has l (rd l x) := by
  obtain ⟨n, rfl⟩ := Int.eq_ofNat_of_zero_le hx.1
  have hn : n < l.length := by have := hx.2; omega
  have e : rd l (n : Int) = l[n] := by simp [rd, List.getD_eq_getElem?_getD, List.getElem?_eq_getElem hn]
  rw [e]
  exact h _ (List.getElem_mem hn)
theorem it_has {l : List Int} (h : MapL l) {x : Int} (hx : Has l x) : ∀ k, Has l (it (rd l) x k)
  | 0 => hx
  | k + 1 => rd_has h (it_has h hx k)
theorem rho_map {l : List Int} (h : MapL l) {x : Int} (hx : Has l x) : Rho (rd l) x (rM l x) (rA l x) ∧ rM l x ≤ l.length ∧ way l x = (orbit (rd l) x (rM l x), rA l x) := by
  obtain ⟨m, a, h1, h2⟩ := rho_exists (rd l) x l.length (fun i => it_has h hx i)
  have e : way l x = (orbit (rd l) x m, a) := wayF_eq h2 (l.length + 1) 0 (by omega) (by omega)
  have em : rM l x = m := by rw [rM, e]; exact orbit_length _ _ _
  have ea : rA l x = a := by rw [rA, e]
  rw [em, ea]
  exact ⟨h2, h1, e⟩
theorem rho_is {l : List Int} (h : MapL l) {x : Int} (hx : Has l x) {m a : Nat} (hr : Rho (rd l) x m a) : rM l x = m ∧ rA l x = a := (rho_map h hx).1.unique hr
theorem rA_next {l : List Int} (h : MapL l) {x : Int} (hx : Has l x) : rA l (rd l x) = rA l x - 1 ∧ per l (rd l x) = per l x := by
  obtain ⟨hr, _⟩ := rho_map h hx
  have hl := hr.lt
  unfold per
  cases ha : rA l x with
  | zero =>
    rw [ha] at hr
    obtain ⟨e1, e2⟩ := rho_is h (rd_has h hx) hr.next_cycle
    rw [e1, e2]
    omega
  | succ a =>
    rw [ha] at hr
    obtain ⟨e1, e2⟩ := rho_is h (rd_has h hx) hr.next_tail
    rw [e1, e2]
    omega
theorem rA_it {l : List Int} (h : MapL l) {x : Int} (hx : Has l x) : ∀ k, rA l (it (rd l) x k) = rA l x - k ∧ per l (it (rd l) x k) = per l x
  | 0 => ⟨rfl, rfl⟩
  | k + 1 => by
    obtain ⟨h1, h2⟩ := rA_next h (it_has h hx k)
    obtain ⟨h3, h4⟩ := rA_it h hx k
    show rA l (rd l (it (rd l) x k)) = _ ∧ per l (rd l (it (rd l) x k)) = _
    rw [h1, h2, h3, h4]
    omega
theorem per_pos {l : List Int} (h : MapL l) {x : Int} (hx : Has l x) : 0 < per l x := by
  have := (rho_map h hx).1.lt
  unfold per; omega
theorem rA_lt {l : List Int} (h : MapL l) {x : Int} (hx : Has l x) : rA l x + per l x ≤ l.length := by
  obtain ⟨h1, h2, _⟩ := rho_map h hx
  have := h1.lt
  unfold per; omega
/-- Is it on a cycle? -/
def cyc (l : List Int) (x : Int) : Bool := decide (rA l x = 0)
theorem cyc_round {l : List Int} (h : MapL l) {x : Int} (hx : Has l x) (hc : cyc l x = true) : Rho (rd l) x (per l x) 0 ∧ it (rd l) x (per l x) = x := by
  have h0 : rA l x = 0 := by simpa [cyc] using hc
  obtain ⟨h1, h2, _⟩ := rho_map h hx
  rw [h0] at h1
  have e : per l x = rM l x := by unfold per; omega
  rw [e]
  exact ⟨h1, h1.back⟩
theorem cyc_of_round {l : List Int} (h : MapL l) {x : Int} (hx : Has l x) {p : Nat} (hp : 0 < p) (e : it (rd l) x p = x) : cyc l x = true := by
  have h1 := (rA_it h hx p).1
  rw [e] at h1
  simp only [cyc, decide_eq_true_eq]
  omega
theorem cyc_it {l : List Int} (h : MapL l) {x : Int} (hx : Has l x) (k : Nat) : cyc l (it (rd l) x k) = decide (rA l x ≤ k) := by
  have h1 := (rA_it h hx k).1
  simp only [cyc, h1]
  apply decide_eq_decide.2
  omega
theorem cyc_next {l : List Int} (h : MapL l) {x : Int} (hx : Has l x) (hc : cyc l x = true) : cyc l (rd l x) = true := by
  have h1 := (rA_next h hx).1
  simp only [cyc, decide_eq_true_eq] at hc ⊢
  omega
/-- Whoever is on a cycle is come to in whatever number of steps. -/
theorem cyc_from {l : List Int} (h : MapL l) {x : Int} (hx : Has l x) (hc : cyc l x = true) (k : Nat) : ∃ y, Has l y ∧ cyc l y = true ∧ it (rd l) y k = x := by
  obtain ⟨hr, _⟩ := cyc_round h hx hc
  have hp := hr.lt
  refine ⟨it (rd l) x (k * per l x - k), it_has h hx _, by rw [cyc_it h hx]; simp only [cyc, decide_eq_true_eq] at hc; simp; omega, ?_⟩
  rw [← it_add]
  have hk : k ≤ k * per l x := Nat.le_mul_of_pos_right _ hp
  have h2 := hr.rounds 0 (by omega) k
  rw [Nat.sub_zero, Nat.zero_add] at h2
  rw [show k * per l x - k + k = k * per l x by omega]
  exact h2
end Go.Proofs.YtehhkkbejmhcfaaC
