/-
  Plain facts on counts: how often each digit comes. No conditions.
-/
import Derived.Test.YtehhkkbejmhcfaaLB
namespace Go.Proofs.YtehhkkbejmhcfaaC
open Go.RowKit Go.Proofs.YtehhkkbejmhcfaaW.PrintWords

theorem dgCounts_loop (xs : List Int) (hx : xs.length ≤ 4611686018427387904) (b : Nat) : ∀ (suf pre : List Int) (s : List Int) (k : Nat), xs = pre ++ suf → suf.length < k → s.length = b → (∀ x ∈ suf, 0 ≤ x ∧ x < b) →
    spec_dgCounts.l0 k s xs (xs.length : Int) (pre.length : Int) = some (suf.foldl (fun a d => a.set d.toNat (wrap64 (rd a d + 1))) s) := by
  intro suf
  induction suf with
  | nil =>
    intro pre s k h hk _ _
    obtain ⟨k, rfl⟩ : ∃ m, k = m + 1 := ⟨k - 1, by omega⟩
    subst h; rw [spec_dgCounts.l0, if_neg (by simp)]; rfl
  | cons x suf ih =>
    intro pre s k h hk hs hr
    simp only [List.length_cons] at hk
    obtain ⟨k, rfl⟩ : ∃ m, k = m + 1 := ⟨k - 1, by omega⟩
    have hl : xs.length = pre.length + suf.length + 1 := by subst h; simp; omega
    have e : rd xs (pre.length : Int) = x := by subst h; exact rd_mid _ _ _
    have hx0 := hr x (by simp)
    rw [spec_dgCounts.l0, if_pos (by omega), if_pos (by omega), if_pos (by omega), e, if_pos (by omega), if_pos (by omega), w64 (n := (pre.length : Int) + 1) (by omega) (by omega)]
    have := ih (pre ++ [x]) (s.set x.toNat (wrap64 (rd s x + 1))) k (by simp [h]) (by omega) (by simpa using hs) (fun y hy => hr y (by simp [hy]))
    simpa using this
def countL (b : Nat) (l : List Int) : List Int := l.foldl (fun a d => a.set d.toNat (wrap64 (rd a d + 1))) (List.replicate b 0)
theorem countL_length (b : Nat) (l : List Int) : (countL b l).length = b := by
  have : ∀ (l : List Int) (s : List Int), (l.foldl (fun a d => a.set d.toNat (wrap64 (rd a d + 1))) s).length = s.length := by
    intro l
    induction l with
    | nil => intro s; rfl
    | cons x l ih => intro s; rw [List.foldl_cons, ih]; simp
  rw [countL, this]; simp
theorem dgCounts_eq (b : Nat) (l : List Int) (hb : b ≤ 35184372088832) (hl : l.length ≤ 4611686018427387904) {k : Nat} (hk : l.length < k) (hr : ∀ x ∈ l, 0 ≤ x ∧ x < b) : spec_dgCounts.f k l (b : Int) = some (countL b l) := by
  have := dgCounts_loop l hl b l [] (List.replicate b 0) k rfl hk (by simp) hr
  unfold spec_dgCounts.f
  rw [if_pos (by omega), if_pos (by simpa using hb)]
  simpa [countL] using this
theorem countsOf_loop : ∀ (k : Nat) (s xs : List Int) (n i : Int), impl_countsOf.l0 k s xs n i = spec_dgCounts.l0 k s xs n i := by
  intro k
  induction k with
  | zero => intros; rfl
  | succ k ih => intro s xs n i; simp only [impl_countsOf.l0, spec_dgCounts.l0, ih]
theorem countsOf_is (k : Nat) (l : List Int) (b : Int) : impl_countsOf.f k l b = spec_dgCounts.f k l b := by
  unfold impl_countsOf.f spec_dgCounts.f
  simp only [countsOf_loop]

def cfold (l s : List Int) : List Int := l.foldl (fun a d => a.set d.toNat (wrap64 (rd a d + 1))) s
theorem cfold_length : ∀ (l s : List Int), (cfold l s).length = s.length
  | [], s => rfl
  | x :: l, s => by
    show (cfold l (s.set x.toNat (wrap64 (rd s x + 1)))).length = s.length
    rw [cfold_length l]; simp
theorem cfold_at (b : Nat) : ∀ (l s : List Int), (∀ x ∈ l, 0 ≤ x ∧ x < b) → s.length = b → (∀ i (h : i < s.length), 0 ≤ s[i] ∧ s[i] + (l.length : Int) ≤ 100000) → ∀ i (h : i < s.length) (h2 : i < (cfold l s).length), (cfold l s)[i] = s[i] + (l.count (i : Int) : Int)
  | [], s, _, _, _, i, h, h2 => by simp [cfold]
  | x :: l, s, hr, hs, hb, i, h, h2 => by
    have hx := hr x (by simp)
    obtain ⟨j, rfl⟩ := Int.eq_ofNat_of_zero_le hx.1
    have hj : j < s.length := by omega
    have hbj := hb j hj
    simp only [List.length_cons] at hb hbj
    have e1 : wrap64 (rd s (j : Int) + 1) = s[j] + 1 := by rw [rd_get hj, w64 (by omega) (by omega)]
    have e2 : cfold ((j : Int) :: l) s = cfold l (s.set j (s[j] + 1)) := by
      show cfold l (s.set (j : Int).toNat (wrap64 (rd s (j : Int) + 1))) = _
      rw [e1, Int.toNat_natCast]
    have hlen : (s.set j (s[j] + 1)).length = s.length := by simp
    have ih := cfold_at b l (s.set j (s[j] + 1)) (fun y hy => hr y (by simp [hy])) (by omega) (fun q hq => by
      have hq2 : q < s.length := by omega
      have := hb q hq2
      rw [List.getElem_set]
      split
      · omega
      · omega) i (by omega) (by rw [cfold_length]; omega)
    rw [List.getElem_set] at ih
    have e3 : (cfold ((j : Int) :: l) s)[i] = (cfold l (s.set j (s[j] + 1)))[i]'(by rw [cfold_length]; omega) := by
      congr 1
    rw [e3, ih, List.count_cons]
    by_cases hij : j = i
    · subst hij
      rw [if_pos rfl, if_pos (by simp)]; omega
    · rw [if_neg hij, if_neg (by simp; omega)]; omega
theorem countL_at {b : Nat} {l : List Int} (hr : ∀ x ∈ l, 0 ≤ x ∧ x < b) (hl : l.length ≤ 1000) {i : Nat} (h : i < b) : rd (countL b l) (i : Int) = (l.count (i : Int) : Int) := by
  have hlen : (countL b l).length = b := countL_length b l
  rw [rd_get (show i < (countL b l).length by omega)]
  have := cfold_at b l (List.replicate b 0) hr (by simp) (fun q hq => by simp; omega) i (by simp; omega) (by rw [cfold_length]; simp; omega)
  have e : (countL b l)[i] = (cfold l (List.replicate b 0))[i]'(by rw [cfold_length]; simp; omega) := rfl
  rw [e, this]; simp
end Go.Proofs.YtehhkkbejmhcfaaC
