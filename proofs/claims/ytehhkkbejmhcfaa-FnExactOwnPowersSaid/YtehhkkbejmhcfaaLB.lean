/-
  Plain laws for loops, copies of lists and bounds on lists over the printed functions. Conditions: lists of at most 2^20 numbers where a copy is made.
-/
import Derived.Test.YtehhkkbejmhcfaaLLw
import Derived.Test.YtehhkkbejmhcfaaCD2
namespace Go.Proofs.YtehhkkbejmhcfaaC
open Go.RowKit Go.Proofs.YtehhkkbejmhcfaaW.PrintWords

/-- A loop whose states are known: after m rounds it answers r. -/
theorem run_loop {σ ρ : Type} (L : Nat → σ → Option ρ) (st : Nat → σ) (r : ρ) : ∀ (m K : Nat) (j0 : Nat), (∀ j, j0 ≤ j → j < j0 + m → ∀ k, K ≤ k → L (k + 1) (st j) = L k (st (j + 1))) → (∀ k, K ≤ k → L (k + 1) (st (j0 + m)) = some r) →
    ∀ k, K + m < k → L k (st j0) = some r := by
  intro m
  induction m with
  | zero =>
    intro K j0 _ hf k hk
    obtain ⟨k, rfl⟩ : ∃ q, k = q + 1 := ⟨k - 1, by omega⟩
    exact hf k (by omega)
  | succ m ih =>
    intro K j0 hs hf k hk
    obtain ⟨k, rfl⟩ : ∃ q, k = q + 1 := ⟨k - 1, by omega⟩
    rw [hs j0 (by omega) (by omega) k (by omega)]
    refine ih K (j0 + 1) (fun j h1 h2 => hs j (by omega) (by omega)) ?_ k (by omega)
    rw [show j0 + 1 + m = j0 + (m + 1) by omega]
    exact hf
theorem run0 {σ ρ : Type} (L : Nat → σ → Option ρ) (m K : Nat) (st : Nat → σ) (r : ρ) (hs : ∀ j, j < m → ∀ k, K ≤ k → L (k + 1) (st j) = L k (st (j + 1))) (hf : ∀ k, K ≤ k → L (k + 1) (st m) = some r) :
    ∀ k, K + m < k → L k (st 0) = some r :=
  run_loop L st r m K 0 (fun j _ h => hs j (by omega)) (by simpa using hf)
theorem rd_get {xs : List Int} {j : Nat} (h : j < xs.length) : rd xs (j : Int) = xs[j] := by
  simp [rd, h]
theorem w64s {j : Nat} (h : j ≤ 4611686018427387904) : wrap64 ((j : Int) + 1) = ((j + 1 : Nat) : Int) := by rw [w64 (by omega) (by omega)]; omega
theorem take_s {α : Type} {l : List α} {j : Nat} (h : j < l.length) : l.take (j + 1) = l.take j ++ [l[j]] := List.take_succ_eq_append_getElem h
theorem toIntS_eq (l : List Int) (hl : l.length ≤ 1048576) {k : Nat} (hk : l.length < k) : laws_toIntS.f k l = some l := by
  have h := run0 (fun k (s : List Int × Int) => laws_toIntS.l0 k l s.1 s.2) l.length 0 (fun j => (l.take j ++ List.replicate (l.length - j) 0, (j : Int))) l
    (fun j hj k _ => by
      show laws_toIntS.l0 (k + 1) l _ _ = laws_toIntS.l0 k l _ _
      have e : List.replicate (l.length - j) (0 : Int) = 0 :: List.replicate (l.length - (j + 1)) 0 := by
        rw [show l.length - j = (l.length - (j + 1)) + 1 by omega, List.replicate_succ]
      have hm : (l.take j).length = j := by simp; omega
      rw [laws_toIntS.l0, if_pos (by omega), if_pos (by omega), if_pos (by simp; omega), w64s (by omega), e, Int.toNat_natCast, rd_get hj]
      congr 1
      have := set_mid (l.take j) (List.replicate (l.length - (j + 1)) 0) 0 l[j]
      rw [hm] at this
      rw [this, take_s hj, List.append_assoc]; rfl)
    (fun k _ => by
      show laws_toIntS.l0 (k + 1) l _ _ = _
      rw [laws_toIntS.l0, if_neg (by omega)]; simp)
    k (by omega)
  unfold laws_toIntS.f
  rw [if_pos (by omega), if_pos (by simp; omega)]
  simpa using h
/-- Do all numbers of a list lie between two? -/
def between (a b : Int) (l : List Int) : Bool := l.all fun x => decide (a ≤ x ∧ x ≤ b)
theorem l1All_loop (a b : Int) (xs : List Int) (hx : xs.length ≤ 4611686018427387904) : ∀ (suf pre : List Int) (k : Nat), xs = pre ++ suf → suf.length < k → spec_l1All.l0 k a b xs (xs.length : Int) (pre.length : Int) = some (between a b suf) := by
  intro suf
  induction suf with
  | nil =>
    intro pre k h hk
    obtain ⟨k, rfl⟩ : ∃ m, k = m + 1 := ⟨k - 1, by omega⟩
    subst h; rw [spec_l1All.l0, if_neg (by simp)]; rfl
  | cons x suf ih =>
    intro pre k h hk
    simp only [List.length_cons] at hk
    obtain ⟨k, rfl⟩ : ∃ m, k = m + 1 := ⟨k - 1, by omega⟩
    have hl : xs.length = pre.length + suf.length + 1 := by subst h; simp; omega
    have e : rd xs (pre.length : Int) = x := by subst h; exact rd_mid _ _ _
    rw [spec_l1All.l0, if_pos (by omega), if_pos (by omega), if_pos (by omega), e, l1In_eq, w64 (by omega) (by omega)]
    have := ih (pre ++ [x]) k (by simp [h]) (by omega)
    simp only [List.length_append, List.length_singleton, Int.natCast_add, Int.natCast_one] at this
    simp only [Option.bind_some]
    by_cases hc : a ≤ x ∧ x ≤ b
    · rw [if_pos (by simpa using hc), this]; simp [between, hc]
    · rw [if_neg (by simpa using hc)]; simp [between, hc]
theorem l1All_eq (l : List Int) (a b : Int) (hl : l.length ≤ 4611686018427387904) {k : Nat} (hk : l.length < k) : spec_l1All.f k l a b = some (between a b l) := by
  have := l1All_loop a b l hl l [] k rfl hk
  simpa [spec_l1All.f] using this
/-- What every statement over one list knows. -/
theorem list_facts (l : List Int) (hl : l.length ≤ 1048576) : ∃ K, l.length < K ∧ ∀ k, K ≤ k → laws_toIntS.f k l = some l ∧ laws_eqIntS.f k l l = some true :=
  ⟨l.length + 1, by omega, fun k hk => ⟨toIntS_eq l hl (by omega), eqIntS_same l (by omega) (by omega)⟩⟩
/-! ### what the statements themselves call -/
theorem law_facts (l r : List Int) (hl : l.length ≤ 1048576) (hr : r.length ≤ 1000000) {k : Nat} (hk : l.length + r.length < k) :
    laws_toIntS.f k l = some l ∧ laws_eqIntS.f k l l = some true ∧ laws_eqIntS.f k r r = some true ∧ laws_markIntS.f k l 1 = some (1 + (l.length : Int), marks 1 l.length) ∧
    laws_markIntS.f k r 1 = some (1 + (r.length : Int), marks 1 r.length) ∧ laws_heldIntS.f k (marks 1 r.length) 1 = some (1 + (r.length : Int)) :=
  ⟨toIntS_eq l hl (by omega), eqIntS_same l (by omega) (by omega), eqIntS_same r (by omega) (by omega), markIntS_eq l 1 (by omega) (by omega) (by omega) (by omega),
    markIntS_eq r 1 (by omega) (by omega) (by omega) (by omega), heldIntS_eq r.length 1 (by omega) (by omega) (by omega) (by omega)⟩
theorem neg_no (l : List Int) : ¬ (1 + (l.length : Int) < 0) := by omega
theorem areIn_eq (l : List Int) (a b c d : Int) : impl_areIn.f l a b c d = some (decide (c ≤ (l.length : Int) ∧ (l.length : Int) ≤ d) && between a b l) := rfl
theorem between_mem {a b : Int} {l : List Int} (h : between a b l = true) : ∀ x ∈ l, a ≤ x ∧ x ≤ b := by
  simpa [between] using h
theorem wf_range {x : Int} (h : (Lit.int .i64 x).wf = true) : -9223372036854775808 ≤ x ∧ x ≤ 9223372036854775807 := by
  simpa [Lit.wf, IntKind.min, IntKind.max, IntKind.signed, IntKind.bits] using h
end Go.Proofs.YtehhkkbejmhcfaaC
