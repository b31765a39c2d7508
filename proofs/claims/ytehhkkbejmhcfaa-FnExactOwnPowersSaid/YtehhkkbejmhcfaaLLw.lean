/-
  Plain laws on what the statements themselves call: lists held against each other, marked, and looked at again. Conditions: lists of at most 2^44 elements.
-/
import Derived.Test.YtehhkkbejmhcfaaLDg
namespace Go.Proofs.YtehhkkbejmhcfaaC
open Go.RowKit Go.Proofs.YtehhkkbejmhcfaaW.PrintWords

theorem eqIntS_loop (xs : List Int) (hx : xs.length ≤ 4611686018427387904) : ∀ (suf pre : List Int) (k : Nat), xs = pre ++ suf → suf.length < k → laws_eqIntS.l0 k xs xs (pre.length : Int) = some true := by
  intro suf
  induction suf with
  | nil =>
    intro pre k h hk
    obtain ⟨k, rfl⟩ : ∃ m, k = m + 1 := ⟨k - 1, by omega⟩
    subst h; rw [laws_eqIntS.l0, if_neg (by simp)]
  | cons x suf ih =>
    intro pre k h hk
    simp only [List.length_cons] at hk
    obtain ⟨k, rfl⟩ : ∃ m, k = m + 1 := ⟨k - 1, by omega⟩
    have hl : xs.length = pre.length + suf.length + 1 := by subst h; simp; omega
    rw [laws_eqIntS.l0, if_pos (by omega), if_pos (by omega), if_pos (by omega), if_pos rfl, w64 (by omega) (by omega)]
    have := ih (pre ++ [x]) k (by simp [h]) (by omega)
    simpa using this
theorem eqIntS_same (l : List Int) (hl : l.length ≤ 4611686018427387904) {k : Nat} (hk : l.length < k) : laws_eqIntS.f k l l = some true := by
  have := eqIntS_loop l hl l [] k rfl hk
  unfold laws_eqIntS.f
  rw [if_pos rfl]
  simpa using this
/-- The numbers m, m + 1, .. -/
def marks (m : Int) (n : Nat) : List Int := (List.range n).map (fun (i : Nat) => m + (i : Int))
theorem marks_length (m : Int) (n : Nat) : (marks m n).length = n := by simp [marks]
theorem marks_succ (m : Int) (n : Nat) : marks m (n + 1) = m :: marks (m + 1) n := by
  apply List.ext_getElem
  · simp [marks]
  · intro i h1 h2
    rcases i with _ | i
    · simp [marks]
    · simp [marks]; omega
theorem markIntS_loop : ∀ (suf pre : List Int) (m : Int) (k : Nat), pre.length + suf.length ≤ 4611686018427387904 → suf.length < k → 0 ≤ m → m + suf.length ≤ 9223372036854775807 →
    laws_markIntS.l0 k (pre ++ suf) m (pre.length : Int) = some (m + suf.length, pre ++ marks m suf.length) := by
  intro suf
  induction suf with
  | nil =>
    intro pre m k hl hk h0 hm
    obtain ⟨k, rfl⟩ : ∃ q, k = q + 1 := ⟨k - 1, by omega⟩
    rw [laws_markIntS.l0, if_neg (by simp)]; simp [marks]
  | cons x suf ih =>
    intro pre m k hl hk h0 hm
    simp only [List.length_cons] at hk hl hm
    obtain ⟨k, rfl⟩ : ∃ q, k = q + 1 := ⟨k - 1, by omega⟩
    rw [laws_markIntS.l0, if_pos (by simp; omega), if_pos (by omega), Int.toNat_natCast, set_mid, w64 (by omega) (by omega), w64 (by omega) (by omega)]
    have := ih (pre ++ [m]) (m + 1) k (by simp; omega) (by omega) (by omega) (by omega)
    simp only [List.append_assoc, List.singleton_append, List.length_append, List.length_singleton, Int.natCast_add, Int.natCast_one] at this
    rw [this, List.length_cons, marks_succ]
    congr 2
    simp; omega
theorem markIntS_eq (l : List Int) (m : Int) {k : Nat} (hl : l.length ≤ 4611686018427387904) (hk : l.length < k) (h0 : 0 ≤ m) (hm : m + l.length ≤ 9223372036854775807) : laws_markIntS.f k l m = some (m + l.length, marks m l.length) := by
  have := markIntS_loop l [] m k (by simpa using hl) hk h0 hm
  simpa [laws_markIntS.f] using this
theorem heldIntS_loop (xs : List Int) : ∀ (n : Nat) (pre : List Int) (m : Int) (k : Nat), xs = pre ++ marks m n → pre.length + n ≤ 4611686018427387904 → n < k → 0 ≤ m → m + n ≤ 9223372036854775807 →
    laws_heldIntS.l0 k xs m (pre.length : Int) = some (m + n) := by
  intro n
  induction n with
  | zero =>
    intro pre m k h hl hk h0 hm
    obtain ⟨k, rfl⟩ : ∃ q, k = q + 1 := ⟨k - 1, by omega⟩
    subst h; rw [laws_heldIntS.l0, if_neg (by simp [marks])]; simp
  | succ n ih =>
    intro pre m k h hl hk h0 hm
    obtain ⟨k, rfl⟩ : ∃ q, k = q + 1 := ⟨k - 1, by omega⟩
    rw [marks_succ] at h
    have hx : xs.length = pre.length + n + 1 := by subst h; simp [marks_length]; omega
    have e : rd xs (pre.length : Int) = m := by subst h; exact rd_mid _ _ _
    rw [laws_heldIntS.l0, if_pos (by omega), if_pos (by omega), if_pos e, w64 (by omega) (by omega), w64 (by omega) (by omega)]
    have := ih (pre ++ [m]) (m + 1) k (by simp [h]) (by simp; omega) (by omega) (by omega) (by omega)
    simp only [List.length_append, List.length_singleton, Int.natCast_add, Int.natCast_one] at this
    rw [this]; congr 1; omega
theorem heldIntS_eq (n : Nat) (m : Int) {k : Nat} (hl : n ≤ 4611686018427387904) (hk : n < k) (h0 : 0 ≤ m) (hm : m + n ≤ 9223372036854775807) : laws_heldIntS.f k (marks m n) m = some (m + n) := by
  have := heldIntS_loop (marks m n) n [] m k rfl (by simpa using hl) hk h0 hm
  simpa [laws_heldIntS.f] using this
/-- What a statement asks of a list that was handed back: marked, looked at, and looked at again behind a second call. -/
theorem marked_eq (l : List Int) {k : Nat} (hl : l.length ≤ 1000000) (hk : l.length < k) : laws_markIntS.f k l 1 = some (1 + (l.length : Int), marks 1 l.length) ∧ laws_heldIntS.f k (marks 1 l.length) 1 = some (1 + (l.length : Int)) ∧ ¬ (1 + (l.length : Int) < 0) ∧ laws_eqIntS.f k l l = some true :=
  ⟨markIntS_eq l 1 (by omega) hk (by omega) (by omega), heldIntS_eq l.length 1 (by omega) hk (by omega) (by omega), by omega, eqIntS_same l (by omega) hk⟩
end Go.Proofs.YtehhkkbejmhcfaaC
