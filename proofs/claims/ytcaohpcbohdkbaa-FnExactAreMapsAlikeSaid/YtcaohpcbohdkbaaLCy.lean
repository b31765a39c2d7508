/-
  Plain facts on the cycles of a map: which numbers lead one, and in which order they are told. No conditions.
-/
import Derived.Test.YtcaohpcbohdkbaaLMt
namespace Go.Proofs.YtcaohpcbohdkbaaC
open Go.RowKit Go.Proofs.YtcaohpcbohdkbaaW.PrintWords Go.Proofs.YtcaohpcbohdkbaaW.PrintMore
set_option linter.unusedSimpArgs false
set_option linter.unusedVariables false

/-- The cycle of a number on one, from it on. -/
def cyL (l : List Int) (x : Int) : List Int := orbit (rd l) x (per l x)
theorem mem_cyL {l : List Int} (h : MapL l) {x : Int} (hx : Has l x) (hc : cyc l x = true) (y : Int) : y ∈ cyL l x ↔ ∃ k, it (rd l) x k = y := by
  obtain ⟨hr, _⟩ := cyc_round h hx hc
  constructor
  · intro hy
    obtain ⟨i, _, e⟩ := mem_orbit.1 hy
    exact ⟨i, e⟩
  · rintro ⟨k, rfl⟩
    obtain ⟨j, hj, e⟩ := hr.all k
    exact mem_orbit.2 ⟨j, hj, e.symm⟩
theorem cyL_self {l : List Int} (h : MapL l) {x : Int} (hx : Has l x) (hc : cyc l x = true) : x ∈ cyL l x := (mem_cyL h hx hc x).2 ⟨0, rfl⟩
theorem cyL_has {l : List Int} (h : MapL l) {x : Int} (hx : Has l x) (hc : cyc l x = true) {y : Int} (hy : y ∈ cyL l x) : Has l y ∧ cyc l y = true ∧ per l y = per l x := by
  obtain ⟨k, rfl⟩ := (mem_cyL h hx hc y).1 hy
  refine ⟨it_has h hx k, ?_, (rA_it h hx k).2⟩
  rw [cyc_it h hx]
  simp only [cyc, decide_eq_true_eq] at hc
  simp; omega
theorem cyL_sym {l : List Int} (h : MapL l) {x : Int} (hx : Has l x) (hc : cyc l x = true) {y : Int} (hy : y ∈ cyL l x) : x ∈ cyL l y := by
  obtain ⟨hyh, hyc, _⟩ := cyL_has h hx hc hy
  obtain ⟨k, rfl⟩ := (mem_cyL h hx hc y).1 hy
  obtain ⟨hr, _⟩ := cyc_round h hx hc
  refine (mem_cyL h hyh hyc x).2 ⟨k * per l x - k, ?_⟩
  rw [← it_add]
  have hk : k ≤ k * per l x := Nat.le_mul_of_pos_right _ hr.lt
  have h2 := hr.rounds 0 (by omega) k
  rw [Nat.sub_zero, Nat.zero_add] at h2
  rw [show k + (k * per l x - k) = k * per l x by omega]
  exact h2
theorem cyL_trans {l : List Int} (h : MapL l) {x : Int} (hx : Has l x) (hc : cyc l x = true) {y z : Int} (hy : y ∈ cyL l x) (hz : z ∈ cyL l y) : z ∈ cyL l x := by
  obtain ⟨hyh, hyc, _⟩ := cyL_has h hx hc hy
  obtain ⟨k, rfl⟩ := (mem_cyL h hx hc y).1 hy
  obtain ⟨j, rfl⟩ := (mem_cyL h hyh hyc z).1 hz
  exact (mem_cyL h hx hc _).2 ⟨k + j, it_add _ _ _ _⟩
theorem cyL_same {l : List Int} (h : MapL l) {x : Int} (hx : Has l x) (hc : cyc l x = true) {y : Int} (hy : y ∈ cyL l x) (z : Int) : z ∈ cyL l y ↔ z ∈ cyL l x := by
  obtain ⟨hyh, hyc, _⟩ := cyL_has h hx hc hy
  exact ⟨fun hz => cyL_trans h hx hc hy hz, fun hz => cyL_trans h hyh hyc (cyL_sym h hx hc hy) hz⟩
theorem cyL_length (l : List Int) (x : Int) : (cyL l x).length = per l x := orbit_length _ _ _
theorem cyL_nodup {l : List Int} (h : MapL l) {x : Int} (hx : Has l x) (hc : cyc l x = true) : (cyL l x).Nodup := by
  obtain ⟨hr, _⟩ := cyc_round h hx hc
  rw [List.nodup_iff_pairwise_ne, List.pairwise_iff_getElem]
  intro i j h1 h2 hij e
  unfold cyL at e h1 h2
  rw [orbit_get, orbit_get] at e
  rw [orbit_length] at h1 h2
  have := hr.inj i j h1 h2 e
  omega

/-- Does a number lead its cycle: is it the least there? -/
def lead (l : List Int) (x : Int) : Bool := cyc l x && (cyL l x).all (fun y => decide (x ≤ y))
/-- The cycles led by the first n numbers. -/
def cycs (l : List Int) : Nat → List (List Int)
  | 0 => []
  | n + 1 => cycs l n ++ (if lead l (n : Int) = true then [cyL l (n : Int)] else [])
theorem cycs_length (l : List Int) : ∀ n, (cycs l n).length ≤ n
  | 0 => by simp [cycs]
  | n + 1 => by
    have := cycs_length l n
    rw [cycs, List.length_append]
    split <;> simp <;> omega
theorem mem_cycs {l : List Int} {c : List Int} : ∀ {n : Nat}, c ∈ cycs l n ↔ ∃ i : Nat, i < n ∧ lead l (i : Int) = true ∧ c = cyL l (i : Int)
  | 0 => by simp [cycs]
  | n + 1 => by
    rw [cycs, List.mem_append, mem_cycs (n := n)]
    constructor
    · rintro (⟨i, h1, h2, h3⟩ | hc)
      · exact ⟨i, by omega, h2, h3⟩
      · split at hc
        · rename_i hl
          exact ⟨n, by omega, hl, List.mem_singleton.1 hc⟩
        · simp at hc
    · rintro ⟨i, h1, h2, h3⟩
      by_cases hi : i = n
      · subst hi
        right
        rw [if_pos h2, h3]
        simp
      · exact .inl ⟨i, by omega, h2, h3⟩
/-- Which numbers have been told when the cycles led by numbers below n have been: those on them. -/
def seenB (l : List Int) (n : Nat) (y : Int) : Bool := cyc l y && (cyL l y).any (fun z => decide (z < (n : Int)))
theorem seenB_zero {l : List Int} (h : MapL l) {y : Int} (hy : Has l y) : seenB l 0 y = false := by
  unfold seenB
  cases hc : cyc l y with
  | false => rfl
  | true =>
    rw [Bool.true_and, List.any_eq_false]
    intro z hz
    have := (cyL_has h hy hc hz).1.1
    simp; omega
theorem lead_seen (l : List Int) (n : Nat) : (cyc l (n : Int) && !(seenB l n (n : Int))) = lead l (n : Int) := by
  unfold seenB lead
  cases hc : cyc l (n : Int) with
  | false => rfl
  | true =>
    simp only [Bool.true_and]
    rw [List.not_any_eq_all_not]
    congr 1
    funext z
    by_cases hz : z < (n : Int)
    · rw [decide_eq_true hz, decide_eq_false (by omega)]; rfl
    · rw [decide_eq_false hz, decide_eq_true (by omega)]; rfl
theorem seenB_lead {l : List Int} (h : MapL l) {n : Nat} (hn : n < l.length) (hl : lead l (n : Int) = true) {y : Int} (hy : Has l y) : seenB l (n + 1) y = (seenB l n y || decide (y ∈ cyL l (n : Int))) := by
  have hx : Has l (n : Int) := ⟨by omega, by omega⟩
  have hlc : cyc l (n : Int) = true := by
    unfold lead at hl
    rw [Bool.and_eq_true] at hl
    exact hl.1
  apply Bool.eq_iff_iff.2
  unfold seenB
  simp only [Bool.or_eq_true, Bool.and_eq_true, List.any_eq_true, decide_eq_true_eq]
  constructor
  · rintro ⟨hc, z, hz, hlt⟩
    by_cases hzn : z < (n : Int)
    · exact .inl ⟨hc, z, hz, hzn⟩
    · have : z = (n : Int) := by omega
      subst this
      exact .inr (cyL_sym h hy hc hz)
  · rintro (⟨hc, z, hz, hlt⟩ | hm)
    · exact ⟨hc, z, hz, by omega⟩
    · obtain ⟨_, hc, _⟩ := cyL_has h hx hlc hm
      exact ⟨hc, (n : Int), cyL_sym h hx hlc hm, by omega⟩
theorem seenB_not {l : List Int} (h : MapL l) {n : Nat} (hn : n < l.length) (hl : lead l (n : Int) = false) {y : Int} (hy : Has l y) : seenB l (n + 1) y = seenB l n y := by
  have hx : Has l (n : Int) := ⟨by omega, by omega⟩
  apply Bool.eq_iff_iff.2
  unfold seenB
  simp only [Bool.and_eq_true, List.any_eq_true, decide_eq_true_eq]
  constructor
  · rintro ⟨hc, z, hz, hlt⟩
    by_cases hzn : z < (n : Int)
    · exact ⟨hc, z, hz, hzn⟩
    · have : z = (n : Int) := by omega
      subst this
      obtain ⟨_, hcn, _⟩ := cyL_has h hy hc hz
      unfold lead at hl
      rw [hcn, Bool.true_and, List.all_eq_false] at hl
      obtain ⟨u, hu, hlt2⟩ := hl
      exact ⟨hc, u, cyL_trans h hy hc hz hu, by simpa using hlt2⟩
  · rintro ⟨hc, z, hz, hlt⟩
    exact ⟨hc, z, hz, by omega⟩
end Go.Proofs.YtcaohpcbohdkbaaC
