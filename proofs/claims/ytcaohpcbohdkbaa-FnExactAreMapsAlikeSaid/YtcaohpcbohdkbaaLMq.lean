/-
  The plain laws of DepthsOf and TailAndCycle over the printed functions. No conditions.
-/
import Derived.Test.YtcaohpcbohdkbaaLMp
import Derived.Test.YtcaohpcbohdkbaaLCy
import Derived.Test.YtcaohpcbohdkbaaCMq
namespace Go.Proofs.YtcaohpcbohdkbaaC
open Go.RowKit Go.Proofs.YtcaohpcbohdkbaaW.PrintWords Go.Proofs.YtcaohpcbohdkbaaW.PrintMore
set_option linter.unusedSimpArgs false
set_option linter.unusedVariables false

theorem stepN_it (l : List Int) (x : Int) : ∀ n, stepN l n x = it (rd l) x n
  | 0 => rfl
  | n + 1 => by
    show rd l (stepN l n x) = rd l (it (rd l) x n)
    rw [stepN_it l x n]
theorem at_eq {l : List Int} (h : MapL l) {x : Int} (hx : Has l x) (n : Nat) (hn : n ≤ 1000000000) {k : Nat} (hk : n < k) : spec_mpAt.f k l x (n : Int) = some (it (rd l) x n) := by
  rw [mpAt_eq h hx.1 hx.2 n hn k hk, stepN_it]

/-! ### who is on a cycle -/
def cycL (l : List Int) : List Bool := (List.range l.length).map (fun (i : Nat) => cyc l (i : Int))
theorem cycL_length (l : List Int) : (cycL l).length = l.length := by simp [cycL]
theorem rdOf_map (g : Nat → Bool) (n i : Nat) (h : i < n) : rdOf false ((List.range n).map g) (i : Int) = g i := by
  simp [rdOf, List.getD_eq_getElem?_getD, h]
theorem cycL_at {l : List Int} {x : Int} (hx : Has l x) : rdOf false (cycL l) x = cyc l x := by
  obtain ⟨i, rfl⟩ := Int.eq_ofNat_of_zero_le hx.1
  exact rdOf_map _ _ _ (by have := hx.2; omega)
def marked (l : List Int) (i : Nat) : List Bool := (List.range l.length).map (fun (y : Nat) => (List.range i).any (fun (j : Nat) => decide (it (rd l) (j : Int) l.length = (y : Int))))
theorem marked_length (l : List Int) (i : Nat) : (marked l i).length = l.length := by simp [marked]
theorem marked_zero (l : List Int) : marked l 0 = List.replicate l.length false := by
  apply List.ext_getElem
  · simp [marked]
  · intro i h1 h2; simp [marked]
theorem marked_succ (l : List Int) (h : MapL l) (i : Nat) (hi : i < l.length) : (marked l i).set (it (rd l) (i : Int) l.length).toNat true = marked l (i + 1) := by
  have hx := it_has h (x := (i : Int)) ⟨by omega, by omega⟩ l.length
  apply List.ext_getElem
  · simp [marked]
  · intro y h1 h2
    rw [List.getElem_set]
    simp only [marked, List.getElem_map, List.getElem_range, List.range_succ, List.any_append, List.any_cons, List.any_nil, Bool.or_false]
    by_cases e : (it (rd l) (i : Int) l.length).toNat = y
    · rw [if_pos e, decide_eq_true (show it (rd l) (i : Int) l.length = (y : Int) by have := hx.1; omega), Bool.or_true]
    · rw [if_neg e, decide_eq_false (show ¬ it (rd l) (i : Int) l.length = (y : Int) by intro h3; apply e; omega), Bool.or_false]
theorem marked_all (l : List Int) (h : MapL l) : marked l l.length = cycL l := by
  apply List.ext_getElem
  · simp [marked, cycL]
  · intro y h1 h2
    rw [marked_length] at h1
    have hy : Has l (y : Int) := ⟨by omega, by omega⟩
    simp only [marked, cycL, List.getElem_map, List.getElem_range]
    apply Bool.eq_iff_iff.2
    rw [List.any_eq_true]
    constructor
    · rintro ⟨j, hj, e⟩
      rw [List.mem_range] at hj
      have hjx : Has l (j : Int) := ⟨by omega, by omega⟩
      have e2 : it (rd l) (j : Int) l.length = (y : Int) := by simpa using e
      rw [← e2, cyc_it h hjx, decide_eq_true_eq]
      have := rA_lt h hjx
      have := per_pos h hjx
      omega
    · intro hc
      obtain ⟨z, hz, _, e⟩ := cyc_from h hy hc l.length
      obtain ⟨j, rfl⟩ := Int.eq_ofNat_of_zero_le hz.1
      exact ⟨j, by rw [List.mem_range]; have := hz.2; omega, by simpa using e⟩
theorem mpCyclic_l0 {l : List Int} (h : MapL l) (hl : l.length ≤ 60) : ∀ (d i k : Nat), i + d = l.length → l.length < k → spec_mpCyclic.l0 (k + d + 1) l (marked l i) (l.length : Int) (i : Int) = spec_mpCyclic.l1 k l (cycL l) 0
  | 0, i, k, hi, hk => by
    obtain rfl : i = l.length := by omega
    rw [spec_mpCyclic.l0, if_neg (by omega), marked_all l h]
  | d + 1, i, k, hi, hk => by
    have hx := it_has h (x := (i : Int)) ⟨by omega, by omega⟩ l.length
    rw [show k + (d + 1) + 1 = (k + d + 1) + 1 by omega, spec_mpCyclic.l0, if_pos (by omega), at_eq h ⟨by omega, by omega⟩ l.length (by omega) (by omega), Option.bind_some, if_pos hx.1, if_pos (by rw [marked_length]; exact hx.2), marked_succ l h i (by omega), w64s (by omega)]
    exact mpCyclic_l0 h hl d (i + 1) k (by omega) hk
theorem cycL_set {l : List Int} (h : MapL l) {x : Int} (hx : Has l x) (hc : cyc l x = true) : (cycL l).set x.toNat true = cycL l := by
  apply List.ext_getElem
  · simp
  · intro y h1 h2
    rw [List.getElem_set]
    split
    · rename_i e
      simp only [cycL, List.getElem_map, List.getElem_range]
      rw [show (y : Int) = x by have := hx.1; omega, hc]
    · rfl
theorem mpCyclic_l2 {l : List Int} (h : MapL l) (hl : l.length ≤ 60) (x5 : Int) : ∀ (d i k : Nat), i + d = l.length → spec_mpCyclic.l2 (k + d + 1) l (cycL l) x5 (l.length : Int) (i : Int) = spec_mpCyclic.l1 k l (cycL l) (wrap64 (x5 + 1))
  | 0, i, k, hi => by
    rw [spec_mpCyclic.l2, if_neg (by omega)]
  | d + 1, i, k, hi => by
    have hx : Has l (i : Int) := ⟨by omega, by omega⟩
    have hn := rd_has h hx
    rw [show k + (d + 1) + 1 = (k + d + 1) + 1 by omega, spec_mpCyclic.l2, if_pos (by omega), if_pos (by omega), if_pos (by rw [cycL_length]; omega), cycL_at hx, cycL_length]
    have ih := mpCyclic_l2 h hl x5 d (i + 1) k (by omega)
    cases hc : cyc l (i : Int) with
    | true =>
      rw [if_pos rfl, if_pos (by omega), if_pos hn.1, if_pos hn.2, cycL_set h hn (cyc_next h hx hc), w64s (by omega)]
      exact ih
    | false =>
      rw [if_neg (by decide), w64s (by omega)]
      exact ih
theorem mpCyclic_l1 {l : List Int} (h : MapL l) (hl : l.length ≤ 60) : ∀ (d j : Nat), j + d = l.length → ∃ K, ∀ k, K ≤ k → spec_mpCyclic.l1 k l (cycL l) (j : Int) = some (cycL l)
  | 0, j, hj => ⟨1, fun k hk => by
    obtain ⟨k, rfl⟩ : ∃ q, k = q + 1 := ⟨k - 1, by omega⟩
    rw [spec_mpCyclic.l1, if_neg (by omega)]⟩
  | d + 1, j, hj => by
    obtain ⟨K, hK⟩ := mpCyclic_l1 h hl d (j + 1) (by omega)
    refine ⟨K + l.length + 2, fun k hk => ?_⟩
    obtain ⟨k, rfl⟩ : ∃ q, k = q + l.length + 1 + 1 := ⟨k - l.length - 2, by omega⟩
    rw [spec_mpCyclic.l1, if_pos (by omega), cycL_length]
    have := mpCyclic_l2 h hl (j : Int) l.length 0 k (by omega)
    rw [show ((0 : Nat) : Int) = 0 from rfl] at this
    rw [this, w64s (by omega)]
    exact hK k (by omega)
theorem mpCyclic_eq {l : List Int} (h : MapL l) (hl : l.length ≤ 60) : ∃ K, ∀ k, K ≤ k → spec_mpCyclic.f k l = some (cycL l) := by
  obtain ⟨K, hK⟩ := mpCyclic_l1 h hl l.length 0 (by omega)
  refine ⟨K + 2 * l.length + 3, fun k hk => ?_⟩
  obtain ⟨k, rfl⟩ : ∃ q, k = q + l.length + 1 := ⟨k - l.length - 1, by omega⟩
  rw [spec_mpCyclic.f, if_pos (by omega), if_pos (by rw [Int.toNat_natCast]; omega), Int.toNat_natCast, ← marked_zero]
  have := mpCyclic_l0 h hl l.length 0 k (by omega) (by omega)
  rw [show ((0 : Nat) : Int) = 0 from rfl] at this
  rw [this]
  exact hK k (by omega)

/-! ### depths -/
theorem mpDepth_loop {l : List Int} (h : MapL l) (hl : l.length ≤ 60) : ∀ (a : Nat) (x : Int) (c k : Nat), Has l x → rA l x = a → c + a ≤ 1000 → a < k → spec_mpDepth.l0 k l (cycL l) x (c : Int) = some ((c + a : Nat) : Int)
  | 0, x, c, k, hx, ha, hc, hk => by
    obtain ⟨k, rfl⟩ : ∃ q, k = q + 1 := ⟨k - 1, by omega⟩
    rw [spec_mpDepth.l0, if_pos hx.1, if_pos (by rw [cycL_length]; exact hx.2), cycL_at hx, if_pos (by simp [cyc, ha])]
    rfl
  | a + 1, x, c, k, hx, ha, hc, hk => by
    obtain ⟨k, rfl⟩ : ∃ q, k = q + 1 := ⟨k - 1, by omega⟩
    rw [spec_mpDepth.l0, if_pos hx.1, if_pos (by rw [cycL_length]; exact hx.2), cycL_at hx, if_neg (by simp [cyc, ha]), if_pos hx.2, w64s (by omega), mpDepth_loop h hl a (rd l x) (c + 1) k (rd_has h hx) (by have := (rA_next h hx).1; omega) (by omega) (by omega)]
    congr 2
    omega
theorem mpDepth_eq {l : List Int} (h : MapL l) (hl : l.length ≤ 60) {x : Int} (hx : Has l x) {k : Nat} (hk : l.length < k) : spec_mpDepth.f k l (cycL l) x = some (rA l x : Int) := by
  have h1 := rA_lt h hx
  have := mpDepth_loop h hl (rA l x) x 0 k hx rfl (by omega) (by omega)
  rw [Nat.zero_add] at this
  exact this
/-- The first n of a list of values. -/
def upTo (g : Nat → Int) (n : Nat) : List Int := (List.range n).map g
theorem upTo_length (g : Nat → Int) (n : Nat) : (upTo g n).length = n := by simp [upTo]
theorem upTo_succ (g : Nat → Int) (n : Nat) : upTo g (n + 1) = upTo g n ++ [g n] := by simp [upTo, List.range_succ]
theorem upTo_at (g : Nat → Int) {n i : Nat} (h : i < n) : rd (upTo g n) (i : Int) = g i := by
  simp [rd, upTo, List.getD_eq_getElem?_getD, h]
def dep (l : List Int) (i : Nat) : Int := (rA l (i : Int) : Int)
theorem mpDepths_loop {l : List Int} (h : MapL l) (hl : l.length ≤ 60) : ∀ (d i k : Nat), i + d = l.length → l.length + d < k → spec_mpDepths.l0 k l (cycL l) (upTo (dep l) i) (l.length : Int) (i : Int) = some (upTo (dep l) l.length)
  | 0, i, k, hi, hk => by
    obtain ⟨k, rfl⟩ : ∃ q, k = q + 1 := ⟨k - 1, by omega⟩
    obtain rfl : i = l.length := by omega
    rw [spec_mpDepths.l0, if_neg (by omega)]
  | d + 1, i, k, hi, hk => by
    obtain ⟨k, rfl⟩ : ∃ q, k = q + 1 := ⟨k - 1, by omega⟩
    rw [spec_mpDepths.l0, if_pos (by omega), mpDepth_eq h hl ⟨by omega, by omega⟩ (by omega), Option.bind_some, if_pos (by rw [upTo_length]; omega), w64s (by omega)]
    have := mpDepths_loop h hl d (i + 1) k (by omega) (by omega)
    rw [upTo_succ] at this
    exact this
theorem mpDepths_eq {l : List Int} (h : MapL l) (hl : l.length ≤ 60) : ∃ K, ∀ k, K ≤ k → spec_mpDepths.f k l = some (upTo (dep l) l.length) ∧ spec_mpCyclic.f k l = some (cycL l) := by
  obtain ⟨K, hK⟩ := mpCyclic_eq h hl
  refine ⟨K + 2 * l.length + 1, fun k hk => ⟨?_, hK k (by omega)⟩⟩
  rw [spec_mpDepths.f, hK k (by omega), Option.bind_some]
  exact mpDepths_loop h hl l.length 0 k (by omega) (by omega)

/-! ### the program's way -/
def seenL (l : List Int) (x : Int) (i : Nat) : List Int := upTo (fun y => if (y : Int) ∈ orbit (rd l) x i then ((orbit (rd l) x i).idxOf (y : Int) : Int) else -1) l.length
theorem seenL_zero (l : List Int) (x : Int) : seenL l x 0 = List.replicate l.length (-1) := by
  apply List.ext_getElem
  · simp [seenL, upTo]
  · intro i h1 h2
    simp [seenL, upTo, orbit]
theorem seenL_succ {l : List Int} (h : MapL l) {x : Int} (hx : Has l x) {i : Nat} (hn : ¬ it (rd l) x i ∈ orbit (rd l) x i) : (seenL l x i).set (it (rd l) x i).toNat (i : Int) = seenL l x (i + 1) := by
  have hy := it_has h hx i
  apply List.ext_getElem
  · simp [seenL, upTo]
  · intro y h1 h2
    rw [List.getElem_set]
    simp only [seenL, upTo, List.getElem_map, List.getElem_range, orbit_succ, List.mem_append, List.mem_singleton]
    by_cases e : (it (rd l) x i).toNat = y
    · have e2 : (y : Int) = it (rd l) x i := by have := hy.1; omega
      rw [if_pos e, if_pos (Or.inr e2), e2, List.idxOf_append, if_neg hn, orbit_length]
      simp
    · have e2 : ¬ (y : Int) = it (rd l) x i := fun h3 => e (by omega)
      rw [if_neg e]
      by_cases hm : (y : Int) ∈ orbit (rd l) x i
      · rw [if_pos hm, if_pos (Or.inl hm), List.idxOf_append, if_pos hm]
      · rw [if_neg hm, if_neg (by rintro (h3 | h3); exact hm h3; exact e2 h3)]
theorem wayOf_loop {l : List Int} (h : MapL l) (hl : l.length ≤ 60) {x : Int} (hx : Has l x) {m a : Nat} (hr : Rho (rd l) x m a) (hm : m ≤ 60) : ∀ (d i k : Nat), i + d = m → d < k →
    impl_wayOf.l0 k l (it (rd l) x i) (seenL l x i) (orbit (rd l) x i) = some (orbit (rd l) x m, (a : Int))
  | 0, i, k, hi, hk => by
    obtain ⟨k, rfl⟩ : ∃ q, k = q + 1 := ⟨k - 1, by omega⟩
    obtain rfl : i = m := by omega
    have hy := it_has h hx i
    have hmem : it (rd l) x i ∈ orbit (rd l) x i := by rw [hr.back]; exact mem_orbit.2 ⟨a, hr.lt, rfl⟩
    have e : rd (seenL l x i) (it (rd l) x i) = (a : Int) := by
      obtain ⟨y, hy2⟩ := Int.eq_ofNat_of_zero_le hy.1
      rw [hy2]
      rw [hy2] at hmem hy
      rw [seenL, upTo_at _ (by have := hy.2; omega), if_pos hmem, ← hy2, hr.back, idxOf_orbit hr.inj hr.lt]
    rw [impl_wayOf.l0, if_pos hy.1, if_pos (by rw [seenL, upTo_length]; exact hy.2), e, if_neg (by omega)]
  | d + 1, i, k, hi, hk => by
    obtain ⟨k, rfl⟩ : ∃ q, k = q + 1 := ⟨k - 1, by omega⟩
    have hy := it_has h hx i
    have hmem := hr.fresh (i := i) (by omega)
    have e : rd (seenL l x i) (it (rd l) x i) = -1 := by
      obtain ⟨y, hy2⟩ := Int.eq_ofNat_of_zero_le hy.1
      rw [hy2]
      rw [hy2] at hmem hy
      rw [seenL, upTo_at _ (by have := hy.2; omega), if_neg hmem]
    rw [impl_wayOf.l0, if_pos hy.1, if_pos (by rw [seenL, upTo_length]; exact hy.2), e, if_pos (by omega), if_pos (by rw [orbit_length]; omega), if_pos hy.2, orbit_length, seenL_succ h hx hmem, ← orbit_succ]
    exact wayOf_loop h hl hx hr hm d (i + 1) k (by omega) (by omega)
theorem wayOf_eq {l : List Int} (h : MapL l) (hl : l.length ≤ 60) {x : Int} (hx : Has l x) {k : Nat} (hk : l.length < k) : impl_wayOf.f k l x = some (orbit (rd l) x (rM l x), (rA l x : Int)) := by
  obtain ⟨hr, hm, _⟩ := rho_map h hx
  rw [impl_wayOf.f, slices_Repeat_int_int.f, if_pos ⟨rfl, by omega, by omega⟩, Option.bind_some, Int.toNat_natCast, show rd ([(-1)] : List Int) 0 = -1 from rfl, ← seenL_zero l x]
  exact wayOf_loop h hl hx hr (by omega) (rM l x) 0 k (by omega) (by omega)
theorem depths_loop {l : List Int} (h : MapL l) (hl : l.length ≤ 60) : ∀ (d i k : Nat), i + d = l.length → l.length + d < k → impl_depths.l0 k l (upTo (dep l) i) (l.length : Int) (i : Int) = some (upTo (dep l) l.length)
  | 0, i, k, hi, hk => by
    obtain ⟨k, rfl⟩ : ∃ q, k = q + 1 := ⟨k - 1, by omega⟩
    obtain rfl : i = l.length := by omega
    rw [impl_depths.l0, if_neg (by omega)]
  | d + 1, i, k, hi, hk => by
    obtain ⟨k, rfl⟩ : ∃ q, k = q + 1 := ⟨k - 1, by omega⟩
    rw [impl_depths.l0, if_pos (by omega), wayOf_eq h hl ⟨by omega, by omega⟩ (by omega), Option.bind_some, if_pos (by rw [upTo_length]; omega), w64s (by omega)]
    have := depths_loop h hl d (i + 1) k (by omega) (by omega)
    rw [upTo_succ] at this
    exact this
theorem depths_eq {l : List Int} (h : MapL l) (hl : l.length ≤ 60) {k : Nat} (hk : 2 * l.length + 1 ≤ k) : impl_depths.f k l = some (upTo (dep l) l.length) :=
  depths_loop h hl l.length 0 k (by omega) (by omega)
theorem DepthsOf_both (l : List Int) (hl : l.length ≤ 1048576) : ∃ (K : Nat) (r : List Int) (ok : Bool), r.length ≤ 1000 ∧ ∀ k, K ≤ k → spec_DepthsOf.f k l = some (r, ok) ∧ impl_DepthsOf.f k l = some (r, ok) := by
  cases hm : isMapB l with
  | false => exact ⟨l.length + 1, [], false, by simp, fun k hk => ⟨by rw [spec_DepthsOf.f, mpGood_eq l hl (by omega), hm, Option.bind_some, if_neg (by decide)], by rw [impl_DepthsOf.f, IsMap_eq l hl, hm, Option.bind_some, if_neg (by decide)]⟩⟩
  | true =>
    obtain ⟨h1, h2, h3⟩ := isMap_range hm
    obtain ⟨K, hK⟩ := mpDepths_eq (l := l) h3 h2
    refine ⟨K + 2 * l.length + 1, upTo (dep l) l.length, true, by rw [upTo_length]; omega, fun k hk => ⟨?_, ?_⟩⟩
    · rw [spec_DepthsOf.f, mpGood_eq l hl (by omega), hm, Option.bind_some, if_pos rfl, (hK k (by omega)).1, Option.bind_some]
    · rw [impl_DepthsOf.f, IsMap_eq l hl, hm, Option.bind_some, if_pos rfl, depths_eq h3 h2 (by omega), Option.bind_some]
/-! ### the cycle from a number on -/
theorem mpRound_loop {l : List Int} (h : MapL l) (hl : l.length ≤ 60) {x : Int} (hx : Has l x) (hc : cyc l x = true) (hp : per l x ≤ 60) : ∀ (d i k : Nat), i + d = per l x → 0 < i → d < k →
    spec_mpRound.l0 k l x (orbit (rd l) x i) (it (rd l) x i) = some (cyL l x)
  | 0, i, k, hi, h0, hk => by
    obtain ⟨k, rfl⟩ : ∃ q, k = q + 1 := ⟨k - 1, by omega⟩
    obtain rfl : i = per l x := by omega
    rw [spec_mpRound.l0, if_pos (cyc_round h hx hc).2]; rfl
  | d + 1, i, k, hi, h0, hk => by
    obtain ⟨k, rfl⟩ : ∃ q, k = q + 1 := ⟨k - 1, by omega⟩
    have hy := it_has h hx i
    obtain ⟨hr, _⟩ := cyc_round h hx hc
    have hne : ¬ it (rd l) x i = x := fun e => by
      have := hr.inj i 0 (by omega) (by omega) e
      omega
    rw [spec_mpRound.l0, if_neg hne, if_pos (by rw [orbit_length]; omega), if_pos hy.1, if_pos hy.2, ← orbit_succ]
    exact mpRound_loop h hl hx hc hp d (i + 1) k (by omega) (by omega) (by omega)
theorem mpRound_eq {l : List Int} (h : MapL l) (hl : l.length ≤ 60) {x : Int} (hx : Has l x) (hc : cyc l x = true) {k : Nat} (hk : l.length < k) : spec_mpRound.f k l x = some (cyL l x) := by
  have hp := per_pos h hx
  have hlt := rA_lt h hx
  rw [spec_mpRound.f, if_pos hx.1, if_pos hx.2]
  exact mpRound_loop h hl hx hc (by omega) (per l x - 1) 1 k (by omega) (by omega) (by omega)
theorem TailAndCycle_both (l : List Int) (x : Int) (hl : l.length ≤ 1048576) : ∃ (K : Nat) (v : Int × Int × Bool), ∀ k, K ≤ k → spec_TailAndCycle.f k l x = some v ∧ impl_TailAndCycle.f k l x = some v := by
  cases ha : asksB l x with
  | false => exact ⟨l.length + 1, (0, 0, false), fun k hk => ⟨by rw [spec_TailAndCycle.f, mpX_eq l x hl (by omega), ha, Option.bind_some, if_neg (by decide)], by rw [impl_TailAndCycle.f, asks_eq l x 0 hl, ha, Bool.false_and, Option.bind_some, if_neg (by decide)]⟩⟩
  | true =>
    obtain ⟨hm, h0, h1⟩ := asks_range ha
    obtain ⟨g1, g2, g3⟩ := isMap_range hm
    have hx : Has l x := ⟨h0, h1⟩
    obtain ⟨K, hK⟩ := mpCyclic_eq (l := l) g3 g2
    have hlt := rA_lt g3 hx
    have hp := per_pos g3 hx
    refine ⟨K + l.length + 1, ((rA l x : Int), (per l x : Int), true), fun k hk => ⟨?_, ?_⟩⟩
    · rw [spec_TailAndCycle.f, mpX_eq l x hl (by omega), ha, Option.bind_some, if_pos rfl, hK k (by omega), Option.bind_some, mpDepth_eq g3 g2 hx (by omega), Option.bind_some, at_eq g3 hx _ (by omega) (by omega), Option.bind_some,
        mpRound_eq g3 g2 (it_has g3 hx _) (by rw [cyc_it g3 hx]; simp) (by omega), Option.bind_some, cyL_length, (rA_it g3 hx _).2]
    · rw [impl_TailAndCycle.f, asks_eq l x 0 hl, ha, show decide ((0 : Int) ≤ 0 ∧ (0 : Int) ≤ 1000000) = true by decide, Bool.true_and, Option.bind_some, if_pos rfl, wayOf_eq g3 g2 hx (by omega), Option.bind_some, orbit_length]
      have e : wrap64 ((rM l x : Int) - (rA l x : Int)) = (per l x : Int) := by
        have : rM l x = rA l x + per l x := by unfold per at *; omega
        rw [w64 (by omega) (by omega)]; omega
      rw [e]
theorem DepthsOf_law : laws_FnExactDepthsOf.Pure := by
  intro l _ _ _
  by_cases hl : (l.length : Int) > 1048576
  · exact ⟨0, by rw [laws_FnExactDepthsOf.f, if_pos hl]⟩
  obtain ⟨K0, r, ok, hr, h0⟩ := DepthsOf_both l (by omega)
  obtain ⟨K, hK⟩ : ∃ K, K = K0 + l.length + r.length + 1 := ⟨_, rfl⟩
  have hTl : ∀ k, K ≤ k → laws_toIntS.f k l = some l := fun k h => (law_facts l r (by omega) (by omega) (show _ < k by omega)).1
  have hEl : ∀ k, K ≤ k → laws_eqIntS.f k l l = some true := fun k h => (law_facts l r (by omega) (by omega) (show _ < k by omega)).2.1
  have hMl : ∀ k, K ≤ k → laws_markIntS.f k l 1 = some (1 + (l.length : Int), marks 1 l.length) := fun k h => (law_facts l r (by omega) (by omega) (show _ < k by omega)).2.2.2.1
  have hNl := neg_no l
  have hE : ∀ k, K ≤ k → laws_eqIntS.f k r r = some true := fun k h => (law_facts [] r (by simp) (by omega) (show _ < k by simp; omega)).2.2.1
  have hM : ∀ k, K ≤ k → laws_markIntS.f k r 1 = some (1 + (r.length : Int), marks 1 r.length) := fun k h => (law_facts [] r (by simp) (by omega) (show _ < k by simp; omega)).2.2.2.2.1
  have hH : ∀ k, K ≤ k → laws_heldIntS.f k (marks 1 r.length) 1 = some (1 + (r.length : Int)) := fun k h => (law_facts [] r (by simp) (by omega) (show _ < k by simp; omega)).2.2.2.2.2
  have hN := neg_no r
  have e1 : ∀ k, K ≤ k → spec_DepthsOf.f k l = some (r, ok) := fun k h => (h0 k (by omega)).1
  have e2 : ∀ k, K ≤ k → impl_DepthsOf.f k l = some (r, ok) := fun k h => (h0 k (by omega)).2
  refine ⟨K + 9, ?_⟩
  simp [laws_FnExactDepthsOf.f, laws_FnExactDepthsOf.j0, laws_FnExactDepthsOf.j1, laws_FnExactDepthsOf.j2, hE, hM, hH, hN, e1, e2, hl, hTl, hEl, hMl, hNl]

theorem TailAndCycle_law : laws_FnExactTailAndCycle.Pure := by
  intro l x _ _ _ _
  by_cases hl : (l.length : Int) > 1048576
  · exact ⟨0, by rw [laws_FnExactTailAndCycle.f, if_pos hl]⟩
  obtain ⟨K0, v, h0⟩ := TailAndCycle_both l x (by omega)
  obtain ⟨K, hK⟩ : ∃ K, K = K0 + l.length + 1 := ⟨_, rfl⟩
  have hTl : ∀ k, K ≤ k → laws_toIntS.f k l = some l := fun k h => (law_facts l [] (by omega) (by simp) (show _ < k by simp; omega)).1
  have hEl : ∀ k, K ≤ k → laws_eqIntS.f k l l = some true := fun k h => (law_facts l [] (by omega) (by simp) (show _ < k by simp; omega)).2.1
  have e1 : ∀ k, K ≤ k → spec_TailAndCycle.f k l x = some v := fun k h => (h0 k (by omega)).1
  have e2 : ∀ k, K ≤ k → impl_TailAndCycle.f k l x = some v := fun k h => (h0 k (by omega)).2
  refine ⟨K + 9, ?_⟩
  simp [laws_FnExactTailAndCycle.f, laws_FnExactTailAndCycle.j0, e1, e2, hl, hTl, hEl]

end Go.Proofs.YtcaohpcbohdkbaaC
