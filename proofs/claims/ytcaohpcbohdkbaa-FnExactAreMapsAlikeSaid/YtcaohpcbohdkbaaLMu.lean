/-
  The plain law of CountFixedBy over the printed functions; the cycles of a map as the reference tells them. No conditions.
-/
import Derived.Test.YtcaohpcbohdkbaaLMr
namespace Go.Proofs.YtcaohpcbohdkbaaC
open Go.RowKit Go.Proofs.YtcaohpcbohdkbaaW.PrintWords Go.Proofs.YtcaohpcbohdkbaaW.PrintMore
set_option linter.unusedSimpArgs false
set_option linter.unusedVariables false

/-! ### all cycles, as the reference tells them -/
def seenM (l : List Int) (i j : Nat) : List Bool := (List.range l.length).map (fun (y : Nat) => seenB l i (y : Int) || decide ((y : Int) ∈ (cyL l (i : Int)).take j))
theorem seenM_length (l : List Int) (i j : Nat) : (seenM l i j).length = l.length := by simp [seenM]
theorem seenM_zero (l : List Int) (i : Nat) : seenM l i 0 = (List.range l.length).map (fun (y : Nat) => seenB l i (y : Int)) := by simp [seenM]
theorem seenM_start {l : List Int} (h : MapL l) : seenM l 0 0 = List.replicate l.length false := by
  rw [seenM_zero]
  apply List.ext_getElem
  · simp
  · intro y h1 h2
    simp only [List.length_map, List.length_range] at h1
    simp only [List.getElem_map, List.getElem_range, List.getElem_replicate]
    exact seenB_zero h ⟨by omega, by omega⟩
theorem seenM_set {l : List Int} {i j : Nat} (hj : j < (cyL l (i : Int)).length) (h0 : 0 ≤ (cyL l (i : Int))[j]) : (seenM l i j).set ((cyL l (i : Int))[j]).toNat true = seenM l i (j + 1) := by
  apply List.ext_getElem
  · simp [seenM]
  · intro y h1 h2
    rw [List.getElem_set]
    simp only [seenM, List.getElem_map, List.getElem_range]
    rw [take_s hj]
    by_cases e : ((cyL l (i : Int))[j]).toNat = y
    · rw [if_pos e, decide_eq_true (show (y : Int) ∈ (cyL l (i : Int)).take j ++ [(cyL l (i : Int))[j]] by rw [List.mem_append, List.mem_singleton]; right; omega), Bool.or_true]
    · rw [if_neg e]
      congr 1
      apply decide_eq_decide.2
      rw [List.mem_append, List.mem_singleton]
      constructor
      · exact Or.inl
      · rintro (h | h)
        · exact h
        · exact absurd (by omega) e
theorem seenM_next {l : List Int} (h : MapL l) {i : Nat} (hi : i < l.length) (hl : lead l (i : Int) = true) : seenM l i (cyL l (i : Int)).length = seenM l (i + 1) 0 := by
  apply List.ext_getElem
  · simp [seenM]
  · intro y h1 h2
    rw [seenM_length] at h1
    simp only [seenM, List.getElem_map, List.getElem_range, List.take_length, List.take_zero, List.not_mem_nil, decide_false, Bool.or_false]
    exact (seenB_lead h hi hl ⟨by omega, by omega⟩).symm
theorem seenM_same {l : List Int} (h : MapL l) {i : Nat} (hi : i < l.length) (hl : lead l (i : Int) = false) : seenM l i 0 = seenM l (i + 1) 0 := by
  apply List.ext_getElem
  · simp [seenM]
  · intro y h1 h2
    rw [seenM_length] at h1
    simp only [seenM, List.getElem_map, List.getElem_range, List.take_zero, List.not_mem_nil, decide_false, Bool.or_false]
    exact (seenB_not h hi hl ⟨by omega, by omega⟩).symm
theorem lead_cyc {l : List Int} {x : Int} (h : lead l x = true) : cyc l x = true := by
  unfold lead at h
  rw [Bool.and_eq_true] at h
  exact h.1
theorem mpCycles_l1 {l : List Int} (h : MapL l) (h60 : l.length ≤ 60) {i : Nat} (hi : i < l.length) (hl : lead l (i : Int) = true) (cs : List (List Int)) (hcs : cs.length ≤ 60) (R : List (List Int)) (K : Nat) (hR : ∀ k, K ≤ k → spec_mpCycles.l0 k l (cycL l) (seenM l (i + 1) 0) (cs ++ [cyL l (i : Int)]) (l.length : Int) ((i + 1 : Nat) : Int) = some R) :
    ∀ (d j k : Nat), j + d = (cyL l (i : Int)).length → K + d < k → spec_mpCycles.l1 k l (cycL l) (seenM l i j) cs (cyL l (i : Int)) (l.length : Int) (i : Int) ((cyL l (i : Int)).length : Int) (j : Int) = some R
  | 0, j, k, hj, hk => by
    obtain ⟨k, rfl⟩ : ∃ q, k = q + 1 := ⟨k - 1, by omega⟩
    obtain rfl : j = (cyL l (i : Int)).length := by omega
    rw [spec_mpCycles.l1, if_neg (by omega), if_pos (by omega), seenM_next h hi hl, w64s (by omega)]
    exact hR k (by omega)
  | d + 1, j, k, hj, hk => by
    obtain ⟨k, rfl⟩ : ∃ q, k = q + 1 := ⟨k - 1, by omega⟩
    have hx : Has l (i : Int) := ⟨by omega, by omega⟩
    have hjl : j < (cyL l (i : Int)).length := by omega
    have hm := (cyL_has h hx (lead_cyc hl) (List.getElem_mem hjl)).1
    have hpl : (cyL l (i : Int)).length ≤ 60 := by
      rw [cyL_length]
      have := rA_lt h hx
      omega
    rw [spec_mpCycles.l1, if_pos (by omega), if_pos (by omega), if_pos (by omega), rd_get hjl, if_pos hm.1, if_pos (by rw [seenM_length]; exact hm.2), seenM_set hjl hm.1, w64s (by omega)]
    exact mpCycles_l1 h h60 hi hl cs hcs R K hR d (j + 1) k (by omega) (by omega)
theorem mpCycles_l0 {l : List Int} (h : MapL l) (h60 : l.length ≤ 60) : ∀ (d i : Nat), i + d = l.length → ∃ K, ∀ k, K ≤ k → spec_mpCycles.l0 k l (cycL l) (seenM l i 0) (cycs l i) (l.length : Int) (i : Int) = some (cycs l l.length)
  | 0, i, hi => ⟨1, fun k hk => by
    obtain ⟨k, rfl⟩ : ∃ q, k = q + 1 := ⟨k - 1, by omega⟩
    obtain rfl : i = l.length := by omega
    rw [spec_mpCycles.l0, if_neg (by omega)]⟩
  | d + 1, i, hi => by
    obtain ⟨K, hK⟩ := mpCycles_l0 h h60 d (i + 1) (by omega)
    have hx : Has l (i : Int) := ⟨by omega, by omega⟩
    have hcl := cycs_length l i
    have hlt := rA_lt h hx
    have hseen : rdOf false (seenM l i 0) (i : Int) = seenB l i (i : Int) := by
      rw [seenM_zero]
      exact rdOf_map (fun y => seenB l i (y : Int)) l.length i (by omega)
    refine ⟨K + l.length + 100, fun k hk => ?_⟩
    obtain ⟨k, rfl⟩ : ∃ q, k = q + 1 + 1 := ⟨k - 2, by omega⟩
    rw [spec_mpCycles.l0, if_pos (by omega), if_pos (by omega), if_pos (by rw [cycL_length]; omega), cycL_at hx]
    have hls := lead_seen l i
    cases hc : lead l (i : Int) with
    | true =>
      have hcy := lead_cyc hc
      rw [hcy, hc, Bool.true_and] at hls
      rw [cycs, if_pos hc] at hK
      rw [if_pos hcy, if_pos (by rw [seenM_length]; omega), hseen, hls, spec_mpCycles.j1, if_pos rfl, mpRound_eq h h60 hx hcy (by omega), Option.bind_some]
      exact mpCycles_l1 h h60 (by omega) hc (cycs l i) (by omega) _ K hK (cyL l (i : Int)).length 0 k (by omega) (by rw [cyL_length]; omega)
    | false =>
      rw [cycs, if_neg (by rw [hc]; decide), List.append_nil, ← seenM_same h (by omega) hc] at hK
      rw [hc] at hls
      cases hcy : cyc l (i : Int) with
      | true =>
        rw [hcy, Bool.true_and] at hls
        rw [if_pos rfl, if_pos (by rw [seenM_length]; omega), hseen, hls, spec_mpCycles.j1, if_neg (by decide), w64s (by omega)]
        exact hK k (by omega)
      | false =>
        rw [if_neg (by decide), spec_mpCycles.j1, if_neg (by decide), w64s (by omega)]
        exact hK k (by omega)
theorem mpCycles_eq {l : List Int} (h : MapL l) (h60 : l.length ≤ 60) : ∃ K, ∀ k, K ≤ k → spec_mpCycles.f k l = some (cycs l l.length) := by
  obtain ⟨K1, h1⟩ := mpCyclic_eq h h60
  obtain ⟨K2, h2⟩ := mpCycles_l0 h h60 l.length 0 (by omega)
  refine ⟨K1 + K2, fun k hk => ?_⟩
  rw [spec_mpCycles.f, h1 k (by omega), Option.bind_some, if_pos (by omega), if_pos (by rw [Int.toNat_natCast]; omega), Int.toNat_natCast, ← seenM_start h]
  exact h2 k (by omega)

/-! ### how many stay where they are -/
def fixS (n : Nat) : List (List Int) → Nat
  | [] => 0
  | c :: cs => (if n % c.length = 0 then c.length else 0) + fixS n cs
theorem fixS_append (n : Nat) : ∀ (a b : List (List Int)), fixS n (a ++ b) = fixS n a + fixS n b
  | [], b => by simp [fixS]
  | c :: a, b => by rw [List.cons_append, fixS, fixS, fixS_append n a b]; omega
theorem filter_or {α : Type} (p q : α → Bool) : ∀ (l : List α), (∀ x ∈ l, ¬ (p x = true ∧ q x = true)) → (l.filter (fun x => p x || q x)).length = (l.filter p).length + (l.filter q).length
  | [], _ => rfl
  | x :: l, h => by
    have ih := filter_or p q l (fun y hy => h y (by simp [hy]))
    have hx := h x (by simp)
    rw [List.filter_cons, List.filter_cons, List.filter_cons]
    cases hp : p x with
    | true =>
      cases hq : q x with
      | true => exact absurd ⟨hp, hq⟩ hx
      | false => simp [ih]; omega
    | false =>
      cases hq : q x with
      | true => simp [ih]; omega
      | false => simp [ih]
theorem ints_nd (n : Nat) : ((List.range n).map Int.ofNat).Nodup := by
  rw [List.nodup_iff_pairwise_ne, List.pairwise_iff_getElem]
  intro i j h1 h2 hij e
  simp at e
  omega
theorem mem_ints' {n : Nat} {x : Int} : x ∈ (List.range n).map Int.ofNat ↔ 0 ≤ x ∧ x < (n : Int) := by
  rw [List.mem_map]
  constructor
  · rintro ⟨i, hi, rfl⟩
    rw [List.mem_range] at hi
    simp; omega
  · rintro ⟨h0, h1⟩
    exact ⟨x.toNat, by rw [List.mem_range]; omega, by simp; omega⟩
theorem count_of {n : Nat} {c : List Int} (hn : c.Nodup) (hr : ∀ x ∈ c, 0 ≤ x ∧ x < (n : Int)) : (((List.range n).map Int.ofNat).filter (fun y => decide (y ∈ c))).length = c.length := by
  apply Nat.le_antisymm
  · exact nodup_le _ _ ((ints_nd n).filter _) (fun x hx => by
      rw [List.mem_filter] at hx
      simpa using hx.2)
  · exact nodup_le _ _ hn (fun x hx => by
      rw [List.mem_filter]
      exact ⟨mem_ints'.2 (hr x hx), by simpa using hx⟩)
def fixP (l : List Int) (n : Nat) (y : Int) : Bool := decide (it (rd l) y n = y)
theorem fixP_iff {l : List Int} (h : MapL l) {n : Nat} (hn : 0 < n) {y : Int} (hy : Has l y) : fixP l n y = true ↔ cyc l y = true ∧ n % per l y = 0 := by
  simp only [fixP, decide_eq_true_eq]
  constructor
  · intro e
    have hc := cyc_of_round h hy hn e
    obtain ⟨hr, _⟩ := cyc_round h hy hc
    refine ⟨hc, ?_⟩
    have h1 := hr.mod n (by omega)
    rw [e, Nat.sub_zero, Nat.sub_zero, Nat.zero_add] at h1
    exact hr.inj (n % per l y) 0 (Nat.mod_lt _ hr.lt) hr.lt h1.symm
  · rintro ⟨hc, hm⟩
    obtain ⟨hr, _⟩ := cyc_round h hy hc
    have h1 := hr.mod n (by omega)
    rw [Nat.sub_zero, Nat.sub_zero, Nat.zero_add, hm] at h1
    exact h1
theorem fix_count {l : List Int} (h : MapL l) {n : Nat} (hn : 0 < n) : ∀ j, j ≤ l.length → fixS n (cycs l j) = (((List.range l.length).map Int.ofNat).filter (fun y => fixP l n y && seenB l j y)).length
  | 0, _ => by
    rw [List.filter_eq_nil_iff.2]
    · rfl
    · intro y hy
      rw [seenB_zero h (mem_ints'.1 hy)]
      simp
  | j + 1, hj => by
    have ih := fix_count h hn j (by omega)
    have hx : Has l (j : Int) := ⟨by omega, by omega⟩
    rw [cycs, fixS_append, ih]
    cases hc : lead l (j : Int) with
    | false =>
      rw [if_neg (by decide)]
      simp only [fixS, Nat.add_zero]
      congr 1
      apply List.filter_congr
      intro y hy
      rw [seenB_not h (by omega) hc (mem_ints'.1 hy)]
    | true =>
      have hcy := lead_cyc hc
      rw [if_pos rfl]
      have e1 : (((List.range l.length).map Int.ofNat).filter (fun y => fixP l n y && seenB l (j + 1) y)) = (((List.range l.length).map Int.ofNat).filter (fun y => (fixP l n y && seenB l j y) || (fixP l n y && decide (y ∈ cyL l (j : Int))))) := by
        apply List.filter_congr
        intro y hy
        rw [seenB_lead h (by omega) hc (mem_ints'.1 hy), Bool.and_or_distrib_left]
      rw [e1, filter_or]
      · congr 1
        simp only [fixS, Nat.add_zero, cyL_length]
        by_cases hm : n % per l (j : Int) = 0
        · rw [if_pos hm, ← cyL_length, ← count_of (n := l.length) (cyL_nodup h hx hcy) (fun x hx2 => (cyL_has h hx hcy hx2).1)]
          congr 1
          apply List.filter_congr
          intro y hy
          by_cases hyc : y ∈ cyL l (j : Int)
          · obtain ⟨a1, a2, a3⟩ := cyL_has h hx hcy hyc
            rw [(fixP_iff h hn a1).2 ⟨a2, by rw [a3]; exact hm⟩, Bool.true_and]
          · rw [decide_eq_false hyc, Bool.and_false]
        · rw [if_neg hm, List.filter_eq_nil_iff.2]
          · rfl
          · intro y hy hb
            rw [Bool.and_eq_true, decide_eq_true_eq] at hb
            obtain ⟨a1, a2, a3⟩ := cyL_has h hx hcy hb.2
            have := ((fixP_iff h hn a1).1 hb.1).2
            rw [a3] at this
            exact hm this
      · intro y hy ⟨hb1, hb2⟩
        rw [Bool.and_eq_true] at hb1 hb2
        rw [decide_eq_true_eq] at hb2
        have hs := hb1.2
        have hlead := lead_seen l j
        rw [hc] at hlead
        unfold seenB at hs hlead
        rw [Bool.and_eq_true, List.any_eq_true] at hs
        obtain ⟨_, z, hz, hz2⟩ := hs
        have hzj := (cyL_same h hx hcy hb2.2 z).1 hz
        rw [hcy, Bool.true_and, Bool.true_and] at hlead
        have : (cyL l (j : Int)).any (fun z => decide (z < (j : Int))) = true := List.any_eq_true.2 ⟨z, hzj, hz2⟩
        rw [this] at hlead
        cases hlead
theorem fix_total {l : List Int} (h : MapL l) {n : Nat} (hn : 0 < n) : fixS n (cycs l l.length) = ((List.range l.length).filter (fun (y : Nat) => fixP l n (y : Int))).length := by
  rw [fix_count h hn l.length (Nat.le_refl _), List.filter_map, List.length_map]
  congr 1
  apply List.filter_congr
  intro y hy
  rw [List.mem_range] at hy
  have hyh : Has l (y : Int) := ⟨by omega, by omega⟩
  show (fixP l n (y : Int) && seenB l l.length (y : Int)) = _
  cases hf : fixP l n (y : Int) with
  | false => rfl
  | true =>
    have hc := ((fixP_iff h hn hyh).1 hf).1
    rw [Bool.true_and, seenB, hc, Bool.true_and, List.any_eq_true]
    exact ⟨(y : Int), cyL_self h hyh hc, by simp; omega⟩
theorem spec_Fixed_loop {n : Nat} (hn : n ≤ 1000000) (cs : List (List Int)) (hcs : cs.length ≤ 60) (hc : ∀ c ∈ cs, 0 < c.length ∧ c.length ≤ 60) : ∀ (d j k : Nat), j + d = cs.length → d < k → spec_CountFixedBy.l0 k (n : Int) (fixS n (cs.take j) : Int) cs (cs.length : Int) (j : Int) = some ((fixS n cs : Int), true)
  | 0, j, k, hj, hk => by
    obtain ⟨k, rfl⟩ : ∃ q, k = q + 1 := ⟨k - 1, by omega⟩
    obtain rfl : j = cs.length := by omega
    rw [spec_CountFixedBy.l0, if_neg (by omega), List.take_length]
  | d + 1, j, k, hj, hk => by
    obtain ⟨k, rfl⟩ : ∃ q, k = q + 1 := ⟨k - 1, by omega⟩
    have hjl : j < cs.length := by omega
    have e : rd_L2 cs (j : Int) = cs[j] := by simp [rd_L2, List.getD_eq_getElem?_getD, List.getElem?_eq_getElem hjl]
    obtain ⟨c1, c2⟩ := hc _ (List.getElem_mem hjl)
    have hbound : ∀ (m : Nat) (xs : List (List Int)), (∀ c ∈ xs, c.length ≤ 60) → fixS n xs ≤ 60 * xs.length := by
      intro m xs hxs
      induction xs with
      | nil => simp [fixS]
      | cons c xs ih =>
        have h1 := ih (fun c hc => hxs c (by simp [hc]))
        have h2 := hxs c (by simp)
        rw [fixS, List.length_cons]
        split <;> omega
    have hb := hbound 0 (cs.take j) (fun c hc2 => (hc c (List.mem_of_mem_take hc2)).2)
    rw [List.length_take] at hb
    have ih := spec_Fixed_loop hn cs hcs hc d (j + 1) k (by omega) (by omega)
    rw [take_s hjl, fixS_append, fixS, fixS, Nat.add_zero] at ih
    rw [spec_CountFixedBy.l0, if_pos (by omega), if_pos (by omega), if_pos (by omega), e, if_neg (by omega), tmod_nat, w64s (by omega)]
    by_cases hm : n % cs[j].length = 0
    · rw [if_pos (by omega), w64 (by omega) (by omega)]
      rw [if_pos hm, Int.natCast_add] at ih
      exact ih
    · rw [if_neg (by omega)]
      rw [if_neg hm, Nat.add_zero] at ih
      exact ih
theorem impl_Fixed_loop {l : List Int} (h : MapL l) (h60 : l.length ≤ 60) (n : Nat) : ∀ (d j k : Nat), j + d = l.length → d < k → impl_CountFixedBy.l0 k (((List.range j).filter (fun (y : Nat) => fixP l n (y : Int))).length : Int) (upTo (pw l n) l.length) (l.length : Int) (j : Int) = some ((((List.range l.length).filter (fun (y : Nat) => fixP l n (y : Int))).length : Int), true)
  | 0, j, k, hj, hk => by
    obtain ⟨k, rfl⟩ : ∃ q, k = q + 1 := ⟨k - 1, by omega⟩
    obtain rfl : j = l.length := by omega
    rw [impl_CountFixedBy.l0, if_neg (by omega)]
  | d + 1, j, k, hj, hk => by
    obtain ⟨k, rfl⟩ : ∃ q, k = q + 1 := ⟨k - 1, by omega⟩
    have hlen : ((List.range j).filter (fun (y : Nat) => fixP l n (y : Int))).length ≤ j := by
      have := List.length_filter_le (fun (y : Nat) => fixP l n (y : Int)) (List.range j)
      rw [List.length_range] at this
      exact this
    have ih := impl_Fixed_loop h h60 n d (j + 1) k (by omega) (by omega)
    rw [List.range_succ, List.filter_append, List.length_append] at ih
    rw [impl_CountFixedBy.l0, if_pos (by omega), if_pos (by omega), if_pos (by rw [upTo_length]; omega), upTo_at _ (show j < l.length by omega), w64s (by omega)]
    by_cases hm : (j : Int) = pw l n j
    · have hf : fixP l n (j : Int) = true := by simp only [fixP, decide_eq_true_eq]; exact hm.symm
      rw [if_pos hm, w64s (by omega)]
      rw [List.filter_cons, if_pos hf, List.filter_nil] at ih
      exact ih
    · have hf : ¬ fixP l n (j : Int) = true := by simp only [fixP, decide_eq_true_eq]; exact fun e => hm e.symm
      rw [if_neg hm, w64s (by omega)]
      rw [List.filter_cons, if_neg hf, List.filter_nil, List.length_nil, Nat.add_zero] at ih
      exact ih
theorem CountFixedBy_both (l : List Int) (n : Int) (hl : l.length ≤ 1048576) : ∃ (K : Nat) (v : Int × Bool), ∀ k, K ≤ k → spec_CountFixedBy.f k l n = some v ∧ impl_CountFixedBy.f k l n = some v := by
  cases hm : isMapB l with
  | false =>
    refine ⟨l.length + 2, (0, false), fun k hk => ⟨?_, ?_⟩⟩
    · obtain ⟨k, rfl⟩ : ∃ q, k = q + 1 := ⟨k - 1, by omega⟩
      rw [spec_CountFixedBy.f, mpGood_eq l hl (by omega), hm, Option.bind_some, if_neg (by decide), spec_CountFixedBy.j0, if_pos rfl]
    · rw [impl_CountFixedBy.f, asks_eq l 0 n hl, asksB, hm, Bool.false_and, Bool.false_and, Option.bind_some, if_neg (by decide)]
  | true =>
    obtain ⟨g1, g2, g3⟩ := isMap_range hm
    have ha : asksB l 0 = true := by rw [asksB, hm, Bool.true_and, decide_eq_true_eq]; omega
    by_cases hn : 0 ≤ n ∧ n ≤ 1000000
    · obtain ⟨n, rfl⟩ := Int.eq_ofNat_of_zero_le hn.1
      obtain ⟨K, hK⟩ := mpCycles_eq (l := l) g3 g2
      have himp : ∀ k, n + 1000 ≤ k → impl_CountFixedBy.f k l (n : Int) = some ((((List.range l.length).filter (fun (y : Nat) => fixP l n (y : Int))).length : Int), true) := fun k hk => by
        rw [impl_CountFixedBy.f, asks_eq l 0 n hl, ha, decide_eq_true hn, Bool.true_and, Option.bind_some, if_pos rfl, power_eq g3 g2 n (by omega) (by omega), Option.bind_some, upTo_length]
        exact impl_Fixed_loop g3 g2 n l.length 0 k (by omega) (by omega)
      refine ⟨K + n + 1000, _, fun k hk => ⟨?_, himp k (by omega)⟩⟩
      obtain ⟨k, rfl⟩ : ∃ q, k = q + 1 := ⟨k - 1, by omega⟩
      rw [spec_CountFixedBy.f, mpGood_eq l hl (by omega), hm, Option.bind_some, if_pos rfl, mpSteps_eq, decide_eq_true hn, Option.bind_some, spec_CountFixedBy.j0, if_neg (by decide)]
      rcases Nat.eq_zero_or_pos n with h0 | hpos
      · subst h0
        rw [if_pos (show ((0 : Nat) : Int) = 0 by rfl)]
        have hall : (List.range l.length).filter (fun (y : Nat) => fixP l 0 (y : Int)) = List.range l.length := List.filter_eq_self.2 (fun y _ => by simp [fixP, it])
        rw [hall, List.length_range]
      · rw [if_neg (by omega), hK k (by omega), Option.bind_some, ← fix_total g3 hpos]
        have hcl := cycs_length l l.length
        exact spec_Fixed_loop (by omega) (cycs l l.length) (by omega) (fun c hc => by
          obtain ⟨i, hi, hld, rfl⟩ := mem_cycs.1 hc
          have hx : Has l (i : Int) := ⟨by omega, by omega⟩
          have h1 := per_pos g3 hx
          have h2 := rA_lt g3 hx
          rw [cyL_length]
          omega) (cycs l l.length).length 0 k (by omega) (by omega)
    · refine ⟨l.length + 2, (0, false), fun k hk => ⟨?_, ?_⟩⟩
      · obtain ⟨k, rfl⟩ : ∃ q, k = q + 1 := ⟨k - 1, by omega⟩
        rw [spec_CountFixedBy.f, mpGood_eq l hl (by omega), hm, Option.bind_some, if_pos rfl, mpSteps_eq, decide_eq_false hn, Option.bind_some, spec_CountFixedBy.j0, if_pos (by decide)]
      · rw [impl_CountFixedBy.f, asks_eq l 0 n hl, decide_eq_false hn, Bool.and_false, Option.bind_some, if_neg (by decide)]
theorem CountFixedBy_law : laws_FnExactCountFixedBy.Pure := by
  intro l n _ _ _ _
  by_cases hl : (l.length : Int) > 1048576
  · exact ⟨0, by rw [laws_FnExactCountFixedBy.f, if_pos hl]⟩
  obtain ⟨K0, v, h0⟩ := CountFixedBy_both l n (by omega)
  obtain ⟨K, hK⟩ : ∃ K, K = K0 + l.length + 1 := ⟨_, rfl⟩
  have hTl : ∀ k, K ≤ k → laws_toIntS.f k l = some l := fun k h => (law_facts l [] (by omega) (by simp) (show _ < k by simp; omega)).1
  have hEl : ∀ k, K ≤ k → laws_eqIntS.f k l l = some true := fun k h => (law_facts l [] (by omega) (by simp) (show _ < k by simp; omega)).2.1
  have e1 : ∀ k, K ≤ k → spec_CountFixedBy.f k l n = some v := fun k h => (h0 k (by omega)).1
  have e2 : ∀ k, K ≤ k → impl_CountFixedBy.f k l n = some v := fun k h => (h0 k (by omega)).2
  refine ⟨K + 9, ?_⟩
  simp [laws_FnExactCountFixedBy.f, laws_FnExactCountFixedBy.j0, e1, e2, hl, hTl, hEl]

end Go.Proofs.YtcaohpcbohdkbaaC
