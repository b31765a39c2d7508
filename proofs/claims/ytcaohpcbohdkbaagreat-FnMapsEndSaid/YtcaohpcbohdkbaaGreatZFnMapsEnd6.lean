/- Plain texts of FnMapsEnd, merged by a program: what Go functions compute, lemmas of the walk, and proofs. No conditions. -/
import Derived.Test.YtcaohpcbohdkbaaGreatZFnMapsEnd5
section
namespace Go.Proofs.YtcaohpcbohdkbaaGreatC
open Go.RowKit Go.Proofs.YtcaohpcbohdkbaaGreatW.PrintWords Go.Proofs.YtcaohpcbohdkbaaGreatW.PrintMore
set_option linter.unusedSimpArgs false
set_option linter.unusedVariables false
set_option linter.unusedSectionVars false
theorem wrap_m {n : Nat} (h : n ≤ 1000000) : wrap64 ((n : Int) + 1) = ((n + 1 : Nat) : Int) := by unfold wrap64; omega
theorem rdLm_at {l : List (List Int)} {i : Nat} (h : i < l.length) : rd_L2 l (i : Int) = l[i] := by
  simp [rd_L2, List.getD_eq_getElem?_getD, List.getElem?_eq_getElem h]
theorem rSame_loop {l : List Int} (hl : l.length ≤ 1000000) : ∀ (d i k : Nat), i + d = l.length → d < k → laws_rSame.l0 k l l (l.length : Int) (i : Int) = some true
  | 0, i, k, h, hk => by
    obtain ⟨k, rfl⟩ : ∃ q, k = q + 1 := ⟨k - 1, by omega⟩
    rw [laws_rSame.l0, if_neg (by omega)]
  | d + 1, i, k, h, hk => by
    obtain ⟨k, rfl⟩ : ∃ q, k = q + 1 := ⟨k - 1, by omega⟩
    rw [laws_rSame.l0, if_pos (by omega), if_pos (by omega), if_pos (by omega), if_pos (by omega), if_pos rfl, wrap_m (by omega)]
    exact rSame_loop hl d (i + 1) k (by omega) (by omega)
theorem rSame_same {l : List Int} (hl : l.length ≤ 1000000) {k : Nat} (hk : l.length < k) : laws_rSame.f k l l = some true := by
  rw [laws_rSame.f, if_pos rfl]
  exact rSame_loop hl l.length 0 k (by omega) (by omega)
theorem rRows_loop {R : List (List Int)} (hR : R.length ≤ 1000000) (hs : ∀ c ∈ R, c.length ≤ 1000) : ∀ (d i k : Nat), i + d = R.length → d + 1001 < k → laws_rRows.l0 k R R (R.length : Int) (i : Int) = some true
  | 0, i, k, h, hk => by
    obtain ⟨k, rfl⟩ : ∃ q, k = q + 1 := ⟨k - 1, by omega⟩
    rw [laws_rRows.l0, if_neg (by omega)]
  | d + 1, i, k, h, hk => by
    obtain ⟨k, rfl⟩ : ∃ q, k = q + 1 := ⟨k - 1, by omega⟩
    have h1 := hs R[i] (List.getElem_mem (by omega))
    rw [laws_rRows.l0, if_pos (by omega), if_pos (by omega), if_pos (by omega), if_pos (by omega), rdLm_at (by omega), rSame_same (by omega) (by omega), Option.bind_some, if_pos rfl, wrap_m (by omega)]
    exact rRows_loop hR hs d (i + 1) k (by omega) (by omega)
theorem rRows_same {R : List (List Int)} (hR : R.length ≤ 1000) (hs : ∀ c ∈ R, c.length ≤ 1000) {k : Nat} (hk : 3000 < k) : laws_rRows.f k R R = some true := by
  rw [laws_rRows.f, if_pos rfl]
  exact rRows_loop (by omega) hs R.length 0 k (by omega) (by omega)
theorem rHas_loop {l : List Int} (hl : l.length ≤ 1000000) {x : Int} : ∀ (d i k : Nat), i + d = l.length → d < k → laws_rHas.l0 k x l (l.length : Int) (i : Int) = some (decide (x ∈ l.drop i))
  | 0, i, k, h, hk => by
    obtain ⟨k, rfl⟩ : ∃ q, k = q + 1 := ⟨k - 1, by omega⟩
    rw [laws_rHas.l0, if_neg (by omega), List.drop_eq_nil_of_le (by omega)]
    simp
  | d + 1, i, k, h, hk => by
    obtain ⟨k, rfl⟩ : ∃ q, k = q + 1 := ⟨k - 1, by omega⟩
    rw [laws_rHas.l0, if_pos (by omega), if_pos (by omega), if_pos (by omega), rdm_at (show i < l.length by omega), List.drop_eq_getElem_cons (show i < l.length by omega)]
    by_cases hc : l[i] = x
    · rw [if_pos hc, decide_eq_true (by rw [hc]; simp)]
    · rw [if_neg hc, wrap_m (by omega), rHas_loop hl d (i + 1) k (by omega) (by omega)]
      congr 1
      refine decide_eq_decide.2 ?_
      rw [List.mem_cons]
      exact ⟨.inr, fun h => h.elim (fun e => absurd e.symm hc) id⟩
theorem rHas_is {l : List Int} (hl : l.length ≤ 1000000) {x : Int} {k : Nat} (hk : l.length < k) : laws_rHas.f k l x = some (decide (x ∈ l)) := by
  rw [laws_rHas.f]
  have := rHas_loop hl (x := x) l.length 0 k (by omega) (by omega)
  rw [List.drop_zero] at this
  exact this
theorem rRising_loop {l : List Int} (hl : l.length ≤ 1000000) (hs : l.Pairwise (· < ·)) : ∀ (d i k : Nat), i + d = l.length → d < k → 1 ≤ i → laws_rRising.l0 k l (i : Int) = some true
  | 0, i, k, h, hk, h1 => by
    obtain ⟨k, rfl⟩ : ∃ q, k = q + 1 := ⟨k - 1, by omega⟩
    rw [laws_rRising.l0, if_neg (by omega)]
  | d + 1, i, k, h, hk, h1 => by
    obtain ⟨k, rfl⟩ : ∃ q, k = q + 1 := ⟨k - 1, by omega⟩
    obtain ⟨j, rfl⟩ : ∃ j, i = j + 1 := ⟨i - 1, by omega⟩
    have hw : wrap64 (((j + 1 : Nat) : Int) - 1) = (j : Int) := by unfold wrap64; omega
    have h2 := List.pairwise_iff_getElem.1 hs j (j + 1) (by omega) (by omega) (by omega)
    rw [laws_rRising.l0, if_pos (by omega), hw, if_pos (by omega), if_pos (by omega), if_pos (by omega), rdm_at (show j < l.length by omega), rdm_at (show j + 1 < l.length by omega), if_neg (by omega), wrap_m (by omega)]
    exact rRising_loop hl hs d (j + 2) k (by omega) (by omega) (by omega)
theorem rRising_is {l : List Int} (hl : l.length ≤ 1000000) (hs : l.Pairwise (· < ·)) {k : Nat} (hk : l.length < k) : laws_rRising.f k l = some true := by
  rw [laws_rRising.f]
  by_cases h : l.length = 0
  · obtain ⟨k, rfl⟩ : ∃ q, k = q + 1 := ⟨k - 1, by omega⟩
    rw [laws_rRising.l0, if_neg (by omega)]
  · exact rRising_loop hl hs (l.length - 1) 1 k (by omega) (by omega) (by omega)
theorem tot_app (a b : List (List Int)) : tot (a ++ b) = tot a + tot b := by
  induction a with
  | nil => simp [tot]
  | cons x a ih => simp [tot, ih]; omega
section
variable {l b : List Int} (hm : isMapB l = true) (hb : Bas l b)
include hm hb
theorem c1_loop {i : Nat} (hi : i < (cycs l l.length).length) : ∀ (d j k : Nat), j + d = (cycs l l.length)[i].length → d < k → laws_FnMapsEnd.c1 k l (cycs l l.length) b (upTo (dep l) l.length) (cycs l l.length)[i] (i : Int) (j : Int) = some true := by
  obtain ⟨g1, g2, h⟩ := isMap_range hm
  have hcl := cycs_length l l.length
  obtain ⟨e, hex, hle, hce, hhe⟩ := cycs_at h hi
  have hlen : (cycs l l.length)[i].length ≤ 60 := by
    rw [hce, cyL_length]
    have := rA_lt h hex
    omega
  intro d
  induction d with
  | zero =>
    intro j k hj hk
    obtain ⟨k, rfl⟩ : ∃ q, k = q + 1 := ⟨k - 1, by omega⟩
    rw [laws_FnMapsEnd.c1, if_neg (by omega)]
  | succ d ih =>
    intro j k hj hk
    obtain ⟨k, rfl⟩ : ∃ q, k = q + 1 := ⟨k - 1, by omega⟩
    obtain ⟨a1, a2, a3, a4, a5⟩ := on_cycle h hb hi (j := j) (by omega)
    obtain ⟨y, hy⟩ := Int.eq_ofNat_of_zero_le a1.1
    have hyl : y < l.length := by have := a1.2; rw [hy] at this; omega
    have hmod : (j + 1) % (cycs l l.length)[i].length < (cycs l l.length)[i].length := Nat.mod_lt _ (by omega)
    have hjlt : j < (cycs l l.length)[i].length := by omega
    have hnext := ih (j + 1) k (by omega) (by omega)
    have hjw : wrap64 ((j : Int) + 1) = ((j + 1 : Nat) : Int) := wrap_m (by omega)
    have hix : Int.tmod (wrap64 ((j : Int) + 1)) ((cycs l l.length)[i].length : Int) = (((j + 1) % (cycs l l.length)[i].length : Nat) : Int) := by
      rw [hjw, tmod_nat]
    have hk1 : laws_FnMapsEnd.k1 l b (upTo (dep l) l.length) (cycs l l.length)[i] (i : Int) (j : Int) (rd (cycs l l.length)[i] (j : Int)) (((j + 1) % (cycs l l.length)[i].length : Nat) : Int) = true := by
      unfold laws_FnMapsEnd.k1
      refine decide_eq_true ⟨Int.natCast_nonneg _, ⟨a1.1, a1.2, by rw [upTo_length]; exact a1.2, by rw [hb.len]; exact a1.2⟩, ⟨Int.natCast_nonneg _, Int.ofNat_lt.2 hmod⟩, a2, ?_, a4, Int.not_lt.2 a5⟩
      rw [hy, upTo_at _ hyl]
      rw [hy] at a3
      unfold dep
      rw [a3]
      rfl
    have hk2 : laws_FnMapsEnd.k1b (cycs l l.length) (cycs l l.length)[i] (i : Int) (wrap64 ((i : Int) - 1)) = true := by
      clear hix hk1 hjw hnext ih hmod a1 a2 a3 a4 a5
      unfold laws_FnMapsEnd.k1b
      refine decide_eq_true (fun h0 => ?_)
      obtain ⟨q, rfl⟩ : ∃ q, i = q + 1 := ⟨i - 1, by omega⟩
      have hw : wrap64 (((q + 1 : Nat) : Int) - 1) = (q : Int) := by unfold wrap64; omega
      obtain ⟨e', hex', hle', hce', hhe'⟩ := cycs_at h (i := q) (by omega)
      have hpos : 0 < (cycs l l.length)[q].length := by rw [hce', cyL_length]; exact per_pos h hex'
      have hlt := head_lt h hi (Nat.lt_succ_self q)
      rw [hw, rdLm_at (by omega)]
      exact ⟨⟨by omega, by omega⟩, by omega, by omega⟩
    rw [laws_FnMapsEnd.c1, if_pos (Int.ofNat_lt.2 hjlt), hix, if_pos ⟨hk1, hk2⟩, hjw]
    exact hnext
theorem c0_loop {m : Nat} (hd : IsDeep l m) : ∀ (d i k : Nat), i + d = (cycs l l.length).length → d + 200 < k → laws_FnMapsEnd.c0 k l (cycs l l.length) b (upTo (dep l) l.length) ((tot ((cycs l l.length).take i) : Nat) : Int) (i : Int) = some ((tot (cycs l l.length) : Nat) : Int) := by
  obtain ⟨g1, g2, h⟩ := isMap_range hm
  have hcl := cycs_length l l.length
  have htot : tot (cycs l l.length) ≤ 60 := by
    have h1 := img_deep h hd
    unfold img at h1
    have h2 := dist_le (upTo (pw l m) l.length)
    rw [upTo_length] at h2
    omega
  intro d
  induction d with
  | zero =>
    intro i k hi hk
    obtain ⟨k, rfl⟩ : ∃ q, k = q + 1 := ⟨k - 1, by omega⟩
    rw [laws_FnMapsEnd.c0, if_neg (by omega), List.take_of_length_le (by omega)]
  | succ d ih =>
    intro i k hi hk
    obtain ⟨k, rfl⟩ : ∃ q, k = q + 1 := ⟨k - 1, by omega⟩
    have hil : i < (cycs l l.length).length := by omega
    obtain ⟨e, hex, hle, hce, hhe⟩ := cycs_at h hil
    have hlen : (cycs l l.length)[i].length ≤ 60 := by
      rw [hce, cyL_length]
      have := rA_lt h hex
      omega
    have hsum : tot ((cycs l l.length).take (i + 1)) = tot ((cycs l l.length).take i) + (cycs l l.length)[i].length := by
      rw [List.take_succ_eq_append_getElem hil, tot_app]
      simp [tot]
    have hle2 : tot ((cycs l l.length).take (i + 1)) ≤ tot (cycs l l.length) := by
      have := tot_app ((cycs l l.length).take (i + 1)) ((cycs l l.length).drop (i + 1))
      rw [List.take_append_drop] at this
      omega
    have hw : wrap64 (((tot ((cycs l l.length).take i) : Nat) : Int) + ((cycs l l.length)[i].length : Int)) = ((tot ((cycs l l.length).take (i + 1)) : Nat) : Int) := by
      rw [hsum]; unfold wrap64; omega
    have hc1 := c1_loop hm hb hil (cycs l l.length)[i].length 0 k (by clear hw; omega) (by clear hw; omega)
    have g4 : wrap64 ((i : Int) + 1) = ((i + 1 : Nat) : Int) := by clear hw; exact wrap_m (by omega)
    have g5 := ih (i + 1) k (by clear hw g4; omega) (by clear hw g4; omega)
    rw [laws_FnMapsEnd.c0, if_pos (Int.ofNat_lt.2 hil), if_pos (Int.natCast_nonneg _), rdLm_at hil, show (0 : Int) = ((0 : Nat) : Int) from rfl, hc1, Option.bind_some, hw, g4]
    exact g5
theorem TailAndCycle_at {x : Int} (hx : Has l x) {k : Nat} (hk : l.length < k) : impl_TailAndCycle.f k l x = some ((rA l x : Int), (per l x : Int), true) := by
  obtain ⟨g1, g2, h⟩ := isMap_range hm
  have ha : asksB l x = true := by
    have := hx.1; have := hx.2
    rw [asksB, hm, Bool.true_and, decide_eq_true_eq]; omega
  have hlt := rA_lt h hx
  have hp := per_pos h hx
  rw [impl_TailAndCycle.f, asks_eq l x 0 (by omega), ha, show decide ((0 : Int) ≤ 0 ∧ (0 : Int) ≤ 1000000) = true by decide, Bool.true_and, Option.bind_some, if_pos rfl, wayOf_eq h g2 hx hk, Option.bind_some, orbit_length]
  have e : wrap64 ((rM l x : Int) - (rA l x : Int)) = (per l x : Int) := by
    unfold per wrap64
    unfold per at hlt hp
    omega
  rw [e]
theorem BeforeOf_at {x : Int} (hx : Has l x) {k : Nat} (hk : l.length < k) : impl_BeforeOf.f k l x = some (bef l x l.length, true) := by
  obtain ⟨g1, g2, h⟩ := isMap_range hm
  have ha : asksB l x = true := by
    have := hx.1; have := hx.2
    rw [asksB, hm, Bool.true_and, decide_eq_true_eq]; omega
  simp [impl_BeforeOf.f, asks_eq l x 0 (show l.length ≤ 1048576 by omega), ha, before_eq, mpBefore_eq l x (show l.length ≤ 1048576 by omega) hk]
theorem bef_rise (x : Int) : (bef l x l.length).Pairwise (· < ·) := by
  unfold bef
  rw [List.pairwise_map]
  exact (List.Pairwise.filter _ List.pairwise_lt_range).imp (fun h => by omega)
theorem ends_mem {x : Int} (hx : Has l x) : x ∈ ends l l.length ↔ ¬ x ∈ l := by
  obtain ⟨n, rfl⟩ := Int.eq_ofNat_of_zero_le hx.1
  have h2 := hx.2
  unfold ends
  simp only [List.mem_map, List.mem_filter, List.mem_range, decide_eq_true_eq]
  constructor
  · rintro ⟨y, ⟨_, hy⟩, e⟩
    rw [e] at hy
    exact hy
  · intro hn
    exact ⟨n, ⟨by omega, hn⟩, rfl⟩
theorem c2_loop {m : Nat} (hd : IsDeep l m) : ∀ (d x dp k : Nat), x + d = l.length → d + 200 < k → (∀ y, y < x → rA l (y : Int) ≤ dp) → (dp = 0 ∨ ∃ y, y < x ∧ rA l (y : Int) = dp) → laws_FnMapsEnd.c2 k l (cycs l l.length) b (upTo (dep l) l.length) (ends l l.length) (dp : Int) (x : Int) = some (m : Int) := by
  obtain ⟨g1, g2, h⟩ := isMap_range hm
  have hel := ends_length l l.length
  intro d
  induction d with
  | zero =>
    intro x dp k hx hk h1 h2
    obtain ⟨k, rfl⟩ : ∃ q, k = q + 1 := ⟨k - 1, by omega⟩
    have : dp = m := by
      obtain ⟨i, hi, hie⟩ := hd.at_
      have h3 := h1 i (by omega)
      rcases h2 with h2 | ⟨y, hy, h2⟩
      · omega
      · have := hd.le y (by omega); omega
    subst this
    rw [laws_FnMapsEnd.c2, if_neg (by rw [upTo_length]; omega)]
  | succ d ih =>
    intro x dp k hx hk h1 h2
    obtain ⟨k, rfl⟩ : ∃ q, k = q + 1 := ⟨k - 1, by omega⟩
    have hxl : x < l.length := by omega
    have hH : Has l (x : Int) := ⟨by omega, by omega⟩
    obtain ⟨j, hj, e1, e2, e3⟩ := at_each h hb hH
    have hz := rd_has h hH
    obtain ⟨z, hze⟩ := Int.eq_ofNat_of_zero_le hz.1
    have hzl : z < l.length := by have := hz.2; rw [hze] at this; omega
    have hdx : rd (upTo (dep l) l.length) (x : Int) = (rA l (x : Int) : Int) := upTo_at (dep l) hxl
    have hdz : rd (upTo (dep l) l.length) (rd l (x : Int)) = (rA l (rd l (x : Int)) : Int) := by
      rw [hze]; exact upTo_at (dep l) hzl
    have hlt := rA_lt h hH
    have hbl := bef_length l (x : Int) l.length
    have hno := bef_none l (x : Int)
    have hk2 : laws_FnMapsEnd.k2 l (cycs l l.length) b (upTo (dep l) l.length) (x : Int) (rd b (x : Int)) (rd l (x : Int)) ((rA l (x : Int) : Int), (per l (x : Int) : Int), true) (bef l (x : Int) l.length, true) (decide ((x : Int) ∈ ends l l.length)) = true := by
      unfold laws_FnMapsEnd.k2
      refine decide_eq_true ⟨⟨rfl, hdx.symm⟩, ⟨by rw [e1]; omega, by rw [e1]; omega, ?_⟩, ⟨hz.1, by rw [hb.len]; exact hz.2, by rw [e3, e1]⟩, fun h0 => ⟨by rw [upTo_length]; exact hz.2, ?_⟩, rfl, ?_⟩
      · rw [e1, rdLm_at hj, e2]
      · rw [hdz, hdx, (rA_next h hH).1]
        rw [hdx] at h0
        unfold wrap64; omega
      · rw [Bool.eq_iff_iff, beq_iff_eq, decide_eq_true_iff, ends_mem hm hb hH, ← hno]
        exact ⟨fun h => by have h' : ((bef l (x : Int) l.length).length : Int) = 0 := h; omega, fun h => by show ((bef l (x : Int) l.length).length : Int) = 0; omega⟩
    have hri : laws_rRising.f k (bef l (x : Int) l.length) = some true := rRising_is (by omega) (bef_rise hm hb _) (by omega)
    rw [laws_FnMapsEnd.c2, if_pos (by rw [upTo_length]; omega), if_pos ⟨by omega, by omega, by rw [hb.len]; omega⟩, TailAndCycle_at hm hb hH (by omega), Option.bind_some, BeforeOf_at hm hb hH (by omega), Option.bind_some, rHas_is (by omega) (by omega), Option.bind_some]
    show (laws_rRising.f k (bef l (x : Int) l.length)).bind _ = _
    rw [hri, Option.bind_some, if_pos ⟨hk2, rfl⟩, hdx, wrap_m (by omega)]
    by_cases hgt : (rA l (x : Int) : Int) > (dp : Int)
    · rw [if_pos hgt]
      exact ih (x + 1) (rA l (x : Int)) k (by omega) (by omega) (fun y hy => by
        by_cases hyx : y = x
        · subst hyx; exact Nat.le_refl _
        · have := h1 y (by omega); omega) (.inr ⟨x, by omega, rfl⟩)
    · rw [if_neg hgt]
      exact ih (x + 1) dp k (by omega) (by omega) (fun y hy => by
        by_cases hyx : y = x
        · subst hyx; omega
        · exact h1 y (by omega)) (h2.imp id (fun ⟨y, hy, e⟩ => ⟨y, by omega, e⟩))
theorem q1_true {m : Nat} (hd : IsDeep l m) {k : Nat} (hk : 1000 < k) : laws_FnMapsEnd.q1 k l (cycs l l.length) b (upTo (dep l) l.length) (ends l l.length) (upTo (img l) (m + 1)) = some true := by
  obtain ⟨g1, g2, h⟩ := isMap_range hm
  have hcl := cycs_length l l.length
  have hml := hd.lt h
  have hel := ends_length l l.length
  have h0 := c0_loop hm hb hd (cycs l l.length).length 0 k (by omega) (by omega)
  have h2 := c2_loop hm hb hd l.length 0 0 k (by omega) (by omega) (fun y hy => by omega) (.inl rfl)
  have hk3 : laws_FnMapsEnd.k3 l (ends l l.length) (upTo (img l) (m + 1)) ((tot (cycs l l.length) : Nat) : Int) (m : Int) = true := by
    unfold laws_FnMapsEnd.k3
    refine decide_eq_true ⟨⟨?_, ?_, ?_⟩, ⟨?_, ?_, ?_⟩, fun a1 a2 => ⟨?_, ?_⟩⟩
    · rw [upTo_length, wrap_m (by omega)]
    · rw [upTo_length]; omega
    · have := upTo_at (img l) (n := m + 1) (i := 0) (by omega)
      rw [show (0 : Int) = ((0 : Nat) : Int) from rfl, this, img_zero h]
    · omega
    · rw [upTo_length]; omega
    · rw [upTo_at (img l) (show m < m + 1 by omega), img_deep h hd]
    · rw [upTo_length]; omega
    · have := upTo_at (img l) (n := m + 1) (i := 1) (by omega)
      have h1 := img_one h
      rw [show (1 : Int) = ((1 : Nat) : Int) from rfl, this]
      have h3 : img l 1 = (l.length : Int) - ((ends l l.length).length : Int) := by omega
      rw [h3]
      unfold wrap64; omega
  rw [laws_FnMapsEnd.q1]
  rw [show tot ((cycs l l.length).take 0) = 0 from rfl] at h0
  rw [show (0 : Int) = ((0 : Nat) : Int) from rfl, h0, Option.bind_some, h2, Option.bind_some, if_pos hk3]
end
section
variable {l : List Int} (hm : isMapB l = true)
include hm
theorem PowerOfMap_at {n : Nat} (hn : n ≤ 1000000) : ∃ K, ∀ k, K ≤ k → spec_PowerOfMap.f k l (n : Int) = some (upTo (pw l n) l.length, true) ∧ impl_PowerOfMap.f k l (n : Int) = some (upTo (pw l n) l.length, true) := by
  obtain ⟨g1, g2, g3⟩ := isMap_range hm
  have ha : asksB l 0 = true := by rw [asksB, hm, Bool.true_and, decide_eq_true_eq]; omega
  have hn' : 0 ≤ (n : Int) ∧ (n : Int) ≤ 1000000 := by omega
  obtain ⟨K, hK⟩ := mpDepths_eq (l := l) g3 g2
  refine ⟨K + n + 1000, fun k hk => ⟨?_, ?_⟩⟩
  · obtain ⟨k, rfl⟩ : ∃ q, k = q + 1 := ⟨k - 1, by omega⟩
    rw [spec_PowerOfMap.f, mpGood_eq l (by omega) (by omega), hm, Option.bind_some, if_pos rfl, mpSteps_eq, decide_eq_true hn', Option.bind_some, spec_PowerOfMap.j0, if_neg (by decide), (hK k (by omega)).1, Option.bind_some, (hK k (by omega)).2, Option.bind_some]
    exact PowerOfMap_loop g3 g2 n (by omega) l.length 0 k (by omega) (by omega)
  · rw [impl_PowerOfMap.f, asks_eq l 0 n (by omega), ha, decide_eq_true hn', Bool.true_and, Option.bind_some, if_pos rfl, power_eq g3 g2 n (by omega) (by omega), Option.bind_some]
theorem CountFixed_at {n : Nat} (hn : n ≤ 1000000) : ∃ K, ∀ k, K ≤ k → spec_CountFixedBy.f k l (n : Int) = some ((((List.range l.length).filter (fun (y : Nat) => fixP l n (y : Int))).length : Int), true) ∧ impl_CountFixedBy.f k l (n : Int) = some ((((List.range l.length).filter (fun (y : Nat) => fixP l n (y : Int))).length : Int), true) := by
  obtain ⟨g1, g2, g3⟩ := isMap_range hm
  have ha : asksB l 0 = true := by rw [asksB, hm, Bool.true_and, decide_eq_true_eq]; omega
  have hn' : 0 ≤ (n : Int) ∧ (n : Int) ≤ 1000000 := by omega
  have himp : ∀ k, n + 1000 ≤ k → impl_CountFixedBy.f k l (n : Int) = some ((((List.range l.length).filter (fun (y : Nat) => fixP l n (y : Int))).length : Int), true) := fun k hk => by
    rw [impl_CountFixedBy.f, asks_eq l 0 n (by omega), ha, decide_eq_true hn', Bool.true_and, Option.bind_some, if_pos rfl, power_eq g3 g2 n (by omega) (by omega), Option.bind_some, upTo_length]
    exact impl_Fixed_loop g3 g2 n l.length 0 k (by omega) (by omega)
  obtain ⟨K, v, hK⟩ := CountFixedBy_both l (n : Int) (by omega)
  have hv : v = ((((List.range l.length).filter (fun (y : Nat) => fixP l n (y : Int))).length : Int), true) := by
    have a := (hK (K + (n + 1000)) (by omega)).2
    rw [himp (K + (n + 1000)) (by omega)] at a
    exact (Option.some.inj a).symm
  subst hv
  exact ⟨K, hK⟩
theorem ApplyMap_at {x : Int} (hx : Has l x) {n : Nat} (hn : n ≤ 1000000) {k : Nat} (hk : l.length + n + 1 ≤ k) : impl_ApplyMap.f k l x (n : Int) = some (it (rd l) x n, true) := by
  obtain ⟨g1, g2, g3⟩ := isMap_range hm
  have ha : asksB l x = true := by
    have := hx.1; have := hx.2
    rw [asksB, hm, Bool.true_and, decide_eq_true_eq]; omega
  rw [← stepN_it]
  simp [impl_ApplyMap.f, asks_eq l x n (show l.length ≤ 1048576 by omega), ha, Apply_loop g3 hx.1 hx.2 n (by omega) k (by omega)]
  omega
theorem c3_loop {n : Nat} (hn : n ≤ 1000000) : ∀ (d x k : Nat), x + d = l.length → n + 200 + d < k → laws_FnMapsEnd.c3 k l (n : Int) (upTo (pw l n) l.length) ((((List.range x).filter (fun (y : Nat) => fixP l n (y : Int))).length : Nat) : Int) (x : Int) = some ((((List.range l.length).filter (fun (y : Nat) => fixP l n (y : Int))).length : Nat) : Int) := by
  obtain ⟨g1, g2, g3⟩ := isMap_range hm
  intro d
  induction d with
  | zero =>
    intro x k hx hk
    obtain ⟨k, rfl⟩ : ∃ q, k = q + 1 := ⟨k - 1, by omega⟩
    rw [laws_FnMapsEnd.c3, if_neg (by rw [upTo_length]; omega), show x = l.length by omega]
  | succ d ih =>
    intro x k hx hk
    obtain ⟨k, rfl⟩ : ∃ q, k = q + 1 := ⟨k - 1, by omega⟩
    have hxl : x < l.length := by omega
    have hH : Has l (x : Int) := ⟨by omega, by omega⟩
    have hrd : rd (upTo (pw l n) l.length) (x : Int) = it (rd l) (x : Int) n := upTo_at (pw l n) hxl
    have hle : ((List.range x).filter (fun (y : Nat) => fixP l n (y : Int))).length ≤ x := by
      have := List.length_filter_le (fun (y : Nat) => fixP l n (y : Int)) (List.range x)
      rw [List.length_range] at this
      exact this
    have hs : (List.range (x + 1)).filter (fun (y : Nat) => fixP l n (y : Int)) = (List.range x).filter (fun (y : Nat) => fixP l n (y : Int)) ++ (if fixP l n (x : Int) = true then [x] else []) := by
      rw [List.range_succ, List.filter_append]
      congr 1
      simp [List.filter_cons]
    have hnext := ih (x + 1) k (by omega) (by omega)
    rw [laws_FnMapsEnd.c3, if_pos (by rw [upTo_length]; omega), if_pos (by omega), ApplyMap_at hm hH hn (by omega), Option.bind_some, hrd, if_pos ⟨rfl, rfl⟩, show wrap64 ((x : Int) + 1) = ((x + 1 : Nat) : Int) from wrap_m (by omega)]
    by_cases hf : it (rd l) (x : Int) n = (x : Int)
    · have hfp : fixP l n (x : Int) = true := decide_eq_true hf
      rw [hs, if_pos hfp, List.length_append] at hnext
      rw [if_pos hf.symm, wrap_m (by omega)]
      exact hnext
    · have hfp : ¬ fixP l n (x : Int) = true := fun h => hf (of_decide_eq_true h)
      rw [hs, if_neg hfp, List.append_nil] at hnext
      rw [if_neg (fun e => hf e.symm)]
      exact hnext
theorem q4_true {m p : Nat} (hs : Steady l m p) (hle : m + p ≤ 1000000) : ∃ K, ∀ k, K ≤ k → laws_FnMapsEnd.q4 k l (m : Int) (p : Int) = some true := by
  obtain ⟨g1, g2, g3⟩ := isMap_range hm
  obtain ⟨K1, h1⟩ := PowerOfMap_at hm (n := m) (by omega)
  obtain ⟨K2, h2⟩ := PowerOfMap_at hm (n := m + p) (by omega)
  have he : upTo (pw l (m + p)) l.length = upTo (pw l m) l.length := by
    unfold upTo
    refine List.map_congr_left (fun i hi => ?_)
    exact hs.same (i : Int) ⟨by omega, by have := List.mem_range.1 hi; omega⟩
  have hw : wrap64 ((m : Int) + (p : Int)) = ((m + p : Nat) : Int) := by unfold wrap64; omega
  refine ⟨K1 + K2 + 200, fun k hk => ?_⟩
  rw [laws_FnMapsEnd.q4, (h1 k (by omega)).2, Option.bind_some, hw, (h2 k (by omega)).2, Option.bind_some, he]
  show (laws_rSame.f k (upTo (pw l m) l.length) (upTo (pw l m) l.length)).bind _ = _
  rw [rSame_same (by rw [upTo_length]; omega) (by rw [upTo_length]; omega), Option.bind_some, if_pos ⟨rfl, rfl, rfl⟩]
end
theorem q3_true {l1 : List Int} (h : Byt l1) : ∃ K, ∀ k, K ≤ k → laws_FnMapsEnd.q3 k l1 = some true := by
  obtain ⟨f, x, q, hf, h1⟩ := DrawApplyMap_some h
  obtain ⟨g, y, hg, h2⟩ := DrawTailAndCycle_some h
  obtain ⟨K1, ⟨v1, v2⟩, e1⟩ := ApplyMap_both f x q (by omega)
  obtain ⟨K2, ⟨t1, t2, t3⟩, e2⟩ := TailAndCycle_both g y (by omega)
  obtain ⟨K3, r, ok, hr, e3⟩ := BeforeOf_both g y (by omega)
  refine ⟨K1 + K2 + K3 + 2000, fun k hk => ?_⟩
  have a1 := e1 k (by omega)
  have a2 := e2 k (by omega)
  have a3 := e3 k (by omega)
  rw [laws_FnMapsEnd.q3, h1 k (by omega), Option.bind_some]
  show (impl_ApplyMap.f k f x q).bind _ = _
  rw [a1.2, Option.bind_some]
  show (spec_ApplyMap.f k f x q).bind _ = _
  rw [a1.1, Option.bind_some, h2 k (by omega), Option.bind_some]
  show (impl_TailAndCycle.f k g y).bind _ = _
  rw [a2.2, Option.bind_some]
  show (spec_TailAndCycle.f k g y).bind _ = _
  rw [a2.1, Option.bind_some]
  show (impl_BeforeOf.f k g y).bind _ = _
  rw [a3.2, Option.bind_some]
  show (spec_BeforeOf.f k g y).bind _ = _
  rw [a3.1, Option.bind_some]
  show (laws_rSame.f k r r).bind _ = _
  rw [rSame_same (by omega) (by omega), Option.bind_some, if_pos ⟨⟨rfl, rfl⟩, ⟨rfl, rfl, rfl⟩, rfl, rfl⟩]
theorem q2_true {l1 : List Int} (h : Byt l1) : ∃ K, ∀ k, K ≤ k → laws_FnMapsEnd.q2 k l1 = some true := by
  obtain ⟨f, q, hf, hd⟩ := DrawPowerOfMap_some h
  obtain ⟨K0, h3⟩ := q3_true h
  have key : ∃ (K : Nat) (pw_ : List Int) (po : Bool) (fx : Int) (s1 s2 : Int) (s3 : Bool), pw_.length ≤ 1000 ∧ ∀ k, K ≤ k →
      (impl_PowerOfMap.f k f q = some (pw_, po) ∧ spec_PowerOfMap.f k f q = some (pw_, po)) ∧ (impl_CountFixedBy.f k f q = some (fx, po) ∧ spec_CountFixedBy.f k f q = some (fx, po)) ∧ (impl_WhenSteady.f k f = some (s1, s2, s3) ∧ spec_WhenSteady.f k f = some (s1, s2, s3)) ∧
      (if po = true then laws_FnMapsEnd.q5 k f q pw_ fx else some true) = some true ∧ (if s3 = true ∧ wrap64 (s1 + s2) ≤ 1000000 then laws_FnMapsEnd.q4 k f s1 s2 else some true) = some true := by
    cases hm : isMapB f with
    | false =>
      obtain ⟨K1, r, ok, hr, e1⟩ := PowerOfMap_both f q (by omega)
      obtain ⟨K2, ⟨fx, fo⟩, e2⟩ := CountFixedBy_both f q (by omega)
      obtain ⟨K3, ⟨s1, s2, s3⟩, e3⟩ := WhenSteady_both f (by omega)
      have hok : ok = false := by
        have a := (e1 (K1 + 1) (by omega)).2
        rw [impl_PowerOfMap.f, asks_eq f 0 q (by omega), asksB, hm, Bool.false_and, Bool.false_and, Option.bind_some, if_neg (by decide)] at a
        exact (Prod.mk.inj (Option.some.inj a)).2.symm
      have hfo : fo = false := by
        have a := (e2 (K2 + 1) (by omega)).2
        rw [impl_CountFixedBy.f, asks_eq f 0 q (by omega), asksB, hm, Bool.false_and, Bool.false_and, Option.bind_some, if_neg (by decide)] at a
        exact (Prod.mk.inj (Option.some.inj a)).2.symm
      have hs3 : s3 = false := by
        have a := (e3 (K3 + 1) (by omega)).2
        rw [impl_WhenSteady.f, IsMap_eq f (by omega), hm, Option.bind_some, if_neg (by decide)] at a
        exact (Prod.mk.inj (Prod.mk.inj (Option.some.inj a)).2).2.symm
      subst hok
      subst hfo
      subst hs3
      refine ⟨K1 + K2 + K3, r, false, fx, s1, s2, false, hr, fun k hk => ⟨⟨(e1 k (by omega)).2, (e1 k (by omega)).1⟩, ⟨(e2 k (by omega)).2, (e2 k (by omega)).1⟩, ⟨(e3 k (by omega)).2, (e3 k (by omega)).1⟩, by rw [if_neg (by decide)], by rw [if_neg (by simp)]⟩⟩
    | true =>
      obtain ⟨g1, g2, g3⟩ := isMap_range hm
      have ha : asksB f 0 = true := by rw [asksB, hm, Bool.true_and, decide_eq_true_eq]; omega
      obtain ⟨K3, ⟨s1, s2, s3⟩, hs, e3⟩ := WhenSteady_told hm (by omega)
      have hq4 : ∃ K, ∀ k, K ≤ k → (if s3 = true ∧ wrap64 (s1 + s2) ≤ 1000000 then laws_FnMapsEnd.q4 k f s1 s2 else some true) = some true := by
        by_cases hc : s3 = true ∧ wrap64 (s1 + s2) ≤ 1000000
        · obtain ⟨m, p, a1, a2, hst⟩ := hs hc.1
          have a1' : s1 = (m : Int) := a1
          have a2' : s2 = (p : Int) := a2
          subst a1'
          subst a2'
          have hml := hst.deep.lt g3
          have hp := hst.pos
          have hw : wrap64 ((m : Int) + (p : Int)) = (m : Int) + (p : Int) := by unfold wrap64; omega
          have hle := hc.2
          rw [hw] at hle
          obtain ⟨K, hK⟩ := q4_true hm hst (by omega)
          exact ⟨K, fun k hk => by rw [if_pos hc]; exact hK k hk⟩
        · exact ⟨0, fun k _ => by rw [if_neg hc]⟩
      obtain ⟨K4, h4⟩ := hq4
      by_cases hn : 0 ≤ q ∧ q ≤ 1000000
      · obtain ⟨n, rfl⟩ := Int.eq_ofNat_of_zero_le hn.1
        obtain ⟨K1, e1⟩ := PowerOfMap_at hm (n := n) (by omega)
        obtain ⟨K2, e2⟩ := CountFixed_at hm (n := n) (by omega)
        refine ⟨K1 + K2 + K3 + K4 + n + 1000, upTo (pw f n) f.length, true, _, s1, s2, s3, by rw [upTo_length]; omega, fun k hk => ⟨⟨(e1 k (by omega)).2, (e1 k (by omega)).1⟩, ⟨(e2 k (by omega)).2, (e2 k (by omega)).1⟩, ⟨(e3 k (by omega)).2, (e3 k (by omega)).1⟩, ?_, h4 k (by omega)⟩⟩
        rw [if_pos rfl, laws_FnMapsEnd.q5]
        have h5 := c3_loop hm (n := n) (by omega) f.length 0 k (by omega) (by omega)
        rw [show (0 : Int) = ((0 : Nat) : Int) from rfl]
        rw [show ((List.range 0).filter (fun (y : Nat) => fixP f n (y : Int))).length = 0 from rfl] at h5
        rw [h5, Option.bind_some, if_pos rfl]
      · obtain ⟨K1, r, ok, hr, e1⟩ := PowerOfMap_both f q (by omega)
        obtain ⟨K2, ⟨fx, fo⟩, e2⟩ := CountFixedBy_both f q (by omega)
        have hok : ok = false := by
          have a := (e1 (K1 + 1) (by omega)).2
          rw [impl_PowerOfMap.f, asks_eq f 0 q (by omega), decide_eq_false hn, Bool.and_false, Option.bind_some, if_neg (by decide)] at a
          exact (Prod.mk.inj (Option.some.inj a)).2.symm
        have hfo : fo = false := by
          have a := (e2 (K2 + 1) (by omega)).2
          rw [impl_CountFixedBy.f, asks_eq f 0 q (by omega), decide_eq_false hn, Bool.and_false, Option.bind_some, if_neg (by decide)] at a
          exact (Prod.mk.inj (Option.some.inj a)).2.symm
        subst hok
        subst hfo
        refine ⟨K1 + K2 + K3 + K4, r, false, fx, s1, s2, s3, hr, fun k hk => ⟨⟨(e1 k (by omega)).2, (e1 k (by omega)).1⟩, ⟨(e2 k (by omega)).2, (e2 k (by omega)).1⟩, ⟨(e3 k (by omega)).2, (e3 k (by omega)).1⟩, by rw [if_neg (by decide)], h4 k (by omega)⟩⟩
  obtain ⟨K, pw_, po, fx, s1, s2, s3, hlen, hK⟩ := key
  refine ⟨K + K0 + 2000, fun k hk => ?_⟩
  obtain ⟨⟨a1, a2⟩, ⟨a3, a4⟩, ⟨a5, a6⟩, a7, a8⟩ := hK k (by omega)
  rw [laws_FnMapsEnd.q2, hd k (by omega), Option.bind_some]
  show (impl_PowerOfMap.f k f q).bind _ = _
  rw [a1, Option.bind_some]
  show (spec_PowerOfMap.f k f q).bind _ = _
  rw [a2, Option.bind_some]
  show (impl_CountFixedBy.f k f q).bind _ = _
  rw [a3, Option.bind_some]
  show (spec_CountFixedBy.f k f q).bind _ = _
  rw [a4, Option.bind_some]
  show (impl_WhenSteady.f k f).bind _ = _
  rw [a5, Option.bind_some]
  show (spec_WhenSteady.f k f).bind _ = _
  rw [a6, Option.bind_some]
  show (laws_rSame.f k pw_ pw_).bind _ = _
  rw [rSame_same (by omega) (by omega), Option.bind_some, if_pos ⟨⟨rfl, rfl, rfl, rfl⟩, ⟨rfl, rfl, rfl⟩, rfl⟩]
  show (if po = true then laws_FnMapsEnd.q5 k f q pw_ fx else some true).bind _ = _
  rw [a7, Option.bind_some]
  show (if s3 = true ∧ wrap64 (s1 + s2) ≤ 1000000 then laws_FnMapsEnd.q4 k f s1 s2 else some true).bind _ = _
  rw [a8, Option.bind_some]
  exact h3 k (by omega)
theorem byt_of {l : List Int} (h : ∀ x ∈ l, (Lit.int .u8 x).wf = true) : Byt l := fun x hx => by
  simpa [Lit.wf, IntKind.min, IntKind.max, IntKind.signed, IntKind.bits] using h x hx
theorem FnMapsEnd_law : laws_FnMapsEnd.Pure := by
  intro l0 l1 _ hl0 hw0 _ hl1 hw1
  have hbig : laws_big.f l0 l1 = some (decide (l0.length + l1.length > 1048576)) := by
    unfold laws_big.f
    by_cases h1 : (l0.length : Int) > 1048576
    · rw [if_pos h1, decide_eq_true (by omega)]
    · rw [if_neg h1]
      have : wrap64 (1048576 - (l0.length : Int)) = 1048576 - (l0.length : Int) := by unfold wrap64; omega
      rw [this]
      congr 1
      exact decide_eq_decide.2 (by omega)
  by_cases hb : l0.length + l1.length > 1048576
  · refine ⟨0, ?_⟩
    rw [laws_FnMapsEnd.f, hbig, decide_eq_true hb, Option.bind_some, if_pos rfl]
  · obtain ⟨n, hn, hd⟩ := DrawCyclesOfMap_some (byt_of hw0)
    obtain ⟨K0, h2⟩ := q2_true (byt_of hw1)
    have key : ∃ (K : Nat) (g : List (List Int)) (b d e m : List Int) (ok : Bool), (g.length ≤ 1000 ∧ (∀ c ∈ g, c.length ≤ 1000) ∧ b.length ≤ 1000 ∧ d.length ≤ 1000 ∧ e.length ≤ 1000 ∧ m.length ≤ 1000) ∧ (impl_IsMap.f n = some ok ∧ ∀ k, K ≤ k → (impl_CyclesOfMap.f k n = some (g, ok) ∧ spec_CyclesOfMap.f k n = some (g, ok)) ∧ (impl_BasinsOf.f k n = some (b, ok) ∧ spec_BasinsOf.f k n = some (b, ok)) ∧ (impl_DepthsOf.f k n = some (d, ok) ∧ spec_DepthsOf.f k n = some (d, ok)) ∧ (impl_EndsOf.f k n = some (e, ok) ∧ spec_EndsOf.f k n = some (e, ok)) ∧ (impl_ImagesOf.f k n = some (m, ok) ∧ spec_ImagesOf.f k n = some (m, ok)) ∧ spec_IsMap.f k n = some ok ∧ (if ok = true then laws_FnMapsEnd.q1 k n g b d e m else some true) = some true) := by
      have hsm : ∀ k, n.length < k → spec_IsMap.f k n = some (isMapB n) := fun k hk => by
        rw [spec_IsMap.f, mpGood_eq n (by omega) hk]
        rfl
      cases hm : isMapB n with
      | false =>
        refine ⟨n.length + 10, [], [], [], [], [], false, by simp, by rw [IsMap_eq n (by omega), hm], fun k hk => ?_⟩
        have h0 := mpGood_eq n (show n.length ≤ 1048576 by omega) (k := k) (by omega)
        have h1 := IsMap_eq n (show n.length ≤ 1048576 by omega)
        rw [hm] at h0 h1
        refine ⟨⟨?_, ?_⟩, ⟨?_, ?_⟩, ⟨?_, ?_⟩, ⟨?_, ?_⟩, ⟨?_, ?_⟩, by rw [hsm k (by omega), hm], by rw [if_neg (by decide)]⟩
        · rw [impl_CyclesOfMap.f, h1, Option.bind_some, if_neg (by decide)]
        · rw [spec_CyclesOfMap.f, h0, Option.bind_some, if_neg (by decide)]
        · rw [impl_BasinsOf.f, h1, Option.bind_some, if_neg (by decide)]
        · rw [spec_BasinsOf.f, h0, Option.bind_some, if_neg (by decide)]
        · rw [impl_DepthsOf.f, h1, Option.bind_some, if_neg (by decide)]
        · rw [spec_DepthsOf.f, h0, Option.bind_some, if_neg (by decide)]
        · simp [impl_EndsOf.f, h1]
        · simp [spec_EndsOf.f, h0]
        · rw [impl_ImagesOf.f, h1, Option.bind_some, if_neg (by decide)]
        · rw [spec_ImagesOf.f, h0, Option.bind_some, if_neg (by decide)]
      | true =>
        obtain ⟨g1, g2, g3⟩ := isMap_range hm
        obtain ⟨K1, hc⟩ := mpCycles_eq (l := n) g3 g2
        obtain ⟨K2, b, hB, hb2⟩ := BasinsOf_told hm (by omega)
        obtain ⟨K3, hdp⟩ := mpDepths_eq (l := n) g3 g2
        obtain ⟨K4, m, hdeep, him⟩ := ImagesOf_eq g3 (by omega) g2 hm
        have hcl := cycs_length n n.length
        have hel := ends_length n n.length
        have hml := hdeep.lt g3
        refine ⟨K1 + K2 + K3 + K4 + 4000, cycs n n.length, b, upTo (dep n) n.length, ends n n.length, upTo (img n) (m + 1), true, ⟨by omega, fun c hcm => ?_, by rw [hB.len]; omega, by rw [upTo_length]; omega, by omega, by rw [upTo_length]; omega⟩, by rw [IsMap_eq n (by omega), hm], fun k hk => ?_⟩
        · obtain ⟨i, hi, _, rfl⟩ := mem_cycs.1 hcm
          rw [cyL_length]
          have := rA_lt (l := n) g3 (x := (i : Int)) ⟨by omega, by omega⟩
          omega
        · have h0 := mpGood_eq n (show n.length ≤ 1048576 by omega) (k := k) (by omega)
          have h1 := IsMap_eq n (show n.length ≤ 1048576 by omega)
          rw [hm] at h0 h1
          refine ⟨⟨?_, ?_⟩, ⟨(hb2 k (by omega)).2, (hb2 k (by omega)).1⟩, ⟨?_, ?_⟩, ⟨?_, ?_⟩, ⟨(him k (by omega)).2, (him k (by omega)).1⟩, by rw [hsm k (by omega), hm], by rw [if_pos rfl]; exact q1_true hm hB hdeep (by omega)⟩
          · rw [impl_CyclesOfMap.f, h1, Option.bind_some, if_pos rfl, cycles_eq g3 g2 (by omega), Option.bind_some]
          · rw [spec_CyclesOfMap.f, h0, Option.bind_some, if_pos rfl, hc k (by omega), Option.bind_some]
          · rw [impl_DepthsOf.f, h1, Option.bind_some, if_pos rfl, depths_eq g3 g2 (by omega), Option.bind_some]
          · rw [spec_DepthsOf.f, h0, Option.bind_some, if_pos rfl, (hdp k (by omega)).1, Option.bind_some]
          · simp [impl_EndsOf.f, h1, (Ends_loops n (show n.length ≤ 1048576 by omega) k (by omega)).2]
          · simp [spec_EndsOf.f, h0, (Ends_loops n (show n.length ≤ 1048576 by omega) k (by omega)).1]
    obtain ⟨K, g, b, d, e, m, ok, ⟨z1, z2, z3, z4, z5, z6⟩, hmap, hK⟩ := key
    refine ⟨K + K0 + 4000, ?_⟩
    obtain ⟨k, hk⟩ : ∃ k, k = K + K0 + 4000 := ⟨_, rfl⟩
    rw [← hk]
    obtain ⟨⟨a1, a2⟩, ⟨a3, a4⟩, ⟨a5, a6⟩, ⟨a7, a8⟩, ⟨a9, a10⟩, a11, a12⟩ := hK k (by omega)
    rw [laws_FnMapsEnd.f, hbig, decide_eq_false hb, Option.bind_some, if_neg (by decide), hd k (by omega), Option.bind_some, a1, Option.bind_some, a2, Option.bind_some, a3, Option.bind_some, a4, Option.bind_some, a5, Option.bind_some, a6, Option.bind_some, a7, Option.bind_some, a8, Option.bind_some, a9, Option.bind_some, a10, Option.bind_some]
    show (laws_rRows.f k g g).bind _ = _
    rw [rRows_same z1 z2 (by omega), Option.bind_some]
    show (laws_rSame.f k b b).bind _ = _
    rw [rSame_same (by omega) (by omega), Option.bind_some]
    show (laws_rSame.f k d d).bind _ = _
    rw [rSame_same (by omega) (by omega), Option.bind_some]
    show (laws_rSame.f k e e).bind _ = _
    rw [rSame_same (by omega) (by omega), Option.bind_some]
    show (laws_rSame.f k m m).bind _ = _
    rw [rSame_same (by omega) (by omega), Option.bind_some, hmap, Option.bind_some, a11, Option.bind_some, if_pos ⟨⟨rfl, rfl, rfl, rfl, rfl, rfl, rfl, rfl, rfl, rfl, rfl⟩, rfl, rfl, rfl, rfl, rfl⟩]
    show (if ok = true then laws_FnMapsEnd.q1 k n g b d e m else some true).bind _ = _
    rw [a12, Option.bind_some]
    exact h2 k (by omega)
end Go.Proofs.YtcaohpcbohdkbaaGreatC
end
