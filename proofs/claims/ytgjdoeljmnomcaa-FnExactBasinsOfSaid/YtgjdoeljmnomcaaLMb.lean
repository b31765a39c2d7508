/-
  The plain law of BasinsOf over the printed functions. No conditions.
-/
import Derived.Test.YtgjdoeljmnomcaaLMn
import Derived.Test.YtgjdoeljmnomcaaLMs
namespace Go.Proofs.YtgjdoeljmnomcaaC
open Go.RowKit Go.Proofs.YtgjdoeljmnomcaaW.PrintWords Go.Proofs.YtgjdoeljmnomcaaW.PrintMore
set_option linter.unusedSimpArgs false
set_option linter.unusedVariables false

theorem idxL_hit' {x : Int} : ∀ (a : List (List Int)) (y : List Int) (c : List (List Int)) (i : Int), (∀ z ∈ a, ¬ rd z 0 = x) → rd y 0 = x → idxL x (a ++ y :: c) i = i + (a.length : Int)
  | [], y, c, i, _, hy => by simp [idxL, hy]
  | z :: a, y, c, i, h, hy => by
    rw [List.cons_append, idxL, if_neg (h z (by simp)), idxL_hit' a y c (i + 1) (fun u hu => h u (by simp [hu])) hy]
    simp; omega
/-- The cycle of a number's end is the one that its least number leads. -/
theorem basin_iff {l : List Int} (h : MapL l) {x e : Int} (hx : Has l x) (he : IsMin e (cyL l (ent l x))) {c : List Int} (hc : c ∈ cycs l l.length) : rd c 0 = e ↔ it (rd l) x l.length ∈ c := by
  obtain ⟨i, hi, hld, rfl⟩ := mem_cycs.1 hc
  have hix : Has l (i : Int) := ⟨by omega, by omega⟩
  obtain ⟨e1, e2, e3⟩ := ent_cyc h hx
  have hic := lead_cyc hld
  have hra := rA_lt h hx
  have hend : it (rd l) x l.length ∈ cyL l (ent l x) := by
    refine (mem_cyL h e1 e2 _).2 ⟨l.length - rA l x, ?_⟩
    unfold ent
    rw [← it_add]
    congr 1
    omega
  rw [cyL_first h hix]
  constructor
  · intro hie
    have hm := he.mem
    rw [← hie] at hm
    exact (cyL_same h e1 e2 hm _).2 hend
  · intro hm
    have hiz : ∀ y, y ∈ cyL l (i : Int) ↔ y ∈ cyL l (ent l x) := fun y => (cyL_same h hix hic hm y).symm.trans (cyL_same h e1 e2 hend y)
    have h1 := lead_min h hix hld
    exact (IsMin.mk ((hiz _).1 h1.mem) (fun y hy => h1.le y ((hiz y).2 hy))).unique he
theorem basin_led {l : List Int} (h : MapL l) {x e : Int} (hx : Has l x) (he : IsMin e (cyL l (ent l x))) : ∃ j, ∃ hj : j < (cycs l l.length).length, rd (cycs l l.length)[j] 0 = e ∧ ∀ q (hq : q < (cycs l l.length).length), q < j → ¬ rd (cycs l l.length)[q] 0 = e := by
  obtain ⟨e1, e2, e3⟩ := ent_cyc h hx
  obtain ⟨g1, g2⟩ := min_lead h e1 e2 he
  obtain ⟨i, rfl⟩ := Int.eq_ofNat_of_zero_le g1.1
  have hm : cyL l (i : Int) ∈ cycs l l.length := mem_cycs.2 ⟨i, by have := g1.2; omega, g2, rfl⟩
  have hex : ∃ j, ∃ hj : j < (cycs l l.length).length, rd (cycs l l.length)[j] 0 = (i : Int) := by
    obtain ⟨j, hj, e⟩ := List.getElem_of_mem hm
    exact ⟨j, hj, by rw [e]; exact cyL_first h g1⟩
  have key : ∀ n j, j ≤ n → ∀ hj : j < (cycs l l.length).length, rd (cycs l l.length)[j] 0 = (i : Int) → ∃ j, ∃ hj : j < (cycs l l.length).length, rd (cycs l l.length)[j] 0 = (i : Int) ∧ ∀ q (hq : q < (cycs l l.length).length), q < j → ¬ rd (cycs l l.length)[q] 0 = (i : Int) := by
    intro n
    induction n with
    | zero => intro j hjn hj e; exact ⟨j, hj, e, fun q hq hlt => by omega⟩
    | succ n ih =>
      intro j hjn hj e
      by_cases hq : ∃ q, ∃ hq : q < (cycs l l.length).length, q < j ∧ rd (cycs l l.length)[q] 0 = (i : Int)
      · obtain ⟨q, hq1, hq2, hq3⟩ := hq
        exact ih q (by omega) hq1 hq3
      · exact ⟨j, hj, e, fun q hq1 hq2 hq3 => hq ⟨q, hq1, hq2, hq3⟩⟩
  obtain ⟨j, hj, e⟩ := hex
  exact key j j (Nat.le_refl _) hj e
theorem idxL_at {l : List (List Int)} {e : Int} {j : Nat} (hj : j < l.length) (h1 : rd l[j] 0 = e) (h2 : ∀ q (hq : q < l.length), q < j → ¬ rd l[q] 0 = e) : idxL e l 0 = (j : Int) := by
  have h3 : l = l.take j ++ l[j] :: l.drop (j + 1) := by
    conv => lhs; rw [← List.take_append_drop j l, List.drop_eq_getElem_cons hj]
  have h4 := idxL_hit' (x := e) (l.take j) l[j] (l.drop (j + 1)) 0 (fun z hz => by
    obtain ⟨q, hq, rfl⟩ := List.getElem_of_mem hz
    rw [List.length_take] at hq
    rw [List.getElem_take]
    exact h2 q (by omega) (by omega)) h1
  rw [← h3, List.length_take, Nat.min_eq_left (by omega)] at h4
  rw [h4]
  omega
theorem spec_Basins_l1 {l : List Int} (h : MapL l) (hl : l.length ≤ 60) {x : Int} (hx : Has l x) {e : Int} (he : IsMin e (cyL l (ent l x))) (out : List Int) (ho : out.length ≤ 60) (x15 x16 : Int) (j : Nat) (hj : j < (cycs l l.length).length) (h1 : rd (cycs l l.length)[j] 0 = e) (h2 : ∀ q (hq : q < (cycs l l.length).length), q < j → ¬ rd (cycs l l.length)[q] 0 = e) :
    ∀ (d q k : Nat), q + d = j → spec_BasinsOf.l1 (k + 200 + d + 1) l (cycs l l.length) out (it (rd l) x l.length) (q : Int) x15 x16 = spec_BasinsOf.l0 (k + 200) l (cycs l l.length) (out ++ [(j : Int)]) x15 (wrap64 (x16 + 1))
  | 0, q, k, hq => by
    obtain rfl : q = j := by omega
    have hcl := cycs_length l l.length
    have hm := (basin_iff h hx he (List.getElem_mem hj)).1 h1
    have hrd : rd_L2 (cycs l l.length) (q : Int) = (cycs l l.length)[q] := by simp [rd_L2, List.getD_eq_getElem?_getD, List.getElem?_eq_getElem hj]
    have hlen : (cycs l l.length)[q].length ≤ 60 := by
      obtain ⟨i, hi, _, e⟩ := mem_cycs.1 (List.getElem_mem hj)
      rw [e, cyL_length]
      have := rA_lt h (x := (i : Int)) ⟨by omega, by omega⟩
      omega
    rw [spec_BasinsOf.l1, if_pos (by omega), if_pos (by omega), hrd, l1Has_eq _ _ (by omega) (by omega), Option.bind_some, if_pos (by simpa using hm), if_pos (by omega)]
  | d + 1, q, k, hq => by
    have hqj : q < (cycs l l.length).length := by omega
    have hcl := cycs_length l l.length
    have hm : ¬ it (rd l) x l.length ∈ (cycs l l.length)[q] := fun hm => h2 q hqj (by omega) ((basin_iff h hx he (List.getElem_mem hqj)).2 hm)
    have hrd : rd_L2 (cycs l l.length) (q : Int) = (cycs l l.length)[q] := by simp [rd_L2, List.getD_eq_getElem?_getD, List.getElem?_eq_getElem hqj]
    have hlen : (cycs l l.length)[q].length ≤ 60 := by
      obtain ⟨i, hi, _, e⟩ := mem_cycs.1 (List.getElem_mem hqj)
      rw [e, cyL_length]
      have := rA_lt h (x := (i : Int)) ⟨by omega, by omega⟩
      omega
    rw [show k + 200 + (d + 1) + 1 = (k + 200 + d + 1) + 1 by omega, spec_BasinsOf.l1, if_pos (by omega), if_pos (by omega), hrd, l1Has_eq _ _ (by omega) (by omega), Option.bind_some, if_neg (by simpa using hm), w64s (by omega)]
    exact spec_Basins_l1 h hl hx he out ho x15 x16 j hj h1 h2 d (q + 1) k (by omega)
theorem basins_loop {l : List Int} (h : MapL l) (hl : l.length ≤ 60) : ∀ (d i : Nat) (out : List Int), i + d = l.length → out.length = i → ∃ (K : Nat) (r : List Int), r.length ≤ 60 ∧ ∀ k, K ≤ k → spec_BasinsOf.l0 k l (cycs l l.length) out (l.length : Int) (i : Int) = some (r, true) ∧ ∀ k0, K ≤ k0 → basL k0 l (cycs l l.length) k out (i : Int) = some r
  | 0, i, out, hi, ho => by
    refine ⟨1, out, by omega, fun k hk => ?_⟩
    obtain ⟨k, rfl⟩ : ∃ q, k = q + 1 := ⟨k - 1, by omega⟩
    exact ⟨by rw [spec_BasinsOf.l0, if_neg (by omega)], fun k0 _ => by rw [basL, if_neg (by omega)]⟩
  | d + 1, i, out, hi, ho => by
    have hx : Has l (i : Int) := ⟨by omega, by omega⟩
    obtain ⟨e1, e2, e3⟩ := ent_cyc h hx
    obtain ⟨e, he⟩ := isMin_exists (cyL l (ent l (i : Int))) (by obtain ⟨c, hc⟩ := cyL_cons h e1; rw [hc]; simp)
    obtain ⟨f1, f2⟩ := turned_first he
    obtain ⟨j, hj, h1, h2⟩ := basin_led h hx he
    have hcl := cycs_length l l.length
    obtain ⟨K, r, hr, hK⟩ := basins_loop h hl d (i + 1) (out ++ [(j : Int)]) (by omega) (by simp; omega)
    refine ⟨K + 500, r, hr, fun k hk => ⟨?_, fun k0 hk0 => ?_⟩⟩
    · obtain ⟨k, rfl⟩ : ∃ q, k = q + 200 + j + 1 + 1 := ⟨k - 202 - j, by omega⟩
      rw [spec_BasinsOf.l0, if_pos (by omega), at_eq h hx _ (by omega) (by omega), Option.bind_some]
      have := spec_Basins_l1 h hl hx he out (by omega) (l.length : Int) (i : Int) j hj h1 h2 j 0 k (by omega)
      rw [show ((0 : Nat) : Int) = 0 from rfl] at this
      rw [this, w64s (by omega)]
      exact (hK (k + 200) (by omega)).1
    · obtain ⟨k, rfl⟩ : ∃ q, k = q + 1 := ⟨k - 1, by omega⟩
      rw [basL, if_pos (by omega), cycleAt_eq h hl hx he (by omega), Option.bind_some, if_pos ⟨f2, by omega⟩, f1, idxL_at hj h1 h2, w64s (by omega)]
      exact (hK k (by omega)).2 k0 (by omega)
theorem BasinsOf_both (l : List Int) (hl : l.length ≤ 1048576) : ∃ (K : Nat) (r : List Int) (ok : Bool), r.length ≤ 1000 ∧ ∀ k, K ≤ k → spec_BasinsOf.f k l = some (r, ok) ∧ impl_BasinsOf.f k l = some (r, ok) := by
  cases hm : isMapB l with
  | false => exact ⟨l.length + 1, [], false, by simp, fun k hk => ⟨by rw [spec_BasinsOf.f, mpGood_eq l hl (by omega), hm, Option.bind_some, if_neg (by decide)], by rw [impl_BasinsOf.f, IsMap_eq l hl, hm, Option.bind_some, if_neg (by decide)]⟩⟩
  | true =>
    obtain ⟨g1, g2, g3⟩ := isMap_range hm
    obtain ⟨K1, h1⟩ := mpCycles_eq (l := l) g3 g2
    obtain ⟨K2, r, hr, h2⟩ := basins_loop (l := l) g3 g2 l.length 0 [] (by omega) (by simp)
    have hcl := cycs_length l l.length
    have hall : (cycs l l.length).length ≤ 1000 ∧ ∀ c ∈ cycs l l.length, 0 < c.length := ⟨by omega, fun c hc => by
      obtain ⟨i, hi, _, rfl⟩ := mem_cycs.1 hc
      rw [cyL_length]
      exact per_pos g3 ⟨by omega, by omega⟩⟩
    refine ⟨K1 + K2 + 2 * l.length + 10, r, true, by omega, fun k hk => ?_⟩
    obtain ⟨a1, a2⟩ := h2 k (by omega)
    refine ⟨?_, ?_⟩
    · rw [spec_BasinsOf.f, mpGood_eq l hl (by omega), hm, Option.bind_some, if_pos rfl, h1 k (by omega), Option.bind_some]
      exact a1
    · have := a2 k (by omega)
      rw [show ((0 : Nat) : Int) = 0 from rfl] at this
      rw [impl_BasinsOf.f, IsMap_eq l hl, hm, Option.bind_some, if_pos rfl, cycles_eq g3 g2 (by omega), Option.bind_some, if_pos hall, this, Option.bind_some]
theorem BasinsOf_law : laws_FnExactBasinsOf.Pure := by
  intro l _ _ _
  by_cases hl : (l.length : Int) > 1048576
  · exact ⟨0, by rw [laws_FnExactBasinsOf.f, if_pos hl]⟩
  obtain ⟨K0, r, ok, hr, h0⟩ := BasinsOf_both l (by omega)
  obtain ⟨K, hK⟩ : ∃ K, K = K0 + l.length + r.length + 1 := ⟨_, rfl⟩
  have hTl : ∀ k, K ≤ k → laws_toIntS.f k l = some l := fun k h => (law_facts l r (by omega) (by omega) (show _ < k by omega)).1
  have hEl : ∀ k, K ≤ k → laws_eqIntS.f k l l = some true := fun k h => (law_facts l r (by omega) (by omega) (show _ < k by omega)).2.1
  have hMl : ∀ k, K ≤ k → laws_markIntS.f k l 1 = some (1 + (l.length : Int), marks 1 l.length) := fun k h => (law_facts l r (by omega) (by omega) (show _ < k by omega)).2.2.2.1
  have hNl := neg_no l
  have hE : ∀ k, K ≤ k → laws_eqIntS.f k r r = some true := fun k h => (law_facts [] r (by simp) (by omega) (show _ < k by simp; omega)).2.2.1
  have hM : ∀ k, K ≤ k → laws_markIntS.f k r 1 = some (1 + (r.length : Int), marks 1 r.length) := fun k h => (law_facts [] r (by simp) (by omega) (show _ < k by simp; omega)).2.2.2.2.1
  have hH : ∀ k, K ≤ k → laws_heldIntS.f k (marks 1 r.length) 1 = some (1 + (r.length : Int)) := fun k h => (law_facts [] r (by simp) (by omega) (show _ < k by simp; omega)).2.2.2.2.2
  have hN := neg_no r
  have e1 : ∀ k, K ≤ k → spec_BasinsOf.f k l = some (r, ok) := fun k h => (h0 k (by omega)).1
  have e2 : ∀ k, K ≤ k → impl_BasinsOf.f k l = some (r, ok) := fun k h => (h0 k (by omega)).2
  refine ⟨K + 9, ?_⟩
  simp [laws_FnExactBasinsOf.f, laws_FnExactBasinsOf.j0, laws_FnExactBasinsOf.j1, laws_FnExactBasinsOf.j2, hE, hM, hH, hN, e1, e2, hl, hTl, hEl, hMl, hNl]

end Go.Proofs.YtgjdoeljmnomcaaC
