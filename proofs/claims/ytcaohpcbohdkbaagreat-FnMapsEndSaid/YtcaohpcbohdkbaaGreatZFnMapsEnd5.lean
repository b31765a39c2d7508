/- Plain texts of FnMapsEnd, merged by a program: what Go functions compute, lemmas of the walk, and proofs. No conditions. -/
import Derived.Lib.SlicesCompact
import Derived.Test.YtcaohpcbohdkbaaGreatZFnMapsEnd2
import Derived.Test.YtcaohpcbohdkbaaGreatZFnMapsEnd3
import Derived.Test.YtcaohpcbohdkbaaGreatZFnMapsEnd4
section
namespace Go.Proofs.YtcaohpcbohdkbaaGreatC
open Go.RowKit Go.Proofs.YtcaohpcbohdkbaaGreatW.PrintWords Go.Proofs.YtcaohpcbohdkbaaGreatW.PrintMore
set_option linter.unusedSimpArgs false
set_option linter.unusedVariables false
theorem gcd_step (a b : Nat) : Nat.gcd a b = Nat.gcd b (a % b) := by rw [Nat.gcd_comm a b, Nat.gcd_rec, Nat.gcd_comm]
theorem gcd_pos {a b : Nat} (h : 0 < a) : 0 < Nat.gcd a b := Nat.gcd_pos_of_pos_left _ h
theorem over_iff {q n : Nat} (hn : 0 < n) : q * n > 1000000000000000 ↔ q > 1000000000000000 / n := by
  have := Nat.le_div_iff_mul_le (x := q) (y := 1000000000000000) hn
  omega
theorem gcd_spec : ∀ (k a b : Nat), b < k → spec_mpGcd.f k (a : Int) (b : Int) = some ((Nat.gcd a b : Nat) : Int)
  | 0, a, b, h => absurd h (by omega)
  | k + 1, a, b, h => by
    rw [spec_mpGcd.f]
    by_cases hb : b = 0
    · rw [if_pos (by omega), hb, Nat.gcd_zero_right]
    · have e : Int.tmod (a : Int) (b : Int) = ((a % b : Nat) : Int) := rfl
      have := Nat.mod_lt a (show 0 < b by omega)
      rw [if_neg (by omega), e, gcd_spec k b (a % b) (by omega), Option.bind_some, ← gcd_step]
theorem gcd_impl : ∀ (k a b : Nat), b < k → impl_gcd.l0 k (a : Int) (b : Int) = some ((Nat.gcd a b : Nat) : Int)
  | 0, a, b, h => absurd h (by omega)
  | k + 1, a, b, h => by
    rw [impl_gcd.l0]
    by_cases hb : b = 0
    · rw [if_pos (by omega), hb, Nat.gcd_zero_right]
    · have e : Int.tmod (a : Int) (b : Int) = ((a % b : Nat) : Int) := rfl
      have := Nat.mod_lt a (show 0 < b by omega)
      rw [if_neg (by omega), e, gcd_impl k b (a % b) (by omega), ← gcd_step]
theorem deep_loop {xs : List Int} (hx : xs.length ≤ 1000) : ∀ (d j : Nat) (m : Int), j + d = xs.length → ∃ r, ∀ k, d < k → spec_mpDeepest.l0 k m xs (xs.length : Int) (j : Int) = some r ∧ slices_Max_int_int.l0 k xs m (j : Int) = some r
  | 0, j, m, hj => ⟨m, fun k hk => by
    obtain ⟨k, rfl⟩ : ∃ q, k = q + 1 := ⟨k - 1, by omega⟩
    exact ⟨by rw [spec_mpDeepest.l0, if_neg (by omega)], by rw [slices_Max_int_int.l0, if_neg (by omega)]⟩⟩
  | d + 1, j, m, hj => by
    obtain ⟨r, hr⟩ := deep_loop hx d (j + 1) (mx m (rd xs (j : Int))) (by omega)
    refine ⟨r, fun k hk => ?_⟩
    obtain ⟨k, rfl⟩ : ∃ q, k = q + 1 := ⟨k - 1, by omega⟩
    have e : spec_l1Most.f m (rd xs (j : Int)) = some (mx m (rd xs (j : Int))) := by
      unfold spec_l1Most.f mx
      by_cases h1 : m < rd xs (j : Int)
      · rw [if_neg (by omega), if_pos h1]
      · rw [if_neg h1]
        by_cases h2 : m > rd xs (j : Int)
        · rw [if_pos h2]
        · rw [if_neg h2]; congr 1; omega
    refine ⟨?_, ?_⟩
    · rw [spec_mpDeepest.l0, if_pos (by omega), if_pos (by omega), if_pos (by omega), e, Option.bind_some, w64s (by omega)]
      exact (hr k (by omega)).1
    · rw [slices_Max_int_int.l0, if_pos (by omega), if_pos (by omega), w64s (by omega)]
      exact (hr k (by omega)).2
theorem deep_both {l : List Int} (h : MapL l) (h1 : 0 < l.length) (h60 : l.length ≤ 60) : ∃ (K : Nat) (r : Int), ∀ k, K ≤ k → spec_mpDeepest.f k l = some r ∧ ((impl_depths.f k l).bind fun t234 => slices_Max_int_int.f k t234) = some r := by
  obtain ⟨K1, hK1⟩ := mpDepths_eq h h60
  obtain ⟨xs, hxs⟩ : ∃ xs, xs = upTo (dep l) l.length := ⟨_, rfl⟩
  have hxl : xs.length = l.length := by rw [hxs, upTo_length]
  obtain ⟨r, hr⟩ := deep_loop (xs := xs) (by omega) (l.length - 1) 1 (rd xs 0) (by omega)
  have h0 : 0 ≤ rd xs 0 := by
    rw [hxs, show (0 : Int) = ((0 : Nat) : Int) from rfl, upTo_at _ h1]
    exact Int.natCast_nonneg _
  refine ⟨K1 + 200, r, fun k hk => ⟨?_, ?_⟩⟩
  · rw [spec_mpDeepest.f, (hK1 k (by omega)).1, Option.bind_some, ← hxs]
    obtain ⟨k, rfl⟩ : ∃ q, k = q + 1 := ⟨k - 1, by omega⟩
    have e : spec_l1Most.f 0 (rd xs 0) = some (rd xs 0) := by
      unfold spec_l1Most.f
      rw [if_neg (by omega)]
    rw [spec_mpDeepest.l0, if_pos (by omega), if_pos (by omega), if_pos (by omega), e, Option.bind_some, show wrap64 (0 + 1) = ((1 : Nat) : Int) from by rw [w64 (by omega) (by omega)]; rfl]
    exact (hr k (by omega)).1
  · rw [depths_eq h h60 (by omega), Option.bind_some, ← hxs, slices_Max_int_int.f, if_neg (by omega), if_pos (by omega)]
    exact (hr k (by omega)).2
theorem w64q {q : Nat} (h : q ≤ 60000000000000000) : wrap64 (q : Int) = (q : Int) := w64 (by omega) (by omega)
theorem ndiv_le {a g c : Nat} (h : a ≤ c) : a / g ≤ c := Nat.le_trans (Nat.div_le_self _ _) h
theorem tdiv_w {a g : Nat} (h : a ≤ 1000000000000000) : wrap64 (Int.tdiv (a : Int) (g : Int)) = ((a / g : Nat) : Int) := by
  rw [← Int.ofNat_tdiv]
  exact w64q (Nat.le_trans (ndiv_le h) (by decide))
theorem tdiv_c (n : Nat) : wrap64 (Int.tdiv (1000000000000000 : Int) (n : Int)) = ((1000000000000000 / n : Nat) : Int) :=
  tdiv_w (a := 1000000000000000) (Nat.le_refl _)
theorem gt_cast {p c : Nat} (h : p > c) : (p : Int) > (c : Int) := Int.ofNat_lt.2 h
theorem ngt_cast {p c : Nat} (h : ¬ p > c) : ¬ (p : Int) > (c : Int) := fun h2 => h (Int.ofNat_lt.1 h2)
theorem nz_cast {g : Nat} (h : 0 < g) : ¬ (g : Int) = 0 := by omega
theorem steady_num {a n : Nat} (h0 : 0 < a) (h1 : a ≤ 1000000000000000) (n0 : 0 < n) (n1 : n ≤ 60) : ∃ g q z p : Nat, Nat.gcd a n = g ∧ ¬ (g : Int) = 0 ∧ wrap64 (Int.tdiv (a : Int) (g : Int)) = (q : Int) ∧ wrap64 (Int.tdiv (1000000000000000 : Int) (n : Int)) = (z : Int) ∧ wrap64 ((q : Int) * (n : Int)) = (p : Int) ∧
    (((q : Int) > (z : Int) ∧ (p : Int) > 1000000000000000) ∨ (¬ (q : Int) > (z : Int) ∧ ¬ (p : Int) > 1000000000000000 ∧ 0 < p ∧ p ≤ 1000000000000000)) := by
  have hgp : 0 < Nat.gcd a n := gcd_pos h0
  have hgl : Nat.gcd a n ≤ a := Nat.le_of_dvd h0 (Nat.gcd_dvd_left _ _)
  have hqp : 0 < a / Nat.gcd a n := Nat.div_pos hgl hgp
  have hpl : (a / Nat.gcd a n) * n ≤ 1000000000000000 * 60 := Nat.mul_le_mul (ndiv_le h1) n1
  refine ⟨_, _, _, a / Nat.gcd a n * n, rfl, nz_cast hgp, tdiv_w h1, tdiv_c n, ?_, ?_⟩
  · rw [← Int.natCast_mul]
    exact w64q (Nat.le_trans hpl (by decide))
  · by_cases ho : a / Nat.gcd a n * n > 1000000000000000
    · exact Or.inl ⟨gt_cast ((over_iff n0).1 ho), gt_cast ho⟩
    · exact Or.inr ⟨ngt_cast (fun h => ho ((over_iff n0).2 h)), ngt_cast ho, Nat.mul_pos hqp n0, Nat.le_of_not_gt ho⟩
theorem steady_loop {l : List Int} {cs : List (List Int)} (hcs : cs.length ≤ 60) (hc : ∀ c ∈ cs, 0 < c.length ∧ c.length ≤ 60) {K0 : Nat} {m : Int} (hm : ∀ k, K0 ≤ k → spec_mpDeepest.f k l = some m ∧ ((impl_depths.f k l).bind fun t234 => slices_Max_int_int.f k t234) = some m) : ∀ (d j a : Nat), j + d = cs.length → 0 < a → a ≤ 1000000000000000 → ∃ (K : Nat) (v : Int × Int × Bool), ∀ k, K ≤ k → spec_WhenSteady.l0 k l (a : Int) cs (cs.length : Int) (j : Int) = some v ∧ impl_WhenSteady.l0 k l (a : Int) cs (cs.length : Int) (j : Int) = some v
  | 0, j, a, hj, h0, h1 => ⟨K0 + 1, (m, (a : Int), true), fun k hk => by
    obtain ⟨k, rfl⟩ : ∃ q, k = q + 1 := ⟨k - 1, by omega⟩
    obtain ⟨m1, m2⟩ := hm k (by omega)
    obtain ⟨ds, hds, hmx⟩ := Option.bind_eq_some_iff.1 m2
    exact ⟨by rw [spec_WhenSteady.l0, if_neg (by omega), m1, Option.bind_some], by rw [impl_WhenSteady.l0, if_neg (by omega), hds, Option.bind_some, hmx, Option.bind_some]⟩⟩
  | d + 1, j, a, hj, h0, h1 => by
    have hjl : j < cs.length := by omega
    have c1 : (j : Int) < (cs.length : Int) := by omega
    have c2 : 0 ≤ (j : Int) := by omega
    have wj : wrap64 ((j : Int) + 1) = ((j + 1 : Nat) : Int) := w64s (by omega)
    have hj2 : j + 1 + d = cs.length := by omega
    obtain ⟨n0, n1⟩ := hc cs[j] (List.getElem_mem hjl)
    have e : rd_L2 cs (j : Int) = cs[j] := by simp [rd_L2, List.getD_eq_getElem?_getD, List.getElem?_eq_getElem hjl]
    obtain ⟨n, hn⟩ : ∃ n, n = cs[j].length := ⟨_, rfl⟩
    rw [← hn] at n0 n1
    have cn := nz_cast n0
    obtain ⟨g, q, z, p, hg, cg, t1, t2, t3, ov⟩ := steady_num h0 h1 n0 n1
    have sg : ∀ k, 100 ≤ k → spec_mpGcd.f k (a : Int) (n : Int) = some (g : Int) := fun k hk => by rw [gcd_spec k a n (by clear ov t1 t2 t3; omega), hg]
    have ig : ∀ k, 100 ≤ k → impl_gcd.l0 k (a : Int) (n : Int) = some (g : Int) := fun k hk => by rw [gcd_impl k a n (by clear ov t1 t2 t3; omega), hg]
    rcases ov with ⟨o1, o2⟩ | ⟨o1, o2, o3, o4⟩
    · refine ⟨101, (0, 0, false), fun k hk => ?_⟩
      obtain ⟨k, rfl⟩ : ∃ q, k = q + 100 + 1 := ⟨k - 101, by clear t1 t2 t3; omega⟩
      refine ⟨?_, ?_⟩
      · rw [spec_WhenSteady.l0, if_pos c1, if_pos c2, if_pos c1, e, ← hn, sg _ (Nat.le_add_left _ _), Option.bind_some, if_neg cg, if_neg cn, t1, t2, if_pos o1]
      · rw [impl_WhenSteady.l0, if_pos c1, if_pos c2, if_pos c1, e, ← hn, impl_gcd.f, ig _ (Nat.le_add_left _ _), Option.bind_some, if_neg cg, t1, t3, if_pos o2]
    · obtain ⟨K, v, hv⟩ := steady_loop hcs hc hm d (j + 1) p hj2 o3 o4
      refine ⟨K + 101, v, fun k hk => ?_⟩
      obtain ⟨k, rfl, hkK⟩ : ∃ q, k = q + 100 + 1 ∧ K ≤ q + 100 := ⟨k - 101, by clear t1 t2 t3; omega, by clear t1 t2 t3; omega⟩
      obtain ⟨v1, v2⟩ := hv (k + 100) hkK
      refine ⟨?_, ?_⟩
      · rw [spec_WhenSteady.l0, if_pos c1, if_pos c2, if_pos c1, e, ← hn, sg _ (Nat.le_add_left _ _), Option.bind_some, if_neg cg, if_neg cn, t1, t2, if_neg o1, Option.bind_some, if_neg cg, t1, t3, wj]
        exact v1
      · rw [impl_WhenSteady.l0, if_pos c1, if_pos c2, if_pos c1, e, ← hn, impl_gcd.f, ig _ (Nat.le_add_left _ _), Option.bind_some, if_neg cg, t1, t3, if_neg o2, wj]
        exact v2
theorem WhenSteady_both (l : List Int) (hl : l.length ≤ 1048576) : ∃ (K : Nat) (v : Int × Int × Bool), ∀ k, K ≤ k → spec_WhenSteady.f k l = some v ∧ impl_WhenSteady.f k l = some v := by
  cases hm : isMapB l with
  | false => exact ⟨l.length + 1, (0, 0, false), fun k hk => ⟨by rw [spec_WhenSteady.f, mpGood_eq l hl (by omega), hm, Option.bind_some, if_neg (by decide)], by rw [impl_WhenSteady.f, IsMap_eq l hl, hm, Option.bind_some, if_neg (by decide)]⟩⟩
  | true =>
    obtain ⟨g1, g2, g3⟩ := isMap_range hm
    obtain ⟨K1, h1⟩ := mpCycles_eq (l := l) g3 g2
    obtain ⟨K2, m, h2⟩ := deep_both (l := l) g3 (by omega) g2
    have hcl := cycs_length l l.length
    have hall : ∀ c ∈ cycs l l.length, 0 < c.length ∧ c.length ≤ 60 := fun c hc => by
      obtain ⟨i, hi, _, rfl⟩ := mem_cycs.1 hc
      have hx : Has l (i : Int) := ⟨by omega, by omega⟩
      have := rA_lt g3 hx
      rw [cyL_length]
      exact ⟨per_pos g3 hx, by omega⟩
    obtain ⟨K3, v, h3⟩ := steady_loop (l := l) (cs := cycs l l.length) (by omega) hall h2 (cycs l l.length).length 0 1 (by omega) (by omega) (by omega)
    refine ⟨K1 + K3 + 2 * l.length + 10, v, fun k hk => ?_⟩
    obtain ⟨a1, a2⟩ := h3 k (by omega)
    refine ⟨?_, ?_⟩
    · rw [spec_WhenSteady.f, mpGood_eq l hl (by omega), hm, Option.bind_some, if_pos rfl, h1 k (by omega), Option.bind_some]
      exact a1
    · rw [impl_WhenSteady.f, IsMap_eq l hl, hm, Option.bind_some, if_pos rfl, cycles_eq g3 g2 (by omega), Option.bind_some]
      exact a2
end Go.Proofs.YtcaohpcbohdkbaaGreatC
end
section
namespace Go.Proofs.YtcaohpcbohdkbaaGreatC
open Go.RowKit Go.Proofs.YtcaohpcbohdkbaaGreatW.PrintWords Go.Proofs.YtcaohpcbohdkbaaGreatW.PrintMore
set_option linter.unusedVariables false
def spec_mpPower.l0 : Nat → List Int → Int → List Int → Int → Int → Option (List Int)
  | 0, _, _, _, _, _ => none
  | k + 1, x0, x1, x5, x8, x9 => if x9 < x8 then ((spec_mpAt.f k x0 x9 x1).bind fun t136 => (if x5.length < 17592186044416 then (spec_mpPower.l0 k x0 x1 (x5 ++ [t136]) x8 (wrap64 (x9 + 1))) else (none))) else (some x5)
def spec_mpPower.f (k : Nat) (l0 : List Int) (a1 : Int) : Option (List Int) := spec_mpPower.l0 k l0 a1 ([] : List Int) (l0.length : Int) 0
def spec_l1Put.l0 : Nat → List Int → Int → Int → Option (List Int)
  | 0, _, _, _ => none
  | k + 1, x0, x1, x5 => if x5 < (x0.length : Int) then (if 0 ≤ x5 then (if (rd x0 x5) < x1 then (spec_l1Put.l0 k x0 x1 (wrap64 (x5 + 1))) else (if (rd x0 x5) = x1 then (some x0) else ((some (([] : List Int) : List Int)).bind fun y142 => (if x5 ≤ (x0.length : Int) then ((some (x0.take (x5 : Int).toNat : List Int)).bind fun y145 => (if y142.length + y145.length < 17592186044416 then ((some (y142 ++ y145 : List Int)).bind fun y149 => (if y149.length < 17592186044416 then ((some (y149 ++ [x1] : List Int)).bind fun y152 => ((some (x0.drop (x5 : Int).toNat : List Int)).bind fun y155 => (if y152.length + y155.length < 17592186044416 then (some (y152 ++ y155)) else (none)))) else (none))) else (none))) else (none))))) else (none)) else ((some (([] : List Int) : List Int)).bind fun y162 => (if 0 ≤ x5 then (if x5 ≤ (x0.length : Int) then ((some (x0.take (x5 : Int).toNat : List Int)).bind fun y165 => (if y162.length + y165.length < 17592186044416 then ((some (y162 ++ y165 : List Int)).bind fun y169 => (if y169.length < 17592186044416 then ((some (y169 ++ [x1] : List Int)).bind fun y172 => ((some (x0.drop (x5 : Int).toNat : List Int)).bind fun y175 => (if y172.length + y175.length < 17592186044416 then (some (y172 ++ y175)) else (none)))) else (none))) else (none))) else (none)) else (none)))
def spec_l1Put.f (k : Nat) (l0 : List Int) (a1 : Int) : Option (List Int) := spec_l1Put.l0 k l0 a1 0
mutual
def spec_ImagesOf.l0 : Nat → List Int → List Int → Int → Option (List Int × Bool)
  | 0, _, _, _ => none
  | k + 1, x0, x4, x5 => (spec_mpDeepest.f k x0).bind fun t183 => (if x5 ≤ t183 then ((spec_mpPower.f k x0 x5).bind fun t184 => (spec_ImagesOf.l1 k x0 x4 x5 ([] : List Int) t184 (t184.length : Int) 0)) else (some (x4, true)))
def spec_ImagesOf.l1 : Nat → List Int → List Int → Int → List Int → List Int → Int → Int → Option (List Int × Bool)
  | 0, _, _, _, _, _, _, _ => none
  | k + 1, x0, x4, x5, x6, x20, x21, x22 => if x22 < x21 then (if 0 ≤ x22 then (if x22 < (x20.length : Int) then ((spec_l1Put.f k x6 (rd x20 x22)).bind fun t188 => (spec_ImagesOf.l1 k x0 x4 x5 t188 x20 x21 (wrap64 (x22 + 1)))) else (none)) else (none)) else (if x4.length < 17592186044416 then (spec_ImagesOf.l0 k x0 (x4 ++ [(x6.length : Int)]) (wrap64 (x5 + 1))) else (none))
end
def spec_ImagesOf.f (k : Nat) (l0 : List Int) : Option (List Int × Bool) := (spec_mpGood.f k l0).bind fun t182 => (if t182 = true then (spec_ImagesOf.l0 k l0 ([] : List Int) 0) else (some (([] : List Int), false)))
def slices_Sort_int_int.f (l0 : List Int) : Option (List Int) := if l0.length < 4611686018427387904 then some (l0.mergeSort fun x y => decide (x ≤ y)) else none
def slices_Compact_int_int.f (l0 : List Int) : Option (List Int) := if l0.length < 4611686018427387904 then some (Lib.compact l0) else none
def impl_ImagesOf.l0 : Nat → List Int → List Int → Int → Int → Option (List Int × Bool)
  | 0, _, _, _, _ => none
  | k + 1, x0, x4, x14, x15 => if x15 < x14 then ((impl_power.f k x0 x15).bind fun t256 => ((slices_Sort_int_int.f t256).bind fun t259 => ((slices_Compact_int_int.f t259).bind fun t260 => (if x4.length < 17592186044416 then (impl_ImagesOf.l0 k x0 (x4 ++ [(t260.length : Int)]) x14 (wrap64 (x15 + 1))) else (none))))) else (some (x4, true))
def impl_ImagesOf.f (k : Nat) (l0 : List Int) : Option (List Int × Bool) := (impl_IsMap.f l0).bind fun t248 => (if t248 = true then ((impl_depths.f k l0).bind fun t252 => ((slices_Max_int_int.f k t252).bind fun t255 => (impl_ImagesOf.l0 k l0 (([] : List Int)) (wrap64 (t255 + 1)) 0))) else (some (([] : List Int), false)))
mutual
def laws_FnExactImagesOf.j0 : Nat → List Int → List Int → Bool → List Int → List Int → Bool → Bool → Option (Bool)
  | 0, _, _, _, _, _, _, _ => none
  | k + 1, x0, x3, x4, x5, x6, x7, x37 => if x37 = true then (some false) else ((laws_toIntS.f k x0).bind fun t282 => ((laws_eqIntS.f k x5 t282).bind fun t285 => (if t285 = true then ((laws_markIntS.f k x5 1).bind fun bt286 => (if bt286.1 < 0 then (laws_FnExactImagesOf.j1 k x0 x3 x4 x6 true) else ((laws_eqIntS.f k x6 x3).bind fun t288 => (if t288 = true then (laws_FnExactImagesOf.j1 k x0 x3 x4 x6 (x7 != x4)) else (laws_FnExactImagesOf.j1 k x0 x3 x4 x6 true))))) else (some false))))
def laws_FnExactImagesOf.j1 : Nat → List Int → List Int → Bool → List Int → Bool → Option (Bool)
  | 0, _, _, _, _, _ => none
  | k + 1, x0, x3, x4, x6, x58 => if x58 = true then (some false) else ((laws_markIntS.f k x6 1).bind fun bt289 => ((laws_heldIntS.f k bt289.2 1).bind fun t291 => (if t291 < 0 then (some false) else (if t291 = bt289.1 then ((laws_toIntS.f k x0).bind fun t292 => ((impl_ImagesOf.f k t292).bind fun bt295 => ((laws_eqIntS.f k bt295.1 x3).bind fun t299 => (if t299 = true then (laws_FnExactImagesOf.j2 k bt289.2 bt289.1 (bt295.2 != x4)) else (laws_FnExactImagesOf.j2 k bt289.2 bt289.1 true))))) else (some false)))))
def laws_FnExactImagesOf.j2 : Nat → List Int → Int → Bool → Option (Bool)
  | 0, _, _, _ => none
  | k + 1, x6, x9, x84 => if x84 = true then (some false) else ((laws_heldIntS.f k x6 1).bind fun t300 => (if t300 < 0 then (some false) else (if t300 = x9 then (some true) else (some false))))
end
def laws_FnExactImagesOf.f (k : Nat) (l0 : List Int) : Option (Bool) := if (l0.length : Int) > 1048576 then (some true) else ((laws_toIntS.f k l0).bind fun t267 => ((spec_ImagesOf.f k t267).bind fun bt270 => ((laws_toIntS.f k l0).bind fun t274 => ((impl_ImagesOf.f k t274).bind fun bt277 => ((laws_eqIntS.f k bt277.1 bt270.1).bind fun t281 => (if t281 = true then (laws_FnExactImagesOf.j0 k l0 bt270.1 bt270.2 t274 bt277.1 bt277.2 (bt277.2 != bt270.2)) else (laws_FnExactImagesOf.j0 k l0 bt270.1 bt270.2 t274 bt277.1 bt277.2 true)))))))
def laws_FnExactImagesOf.Pure : Prop := ∀ (l0 : List Int), l0.length ≤ maxLen → l0.length * 8 ≤ 140737488351232 → (∀ x ∈ l0, (Lit.int .i64 x).wf = true) → ∃ k, laws_FnExactImagesOf.f k l0 = some true
end Go.Proofs.YtcaohpcbohdkbaaGreatC
end
section
namespace Go.Proofs.YtcaohpcbohdkbaaGreatC
open Go.RowKit Go.Proofs.YtcaohpcbohdkbaaGreatW.PrintWords Go.Proofs.YtcaohpcbohdkbaaGreatW.PrintMore
set_option linter.unusedSimpArgs false
set_option linter.unusedVariables false
theorem sorted_ext : ∀ (a b : List Int), a.Pairwise (· < ·) → b.Pairwise (· < ·) → (∀ z, z ∈ a ↔ z ∈ b) → a = b
  | [], [], _, _, _ => rfl
  | [], y :: b, _, _, h => absurd ((h y).2 (by simp)) (by simp)
  | x :: a, [], _, _, h => absurd ((h x).1 (by simp)) (by simp)
  | x :: a, y :: b, ha, hb, h => by
    have ha' := List.pairwise_cons.1 ha
    have hb' := List.pairwise_cons.1 hb
    have e : x = y := by
      rcases List.mem_cons.1 ((h x).1 (by simp)) with e | e
      · exact e
      · rcases List.mem_cons.1 ((h y).2 (by simp)) with e2 | e2
        · exact e2.symm
        · have := hb'.1 x e
          have := ha'.1 y e2
          omega
    subst e
    rw [sorted_ext a b ha'.2 hb'.2 (fun z => ?_)]
    constructor
    · intro hz
      rcases List.mem_cons.1 ((h z).1 (by simp [hz])) with e | e
      · subst e; exact absurd (ha'.1 _ hz) (by omega)
      · exact e
    · intro hz
      rcases List.mem_cons.1 ((h z).2 (by simp [hz])) with e | e
      · subst e; exact absurd (hb'.1 _ hz) (by omega)
      · exact e
theorem compact_upto (zs : List Int) (hs : zs.Pairwise (· ≤ ·)) : ∀ m, m ≤ zs.length → (Lib.compactUpTo zs.toArray m).Pairwise (· < ·) ∧ (∀ x, x ∈ Lib.compactUpTo zs.toArray m ↔ x ∈ zs.take m)
  | 0, _ => by simp [Lib.compactUpTo]
  | m + 1, hm => by
    obtain ⟨h1, h2⟩ := compact_upto zs hs m (by omega)
    have hml : m < zs.length := by omega
    have e1 : zs.toArray[m]! = zs[m] := by simp [hml]
    have ht : zs.take (m + 1) = zs.take m ++ [zs[m]] := List.take_succ_eq_append_getElem hml
    rw [Lib.compactUpTo_succ, e1, ht]
    by_cases hk : Lib.keeps zs.toArray m = true
    · rw [if_pos hk]
      refine ⟨List.pairwise_append.2 ⟨h1, by simp, fun a ha b hb => ?_⟩, fun x => by rw [List.mem_append, List.mem_append, h2 x]⟩
      rw [List.mem_singleton.1 hb]
      have ha' := (h2 a).1 ha
      obtain ⟨j, hj, rfl⟩ := List.getElem_of_mem ha'
      rw [List.length_take] at hj
      rw [List.getElem_take]
      have hm0 : ¬ m = 0 := by omega
      have hne : zs[m] ≠ zs[m - 1] := by
        intro e
        simp [Lib.keeps, hm0, hml, show m - 1 < zs.length by omega, e] at hk
      have hle := List.pairwise_iff_getElem.1 hs (m - 1) m (by omega) hml (by omega)
      by_cases hj2 : j = m - 1
      · subst hj2; omega
      · have := List.pairwise_iff_getElem.1 hs j (m - 1) (by omega) (by omega) (by omega)
        omega
    · rw [if_neg hk, List.append_nil]
      refine ⟨h1, fun x => ?_⟩
      rw [h2 x, List.mem_append, List.mem_singleton]
      constructor
      · exact .inl
      · rintro (h | rfl)
        · exact h
        · have hm0 : m ≠ 0 := by
            rintro rfl
            exact hk (by simp [Lib.keeps])
          have he : zs[m] = zs[m - 1] := by
            rcases Classical.em (zs[m] = zs[m - 1]) with e | e
            · exact e
            · exact absurd (by simp [Lib.keeps, hml, show m - 1 < zs.length by omega, e]) hk
          rw [he]
          exact List.mem_take_iff_getElem.2 ⟨m - 1, by omega, rfl⟩
theorem compact_sorted (zs : List Int) (hs : zs.Pairwise (· ≤ ·)) : (Lib.compact zs).Pairwise (· < ·) ∧ ∀ x, x ∈ Lib.compact zs ↔ x ∈ zs := by
  obtain ⟨h1, h2⟩ := compact_upto zs hs zs.length (Nat.le_refl _)
  exact ⟨h1, fun x => by rw [show Lib.compact zs = Lib.compactUpTo zs.toArray zs.length from rfl, h2 x, List.take_length]⟩
theorem mergeSort_le (l : List Int) : (l.mergeSort fun x y => decide (x ≤ y)).Pairwise (· ≤ ·) := by
  have h := List.pairwise_mergeSort (le := fun x y : Int => decide (x ≤ y)) (fun a b c h1 h2 => by simp only [decide_eq_true_eq] at *; omega) (fun a b => by simp only [Bool.or_eq_true, decide_eq_true_eq]; omega) l
  exact h.imp (fun h => of_decide_eq_true h)
def dist (l : List Int) : List Int := Lib.compact (l.mergeSort fun x y => decide (x ≤ y))
theorem dist_sorted (l : List Int) : (dist l).Pairwise (· < ·) := (compact_sorted _ (mergeSort_le l)).1
theorem dist_mem (l : List Int) (x : Int) : x ∈ dist l ↔ x ∈ l := by
  unfold dist
  rw [(compact_sorted _ (mergeSort_le l)).2 x, List.mem_mergeSort]
theorem dist_le (l : List Int) : (dist l).length ≤ l.length := by
  unfold dist Lib.compact Lib.compactUpTo
  rw [List.length_map]
  refine Nat.le_trans (List.length_filter_le _ _) ?_
  simp
theorem l1Put_loop {s : List Int} {y : Int} (hs : s.Pairwise (· < ·)) (hl : s.length ≤ 1000) : ∀ (d j : Nat), j + d = s.length → (∀ q (h : q < s.length), q < j → s[q] < y) →
    ∃ s' : List Int, s'.Pairwise (· < ·) ∧ (∀ z, z ∈ s' ↔ z ∈ s ∨ z = y) ∧ s'.length ≤ s.length + 1 ∧ ∀ k, d < k → spec_l1Put.l0 k s y (j : Int) = some s'
  | 0, j, hj, hq => by
    obtain rfl : j = s.length := by omega
    have hlt : ∀ a ∈ s, a < y := fun a ha => by
      obtain ⟨q, h, rfl⟩ := List.getElem_of_mem ha
      exact hq q h h
    refine ⟨s ++ [y], List.pairwise_append.2 ⟨hs, by simp, fun a ha b hb => by rw [List.mem_singleton.1 hb]; exact hlt a ha⟩, fun z => by simp, by simp, fun k hk => ?_⟩
    obtain ⟨k, rfl⟩ : ∃ q, k = q + 1 := ⟨k - 1, by omega⟩
    rw [spec_l1Put.l0, if_neg (by omega), Option.bind_some, if_pos (by omega), if_pos (by omega), Option.bind_some, if_pos (by simp; omega), Option.bind_some, if_pos (by simp; omega), Option.bind_some, Option.bind_some, if_pos (by simp; omega)]
    simp
  | d + 1, j, hj, hq => by
    have hjl : j < s.length := by omega
    by_cases h1 : s[j] < y
    · obtain ⟨s', a1, a2, a3, a4⟩ := l1Put_loop hs hl d (j + 1) (by omega) (fun q h hqj => by
        by_cases e : q = j
        · subst e; exact h1
        · exact hq q h (by omega))
      refine ⟨s', a1, a2, a3, fun k hk => ?_⟩
      obtain ⟨k, rfl⟩ : ∃ q, k = q + 1 := ⟨k - 1, by omega⟩
      rw [spec_l1Put.l0, if_pos (by omega), if_pos (by omega), rd_get hjl, if_pos h1, w64s (by omega)]
      exact a4 k (by omega)
    · by_cases h2 : s[j] = y
      · refine ⟨s, hs, fun z => ⟨.inl, ?_⟩, by omega, fun k hk => ?_⟩
        · rintro (h | rfl)
          · exact h
          · rw [← h2]; exact List.getElem_mem hjl
        · obtain ⟨k, rfl⟩ : ∃ q, k = q + 1 := ⟨k - 1, by omega⟩
          rw [spec_l1Put.l0, if_pos (by omega), if_pos (by omega), rd_get hjl, if_neg h1, if_pos h2]
      · have hlo : ∀ a ∈ s.take j, a < y := fun a ha => by
          obtain ⟨q, h, rfl⟩ := List.getElem_of_mem ha
          rw [List.length_take] at h
          rw [List.getElem_take]
          exact hq q (by omega) (by omega)
        have hhi : ∀ a ∈ s.drop j, y < a := fun a ha => by
          obtain ⟨q, h, rfl⟩ := List.getElem_of_mem ha
          rw [List.length_drop] at h
          rw [List.getElem_drop]
          by_cases e : q = 0
          · subst e; simp only [Nat.add_zero]; omega
          · have := List.pairwise_iff_getElem.1 hs j (j + q) hjl (by omega) (by omega)
            omega
        refine ⟨s.take j ++ [y] ++ s.drop j, ?_, fun z => ?_, by simp; omega, fun k hk => ?_⟩
        · refine List.pairwise_append.2 ⟨List.pairwise_append.2 ⟨hs.sublist (List.take_sublist _ _), by simp, fun a ha b hb => by rw [List.mem_singleton.1 hb]; exact hlo a ha⟩, hs.sublist (List.drop_sublist _ _), fun a ha b hb => ?_⟩
          rcases List.mem_append.1 ha with ha | ha
          · have := hlo a ha; have := hhi b hb; omega
          · rw [List.mem_singleton.1 ha]; exact hhi b hb
        · conv => rhs; rw [← List.take_append_drop j s]
          simp only [List.mem_append, List.mem_singleton]
          constructor
          · rintro ((h | h) | h)
            · exact .inl (.inl h)
            · exact .inr h
            · exact .inl (.inr h)
          · rintro ((h | h) | h)
            · exact .inl (.inl h)
            · exact .inr h
            · exact .inl (.inr h)
        · obtain ⟨k, rfl⟩ : ∃ q, k = q + 1 := ⟨k - 1, by omega⟩
          rw [spec_l1Put.l0, if_pos (by omega), if_pos (by omega), rd_get hjl, if_neg h1, if_neg h2, Option.bind_some, if_pos (by omega), Option.bind_some, if_pos (by simp; omega), Option.bind_some, if_pos (by simp; omega), Option.bind_some, Option.bind_some, if_pos (by simp; omega)]
          simp
theorem l1Put_eq {s : List Int} (hs : s.Pairwise (· < ·)) (hl : s.length ≤ 1000) (y : Int) : ∃ s' : List Int, s'.Pairwise (· < ·) ∧ (∀ z, z ∈ s' ↔ z ∈ s ∨ z = y) ∧ s'.length ≤ s.length + 1 ∧ ∀ k, s.length < k → spec_l1Put.f k s y = some s' :=
  l1Put_loop hs hl s.length 0 (by omega) (fun _ _ h => absurd h (by omega))
theorem Max_is {xs : List Int} : ∀ (k j : Nat) (m r : Int), j ≤ 1000 → xs.length ≤ 1000 → slices_Max_int_int.l0 k xs m (j : Int) = some r → m ≤ r ∧ (r = m ∨ r ∈ xs) ∧ ∀ q (h : q < xs.length), j ≤ q → xs[q] ≤ r
  | 0, _, _, _, _, _, h => by rw [slices_Max_int_int.l0] at h; cases h
  | k + 1, j, m, r, hj, hx, h => by
    rw [slices_Max_int_int.l0] at h
    by_cases c : (j : Int) < (xs.length : Int)
    · have hjl : j < xs.length := by omega
      rw [if_pos c, if_pos (by omega), w64s (by omega), rd_get hjl] at h
      obtain ⟨h1, h2, h3⟩ := Max_is k (j + 1) _ r (by omega) hx h
      have hm : m ≤ mx m xs[j] ∧ xs[j] ≤ mx m xs[j] ∧ (mx m xs[j] = m ∨ mx m xs[j] = xs[j]) := by
        unfold mx
        split <;> omega
      refine ⟨by omega, ?_, fun q hq hjq => ?_⟩
      · rcases h2 with h2 | h2
        · rcases hm.2.2 with e | e
          · exact .inl (h2.trans e)
          · exact .inr (by rw [h2, e]; exact List.getElem_mem hjl)
        · exact .inr h2
      · by_cases e : q = j
        · subst e; omega
        · exact h3 q hq (by omega)
    · rw [if_neg c] at h
      obtain rfl := Option.some.inj h
      exact ⟨Int.le_refl _, .inl rfl, fun q hq hjq => absurd hq (by omega)⟩
structure IsDeep (l : List Int) (m : Nat) : Prop where
  le : ∀ i, i < l.length → rA l (i : Int) ≤ m
  at_ : ∃ i, i < l.length ∧ rA l (i : Int) = m
theorem deep_eq {l : List Int} (h : MapL l) (h1 : 0 < l.length) (h60 : l.length ≤ 60) : ∃ (K m : Nat), IsDeep l m ∧ ∀ k, K ≤ k → spec_mpDeepest.f k l = some (m : Int) ∧ ((impl_depths.f k l).bind fun t234 => slices_Max_int_int.f k t234) = some (m : Int) := by
  obtain ⟨K, r, hr⟩ := deep_both h h1 h60
  have h2 := (hr (K + 200) (by omega)).2
  rw [depths_eq h h60 (by omega), Option.bind_some, slices_Max_int_int.f, if_neg (by rw [upTo_length]; omega), if_pos (by rw [upTo_length]; omega)] at h2
  have hl := upTo_length (dep l) l.length
  obtain ⟨a1, a2, a3⟩ := Max_is _ 1 _ r (by omega) (by omega) h2
  have e0 : rd (upTo (dep l) l.length) 0 = (rA l ((0 : Nat) : Int) : Int) := upTo_at (dep l) h1
  rw [e0] at a1 a2
  have hmem : ∃ i, i < l.length ∧ r = (rA l (i : Int) : Int) := by
    rcases a2 with e | e
    · exact ⟨0, h1, e⟩
    · simp only [upTo, List.mem_map, List.mem_range] at e
      obtain ⟨i, hi, rfl⟩ := e
      exact ⟨i, hi, rfl⟩
  obtain ⟨i, hi, rfl⟩ := hmem
  refine ⟨K, rA l (i : Int), ⟨fun j hj => ?_, i, hi, rfl⟩, hr⟩
  by_cases e : j = 0
  · subst e; exact Int.ofNat_le.1 a1
  · have := a3 j (by omega) (by omega)
    simp only [upTo, List.getElem_map, List.getElem_range, dep] at this
    exact Int.ofNat_le.1 this
theorem IsDeep.lt {l : List Int} (h : MapL l) {m : Nat} (hd : IsDeep l m) : m < l.length := by
  obtain ⟨i, hi, rfl⟩ := hd.at_
  have h2 := rA_lt h (x := (i : Int)) ⟨by omega, by omega⟩
  have h3 := per_pos h (x := (i : Int)) ⟨by omega, by omega⟩
  omega
theorem mpPower_loop {l : List Int} (h : MapL l) (hl : l.length ≤ 60) (n : Nat) (hn : n ≤ 1000) : ∀ (d i k : Nat), i + d = l.length → n + d < k → spec_mpPower.l0 k l (n : Int) (upTo (pw l n) i) (l.length : Int) (i : Int) = some (upTo (pw l n) l.length)
  | 0, i, k, hi, hk => by
    obtain ⟨k, rfl⟩ : ∃ q, k = q + 1 := ⟨k - 1, by omega⟩
    obtain rfl : i = l.length := by omega
    rw [spec_mpPower.l0, if_neg (by omega)]
  | d + 1, i, k, hi, hk => by
    obtain ⟨k, rfl⟩ : ∃ q, k = q + 1 := ⟨k - 1, by omega⟩
    rw [spec_mpPower.l0, if_pos (by omega), at_eq h ⟨by omega, by omega⟩ n (by omega) (by omega), Option.bind_some, if_pos (by rw [upTo_length]; omega), w64s (by omega)]
    have := mpPower_loop h hl n hn d (i + 1) k (by omega) (by omega)
    rw [upTo_succ] at this
    exact this
theorem mpPower_eq {l : List Int} (h : MapL l) (hl : l.length ≤ 60) (n : Nat) (hn : n ≤ 1000) {k : Nat} (hk : n + l.length < k) : spec_mpPower.f k l (n : Int) = some (upTo (pw l n) l.length) := mpPower_loop h hl n hn l.length 0 k (by omega) (by omega)
theorem Images_l1 (l x4 xs : List Int) (x5 : Int) (hx : xs.length ≤ 60) : ∀ (d j : Nat) (s : List Int), j + d = xs.length → s.Pairwise (· < ·) → s.length ≤ j → ∃ s' : List Int, s'.Pairwise (· < ·) ∧ (∀ z, z ∈ s' ↔ z ∈ s ∨ z ∈ xs.drop j) ∧
    ∀ k, 100 ≤ k → spec_ImagesOf.l1 (k + d + 1) l x4 x5 s xs (xs.length : Int) (j : Int) = if x4.length < 17592186044416 then spec_ImagesOf.l0 k l (x4 ++ [(s'.length : Int)]) (wrap64 (x5 + 1)) else none
  | 0, j, s, hj, hs, hsl => by
    refine ⟨s, hs, fun z => by rw [List.drop_eq_nil_of_le (by omega)]; simp, fun k hk => ?_⟩
    rw [spec_ImagesOf.l1, if_neg (by omega)]
  | d + 1, j, s, hj, hs, hsl => by
    have hjl : j < xs.length := by omega
    obtain ⟨t, t1, t2, t3, t4⟩ := l1Put_eq hs (by omega) xs[j]
    obtain ⟨s', a1, a2, a3⟩ := Images_l1 l x4 xs x5 hx d (j + 1) t (by omega) t1 (by omega)
    refine ⟨s', a1, fun z => ?_, fun k hk => ?_⟩
    · rw [a2 z, t2 z, List.drop_eq_getElem_cons hjl, List.mem_cons]
      constructor
      · rintro ((h | h) | h)
        · exact .inl h
        · exact .inr (.inl h)
        · exact .inr (.inr h)
      · rintro (h | h | h)
        · exact .inl (.inl h)
        · exact .inl (.inr h)
        · exact .inr h
    · rw [show k + (d + 1) + 1 = (k + d + 1) + 1 by omega, spec_ImagesOf.l1, if_pos (by omega), if_pos (by omega), if_pos (by omega), rd_get hjl, t4 _ (by omega), Option.bind_some, w64s (by omega)]
      exact a3 k hk
def img (l : List Int) (t : Nat) : Int := ((dist (upTo (pw l t) l.length)).length : Int)
theorem Images_loop {l : List Int} (h : MapL l) (h60 : l.length ≤ 60) {m : Nat} (hm : IsDeep l m) {K0 : Nat} (hK : ∀ k, K0 ≤ k → spec_mpDeepest.f k l = some (m : Int)) : ∀ (d i : Nat), i + d = m + 1 → ∃ K, ∀ k, K ≤ k →
    spec_ImagesOf.l0 k l (upTo (img l) i) (i : Int) = some (upTo (img l) (m + 1), true) ∧ impl_ImagesOf.l0 k l (upTo (img l) i) ((m + 1 : Nat) : Int) (i : Int) = some (upTo (img l) (m + 1), true)
  | 0, i, hi => by
    refine ⟨K0 + 1, fun k hk => ?_⟩
    obtain ⟨k, rfl⟩ : ∃ q, k = q + 1 := ⟨k - 1, by omega⟩
    obtain rfl : i = m + 1 := by omega
    exact ⟨by rw [spec_ImagesOf.l0, hK k (by omega), Option.bind_some, if_neg (by omega)], by rw [impl_ImagesOf.l0, if_neg (by omega)]⟩
  | d + 1, i, hi => by
    obtain ⟨K, hK2⟩ := Images_loop h h60 hm hK d (i + 1) (by omega)
    have hml := hm.lt h
    obtain ⟨xs, hxs⟩ : ∃ xs, xs = upTo (pw l i) l.length := ⟨_, rfl⟩
    have hxl : xs.length = l.length := by rw [hxs, upTo_length]
    have hul := upTo_length (img l) i
    obtain ⟨s', a1, a2, a3⟩ := Images_l1 l (upTo (img l) i) xs (i : Int) (by omega) xs.length 0 [] (by omega) (by simp) (by simp)
    have hs' : s' = dist xs := sorted_ext _ _ a1 (dist_sorted xs) (fun z => by rw [a2 z, dist_mem]; simp)
    refine ⟨K + K0 + 1000, fun k hk => ⟨?_, ?_⟩⟩
    · obtain ⟨k, rfl⟩ : ∃ q, k = (q + xs.length + 1) + 1 := ⟨k - xs.length - 2, by omega⟩
      rw [spec_ImagesOf.l0, hK _ (by omega), Option.bind_some, if_pos (by omega), mpPower_eq h h60 i (by omega) (by omega), Option.bind_some, ← hxs]
      have := a3 k (by omega)
      rw [show ((0 : Nat) : Int) = 0 from rfl] at this
      rw [this, if_pos (by omega), w64s (by omega), hs', hxs]
      have h2 := (hK2 k (by omega)).1
      rw [upTo_succ] at h2
      exact h2
    · obtain ⟨k, rfl⟩ : ∃ q, k = q + 1 := ⟨k - 1, by omega⟩
      rw [impl_ImagesOf.l0, if_pos (by omega), power_eq h h60 i (by omega) (by omega), Option.bind_some, ← hxs, slices_Sort_int_int.f, if_pos (by omega), Option.bind_some, slices_Compact_int_int.f, if_pos (by rw [List.length_mergeSort]; omega), Option.bind_some, if_pos (by omega), w64s (by omega)]
      have h2 := (hK2 k (by omega)).2
      rw [upTo_succ] at h2
      rw [show ((Lib.compact (xs.mergeSort fun x y => decide (x ≤ y))).length : Int) = img l i from by rw [hxs]; rfl]
      exact h2
theorem ImagesOf_eq {l : List Int} (h : MapL l) (h1 : 0 < l.length) (h60 : l.length ≤ 60) (hm : isMapB l = true) : ∃ (K m : Nat), IsDeep l m ∧ ∀ k, K ≤ k → spec_ImagesOf.f k l = some (upTo (img l) (m + 1), true) ∧ impl_ImagesOf.f k l = some (upTo (img l) (m + 1), true) := by
  obtain ⟨K0, m, hd, hK⟩ := deep_eq h h1 h60
  obtain ⟨K1, h2⟩ := Images_loop h h60 hd (fun k hk => (hK k hk).1) (m + 1) 0 (by omega)
  have hml := hd.lt h
  refine ⟨K0 + K1 + 1000, m, hd, fun k hk => ⟨?_, ?_⟩⟩
  · rw [spec_ImagesOf.f, mpGood_eq l (by omega) (by omega), hm, Option.bind_some, if_pos rfl]
    exact (h2 k (by omega)).1
  · have h3 := (hK k (by omega)).2
    rw [impl_ImagesOf.f, IsMap_eq l (by omega), hm, Option.bind_some, if_pos rfl]
    rw [depths_eq h h60 (by omega), Option.bind_some] at h3 ⊢
    rw [h3, Option.bind_some, w64s (by omega)]
    exact (h2 k (by omega)).2
end Go.Proofs.YtcaohpcbohdkbaaGreatC
end
section
namespace Go.Proofs.YtcaohpcbohdkbaaGreatC
open Go.RowKit Go.Proofs.YtcaohpcbohdkbaaGreatW.PrintWords Go.Proofs.YtcaohpcbohdkbaaGreatW.PrintMore
set_option linter.unusedVariables false
def spec_CyclesOfMap.f (k : Nat) (l0 : List Int) : Option ((List (List Int)) × Bool) := (spec_mpGood.f k l0).bind fun t138 => (if t138 = true then ((spec_mpCycles.f k l0).bind fun t139 => (some (t139, true))) else (some (([] : List (List Int)), false)))
def impl_CyclesOfMap.f (k : Nat) (l0 : List Int) : Option ((List (List Int)) × Bool) := (impl_IsMap.f l0).bind fun t197 => (if t197 = true then ((impl_cycles.f k l0).bind fun t198 => (some (t198, true))) else (some (([] : List (List Int)), false)))
def laws_eqIntSS.l0 : Nat → List (List Int) → List (List Int) → Int → Option (Bool)
  | 0, _, _, _ => none
  | k + 1, x0, x1, x5 => if x5 < (x0.length : Int) then (if 0 ≤ x5 then (if x5 < (x1.length : Int) then ((laws_eqIntS.f k (rd_L2 x0 x5) (rd_L2 x1 x5)).bind fun t205 => (if t205 = true then (laws_eqIntSS.l0 k x0 x1 (wrap64 (x5 + 1))) else (some false))) else (none)) else (none)) else (some true)
def laws_eqIntSS.f (k : Nat) (l0 : List (List Int)) (l1 : List (List Int)) : Option (Bool) := if (l0.length : Int) = (l1.length : Int) then (laws_eqIntSS.l0 k l0 l1 0) else (some false)
def laws_markIntSS.l0 : Nat → List (List Int) → Int → Int → Option (Int × List (List Int))
  | 0, _, _, _ => none
  | k + 1, x0, x1, x2 => if x2 < (x0.length : Int) then (if 0 ≤ x2 then ((laws_markIntS.f k (rd_L2 x0 x2) x1).bind fun bt => (laws_markIntSS.l0 k (x0.set (x2 : Int).toNat bt.2) bt.1 (wrap64 (x2 + 1)))) else (none)) else (some (x1, x0))
def laws_markIntSS.f (k : Nat) (l0 : List (List Int)) (a1 : Int) : Option (Int × List (List Int)) := laws_markIntSS.l0 k l0 a1 0
def laws_heldIntSS.l0 : Nat → List (List Int) → Int → Int → Option (Int)
  | 0, _, _, _ => none
  | k + 1, x0, x1, x5 => if x5 < (x0.length : Int) then (if 0 ≤ x5 then ((laws_heldIntS.f k (rd_L2 x0 x5) x1).bind fun t209 => (if t209 < 0 then (some (-1)) else (laws_heldIntSS.l0 k x0 t209 (wrap64 (x5 + 1))))) else (none)) else (some x1)
def laws_heldIntSS.f (k : Nat) (l0 : List (List Int)) (a1 : Int) : Option (Int) := laws_heldIntSS.l0 k l0 a1 0
def laws_FnExactCyclesOfMap.f (k : Nat) (l0 : List Int) : Option Bool := if (l0.length : Int) > 1048576 then some true else (laws_toIntS.f k l0).bind fun t => (spec_CyclesOfMap.f k t).bind fun b1 => (impl_CyclesOfMap.f k t).bind fun b2 => (laws_eqIntSS.f k b2.1 b1.1).bind fun e1 => (laws_eqIntS.f k t t).bind fun e2 => (laws_markIntS.f k t 1).bind fun m1 => (laws_markIntSS.f k b2.1 1).bind fun m2 => (laws_heldIntSS.f k m2.2 1).bind fun q => if b2.2 = b1.2 ∧ e1 = true ∧ e2 = true ∧ 0 ≤ m1.1 ∧ 0 ≤ q ∧ q = m2.1 then some true else none
def laws_FnExactCyclesOfMap.Pure : Prop := ∀ (l0 : List Int), l0.length ≤ maxLen → l0.length * 8 ≤ 140737488351232 → (∀ x ∈ l0, (Lit.int .i64 x).wf = true) → ∃ k, laws_FnExactCyclesOfMap.f k l0 = some true
end Go.Proofs.YtcaohpcbohdkbaaGreatC
end
section
namespace Go.Proofs.YtcaohpcbohdkbaaGreatC
open Go.RowKit Go.Proofs.YtcaohpcbohdkbaaGreatW.PrintWords Go.Proofs.YtcaohpcbohdkbaaGreatW.PrintMore
set_option linter.unusedSimpArgs false
set_option linter.unusedVariables false
def tot : List (List Int) → Nat
  | [] => 0
  | r :: rs => r.length + tot rs
end Go.Proofs.YtcaohpcbohdkbaaGreatC
end
section
namespace Go.Proofs.YtcaohpcbohdkbaaGreatC
open Go.RowKit Go.Proofs.YtcaohpcbohdkbaaGreatW.PrintWords Go.Proofs.YtcaohpcbohdkbaaGreatW.PrintMore
set_option linter.unusedSimpArgs false
set_option linter.unusedVariables false
set_option linter.unusedSectionVars false
theorem rdm_at {l : List Int} {i : Nat} (h : i < l.length) : rd l (i : Int) = l[i] := by
  simp [rd, List.getD_eq_getElem?_getD, h]
theorem isMin_same {e : Int} {l m : List Int} (hs : ∀ z, z ∈ l ↔ z ∈ m) (h : IsMin e l) : IsMin e m := ⟨(hs e).1 h.mem, fun y hy => h.le y ((hs y).2 hy)⟩
theorem cycs_rise {l : List Int} (h : MapL l) : ∀ n, n ≤ l.length → (cycs l n).Pairwise (fun a c => rd a 0 < rd c 0)
  | 0, _ => by rw [cycs]; exact List.Pairwise.nil
  | n + 1, hn => by
    rw [cycs]
    refine List.pairwise_append.2 ⟨cycs_rise h n (by omega), ?_, ?_⟩
    · split
      · simp
      · exact List.Pairwise.nil
    · intro a ha c hc
      obtain ⟨i, hi, _, rfl⟩ := mem_cycs.1 ha
      split at hc
      · obtain rfl := List.mem_singleton.1 hc
        rw [cyL_first h ⟨by omega, by omega⟩, cyL_first h ⟨by omega, by omega⟩]
        omega
      · simp at hc
section
variable {l : List Int} (h : MapL l)
include h
theorem cycs_at {i : Nat} (hi : i < (cycs l l.length).length) : ∃ e : Nat, Has l (e : Int) ∧ lead l (e : Int) = true ∧ (cycs l l.length)[i] = cyL l (e : Int) ∧ rd (cycs l l.length)[i] 0 = (e : Int) := by
  obtain ⟨e, he, hl, hc⟩ := mem_cycs.1 (List.getElem_mem hi)
  have hx : Has l (e : Int) := ⟨by omega, by omega⟩
  exact ⟨e, hx, hl, hc, by rw [hc, cyL_first h hx]⟩
theorem head_lt {i j : Nat} (hj : j < (cycs l l.length).length) (hij : i < j) : rd ((cycs l l.length)[i]'(by omega)) 0 < rd (cycs l l.length)[j] 0 := List.pairwise_iff_getElem.1 (cycs_rise h l.length (Nat.le_refl _)) i j (by omega) hj hij
theorem head_inj {i j : Nat} (hi : i < (cycs l l.length).length) (hj : j < (cycs l l.length).length) (e : rd (cycs l l.length)[i] 0 = rd (cycs l l.length)[j] 0) : i = j := by
  rcases Nat.lt_trichotomy i j with h1 | h1 | h1
  · have := head_lt h hj h1; omega
  · exact h1
  · have := head_lt h hi h1; omega
end
def BasAt (l r : List Int) (q : Nat) : Prop := ∃ j, ∃ hj : j < (cycs l l.length).length, rd r (q : Int) = (j : Int) ∧ IsMin (rd (cycs l l.length)[j] 0) (cyL l (ent l (q : Int)))
structure Bas (l r : List Int) : Prop where
  len : r.length = l.length
  at_ : ∀ q, q < l.length → BasAt l r q
theorem rd_snoc_lt {r : List Int} {x : Int} {q : Nat} (h : q < r.length) : rd (r ++ [x]) (q : Int) = rd r (q : Int) := by
  rw [rdm_at (show q < (r ++ [x]).length by simp; omega), rdm_at h, List.getElem_append_left h]
theorem rd_snoc_eq {r : List Int} {x : Int} {q : Nat} (h : q = r.length) : rd (r ++ [x]) (q : Int) = x := by
  subst h
  rw [rdm_at (show r.length < (r ++ [x]).length by simp)]
  simp
theorem basins_loop2 {l : List Int} (h : MapL l) (hl : l.length ≤ 60) : ∀ (d i : Nat) (out : List Int), i + d = l.length → out.length = i → (∀ q, q < i → BasAt l out q) → ∃ (K : Nat) (r : List Int), Bas l r ∧ ∀ k, K ≤ k → spec_BasinsOf.l0 k l (cycs l l.length) out (l.length : Int) (i : Int) = some (r, true) ∧ ∀ k0, K ≤ k0 → basL k0 l (cycs l l.length) k out (i : Int) = some r
  | 0, i, out, hi, ho, hq => by
    refine ⟨1, out, ⟨by omega, fun q h1 => hq q (by omega)⟩, fun k hk => ?_⟩
    obtain ⟨k, rfl⟩ : ∃ q, k = q + 1 := ⟨k - 1, by omega⟩
    exact ⟨by rw [spec_BasinsOf.l0, if_neg (by omega)], fun k0 _ => by rw [basL, if_neg (by omega)]⟩
  | d + 1, i, out, hi, ho, hq => by
    have hx : Has l (i : Int) := ⟨by omega, by omega⟩
    obtain ⟨e1, e2, e3⟩ := ent_cyc h hx
    obtain ⟨e, he⟩ := isMin_exists (cyL l (ent l (i : Int))) (by obtain ⟨c, hc⟩ := cyL_cons h e1; rw [hc]; simp)
    obtain ⟨f1, f2⟩ := turned_first he
    obtain ⟨j, hj, h1, h2⟩ := basin_led h hx he
    have hcl := cycs_length l l.length
    obtain ⟨K, r, hr, hK⟩ := basins_loop2 h hl d (i + 1) (out ++ [(j : Int)]) (by omega) (by simp; omega) (fun q h3 => by
      by_cases hqi : q < i
      · obtain ⟨j', hj', a1, a2⟩ := hq q hqi
        exact ⟨j', hj', by rw [rd_snoc_lt (by omega)]; exact a1, a2⟩
      · obtain rfl : q = i := by omega
        exact ⟨j, hj, rd_snoc_eq ho.symm, by rw [h1]; exact he⟩)
    refine ⟨K + 500, r, hr, fun k hk => ⟨?_, fun k0 hk0 => ?_⟩⟩
    · obtain ⟨k, rfl⟩ : ∃ q, k = q + 200 + j + 1 + 1 := ⟨k - 202 - j, by omega⟩
      rw [spec_BasinsOf.l0, if_pos (by omega), at_eq h hx _ (by omega) (by omega), Option.bind_some]
      have := spec_Basins_l1 h hl hx he out (by omega) (l.length : Int) (i : Int) j hj h1 h2 j 0 k (by omega)
      rw [show ((0 : Nat) : Int) = 0 from rfl] at this
      rw [this, w64s (by omega)]
      exact (hK (k + 200) (by omega)).1
    · obtain ⟨k, rfl⟩ : ∃ q, k = q + 1 := ⟨k - 1, by omega⟩
      rw [basL, if_pos (by omega), cycleAt_eq h hl hx he (by omega), Option.bind_some, if_pos ⟨f2, by omega⟩, f1, idxL_at hj h1 h2, w64s (by omega)]
      exact (hK k (by omega)).2 k0 (by omega)
theorem BasinsOf_told {l : List Int} (hm : isMapB l = true) (hl : l.length ≤ 1048576) : ∃ (K : Nat) (r : List Int), Bas l r ∧ ∀ k, K ≤ k → spec_BasinsOf.f k l = some (r, true) ∧ impl_BasinsOf.f k l = some (r, true) := by
  obtain ⟨g1, g2, g3⟩ := isMap_range hm
  obtain ⟨K1, h1⟩ := mpCycles_eq (l := l) g3 g2
  obtain ⟨K2, r, hr, h2⟩ := basins_loop2 (l := l) g3 g2 l.length 0 [] (by omega) (by simp) (fun q hq => by omega)
  have hcl := cycs_length l l.length
  have hall : (cycs l l.length).length ≤ 1000 ∧ ∀ c ∈ cycs l l.length, 0 < c.length := ⟨by omega, fun c hc => by
    obtain ⟨i, hi, _, rfl⟩ := mem_cycs.1 hc
    rw [cyL_length]
    exact per_pos g3 ⟨by omega, by omega⟩⟩
  refine ⟨K1 + K2 + 2 * l.length + 10, r, hr, fun k hk => ?_⟩
  obtain ⟨a1, a2⟩ := h2 k (by omega)
  refine ⟨?_, ?_⟩
  · rw [spec_BasinsOf.f, mpGood_eq l hl (by omega), hm, Option.bind_some, if_pos rfl, h1 k (by omega), Option.bind_some]
    exact a1
  · have := a2 k (by omega)
    rw [show ((0 : Nat) : Int) = 0 from rfl] at this
    rw [impl_BasinsOf.f, IsMap_eq l hl, hm, Option.bind_some, if_pos rfl, cycles_eq g3 g2 (by omega), Option.bind_some, if_pos hall, this, Option.bind_some]
section
variable {l r : List Int} (h : MapL l) (hb : Bas l r)
include h hb
theorem on_cycle {i : Nat} (hi : i < (cycs l l.length).length) {j : Nat} (hj : j < (cycs l l.length)[i].length) :
    Has l (rd (cycs l l.length)[i] (j : Int)) ∧ rd l (rd (cycs l l.length)[i] (j : Int)) = rd (cycs l l.length)[i] (((j + 1) % (cycs l l.length)[i].length : Nat) : Int) ∧ rA l (rd (cycs l l.length)[i] (j : Int)) = 0 ∧
    rd r (rd (cycs l l.length)[i] (j : Int)) = (i : Int) ∧ rd (cycs l l.length)[i] 0 ≤ rd (cycs l l.length)[i] (j : Int) := by
  obtain ⟨e, hx, hle, hc, hh⟩ := cycs_at h hi
  have hcy := lead_cyc hle
  have hlen : (cycs l l.length)[i].length = per l (e : Int) := by rw [hc, cyL_length]
  have hpos := per_pos h hx
  have hrd : ∀ q : Nat, q < per l (e : Int) → rd (cycs l l.length)[i] (q : Int) = it (rd l) (e : Int) q := fun q hq => by
    rw [hc, rdm_at (show q < (cyL l (e : Int)).length by rw [cyL_length]; exact hq)]
    exact orbit_get _ _ _ _ _
  obtain ⟨hr1, hr2⟩ := cyc_round h hx hcy
  have hy : it (rd l) (e : Int) j ∈ cyL l (e : Int) := mem_orbit.2 ⟨j, by omega, rfl⟩
  obtain ⟨y1, y2, y3⟩ := cyL_has h hx hcy hy
  rw [hrd j (by omega), hh]
  refine ⟨y1, ?_, of_decide_eq_true y2, ?_, (lead_min h hx hle).le _ hy⟩
  · by_cases h1 : j + 1 < per l (e : Int)
    · rw [hlen, Nat.mod_eq_of_lt h1, hrd (j + 1) h1]
      rfl
    · have h2 : j + 1 = per l (e : Int) := by omega
      rw [hlen, h2, Nat.mod_self, hrd 0 hpos]
      have h3 : it (rd l) (e : Int) (j + 1) = (e : Int) := by rw [h2]; exact hr2
      exact h3
  · obtain ⟨x, hxe⟩ := Int.eq_ofNat_of_zero_le y1.1
    rw [hxe] at y1 y2 hy ⊢
    obtain ⟨j', hj', a1, a2⟩ := hb.at_ x (by have := y1.2; omega)
    rw [a1]
    rw [ent_self y2] at a2
    have a3 : IsMin (e : Int) (cyL l (x : Int)) := isMin_same (fun z => (cyL_same h hx hcy hy z).symm) (lead_min h hx hle)
    have a4 := a2.unique a3
    rw [← hh] at a4
    rw [head_inj h hj' hi a4]
theorem at_each {x : Int} (hx : Has l x) : ∃ j, ∃ hj : j < (cycs l l.length).length, rd r x = (j : Int) ∧ (cycs l l.length)[j].length = per l x ∧ rd r (rd l x) = (j : Int) := by
  have hy := rd_has h hx
  have key : ∀ z, z ∈ cyL l (ent l (rd l x)) ↔ z ∈ cyL l (ent l x) := by
    intro z
    obtain ⟨n1, n2⟩ := rA_next h hx
    by_cases ha : rA l x = 0
    · have hc : cyc l x = true := decide_eq_true ha
      rw [ent_self (cyc_next h hx hc), ent_self hc]
      exact cyL_same h hx hc ((mem_cyL h hx hc _).2 ⟨1, rfl⟩) z
    · have : ent l (rd l x) = ent l x := by
        unfold ent
        rw [n1]
        have := it_add (rd l) x 1 (rA l x - 1)
        rw [show 1 + (rA l x - 1) = rA l x from by omega] at this
        rw [this]
        rfl
      rw [this]
  obtain ⟨e1, e2, e3⟩ := ent_cyc h hx
  obtain ⟨n, hn⟩ := Int.eq_ofNat_of_zero_le hx.1
  obtain ⟨m, hm⟩ := Int.eq_ofNat_of_zero_le hy.1
  have hx' := hx
  have hy' := hy
  rw [hn] at hx'
  rw [hm] at hy'
  obtain ⟨j, hj, a1, a2⟩ := hb.at_ n (by have := hx'.2; omega)
  obtain ⟨j2, hj2, c1, c2⟩ := hb.at_ m (by have := hy'.2; omega)
  rw [← hn] at a1 a2
  rw [← hm] at c1 c2
  have h2 : j2 = j := head_inj h hj2 hj (IsMin.unique (isMin_same key c2) a2)
  subst h2
  refine ⟨j2, hj, a1, ?_, c1⟩
  obtain ⟨e, hex, hle, hc, hh⟩ := cycs_at h hj
  rw [hc, cyL_length]
  rw [hh] at a2
  rw [(cyL_has h e1 e2 a2.mem).2.2, e3]
end
section
variable {l : List Int} (h : MapL l)
include h
theorem upTo_mem {g : Nat → Int} {n : Nat} {z : Int} : z ∈ upTo g n ↔ ∃ i, i < n ∧ g i = z := by
  simp [upTo]
theorem same_length {a b : List Int} (ha : a.Nodup) (hb : b.Nodup) (hm : ∀ z, z ∈ a ↔ z ∈ b) : a.length = b.length := ((List.perm_ext_iff_of_nodup ha hb).2 hm).length_eq
theorem dist_nodup (xs : List Int) : (dist xs).Nodup := (dist_sorted xs).imp (fun hab => by omega)
theorem cast_nodup (p : Nat → Bool) (n : Nat) : (((List.range n).filter p).map (fun (y : Nat) => (y : Int))).Nodup := by
  have h1 : ((List.range n).filter p).Nodup := List.Pairwise.filter _ List.nodup_range
  rw [List.Nodup, List.pairwise_map]
  exact h1.imp (fun hab e => hab (Int.ofNat_inj.1 e))
theorem img_zero : img l 0 = (l.length : Int) := by
  unfold img
  have := same_length h (dist_nodup h (upTo (pw l 0) l.length)) (cast_nodup h (fun _ => true) l.length) (fun z => by
    rw [dist_mem, upTo_mem h]
    simp [pw]
    rfl)
  rw [this, List.length_map, List.filter_eq_self.2 (fun _ _ => rfl), List.length_range]
theorem img_one : img l 1 + ((ends l l.length).length : Int) = (l.length : Int) := by
  unfold img
  have h1 := same_length h (dist_nodup h (upTo (pw l 1) l.length)) (cast_nodup h (fun (y : Nat) => decide ((y : Int) ∈ l)) l.length) (fun z => by
    rw [dist_mem, upTo_mem h]
    simp only [List.mem_map, List.mem_filter, List.mem_range, decide_eq_true_eq]
    constructor
    · rintro ⟨i, hi, rfl⟩
      have hz : rd l (i : Int) ∈ l := by rw [rdm_at hi]; exact List.getElem_mem hi
      have hh := h _ hz
      obtain ⟨y, hy⟩ := Int.eq_ofNat_of_zero_le hh.1
      refine ⟨y, ⟨by omega, ?_⟩, ?_⟩
      · rw [← hy]; exact hz
      · rw [← hy]; rfl
    · rintro ⟨y, ⟨hy, hyl⟩, rfl⟩
      obtain ⟨i, hi, e⟩ := List.getElem_of_mem hyl
      exact ⟨i, hi, by rw [← e, ← rdm_at hi]; rfl⟩)
  rw [h1, List.length_map]
  unfold ends
  rw [List.length_map]
  have h2 := List.length_eq_countP_add_countP (fun (y : Nat) => decide ((y : Int) ∈ l)) (l := List.range l.length)
  rw [List.length_range, List.countP_eq_length_filter, List.countP_eq_length_filter] at h2
  have h3 : (List.range l.length).filter (fun (y : Nat) => decide (¬ (y : Int) ∈ l)) = (List.range l.length).filter (fun (a : Nat) => decide (¬ (decide ((a : Int) ∈ l)) = true)) := by
    refine List.filter_congr (fun y _ => ?_)
    simp
  rw [h3]
  omega
theorem flat_facts : ∀ n, n ≤ l.length → ((cycs l n).flatten).Nodup ∧ (∀ z, z ∈ (cycs l n).flatten ↔ ∃ i : Nat, i < n ∧ lead l (i : Int) = true ∧ z ∈ cyL l (i : Int)) ∧ ((cycs l n).flatten).length = tot (cycs l n)
  | 0, _ => by
    rw [cycs]
    exact ⟨by simp, fun z => by simp, rfl⟩
  | n + 1, hn => by
    obtain ⟨a1, a2, a3⟩ := flat_facts n (by omega)
    have tot_app : ∀ (a b : List (List Int)), tot (a ++ b) = tot a + tot b := by
      intro a b
      induction a with
      | nil => simp [tot]
      | cons x a ih => simp [tot, ih]; omega
    have hx : Has l (n : Int) := ⟨by omega, by omega⟩
    by_cases hl : lead l (n : Int) = true
    · rw [cycs, if_pos hl, List.flatten_append]
      have e1 : [cyL l (n : Int)].flatten = cyL l (n : Int) := by simp
      rw [e1]
      have hcy := lead_cyc hl
      refine ⟨?_, ?_, ?_⟩
      · refine List.nodup_append.2 ⟨a1, cyL_nodup h hx hcy, ?_⟩
        intro a ha b hb hab
        subst hab
        obtain ⟨i, hi, hli, hz⟩ := (a2 a).1 ha
        have hxi : Has l (i : Int) := ⟨by omega, by omega⟩
        have hci := lead_cyc hli
        have m1 := lead_min h hx hl
        have m2 := lead_min h hxi hli
        have m3 : IsMin (n : Int) (cyL l (i : Int)) := isMin_same (fun z => by rw [← cyL_same h hx hcy hb z, ← cyL_same h hxi hci hz z]) m1
        have := m3.unique m2
        omega
      · intro z
        rw [List.mem_append, a2 z]
        constructor
        · rintro (⟨i, hi, h1, h2⟩ | hz)
          · exact ⟨i, by omega, h1, h2⟩
          · exact ⟨n, by omega, hl, hz⟩
        · rintro ⟨i, hi, h1, h2⟩
          by_cases hin : i = n
          · subst hin; exact .inr h2
          · exact .inl ⟨i, by omega, h1, h2⟩
      · rw [List.length_append, a3, tot_app]
        simp [tot]
    · rw [cycs, if_neg hl, List.append_nil]
      refine ⟨a1, fun z => ?_, a3⟩
      rw [a2 z]
      constructor
      · rintro ⟨i, hi, h1, h2⟩
        exact ⟨i, by omega, h1, h2⟩
      · rintro ⟨i, hi, h1, h2⟩
        by_cases hin : i = n
        · subst hin; exact absurd h1 hl
        · exact ⟨i, by omega, h1, h2⟩
theorem img_deep {m : Nat} (hd : IsDeep l m) : img l m = ((tot (cycs l l.length) : Nat) : Int) := by
  obtain ⟨a1, a2, a3⟩ := flat_facts h l.length (Nat.le_refl _)
  unfold img
  rw [← a3]
  congr 1
  refine same_length h (dist_nodup h _) a1 (fun z => ?_)
  rw [dist_mem, upTo_mem h, a2 z]
  constructor
  · rintro ⟨i, hi, rfl⟩
    have hx : Has l (i : Int) := ⟨by omega, by omega⟩
    have hz : Has l (it (rd l) (i : Int) m) := it_has h hx m
    have hc : cyc l (it (rd l) (i : Int) m) = true := by rw [cyc_it h hx]; exact decide_eq_true (hd.le i hi)
    obtain ⟨e, he⟩ := isMin_exists (cyL l (it (rd l) (i : Int) m)) (by obtain ⟨c, hcc⟩ := cyL_cons h hz; rw [hcc]; simp)
    obtain ⟨e1, e2⟩ := min_lead h hz hc he
    obtain ⟨y, hy⟩ := Int.eq_ofNat_of_zero_le e1.1
    rw [hy] at e1 e2 he
    have := e1.2
    exact ⟨y, by omega, e2, cyL_sym h hz hc he.mem⟩
  · rintro ⟨i, hi, h1, h2⟩
    have hx : Has l (i : Int) := ⟨by omega, by omega⟩
    obtain ⟨z1, z2, z3⟩ := cyL_has h hx (lead_cyc h1) h2
    obtain ⟨y, y1, y2, y3⟩ := cyc_from h z1 z2 m
    obtain ⟨q, hq⟩ := Int.eq_ofNat_of_zero_le y1.1
    rw [hq] at y1 y3
    have := y1.2
    exact ⟨q, by omega, y3⟩
end
theorem steady_num2 {a n : Nat} (h0 : 0 < a) (h1 : a ≤ 1000000000000000) (n0 : 0 < n) (n1 : n ≤ 60) : ∃ g q z p : Nat, Nat.gcd a n = g ∧ ¬ (g : Int) = 0 ∧ wrap64 (Int.tdiv (a : Int) (g : Int)) = (q : Int) ∧ wrap64 (Int.tdiv (1000000000000000 : Int) (n : Int)) = (z : Int) ∧ wrap64 ((q : Int) * (n : Int)) = (p : Int) ∧
    (((q : Int) > (z : Int) ∧ (p : Int) > 1000000000000000) ∨ (¬ (q : Int) > (z : Int) ∧ ¬ (p : Int) > 1000000000000000 ∧ 0 < p ∧ p ≤ 1000000000000000)) ∧ a ∣ p ∧ n ∣ p := by
  have hgp : 0 < Nat.gcd a n := gcd_pos h0
  have hgl : Nat.gcd a n ≤ a := Nat.le_of_dvd h0 (Nat.gcd_dvd_left _ _)
  have hqp : 0 < a / Nat.gcd a n := Nat.div_pos hgl hgp
  have hpl : (a / Nat.gcd a n) * n ≤ 1000000000000000 * 60 := Nat.mul_le_mul (ndiv_le h1) n1
  refine ⟨_, _, _, a / Nat.gcd a n * n, rfl, nz_cast hgp, tdiv_w h1, tdiv_c n, ?_, ?_, ?_, ⟨_, Nat.mul_comm _ _⟩⟩
  · rw [← Int.natCast_mul]
    exact w64q (Nat.le_trans hpl (by decide))
  · by_cases ho : a / Nat.gcd a n * n > 1000000000000000
    · exact Or.inl ⟨gt_cast ((over_iff n0).1 ho), gt_cast ho⟩
    · exact Or.inr ⟨ngt_cast (fun h => ho ((over_iff n0).2 h)), ngt_cast ho, Nat.mul_pos hqp n0, Nat.le_of_not_gt ho⟩
  · obtain ⟨u, hu⟩ := Nat.gcd_dvd_right a n
    obtain ⟨v, hv⟩ := Nat.gcd_dvd_left a n
    refine ⟨u, ?_⟩
    have e1 : a / Nat.gcd a n = v := by
      conv => lhs; lhs; rw [hv]
      rw [Nat.mul_div_cancel_left _ hgp]
    rw [e1]
    conv => lhs; rhs; rw [hu]
    conv => rhs; lhs; rw [hv]
    rw [← Nat.mul_assoc, Nat.mul_comm v]
theorem steady_loop2 {l : List Int} {cs : List (List Int)} (hcs : cs.length ≤ 60) (hc : ∀ c ∈ cs, 0 < c.length ∧ c.length ≤ 60) {K0 : Nat} {m : Int} (hm : ∀ k, K0 ≤ k → spec_mpDeepest.f k l = some m ∧ ((impl_depths.f k l).bind fun t234 => slices_Max_int_int.f k t234) = some m) : ∀ (d j a : Nat), j + d = cs.length → 0 < a → a ≤ 1000000000000000 → ∃ (K : Nat) (v : Int × Int × Bool), (v.2.2 = true → ∃ p : Nat, v.1 = m ∧ v.2.1 = (p : Int) ∧ (0 < p ∧ p ≤ 1000000000000000) ∧ a ∣ p ∧ ∀ q (hq : q < cs.length), j ≤ q → cs[q].length ∣ p) ∧ ∀ k, K ≤ k → spec_WhenSteady.l0 k l (a : Int) cs (cs.length : Int) (j : Int) = some v ∧ impl_WhenSteady.l0 k l (a : Int) cs (cs.length : Int) (j : Int) = some v
  | 0, j, a, hj, h0, h1 => ⟨K0 + 1, (m, (a : Int), true), fun _ => ⟨a, rfl, rfl, ⟨h0, h1⟩, ⟨1, by omega⟩, fun q hq h2 => by omega⟩, fun k hk => by
    obtain ⟨k, rfl⟩ : ∃ q, k = q + 1 := ⟨k - 1, by omega⟩
    obtain ⟨m1, m2⟩ := hm k (by omega)
    obtain ⟨ds, hds, hmx⟩ := Option.bind_eq_some_iff.1 m2
    exact ⟨by rw [spec_WhenSteady.l0, if_neg (by omega), m1, Option.bind_some], by rw [impl_WhenSteady.l0, if_neg (by omega), hds, Option.bind_some, hmx, Option.bind_some]⟩⟩
  | d + 1, j, a, hj, h0, h1 => by
    have hjl : j < cs.length := by omega
    have c1 : (j : Int) < (cs.length : Int) := by omega
    have c2 : 0 ≤ (j : Int) := by omega
    have wj : wrap64 ((j : Int) + 1) = ((j + 1 : Nat) : Int) := w64s (by omega)
    have hj2 : j + 1 + d = cs.length := by omega
    obtain ⟨n0, n1⟩ := hc cs[j] (List.getElem_mem hjl)
    have e : rd_L2 cs (j : Int) = cs[j] := by simp [rd_L2, List.getD_eq_getElem?_getD, List.getElem?_eq_getElem hjl]
    obtain ⟨n, hn⟩ : ∃ n, n = cs[j].length := ⟨_, rfl⟩
    rw [← hn] at n0 n1
    have cn := nz_cast n0
    obtain ⟨g, q, z, p, hg, cg, t1, t2, t3, ov, dv1, dv2⟩ := steady_num2 h0 h1 n0 n1
    have sg : ∀ k, 100 ≤ k → spec_mpGcd.f k (a : Int) (n : Int) = some (g : Int) := fun k hk => by rw [gcd_spec k a n (by clear ov t1 t2 t3; omega), hg]
    have ig : ∀ k, 100 ≤ k → impl_gcd.l0 k (a : Int) (n : Int) = some (g : Int) := fun k hk => by rw [gcd_impl k a n (by clear ov t1 t2 t3; omega), hg]
    rcases ov with ⟨o1, o2⟩ | ⟨o1, o2, o3, o4⟩
    · refine ⟨101, (0, 0, false), by simp, fun k hk => ?_⟩
      obtain ⟨k, rfl⟩ : ∃ q, k = q + 100 + 1 := ⟨k - 101, by clear t1 t2 t3; omega⟩
      refine ⟨?_, ?_⟩
      · rw [spec_WhenSteady.l0, if_pos c1, if_pos c2, if_pos c1, e, ← hn, sg _ (Nat.le_add_left _ _), Option.bind_some, if_neg cg, if_neg cn, t1, t2, if_pos o1]
      · rw [impl_WhenSteady.l0, if_pos c1, if_pos c2, if_pos c1, e, ← hn, impl_gcd.f, ig _ (Nat.le_add_left _ _), Option.bind_some, if_neg cg, t1, t3, if_pos o2]
    · obtain ⟨K, v, hpv, hv⟩ := steady_loop2 hcs hc hm d (j + 1) p hj2 o3 o4
      refine ⟨K + 101, v, fun hvt => ?_, fun k hk => ?_⟩
      · obtain ⟨p', b1, b2, b3, b4, b5⟩ := hpv hvt
        refine ⟨p', b1, b2, b3, Nat.dvd_trans dv1 b4, fun q' hq' h2 => ?_⟩
        by_cases hqj : q' = j
        · subst hqj
          rw [← hn]
          exact Nat.dvd_trans dv2 b4
        · exact b5 q' hq' (by clear t1 t2 t3 o1 o2; omega)
      obtain ⟨k, rfl, hkK⟩ : ∃ q, k = q + 100 + 1 ∧ K ≤ q + 100 := ⟨k - 101, by clear t1 t2 t3; omega, by clear t1 t2 t3; omega⟩
      obtain ⟨v1, v2⟩ := hv (k + 100) hkK
      refine ⟨?_, ?_⟩
      · rw [spec_WhenSteady.l0, if_pos c1, if_pos c2, if_pos c1, e, ← hn, sg _ (Nat.le_add_left _ _), Option.bind_some, if_neg cg, if_neg cn, t1, t2, if_neg o1, Option.bind_some, if_neg cg, t1, t3, wj]
        exact v1
      · rw [impl_WhenSteady.l0, if_pos c1, if_pos c2, if_pos c1, e, ← hn, impl_gcd.f, ig _ (Nat.le_add_left _ _), Option.bind_some, if_neg cg, t1, t3, if_neg o2, wj]
        exact v2
theorem it_mul {f : Int → Int} {x : Int} {p : Nat} (h : it f x p = x) : ∀ c, it f x (p * c) = x
  | 0 => rfl
  | c + 1 => by rw [Nat.mul_add, Nat.mul_one, it_add, it_mul h c, h]
structure Steady (l : List Int) (m p : Nat) : Prop where
  deep : IsDeep l m
  pos : 0 < p ∧ p ≤ 1000000000000000
  same : ∀ x, Has l x → it (rd l) x (m + p) = it (rd l) x m
theorem WhenSteady_told {l : List Int} (hm : isMapB l = true) (hl : l.length ≤ 1048576) : ∃ (K : Nat) (v : Int × Int × Bool), (v.2.2 = true → ∃ m p : Nat, v.1 = (m : Int) ∧ v.2.1 = (p : Int) ∧ Steady l m p) ∧ ∀ k, K ≤ k → spec_WhenSteady.f k l = some v ∧ impl_WhenSteady.f k l = some v := by
  obtain ⟨g1, g2, g3⟩ := isMap_range hm
  obtain ⟨K1, h1⟩ := mpCycles_eq (l := l) g3 g2
  obtain ⟨K2, m, hd, h2⟩ := deep_eq (l := l) g3 (by omega) g2
  have hcl := cycs_length l l.length
  have hall : ∀ c ∈ cycs l l.length, 0 < c.length ∧ c.length ≤ 60 := fun c hc => by
    obtain ⟨i, hi, _, rfl⟩ := mem_cycs.1 hc
    have hx : Has l (i : Int) := ⟨by omega, by omega⟩
    have := rA_lt g3 hx
    rw [cyL_length]
    exact ⟨per_pos g3 hx, by omega⟩
  obtain ⟨K3, v, hv, h3⟩ := steady_loop2 (l := l) (cs := cycs l l.length) (by omega) hall h2 (cycs l l.length).length 0 1 (by omega) (by omega) (by omega)
  refine ⟨K1 + K3 + 2 * l.length + 10, v, fun hvt => ?_, fun k hk => ?_⟩
  · obtain ⟨p, b1, b2, b3, -, b5⟩ := hv hvt
    refine ⟨m, p, b1, b2, hd, b3, fun x hx => ?_⟩
    have hy := it_has g3 hx m
    have hxn : x.toNat < l.length := by have := hx.1; have := hx.2; omega
    have hc : cyc l (it (rd l) x m) = true := by
      rw [cyc_it g3 hx]
      have := hd.le x.toNat hxn
      rw [Int.toNat_of_nonneg hx.1] at this
      exact decide_eq_true this
    have hper : per l (it (rd l) x m) ∣ p := by
      obtain ⟨e, he⟩ := isMin_exists (cyL l (it (rd l) x m)) (by obtain ⟨c, hcc⟩ := cyL_cons g3 hy; rw [hcc]; simp)
      obtain ⟨e1, e2⟩ := min_lead g3 hy hc he
      have e3 := (cyL_has g3 hy hc he.mem).2.2
      obtain ⟨y, hye⟩ := Int.eq_ofNat_of_zero_le e1.1
      rw [hye] at e1 e2 e3
      have hmem : cyL l (y : Int) ∈ cycs l l.length := mem_cycs.2 ⟨y, by have := e1.2; omega, e2, rfl⟩
      obtain ⟨q, hq, hqe⟩ := List.getElem_of_mem hmem
      have := b5 q hq (Nat.zero_le _)
      rw [hqe, cyL_length, e3] at this
      exact this
    obtain ⟨c, hcp⟩ := hper
    rw [it_add, hcp]
    exact it_mul (cyc_round g3 hy hc).2 c
  · obtain ⟨a1, a2⟩ := h3 k (by omega)
    refine ⟨?_, ?_⟩
    · rw [spec_WhenSteady.f, mpGood_eq l hl (by omega), hm, Option.bind_some, if_pos rfl, h1 k (by omega), Option.bind_some]
      exact a1
    · rw [impl_WhenSteady.f, IsMap_eq l hl, hm, Option.bind_some, if_pos rfl, cycles_eq g3 g2 (by omega), Option.bind_some]
      exact a2
end Go.Proofs.YtcaohpcbohdkbaaGreatC
end
section
namespace Go.Proofs.YtcaohpcbohdkbaaGreatC
open Go.RowKit Go.Proofs.YtcaohpcbohdkbaaGreatW.PrintWords Go.Proofs.YtcaohpcbohdkbaaGreatW.PrintMore
set_option linter.unusedVariables false
def laws_big.f (l0 : List Int) (l1 : List Int) : Option (Bool) := if (l0.length : Int) > 1048576 then (some true) else (some (decide ((l1.length : Int) > (wrap64 (1048576 - (l0.length : Int))))))
def spec_l1Cur_next.f (s0_0 : List Int) (s0_1 : Int) (s0_2 : Int) : Option (Int × Int × Int) := if s0_1 < (s0_0.length : Int) then (if 0 ≤ s0_1 then (if (wrap64 (s0_1 + 1)) ≤ (s0_0.length : Int) then (some (wrap64 (rd s0_0 s0_1), wrap64 (s0_1 + 1), IntKind.u64.wrap ((IntKind.u64.wrap ((IntKind.u64.wrap (s0_2 * 6364136223846793005)) + (IntKind.u64.wrap (wrap64 (rd s0_0 s0_1))))) + 1442695040888963407))) else (some (wrap64 (Go.bits .and .u64 ((IntKind.u64.wrap ((IntKind.u64.wrap ((IntKind.u64.wrap (s0_2 * 6364136223846793005)) + (IntKind.u64.wrap (wrap64 (rd s0_0 s0_1))))) + 1442695040888963407)) / 1099511627776) 255), wrap64 (s0_1 + 1), IntKind.u64.wrap ((IntKind.u64.wrap ((IntKind.u64.wrap (s0_2 * 6364136223846793005)) + (IntKind.u64.wrap (wrap64 (rd s0_0 s0_1))))) + 1442695040888963407)))) else (none)) else (if (wrap64 (s0_1 + 1)) ≤ (s0_0.length : Int) then (some (0, wrap64 (s0_1 + 1), IntKind.u64.wrap ((IntKind.u64.wrap ((IntKind.u64.wrap (s0_2 * 6364136223846793005)) + 0)) + 1442695040888963407))) else (some (wrap64 (Go.bits .and .u64 ((IntKind.u64.wrap ((IntKind.u64.wrap ((IntKind.u64.wrap (s0_2 * 6364136223846793005)) + 0)) + 1442695040888963407)) / 1099511627776) 255), wrap64 (s0_1 + 1), IntKind.u64.wrap ((IntKind.u64.wrap ((IntKind.u64.wrap (s0_2 * 6364136223846793005)) + 0)) + 1442695040888963407))))
def spec_l1Cur_pick.f (s0_0 : List Int) (s0_1 : Int) (s0_2 : Int) (a1 : Int) : Option (Int × Int × Int) := if a1 ≤ 1 then (some (0, s0_1, s0_2)) else ((spec_l1Cur_next.f s0_0 s0_1 s0_2).bind fun bt102 => (if a1 > 200 then ((spec_l1Cur_next.f s0_0 bt102.2.1 bt102.2.2).bind fun bt105 => (if a1 = 0 then (none) else (some (Int.tmod (wrap64 ((wrap64 (bt102.1 * 256)) + bt105.1)) a1, bt105.2.1, bt105.2.2)))) else (if a1 = 0 then (none) else (some (Int.tmod bt102.1 a1, bt102.2.1, bt102.2.2)))))
def spec_l1Cur_among.f (s0_0 : List Int) (s0_1 : Int) (s0_2 : Int) (l1 : List Int) : Option (Int × Int × Int) := (spec_l1Cur_pick.f s0_0 s0_1 s0_2 (l1.length : Int)).bind fun bt108 => (if 0 ≤ bt108.1 then (if bt108.1 < (l1.length : Int) then (some (rd l1 bt108.1, bt108.2.1, bt108.2.2)) else (none)) else (none))
def spec_l1Cur_mapped.l0 : Nat → Int → List Int → Int → Int → List Int → Int → Int → Option (List Int × Int × Int)
  | 0, _, _, _, _, _, _, _ => none
  | k + 1, x5, x6, x7, x8, x1000, x1001, x1002 => if x8 < x5 then (if x7 = 0 then ((spec_l1Cur_pick.f x1000 x1001 x1002 x5).bind fun bt118 => (if x6.length < 17592186044416 then (spec_l1Cur_mapped.l0 k x5 (x6 ++ [bt118.1]) x7 (wrap64 (x8 + 1)) x1000 bt118.2.1 bt118.2.2) else (none))) else (if x7 = 1 then (if x5 = 0 then (none) else (if x6.length < 17592186044416 then (spec_l1Cur_mapped.l0 k x5 (x6 ++ [Int.tmod (wrap64 ((wrap64 (x8 * x8)) + 1)) x5]) x7 (wrap64 (x8 + 1)) x1000 x1001 x1002) else (none))) else (if x7 = 2 then (if x6.length < 17592186044416 then (spec_l1Cur_mapped.l0 k x5 (x6 ++ [wrap64 (Int.tdiv x8 2)]) x7 (wrap64 (x8 + 1)) x1000 x1001 x1002) else (none)) else ((spec_l1Cur_among.f x1000 x1001 x1002 (([0, 1, 1, 2, 3] : List Int))).bind fun bt133 => (if x5 = 0 then (none) else (if x6.length < 17592186044416 then (spec_l1Cur_mapped.l0 k x5 (x6 ++ [Int.tmod (wrap64 (x8 + bt133.1)) x5]) x7 (wrap64 (x8 + 1)) x1000 bt133.2.1 bt133.2.2) else (none))))))) else ((spec_l1Cur_pick.f x1000 x1001 x1002 20).bind fun bt139 => (if bt139.1 = 0 then ((spec_l1Cur_pick.f x1000 bt139.2.1 bt139.2.2 x5).bind fun bt142 => ((spec_l1Cur_among.f x1000 bt142.2.1 bt142.2.2 (([(-1), x5, 4611686018427387904] : List Int))).bind fun bt148 => (if 0 ≤ bt142.1 then (if bt142.1 < (x6.length : Int) then (some ((x6.set (bt142.1 : Int).toNat bt148.1), bt148.2.1, bt148.2.2)) else (none)) else (none)))) else (if bt139.1 = 1 then (some (([] : List Int), bt139.2.1, bt139.2.2)) else (if bt139.1 = 2 then ((spec_l1Cur_pick.f x1000 bt139.2.1 bt139.2.2 2).bind fun bt152 => (if 0 ≤ (wrap64 (60 + bt152.1)) then (if (wrap64 (60 + bt152.1) : Int).toNat ≤ 35184372088832 then (some ((List.replicate (wrap64 (60 + bt152.1) : Int).toNat 0), bt152.2.1, bt152.2.2)) else (none)) else (none))) else (some (x6, bt139.2.1, bt139.2.2))))))
def spec_l1Cur_mapped.f (k : Nat) (s0_0 : List Int) (s0_1 : Int) (s0_2 : Int) (a1 : Int) : Option (List Int × Int × Int) := (spec_l1Cur_pick.f s0_0 s0_1 s0_2 a1).bind fun bt112 => ((spec_l1Cur_pick.f s0_0 bt112.2.1 bt112.2.2 4).bind fun bt115 => (spec_l1Cur_mapped.l0 k (wrap64 (1 + bt112.1)) ([] : List Int) bt115.1 0 s0_0 bt115.2.1 bt115.2.2))
def spec_DrawIsMap.f (k : Nat) (l0 : List Int) : Option (List Int) := (spec_l1Cur_mapped.f k l0 0 0 20).bind fun b => some b.1
def spec_DrawCyclesOfMap.f (k : Nat) (l0 : List Int) : Option (List Int) := (spec_DrawIsMap.f k l0).bind fun t158 => (some t158)
def laws_rSame.l0 : Nat → List Int → List Int → Int → Int → Option (Bool)
  | 0, _, _, _, _ => none
  | k + 1, x0, x1, x12, x13 => if x13 < x12 then (if 0 ≤ x13 then (if x13 < (x0.length : Int) then (if x13 < (x1.length : Int) then (if (rd x0 x13) = (rd x1 x13) then (laws_rSame.l0 k x0 x1 x12 (wrap64 (x13 + 1))) else (some false)) else (none)) else (none)) else (none)) else (some true)
def laws_rSame.f (k : Nat) (l0 : List Int) (l1 : List Int) : Option (Bool) := if (l0.length : Int) = (l1.length : Int) then (laws_rSame.l0 k l0 l1 (l0.length : Int) 0) else (some false)
def laws_rRows.l0 : Nat → List (List Int) → List (List Int) → Int → Int → Option (Bool)
  | 0, _, _, _, _ => none
  | k + 1, x0, x1, x12, x13 => if x13 < x12 then (if 0 ≤ x13 then (if x13 < (x0.length : Int) then (if x13 < (x1.length : Int) then ((laws_rSame.f k (rd_L2 x0 x13) (rd_L2 x1 x13)).bind fun t424 => (if t424 = true then (laws_rRows.l0 k x0 x1 x12 (wrap64 (x13 + 1))) else (some false))) else (none)) else (none)) else (none)) else (some true)
def laws_rRows.f (k : Nat) (l0 : List (List Int)) (l1 : List (List Int)) : Option (Bool) := if (l0.length : Int) = (l1.length : Int) then (laws_rRows.l0 k l0 l1 (l0.length : Int) 0) else (some false)
def laws_rHas.l0 : Nat → Int → List Int → Int → Int → Option (Bool)
  | 0, _, _, _, _ => none
  | k + 1, x1, x7, x8, x9 => if x9 < x8 then (if 0 ≤ x9 then (if x9 < (x7.length : Int) then (if (rd x7 x9) = x1 then (some true) else (laws_rHas.l0 k x1 x7 x8 (wrap64 (x9 + 1)))) else (none)) else (none)) else (some false)
def laws_rHas.f (k : Nat) (l0 : List Int) (a1 : Int) : Option (Bool) := laws_rHas.l0 k a1 l0 (l0.length : Int) 0
def laws_rRising.l0 : Nat → List Int → Int → Option (Bool)
  | 0, _, _ => none
  | k + 1, x0, x3 => if x3 < (x0.length : Int) then (if 0 ≤ (wrap64 (x3 - 1)) then (if (wrap64 (x3 - 1)) < (x0.length : Int) then (if 0 ≤ x3 then (if (rd x0 (wrap64 (x3 - 1))) ≥ (rd x0 x3) then (some false) else (laws_rRising.l0 k x0 (wrap64 (x3 + 1)))) else (none)) else (none)) else (none)) else (some true)
def laws_rRising.f (k : Nat) (l0 : List Int) : Option (Bool) := laws_rRising.l0 k l0 1
def spec_DrawPowerOfMap.f (k : Nat) (l0 : List Int) : Option (List Int × Int) := (spec_l1Cur_mapped.f k l0 0 0 20).bind fun b => (spec_l1Cur_among.f l0 b.2.1 b.2.2 ([0, 1, 2, 3, 12, 1000, 1000000, 1000001, (-1)] : List Int)).bind fun q => some (b.1, q.1)
def spec_DrawApplyMap.f (k : Nat) (l0 : List Int) : Option (List Int × Int × Int) := (spec_l1Cur_mapped.f k l0 0 0 20).bind fun b => (spec_l1Cur_pick.f l0 b.2.1 b.2.2 (wrap64 ((b.1.length : Int) + 2))).bind fun p => (spec_l1Cur_pick.f l0 p.2.1 p.2.2 2).bind fun s => (spec_l1Cur_among.f l0 s.2.1 s.2.2 ([0, 1, 2, 7, 30, 1000, 1000000, 1000001, (-1)] : List Int)).bind fun q => some (b.1, wrap64 (p.1 - s.1), q.1)
def spec_DrawTailAndCycle.f (k : Nat) (l0 : List Int) : Option (List Int × Int) := (spec_l1Cur_mapped.f k l0 0 0 30).bind fun b => (spec_l1Cur_pick.f l0 b.2.1 b.2.2 (wrap64 ((b.1.length : Int) + 2))).bind fun p => (spec_l1Cur_pick.f l0 p.2.1 p.2.2 2).bind fun q => some (b.1, wrap64 (p.1 - q.1))
def laws_FnMapsEnd.k1 (n : List Int) (b d c : List Int) (i j x ix : Int) : Bool := decide (0 ≤ j ∧ (0 ≤ x ∧ x < (n.length : Int) ∧ x < (d.length : Int) ∧ x < (b.length : Int)) ∧ (0 ≤ ix ∧ ix < (c.length : Int)) ∧ (rd n x = rd c ix ∧ rd d x = 0 ∧ rd b x = i ∧ ¬ x < rd c 0))
def laws_FnMapsEnd.k1b (g : List (List Int)) (c : List Int) (i ip : Int) : Bool := decide (0 < i → (0 ≤ ip ∧ ip < (g.length : Int)) ∧ 0 < ((rd_L2 g ip).length : Int) ∧ ¬ rd (rd_L2 g ip) 0 ≥ rd c 0)
def laws_FnMapsEnd.c1 : Nat → List Int → List (List Int) → List Int → List Int → List Int → Int → Int → Option Bool
  | 0, _, _, _, _, _, _, _ => none
  | k + 1, n, g, b, d, c, i, j => if j < (c.length : Int) then (if laws_FnMapsEnd.k1 n b d c i j (rd c j) (Int.tmod (wrap64 (j + 1)) (c.length : Int)) = true ∧ laws_FnMapsEnd.k1b g c i (wrap64 (i - 1)) = true then laws_FnMapsEnd.c1 k n g b d c i (wrap64 (j + 1)) else none) else some true
def laws_FnMapsEnd.c0 : Nat → List Int → List (List Int) → List Int → List Int → Int → Int → Option Int
  | 0, _, _, _, _, _, _ => none
  | k + 1, n, g, b, d, on, i => if i < (g.length : Int) then (if 0 ≤ i then ((laws_FnMapsEnd.c1 k n g b d (rd_L2 g i) i 0).bind fun _ => laws_FnMapsEnd.c0 k n g b d (wrap64 (on + ((rd_L2 g i).length : Int))) (wrap64 (i + 1))) else none) else some on
def laws_FnMapsEnd.k2 (n : List Int) (g : List (List Int)) (b d : List Int) (x y z : Int) (t : Int × Int × Bool) (bf : List Int × Bool) (h : Bool) : Bool := decide ((t.2.2 = true ∧ t.1 = rd d x) ∧ (0 ≤ y ∧ y < (g.length : Int) ∧ t.2.1 = ((rd_L2 g y).length : Int)) ∧ (0 ≤ z ∧ z < (b.length : Int) ∧ rd b z = y) ∧ (0 < rd d x → z < (d.length : Int) ∧ rd d z = wrap64 (rd d x - 1)) ∧ bf.2 = true ∧ (((bf.1.length : Int) == 0) = h))
def laws_FnMapsEnd.c2 : Nat → List Int → List (List Int) → List Int → List Int → List Int → Int → Int → Option Int
  | 0, _, _, _, _, _, _, _ => none
  | k + 1, n, g, b, d, e, dp, x => if x < (d.length : Int) then (if 0 ≤ x ∧ x < (n.length : Int) ∧ x < (b.length : Int) then ((impl_TailAndCycle.f k n x).bind fun t => (impl_BeforeOf.f k n x).bind fun bf => (laws_rHas.f k e x).bind fun h => (laws_rRising.f k bf.1).bind fun ri => if laws_FnMapsEnd.k2 n g b d x (rd b x) (rd n x) t bf h = true ∧ ri = true then laws_FnMapsEnd.c2 k n g b d e (if rd d x > dp then rd d x else dp) (wrap64 (x + 1)) else none) else none) else some dp
def laws_FnMapsEnd.k3 (n e m : List Int) (on dp : Int) : Bool := decide (((m.length : Int) = wrap64 (dp + 1) ∧ 0 < (m.length : Int) ∧ rd m 0 = (n.length : Int)) ∧ (0 ≤ dp ∧ dp < (m.length : Int) ∧ rd m dp = on) ∧ (1 < (n.length : Int) → 0 < dp → 1 < (m.length : Int) ∧ rd m 1 = wrap64 ((n.length : Int) - (e.length : Int))))
def laws_FnMapsEnd.q1 (k : Nat) (n : List Int) (g : List (List Int)) (b d e m : List Int) : Option Bool := (laws_FnMapsEnd.c0 k n g b d 0 0).bind fun on => (laws_FnMapsEnd.c2 k n g b d e 0 0).bind fun dp => if laws_FnMapsEnd.k3 n e m on dp = true then some true else none
def laws_FnMapsEnd.c3 : Nat → List Int → Int → List Int → Int → Int → Option Int
  | 0, _, _, _, _, _ => none
  | k + 1, n, q, pw, ct, x => if x < (pw.length : Int) then (if 0 ≤ x then ((impl_ApplyMap.f k n x q).bind fun z => if z.2 = true ∧ z.1 = rd pw x then laws_FnMapsEnd.c3 k n q pw (if x = rd pw x then wrap64 (ct + 1) else ct) (wrap64 (x + 1)) else none) else none) else some ct
def laws_FnMapsEnd.q3 (k : Nat) (l1 : List Int) : Option Bool := (spec_DrawApplyMap.f k l1).bind fun dr => (impl_ApplyMap.f k dr.1 dr.2.1 dr.2.2).bind fun x => (spec_ApplyMap.f k dr.1 dr.2.1 dr.2.2).bind fun y => (spec_DrawTailAndCycle.f k l1).bind fun dt => (impl_TailAndCycle.f k dt.1 dt.2).bind fun t => (spec_TailAndCycle.f k dt.1 dt.2).bind fun u => (impl_BeforeOf.f k dt.1 dt.2).bind fun bf => (spec_BeforeOf.f k dt.1 dt.2).bind fun bg => (laws_rSame.f k bf.1 bg.1).bind fun s => if (x.1 = y.1 ∧ x.2 = y.2) ∧ (t.1 = u.1 ∧ t.2.1 = u.2.1 ∧ t.2.2 = u.2.2) ∧ bf.2 = bg.2 ∧ s = true then some true else none
def laws_FnMapsEnd.q4 (k : Nat) (n : List Int) (s p : Int) : Option Bool := (impl_PowerOfMap.f k n s).bind fun x => (impl_PowerOfMap.f k n (wrap64 (s + p))).bind fun y => (laws_rSame.f k x.1 y.1).bind fun z => if x.2 = true ∧ y.2 = true ∧ z = true then some true else none
def laws_FnMapsEnd.q5 (k : Nat) (n : List Int) (q : Int) (pw : List Int) (fx : Int) : Option Bool := (laws_FnMapsEnd.c3 k n q pw 0 0).bind fun ct => if ct = fx then some true else none
def laws_FnMapsEnd.q2 (k : Nat) (l1 : List Int) : Option Bool := (spec_DrawPowerOfMap.f k l1).bind fun dr => (impl_PowerOfMap.f k dr.1 dr.2).bind fun pw => (spec_PowerOfMap.f k dr.1 dr.2).bind fun pv => (impl_CountFixedBy.f k dr.1 dr.2).bind fun fx => (spec_CountFixedBy.f k dr.1 dr.2).bind fun fy => (impl_WhenSteady.f k dr.1).bind fun st => (spec_WhenSteady.f k dr.1).bind fun su => (laws_rSame.f k pw.1 pv.1).bind fun s => if (pw.2 = pv.2 ∧ pw.2 = fx.2 ∧ pw.2 = fy.2 ∧ fx.1 = fy.1) ∧ (st.1 = su.1 ∧ st.2.1 = su.2.1 ∧ st.2.2 = su.2.2) ∧ s = true then ((if pw.2 = true then laws_FnMapsEnd.q5 k dr.1 dr.2 pw.1 fx.1 else some true).bind fun _ => (if st.2.2 = true ∧ wrap64 (st.1 + st.2.1) ≤ 1000000 then laws_FnMapsEnd.q4 k dr.1 st.1 st.2.1 else some true).bind fun _ => laws_FnMapsEnd.q3 k l1) else none
def laws_FnMapsEnd.f (k : Nat) (l0 l1 : List Int) : Option Bool := (laws_big.f l0 l1).bind fun t => if t = true then some true else ((spec_DrawCyclesOfMap.f k l0).bind fun n => (impl_CyclesOfMap.f k n).bind fun g => (spec_CyclesOfMap.f k n).bind fun g' => (impl_BasinsOf.f k n).bind fun b => (spec_BasinsOf.f k n).bind fun b' => (impl_DepthsOf.f k n).bind fun d => (spec_DepthsOf.f k n).bind fun d' => (impl_EndsOf.f k n).bind fun e => (spec_EndsOf.f k n).bind fun e' => (impl_ImagesOf.f k n).bind fun m => (spec_ImagesOf.f k n).bind fun m' => (laws_rRows.f k g.1 g'.1).bind fun s1 => (laws_rSame.f k b.1 b'.1).bind fun s2 => (laws_rSame.f k d.1 d'.1).bind fun s3 => (laws_rSame.f k e.1 e'.1).bind fun s4 => (laws_rSame.f k m.1 m'.1).bind fun s5 => (impl_IsMap.f n).bind fun i1 => (spec_IsMap.f k n).bind fun i2 => if (g.2 = g'.2 ∧ g.2 = b.2 ∧ g.2 = b'.2 ∧ g.2 = d.2 ∧ g.2 = d'.2 ∧ g.2 = e.2 ∧ g.2 = e'.2 ∧ g.2 = m.2 ∧ g.2 = m'.2 ∧ g.2 = i1 ∧ g.2 = i2) ∧ (s1 = true ∧ s2 = true ∧ s3 = true ∧ s4 = true ∧ s5 = true) then ((if g.2 = true then laws_FnMapsEnd.q1 k n g.1 b.1 d.1 e.1 m.1 else some true).bind fun _ => laws_FnMapsEnd.q2 k l1) else none)
def laws_FnMapsEnd.Pure : Prop := ∀ (l0 : List Int) (l1 : List Int), l0.length ≤ maxLen → l0.length * 1 ≤ 140737488351232 → (∀ x ∈ l0, (Lit.int .u8 x).wf = true) → l1.length ≤ maxLen → l1.length * 1 ≤ 140737488351232 → (∀ x ∈ l1, (Lit.int .u8 x).wf = true) → ∃ k, laws_FnMapsEnd.f k l0 l1 = some true
end Go.Proofs.YtcaohpcbohdkbaaGreatC
end
section
namespace Go.Proofs.YtcaohpcbohdkbaaGreatC
open Go.RowKit Go.Proofs.YtcaohpcbohdkbaaGreatW.PrintWords Go.Proofs.YtcaohpcbohdkbaaGreatW.PrintMore
set_option linter.unusedSimpArgs false
set_option linter.unusedVariables false
theorem and_small (x : Int) : 0 ≤ Go.bits .and .u64 x 255 ∧ Go.bits .and .u64 x 255 ≤ 255 := by
  have h : (BitVec.ofInt 64 x &&& BitVec.ofInt 64 255).toNat ≤ 255 := by
    rw [BitVec.toNat_and]
    exact Nat.le_trans Nat.and_le_right (by decide)
  have e : Go.bits .and .u64 x 255 = IntKind.u64.wrap (((BitVec.ofInt 64 x &&& BitVec.ofInt 64 255).toNat : Nat) : Int) := rfl
  rw [e]
  generalize (BitVec.ofInt 64 x &&& BitVec.ofInt 64 255).toNat = n at h
  have : IntKind.u64.wrap (n : Int) = (n : Int) := by simp [IntKind.wrap, IntKind.bits, IntKind.signed]; omega
  omega
def Byt (l : List Int) : Prop := ∀ x ∈ l, 0 ≤ x ∧ x ≤ 255
theorem byt_rd {l : List Int} (h : Byt l) (i : Int) : 0 ≤ rd l i ∧ rd l i ≤ 255 := by
  simp only [rd, List.getD_eq_getElem?_getD]
  by_cases hi : i.toNat < l.length
  · rw [List.getElem?_eq_getElem hi]; exact h _ (List.getElem_mem hi)
  · rw [List.getElem?_eq_none (by omega)]; simp
theorem next_some {l : List Int} (h : Byt l) {s : Int} (hs : 0 ≤ s) (hs2 : s ≤ 4611686018427387904) (z : Int) : ∃ v t, spec_l1Cur_next.f l s z = some (v, s + 1, t) ∧ 0 ≤ v ∧ v ≤ 255 := by
  have hw : wrap64 (s + 1) = s + 1 := by unfold wrap64; omega
  have hr := byt_rd h s
  have hwr : wrap64 (rd l s) = rd l s := by unfold wrap64; omega
  have hb : ∀ x, 0 ≤ wrap64 (Go.bits .and .u64 x 255) ∧ wrap64 (Go.bits .and .u64 x 255) ≤ 255 := fun x => by
    have := and_small x
    unfold wrap64; omega
  unfold spec_l1Cur_next.f
  rw [hw]
  by_cases c1 : s < (l.length : Int)
  · rw [if_pos c1, if_pos hs, if_pos (by omega)]
    exact ⟨_, _, rfl, by rw [hwr]; exact hr.1, by rw [hwr]; exact hr.2⟩
  · rw [if_neg c1]
    by_cases c2 : s + 1 ≤ (l.length : Int)
    · omega
    · rw [if_neg c2]
      exact ⟨_, _, rfl, hb _⟩
theorem pick_some {l : List Int} (h : Byt l) {s : Int} (hs : 0 ≤ s) (hs2 : s ≤ 1000000000) (z n : Int) (hn : n ≤ 1000000) : ∃ v s' t, spec_l1Cur_pick.f l s z n = some (v, s', t) ∧ 0 ≤ v ∧ (1 ≤ n → v < n) ∧ s ≤ s' ∧ s' ≤ s + 2 := by
  unfold spec_l1Cur_pick.f
  by_cases c1 : n ≤ 1
  · rw [if_pos c1]
    exact ⟨0, s, z, rfl, by omega, fun _ => by omega, by omega, by omega⟩
  · rw [if_neg c1]
    obtain ⟨v, t, e, hv⟩ := next_some h hs (by omega) z
    rw [e, Option.bind_some]
    by_cases c2 : n > 200
    · rw [if_pos c2]
      obtain ⟨v2, t2, e2, hv2⟩ := next_some h (s := s + 1) (by omega) (by omega) t
      rw [e2, Option.bind_some, if_neg (by omega)]
      have w1 : wrap64 (wrap64 (v * 256) + v2) = v * 256 + v2 := by unfold wrap64; omega
      refine ⟨_, _, _, rfl, ?_, fun _ => ?_, by show s ≤ s + 1 + 1; omega, by show s + 1 + 1 ≤ s + 2; omega⟩
      · rw [w1, Int.tmod_eq_emod_of_nonneg (by omega)]; exact Int.emod_nonneg _ (by omega)
      · rw [w1, Int.tmod_eq_emod_of_nonneg (by omega)]; exact Int.emod_lt_of_pos _ (by omega)
    · rw [if_neg c2, if_neg (by omega)]
      refine ⟨_, _, _, rfl, ?_, fun _ => ?_, by show s ≤ s + 1; omega, by show s + 1 ≤ s + 2; omega⟩
      · rw [Int.tmod_eq_emod_of_nonneg (by omega)]; exact Int.emod_nonneg _ (by omega)
      · rw [Int.tmod_eq_emod_of_nonneg (by omega)]; exact Int.emod_lt_of_pos _ (by omega)
theorem among_some {l : List Int} (h : Byt l) {s : Int} (hs : 0 ≤ s) (hs2 : s ≤ 1000000000) (z : Int) {L : List Int} (hL : 1 ≤ L.length) (hL2 : L.length ≤ 1000) : ∃ v s' t, spec_l1Cur_among.f l s z L = some (v, s', t) ∧ v ∈ L ∧ s ≤ s' ∧ s' ≤ s + 2 := by
  obtain ⟨v, s', t, e, h1, h2, h3, h4⟩ := pick_some h hs hs2 z (L.length : Int) (by omega)
  have h2 := h2 (by omega)
  unfold spec_l1Cur_among.f
  rw [e, Option.bind_some, if_pos h1, if_pos h2]
  refine ⟨_, _, _, rfl, ?_, h3, h4⟩
  simp only [rd, List.getD_eq_getElem?_getD, List.getElem?_eq_getElem (show v.toNat < L.length by omega), Option.getD_some]
  exact List.getElem_mem _
theorem mapped_loop {l : List Int} (h : Byt l) {n : Nat} (hn1 : 1 ≤ n) (hn : n ≤ 100) (kd : Int) : ∀ (d i : Nat) (x6 : List Int) (s z : Int), i + d = n → x6.length = i → 0 ≤ s → s ≤ 1000 + 4 * (i : Int) → ∃ (r : List Int) (s' t : Int), r.length ≤ 100 ∧ (0 ≤ s' ∧ s' ≤ 10000) ∧ ∀ k, d < k → spec_l1Cur_mapped.l0 k (n : Int) x6 kd (i : Int) l s z = some (r, s', t)
  | 0, i, x6, s, z, hi, hl, h0, h1 => by
    obtain ⟨v, s1, t1, e1, a1, a2, a3, a4⟩ := pick_some h h0 (by omega) z 20 (by omega)
    by_cases c0 : v = 0
    · obtain ⟨v2, s2, t2, e2, b1, b2, b3, b4⟩ := pick_some h (s := s1) (by omega) (by omega) t1 (n : Int) (by omega)
      have b2 := b2 (by omega)
      obtain ⟨v3, s3, t3, e3, -, d3, d4⟩ := among_some h (s := s2) (by omega) (by omega) t2 (L := [(-1), (n : Int), 4611686018427387904]) (by simp) (by simp)
      refine ⟨x6.set v2.toNat v3, s3, t3, by rw [List.length_set]; omega, by omega, fun k hk => ?_⟩
      obtain ⟨k, rfl⟩ : ∃ q, k = q + 1 := ⟨k - 1, by omega⟩
      rw [spec_l1Cur_mapped.l0, if_neg (by omega), e1, Option.bind_some]
      show (if v = 0 then _ else _) = _
      rw [if_pos c0, e2, Option.bind_some, e3, Option.bind_some, if_pos b1, if_pos (by omega)]
    · by_cases c1 : v = 1
      · refine ⟨[], s1, t1, by simp, by omega, fun k hk => ?_⟩
        obtain ⟨k, rfl⟩ : ∃ q, k = q + 1 := ⟨k - 1, by omega⟩
        rw [spec_l1Cur_mapped.l0, if_neg (by omega), e1, Option.bind_some]
        show (if v = 0 then _ else _) = _
        rw [if_neg c0, if_pos c1]
      · by_cases c2 : v = 2
        · obtain ⟨v2, s2, t2, e2, b1, b2, b3, b4⟩ := pick_some h (s := s1) (by omega) (by omega) t1 2 (by omega)
          have b2 := b2 (by omega)
          have hw : wrap64 (60 + v2) = 60 + v2 := by unfold wrap64; omega
          refine ⟨List.replicate (60 + v2).toNat 0, s2, t2, by rw [List.length_replicate]; omega, by omega, fun k hk => ?_⟩
          obtain ⟨k, rfl⟩ : ∃ q, k = q + 1 := ⟨k - 1, by omega⟩
          rw [spec_l1Cur_mapped.l0, if_neg (by omega), e1, Option.bind_some]
          show (if v = 0 then _ else _) = _
          rw [if_neg c0, if_neg c1, if_pos c2, e2, Option.bind_some]
          show (if 0 ≤ wrap64 (60 + v2) then _ else _) = _
          rw [hw, if_pos (by omega), if_pos (by omega)]
        · refine ⟨x6, s1, t1, by omega, by omega, fun k hk => ?_⟩
          obtain ⟨k, rfl⟩ : ∃ q, k = q + 1 := ⟨k - 1, by omega⟩
          rw [spec_l1Cur_mapped.l0, if_neg (by omega), e1, Option.bind_some]
          show (if v = 0 then _ else _) = _
          rw [if_neg c0, if_neg c1, if_neg c2]
  | d + 1, i, x6, s, z, hi, hl, h0, h1 => by
    have hw : wrap64 ((i : Int) + 1) = ((i + 1 : Nat) : Int) := by unfold wrap64; omega
    have hnz : ¬ (n : Int) = 0 := by omega
    have hlx : x6.length < 17592186044416 := by omega
    by_cases c0 : kd = 0
    · obtain ⟨v, s1, t1, e1, a1, a2, a3, a4⟩ := pick_some h h0 (by omega) z (n : Int) (by omega)
      obtain ⟨r, s', t, hr, hs, hk⟩ := mapped_loop h hn1 hn kd d (i + 1) (x6 ++ [v]) s1 t1 (by omega) (by simp; omega) (by omega) (by omega)
      refine ⟨r, s', t, hr, hs, fun k hk2 => ?_⟩
      obtain ⟨k, rfl⟩ : ∃ q, k = q + 1 := ⟨k - 1, by omega⟩
      rw [spec_l1Cur_mapped.l0, if_pos (by omega), if_pos c0, e1, Option.bind_some, if_pos hlx, hw]
      exact hk k (by omega)
    · by_cases c1 : kd = 1
      · obtain ⟨r, s', t, hr, hs, hk⟩ := mapped_loop h hn1 hn kd d (i + 1) (x6 ++ [Int.tmod (wrap64 ((wrap64 ((i : Int) * (i : Int))) + 1)) (n : Int)]) s z (by omega) (by simp; omega) (by omega) (by omega)
        refine ⟨r, s', t, hr, hs, fun k hk2 => ?_⟩
        obtain ⟨k, rfl⟩ : ∃ q, k = q + 1 := ⟨k - 1, by omega⟩
        rw [spec_l1Cur_mapped.l0, if_pos (by omega), if_neg c0, if_pos c1, if_neg hnz, if_pos hlx, hw]
        exact hk k (by omega)
      · by_cases c2 : kd = 2
        · obtain ⟨r, s', t, hr, hs, hk⟩ := mapped_loop h hn1 hn kd d (i + 1) (x6 ++ [wrap64 (Int.tdiv (i : Int) 2)]) s z (by omega) (by simp; omega) (by omega) (by omega)
          refine ⟨r, s', t, hr, hs, fun k hk2 => ?_⟩
          obtain ⟨k, rfl⟩ : ∃ q, k = q + 1 := ⟨k - 1, by omega⟩
          rw [spec_l1Cur_mapped.l0, if_pos (by omega), if_neg c0, if_neg c1, if_pos c2, if_pos hlx, hw]
          exact hk k (by omega)
        · obtain ⟨v, s1, t1, e1, -, a3, a4⟩ := among_some h h0 (by omega) z (L := [0, 1, 1, 2, 3]) (by decide) (by decide)
          obtain ⟨r, s', t, hr, hs, hk⟩ := mapped_loop h hn1 hn kd d (i + 1) (x6 ++ [Int.tmod (wrap64 ((i : Int) + v)) (n : Int)]) s1 t1 (by omega) (by simp; omega) (by omega) (by omega)
          refine ⟨r, s', t, hr, hs, fun k hk2 => ?_⟩
          obtain ⟨k, rfl⟩ : ∃ q, k = q + 1 := ⟨k - 1, by omega⟩
          rw [spec_l1Cur_mapped.l0, if_pos (by omega), if_neg c0, if_neg c1, if_neg c2, e1, Option.bind_some, if_neg hnz, if_pos hlx, hw]
          exact hk k (by omega)
theorem mapped_some {l : List Int} (h : Byt l) {m : Int} (hm : 1 ≤ m) (hm2 : m ≤ 50) : ∃ (r : List Int) (s' t : Int), r.length ≤ 100 ∧ (0 ≤ s' ∧ s' ≤ 10000) ∧ ∀ k, 200 < k → spec_l1Cur_mapped.f k l 0 0 m = some (r, s', t) := by
  obtain ⟨v, s1, t1, e1, a1, a2, a3, a4⟩ := pick_some h (s := 0) (by omega) (by omega) 0 m (by omega)
  have a2 := a2 hm
  obtain ⟨kd, s2, t2, e2, b1, b2, b3, b4⟩ := pick_some h (s := s1) (by omega) (by omega) t1 4 (by omega)
  obtain ⟨n, hn⟩ := Int.eq_ofNat_of_zero_le (show 0 ≤ 1 + v by omega)
  have hw : wrap64 (1 + v) = (n : Int) := by rw [hn]; unfold wrap64; omega
  obtain ⟨r, s', t, hr, hs, hk⟩ := mapped_loop h (n := n) (by omega) (by omega) kd n 0 [] s2 t2 (by omega) rfl (by omega) (by omega)
  refine ⟨r, s', t, hr, hs, fun k hk2 => ?_⟩
  unfold spec_l1Cur_mapped.f
  rw [e1, Option.bind_some, e2, Option.bind_some]
  show spec_l1Cur_mapped.l0 k (wrap64 (1 + v)) [] kd 0 l s2 t2 = _
  rw [hw]
  exact hk k (by omega)
theorem DrawCyclesOfMap_some {l : List Int} (h : Byt l) : ∃ r : List Int, r.length ≤ 100 ∧ ∀ k, 200 < k → spec_DrawCyclesOfMap.f k l = some r := by
  obtain ⟨r, s', t, hr, hs, hk⟩ := mapped_some h (m := 20) (by omega) (by omega)
  exact ⟨r, hr, fun k hk2 => by rw [spec_DrawCyclesOfMap.f, spec_DrawIsMap.f, hk k hk2, Option.bind_some, Option.bind_some]⟩
theorem DrawPowerOfMap_some {l : List Int} (h : Byt l) : ∃ (r : List Int) (q : Int), r.length ≤ 100 ∧ ∀ k, 200 < k → spec_DrawPowerOfMap.f k l = some (r, q) := by
  obtain ⟨r, s', t, hr, hs, hk⟩ := mapped_some h (m := 20) (by omega) (by omega)
  obtain ⟨v, s1, t1, e1, _⟩ := among_some h (s := s') (by omega) (by omega) t (L := [0, 1, 2, 3, 12, 1000, 1000000, 1000001, (-1)]) (by decide) (by decide)
  exact ⟨r, v, hr, fun k hk2 => by rw [spec_DrawPowerOfMap.f, hk k hk2, Option.bind_some, e1, Option.bind_some]⟩
theorem DrawApplyMap_some {l : List Int} (h : Byt l) : ∃ (r : List Int) (x q : Int), r.length ≤ 100 ∧ ∀ k, 200 < k → spec_DrawApplyMap.f k l = some (r, x, q) := by
  obtain ⟨r, s', t, hr, hs, hk⟩ := mapped_some h (m := 20) (by omega) (by omega)
  have hw : wrap64 ((r.length : Int) + 2) = (r.length : Int) + 2 := by unfold wrap64; omega
  obtain ⟨v1, s1, t1, e1, _, _, a3, a4⟩ := pick_some h (s := s') (by omega) (by omega) t ((r.length : Int) + 2) (by omega)
  obtain ⟨v2, s2, t2, e2, _, _, b3, b4⟩ := pick_some h (s := s1) (by omega) (by omega) t1 2 (by omega)
  obtain ⟨v3, s3, t3, e3, _⟩ := among_some h (s := s2) (by omega) (by omega) t2 (L := [0, 1, 2, 7, 30, 1000, 1000000, 1000001, (-1)]) (by decide) (by decide)
  exact ⟨r, _, _, hr, fun k hk2 => by rw [spec_DrawApplyMap.f, hk k hk2, Option.bind_some, hw, e1, Option.bind_some, e2, Option.bind_some, e3, Option.bind_some]⟩
theorem DrawTailAndCycle_some {l : List Int} (h : Byt l) : ∃ (r : List Int) (x : Int), r.length ≤ 100 ∧ ∀ k, 200 < k → spec_DrawTailAndCycle.f k l = some (r, x) := by
  obtain ⟨r, s', t, hr, hs, hk⟩ := mapped_some h (m := 30) (by omega) (by omega)
  have hw : wrap64 ((r.length : Int) + 2) = (r.length : Int) + 2 := by unfold wrap64; omega
  obtain ⟨v1, s1, t1, e1, _, _, a3, a4⟩ := pick_some h (s := s') (by omega) (by omega) t ((r.length : Int) + 2) (by omega)
  obtain ⟨v2, s2, t2, e2, _⟩ := pick_some h (s := s1) (by omega) (by omega) t1 2 (by omega)
  exact ⟨r, _, hr, fun k hk2 => by rw [spec_DrawTailAndCycle.f, hk k hk2, Option.bind_some, hw, e1, Option.bind_some, e2, Option.bind_some]⟩
end Go.Proofs.YtcaohpcbohdkbaaGreatC
end
