/-
  The plain law of SumsSpread: both programs spread sums of squares alike. No conditions.
-/
import Derived.Test.YtehhkkbejmhcfaaLPw
namespace Go.Proofs.YtehhkkbejmhcfaaC
open Go.RowKit Go.Proofs.YtehhkkbejmhcfaaW.PrintWords
set_option linter.unusedSimpArgs false
set_option linter.unusedVariables false

theorem set_sum : ∀ (l : List Int) (i : Nat) (x : Int) (h : i < l.length), (l.set i x).sum = l.sum - l[i] + x
  | [], i, x, h => by simp at h
  | y :: l, 0, x, h => by simp; omega
  | y :: l, i + 1, x, h => by
    have hi : i < l.length := by simpa using h
    have := set_sum l i x hi
    simp only [List.set_cons_succ, List.sum_cons, List.getElem_cons_succ, this]
    omega
def nneg (l : List Int) : Prop := ∀ x ∈ l, 0 ≤ x
theorem nneg_sum : ∀ {l : List Int}, nneg l → 0 ≤ l.sum ∧ ∀ i (h : i < l.length), 0 ≤ l[i] ∧ l[i] ≤ l.sum
  | [], _ => ⟨by simp, fun i h => by simp at h⟩
  | y :: l, hn => by
    have hy : 0 ≤ y := hn y (by simp)
    obtain ⟨h0, h1⟩ := nneg_sum (l := l) (fun x hx => hn x (by simp [hx]))
    refine ⟨by simp; omega, fun i h => ?_⟩
    rcases i with _ | i
    · simp; omega
    · have := h1 i (by simpa using h)
      simp only [List.getElem_cons_succ, List.sum_cons]
      omega
theorem nneg_set {l : List Int} (hn : nneg l) (i : Nat) {x : Int} (hx : 0 ≤ x) : nneg (l.set i x) := fun y hy => by
  rcases List.mem_or_eq_of_mem_set hy with h | rfl
  · exact hn y h
  · exact hx
theorem sum_append_ (a b : List Int) : (a ++ b).sum = a.sum + b.sum := List.sum_append
theorem sq_nat (d : Nat) (h : d ≤ 16) : wrap64 ((d : Int) * (d : Int)) = ((d * d : Nat) : Int) := by
  have : d * d ≤ 16 * 16 := Nat.mul_le_mul h h
  rw [← Int.natCast_mul, w64n (by omega)]
theorem sq_mono {d b : Nat} (h : d < b) : d * d ≤ (b - 1) * (b - 1) := Nat.mul_le_mul (by omega) (by omega)

/-- One number s with v ways: its squares are added by the program. -/
theorem inner_impl {b g : Nat} (hgd : ∀ d, d < b → d * d ≤ g) (hb : 2 ≤ b) (hb2 : b ≤ 10) (n i : Int) (out : List Int) (s : Nat) (v : Int) (hv : 0 ≤ v) (hs : s ≤ 10000) : ∀ (m d : Nat) (nl : List Int), d + m = b → nneg nl → nl.sum + (m : Int) * v ≤ 100000000000000 → s + g < nl.length → nl.length ≤ 10000 →
    ∃ nl' : List Int, nneg nl' ∧ nl'.length = nl.length ∧ nl'.sum = nl.sum + (m : Int) * v ∧ (v = 0 → nl' = nl) ∧
      (∃ c, ∀ k, impl_spread.l2 (k + c) (b : Int) nl (s : Int) v n i out (out.length : Int) (s : Int) (b : Int) (d : Int) = impl_spread.l1 k (b : Int) nl' n i out (out.length : Int) ((s + 1 : Nat) : Int)) ∧
      (0 < v → ∀ (z outS : List Int), ∃ c, ∀ k, spec_pwSpread.l2 (k + c) n (b : Int) i (nl ++ z) (s : Int) v (d : Int) outS (outS.length : Int) (s : Int) = spec_pwSpread.l1 k n (b : Int) i (nl' ++ z) outS (outS.length : Int) ((s + 1 : Nat) : Int)) := by
  intro m
  induction m with
  | zero =>
    intro d nl hd hnn hsum hlen hl
    refine ⟨nl, hnn, rfl, by simp, fun _ => rfl, ⟨1, fun k => ?_⟩, fun h z outS => ⟨1, fun k => ?_⟩⟩
    · rw [impl_spread.l2, if_neg (by omega), w64s (by omega)]
    · rw [spec_pwSpread.l2, if_pos h, if_neg (by omega), w64s (by omega)]
  | succ m ih =>
    intro d nl hd hnn hsum hlen hl
    have e1 : ((m + 1 : Nat) : Int) * v = (m : Int) * v + v := by rw [Int.natCast_add, Int.add_mul]; simp
    have hm : 0 ≤ (m : Int) * v := Int.mul_nonneg (Int.natCast_nonneg m) hv
    rw [e1] at hsum ⊢
    generalize (m : Int) * v = mv at *
    obtain ⟨q, hq⟩ : ∃ q, q = d * d := ⟨_, rfl⟩
    have hdd : q ≤ g := by rw [hq]; exact hgd d (by omega)
    have hsq : Aside0 (wrap64 ((d : Int) * (d : Int)) = (q : Int)) := ⟨by rw [hq]; exact sq_nat d (by omega)⟩
    clear hq
    have hi : s + q < nl.length := by omega
    obtain ⟨hs0, hent⟩ := nneg_sum hnn
    have he := hent (s + q) hi
    obtain ⟨e, hee⟩ : ∃ e, e = nl[s + q] := ⟨_, rfl⟩
    rw [← hee] at he
    have hsum' : (nl.set (s + q) (e + v)).sum = nl.sum + v := by rw [set_sum nl _ _ hi, ← hee]; omega
    have hev : 0 ≤ e + v ∧ e + v ≤ 100000000000000 := ⟨by omega, by omega⟩
    obtain ⟨nl', h1, h2, h3, h0, ⟨c1, h4⟩, h5⟩ := ih (d + 1) (nl.set (s + q) (e + v)) (by omega) (nneg_set hnn _ hev.1) (by rw [hsum']; omega) (by simpa using hlen) (by simpa using hl)
    have hi1 : Aside0 (wrap64 ((s : Int) + (q : Int)) = ((s + q : Nat) : Int)) := ⟨by rw [← Int.natCast_add, w64n (by omega)]⟩
    have hw : Aside0 (wrap64 (e + v) = e + v) := ⟨w64 (by omega) (by omega)⟩
    refine ⟨nl', h1, by simpa using h2, by rw [h3, hsum']; omega, fun hv0 => ?_, ⟨c1 + 1, fun k => ?_⟩, fun hv0 z outS => ?_⟩
    · rw [h0 hv0, hv0, Int.add_zero, hee]; exact List.set_getElem_self hi
    · rw [← Nat.add_assoc, impl_spread.l2, if_pos (by omega), hsq.out, hi1.out, if_pos (by omega), if_pos (by omega), rd_get hi, Int.toNat_natCast, ← hee, hw.out, w64s (by omega)]
      exact h4 k
    · obtain ⟨c2, h6⟩ := h5 hv0 z outS
      have hi2 : s + q < (nl ++ z).length := by simp; omega
      refine ⟨c2 + 1, fun k => ?_⟩
      rw [← Nat.add_assoc, spec_pwSpread.l2, if_pos hv0, if_pos (by omega), hsq.out, hi1.out, if_pos (by omega), if_pos (by omega), rd_get hi2, Int.toNat_natCast, List.getElem_append_left hi, ← hee, hw.out, w64s (by omega), List.set_append_left _ _ hi]
      exact h6 k
/-- All numbers of a row, from s on. -/
theorem middle {b g : Nat} (hgd : ∀ d, d < b → d * d ≤ g) (hb : 2 ≤ b) (hb2 : b ≤ 10) (n i : Int) (out z zo : List Int) (hzo : ∀ x ∈ zo, x = 0) (hout : nneg out) (hlo : out.length + g ≤ 10000) (hzl : zo.length ≤ 10000) : ∀ (m s : Nat) (nl : List Int), s + m = out.length → nneg nl → nl.sum + (b : Int) * (out.drop s).sum ≤ 100000000000000 → nl.length = out.length + g →
    ∃ nl' : List Int, nneg nl' ∧ nl'.length = nl.length ∧ nl'.sum = nl.sum + (b : Int) * (out.drop s).sum ∧
      (∃ c, ∀ k, impl_spread.l1 (k + c) (b : Int) nl n i out (out.length : Int) (s : Int) = impl_spread.l0 k (b : Int) nl' n (wrap64 (i + 1))) ∧
      (∃ c, ∀ k, spec_pwSpread.l1 (k + c) n (b : Int) i (nl ++ z) (out ++ zo) ((out ++ zo).length : Int) (s : Int) = spec_pwSpread.l0 k n (b : Int) (nl' ++ z) (wrap64 (i + 1))) := by
  intro m
  induction m with
  | zero =>
    intro s nl hs hnn hsum hlen
    have hd : out.drop s = [] := List.drop_of_length_le (by omega)
    rw [hd]
    refine ⟨nl, hnn, rfl, by simp, ⟨1, fun k => ?_⟩, ?_⟩
    · rw [impl_spread.l1, if_neg (by omega)]
    · -- the zeros behind
      have hz : ∀ (q j : Nat), out.length + j + q = (out ++ zo).length → ∃ c, ∀ k, spec_pwSpread.l1 (k + c) n (b : Int) i (nl ++ z) (out ++ zo) ((out ++ zo).length : Int) ((out.length + j : Nat) : Int) = spec_pwSpread.l0 k n (b : Int) (nl ++ z) (wrap64 (i + 1)) := by
        intro q
        induction q with
        | zero =>
          intro j hj
          refine ⟨1, fun k => ?_⟩
          rw [spec_pwSpread.l1, if_neg (by omega)]
        | succ q ihq =>
          intro j hj
          obtain ⟨c, hc⟩ := ihq (j + 1) (by omega)
          have hlt : out.length + j < (out ++ zo).length := by omega
          have h0 : (out ++ zo)[out.length + j] = 0 := by
            rw [List.getElem_append_right (by omega)]
            exact hzo _ (List.getElem_mem _)
          have hl2 : (out ++ zo).length ≤ 20000 := by simp; omega
          refine ⟨c + 2, fun k => ?_⟩
          rw [← Nat.add_assoc, spec_pwSpread.l1, if_pos (by omega), if_pos (by omega), if_pos (by omega), rd_get hlt, h0, spec_pwSpread.l2, if_neg (by omega), w64s (by omega)]
          exact hc k
      have hs' : s = out.length := by omega
      rw [hs']
      exact hz zo.length 0 (by simp)
  | succ m ih =>
    intro s nl hs hnn hsum hlen
    have hlt : s < out.length := by omega
    have hv := hout out[s] (List.getElem_mem hlt)
    have hdr : (out.drop s).sum = out[s] + (out.drop (s + 1)).sum := by rw [List.drop_eq_getElem_cons hlt, List.sum_cons]
    have hrest : 0 ≤ (out.drop (s + 1)).sum := (nneg_sum (l := out.drop (s + 1)) (fun x hx => hout x (List.mem_of_mem_drop hx))).1
    obtain ⟨v, hvv⟩ : ∃ v, v = out[s] := ⟨_, rfl⟩
    have hbr : 0 ≤ (b : Int) * (out.drop (s + 1)).sum := Int.mul_nonneg (by omega) hrest
    have e1 : (b : Int) * (out.drop s).sum = (b : Int) * v + (b : Int) * (out.drop (s + 1)).sum := by rw [hdr, hvv, Int.mul_add]
    rw [← hvv] at hv
    rw [e1] at hsum
    obtain ⟨nl1, h1, h2, h3, h0, ⟨c1, h4⟩, h5⟩ := inner_impl hgd hb hb2 n i out s v hv (by omega) b 0 nl (by omega) hnn (by omega) (by omega) (by omega)
    obtain ⟨nl2, g1, g2, g3, ⟨c3, g4⟩, ⟨c4, g5⟩⟩ := ih (s + 1) nl1 (by omega) h1 (by rw [h3]; omega) (by omega)
    refine ⟨nl2, g1, by omega, by rw [g3, h3, e1]; omega, ⟨c3 + c1 + 1, fun k => ?_⟩, ?_⟩
    · rw [← Nat.add_assoc, ← Nat.add_assoc, impl_spread.l1, if_pos (by omega), if_pos (by omega), if_pos (by omega), rd_get hlt, ← hvv]
      have := h4 (k + c3)
      simp only [Int.natCast_zero] at this
      have h0' : ((0 : Nat) : Int) = 0 := rfl
      rw [this]
      exact g4 k
    · have hlt2 : s < (out ++ zo).length := by simp; omega
      have hl2 : (out ++ zo).length ≤ 20000 := by simp; omega
      by_cases hv0 : 0 < v
      · obtain ⟨c2, h6⟩ := h5 hv0 z (out ++ zo)
        refine ⟨c4 + c2 + 1, fun k => ?_⟩
        rw [← Nat.add_assoc, ← Nat.add_assoc, spec_pwSpread.l1, if_pos (by omega), if_pos (by omega), if_pos (by omega), rd_get hlt2, List.getElem_append_left hlt, ← hvv]
        have := h6 (k + c4)
        simp only [Int.natCast_zero] at this
        rw [this]
        exact g5 k
      · have hv1 : v = 0 := by omega
        rw [h0 hv1] at g5
        refine ⟨c4 + 2, fun k => ?_⟩
        rw [← Nat.add_assoc, spec_pwSpread.l1, if_pos (by omega), if_pos (by omega), if_pos (by omega), rd_get hlt2, List.getElem_append_left hlt, ← hvv, spec_pwSpread.l2, if_neg (by omega), w64s (by omega)]
        exact g5 k
theorem nneg_zeros (m : Nat) : nneg (List.replicate m 0) := fun x hx => by rw [List.eq_of_mem_replicate hx]; omega
theorem sum_zeros (m : Nat) : (List.replicate m (0 : Int)).sum = 0 := by
  induction m with
  | zero => rfl
  | succ m ih => rw [List.replicate_succ, List.sum_cons, ih]; rfl
/-- All rounds, from round i on. -/
theorem outer {b n : Nat} (hb : 2 ≤ b) (hb2 : b ≤ 10) (hn : n ≤ 12) : ∀ (m i : Nat) (out : List Int), i + m = n → nneg out → out.sum ≤ 10 ^ i → out.length = i * ((b - 1) * (b - 1)) + 1 →
    ∃ r : List Int, r.length = n * ((b - 1) * (b - 1)) + 1 ∧ nneg r ∧ (∃ c, ∀ k, impl_spread.l0 (k + c) (b : Int) out (n : Int) (i : Int) = some r) ∧
      (∃ c, ∀ k, spec_pwSpread.l0 (k + c) (n : Int) (b : Int) (out ++ List.replicate (m * ((b - 1) * (b - 1))) 0) (i : Int) = some r) := by
  have hg : (b - 1) * (b - 1) ≤ 81 := Nat.mul_le_mul (show b - 1 ≤ 9 by omega) (show b - 1 ≤ 9 by omega)
  have hgi : Aside0 (wrap64 (wrap64 ((b : Int) - 1) * wrap64 ((b : Int) - 1)) = (((b - 1) * (b - 1) : Nat) : Int)) := ⟨by
    rw [w64 (n := (b : Int) - 1) (by omega) (by omega), show (b : Int) - 1 = ((b - 1 : Nat) : Int) by omega, ← Int.natCast_mul, w64n (Nat.le_trans hg (by decide))]⟩
  have hmid := fun (i : Int) (out z zo : List Int) => middle (g := (b - 1) * (b - 1)) (fun d hd => sq_mono hd) hb hb2 (n : Int) i out z zo
  generalize (b - 1) * (b - 1) = g at *
  intro m
  induction m with
  | zero =>
    intro i out hi hnn hsum hlen
    have : i = n := by omega
    subst this
    refine ⟨out, hlen, hnn, ⟨1, fun k => ?_⟩, ⟨1, fun k => ?_⟩⟩
    · rw [impl_spread.l0, if_neg (by omega)]
    · rw [spec_pwSpread.l0, if_neg (by omega)]; simp
  | succ m ih =>
    intro i out hi hnn hsum hlen
    have hgm : (m + 1) * g = g + m * g := by rw [Nat.add_mul]; omega
    have hig : i * g ≤ 12 * 81 := Nat.mul_le_mul (by omega) hg
    have hmg : m * g ≤ 12 * 81 := Nat.mul_le_mul (by omega) hg
    have hp : (10 : Int) ^ i ≤ 1000000000000 := by
      have : i = 0 ∨ i = 1 ∨ i = 2 ∨ i = 3 ∨ i = 4 ∨ i = 5 ∨ i = 6 ∨ i = 7 ∨ i = 8 ∨ i = 9 ∨ i = 10 ∨ i = 11 := by omega
      rcases this with rfl | rfl | rfl | rfl | rfl | rfl | rfl | rfl | rfl | rfl | rfl | rfl <;> decide
    have h0 := (nneg_sum hnn).1
    have hbs : (b : Int) * out.sum ≤ 10 * out.sum := Int.mul_le_mul_of_nonneg_right (by omega) h0
    have e10 : (10 : Int) ^ (i + 1) = 10 ^ i * 10 := Int.pow_succ _ _
    obtain ⟨nl, h1, h2, h3, ⟨c1, h4⟩, ⟨c2, h5⟩⟩ := hmid (i : Int) out (List.replicate (m * g) 0) (List.replicate ((m + 1) * g) 0) (fun x hx => List.eq_of_mem_replicate hx) hnn (by omega) (by simp; omega) out.length 0 (List.replicate (out.length + g) 0) (by omega) (nneg_zeros _) (by rw [sum_zeros, List.drop_zero]; omega) (by simp)
    rw [sum_zeros, List.drop_zero] at h3
    obtain ⟨r, g1, g0, ⟨c3, g2⟩, ⟨c4, g3⟩⟩ := ih (i + 1) nl (by omega) h1 (by rw [h3, e10]; omega) (by rw [h2]; simp only [List.length_replicate]; rw [Nat.add_mul]; omega)
    have e2 : Aside0 (wrap64 ((out.length : Int) + (g : Int)) = ((out.length + g : Nat) : Int)) := ⟨by rw [← Int.natCast_add, w64n (by omega)]⟩
    refine ⟨r, g1, g0, ⟨c3 + c1 + 1, fun k => ?_⟩, ⟨c4 + c2 + 1, fun k => ?_⟩⟩
    · rw [← Nat.add_assoc, ← Nat.add_assoc, impl_spread.l0, if_pos (by omega), hgi.out, e2.out, if_pos (by omega), if_pos (by simp; omega), Int.toNat_natCast]
      have := h4 (k + c3)
      simp only [Int.natCast_zero] at this
      rw [this, w64s (by omega)]
      exact g2 k
    · have hL : (out ++ List.replicate ((m + 1) * g) (0 : Int)).length = out.length + g + m * g := by simp; omega
      rw [← Nat.add_assoc, ← Nat.add_assoc, spec_pwSpread.l0, if_pos (by omega), if_pos (by omega), if_pos (by rw [Int.toNat_natCast, hL]; omega), Int.toNat_natCast]
      have := h5 (k + c4)
      simp only [Int.natCast_zero] at this
      rw [show List.replicate (out ++ List.replicate ((m + 1) * g) (0 : Int)).length (0 : Int) = List.replicate (out.length + g) 0 ++ List.replicate (m * g) 0 by rw [hL, List.replicate_append_replicate], this, w64s (by omega)]
      exact g3 k
theorem spread_both {m c : Nat} (hm : m ≤ 12) (hc : 2 ≤ c) (hc2 : c ≤ 10) : ∃ (K : Nat) (r : List Int), r.length ≤ 1000 ∧ nneg r ∧ ∀ k, K ≤ k → spec_pwSpread.f k (m : Int) (c : Int) = some r ∧ impl_spread.f k (m : Int) (c : Int) = some r := by
  obtain ⟨r, hr, hnn, ⟨c1, h1⟩, ⟨c2, h2⟩⟩ := outer (b := c) (n := m) hc hc2 hm m 0 [1] (by omega) (fun x hx => by simp at hx; omega) (by simp) (by simp)
  have hg : (c - 1) * (c - 1) ≤ 81 := Nat.mul_le_mul (show c - 1 ≤ 9 by omega) (show c - 1 ≤ 9 by omega)
  have hmg : m * ((c - 1) * (c - 1)) ≤ 12 * 81 := Nat.mul_le_mul (by omega) hg
  have e0 : Aside0 (wrap64 (wrap64 (wrap64 ((m : Int) * wrap64 ((c : Int) - 1)) * wrap64 ((c : Int) - 1)) + 1) = ((m * ((c - 1) * (c - 1)) + 1 : Nat) : Int)) := ⟨by
    have f1 : m * (c - 1) ≤ 12 * 9 := Nat.mul_le_mul (by omega) (by omega)
    rw [w64 (n := (c : Int) - 1) (by omega) (by omega), show (c : Int) - 1 = ((c - 1 : Nat) : Int) by omega, ← Int.natCast_mul, w64n (by omega), ← Int.natCast_mul, Nat.mul_assoc, w64n (by omega), w64s (by omega)]⟩
  generalize (c - 1) * (c - 1) = g at *
  refine ⟨c1 + c2 + 1, r, by omega, hnn, fun k hk => ⟨?_, ?_⟩⟩
  · have := h2 (k - c2)
    rw [Nat.sub_add_cancel (by omega)] at this
    rw [spec_pwSpread.f, e0.out, if_pos (by omega), if_pos (by simp; omega)]
    simp only [Option.bind_some, Int.toNat_natCast]
    rw [if_pos (by simp; omega)]
    rw [show ((List.replicate (m * g + 1) (0 : Int)).set (0 : Int).toNat 1) = [1] ++ List.replicate (m * g) 0 by rw [List.replicate_succ]; rfl]
    rw [show ((0 : Nat) : Int) = 0 from rfl] at this
    exact this
  · have := h1 (k - c1)
    rw [Nat.sub_add_cancel (by omega)] at this
    rw [impl_spread.f]
    rw [show ((0 : Nat) : Int) = 0 from rfl] at this
    exact this
theorem SumsSpread_both (n b : Int) : ∃ (K : Nat) (r : List Int) (ok : Bool), r.length ≤ 1000 ∧ ∀ k, K ≤ k → spec_SumsSpread.f k n b = some (r, ok) ∧ impl_SumsSpread.f k n b = some (r, ok) := by
  by_cases h : (0 ≤ n ∧ n ≤ 12) ∧ (2 ≤ b ∧ b ≤ 10)
  · obtain ⟨m, rfl⟩ := Int.eq_ofNat_of_zero_le h.1.1
    obtain ⟨c, rfl⟩ := Int.eq_ofNat_of_zero_le (show 0 ≤ b by omega)
    obtain ⟨K, r, hr, _, hk⟩ := spread_both (m := m) (c := c) (by omega) (by omega) (by omega)
    refine ⟨K, r, true, hr, fun k hk2 => ⟨?_, ?_⟩⟩
    · have a1 : spec_pwSpreadAsked.f (m : Int) (c : Int) = some true := by
        simp only [spec_pwSpreadAsked.f, l1In_eq, Option.bind_some]
        rw [if_pos (by simpa using h.1)]
        simp; omega
      rw [spec_SumsSpread.f, a1]
      simp only [Option.bind_some, if_true]
      rw [(hk k hk2).1]; rfl
    · have a1 : impl_isSmallBase.f (c : Int) = some true := by simp [impl_isSmallBase.f, in_eq]; omega
      rw [impl_SumsSpread.f, a1]
      simp only [Option.bind_some, if_true, in_eq]
      rw [if_pos (by simpa using h.1), (hk k hk2).2]; rfl
  · refine ⟨0, [], false, by simp, fun k _ => ⟨?_, ?_⟩⟩
    · by_cases h1 : 0 ≤ n ∧ n ≤ 12
      · have h2 : ¬ (2 ≤ b ∧ b ≤ 10) := fun h2 => h ⟨h1, h2⟩
        simp [spec_SumsSpread.f, spec_pwSpreadAsked.f, l1In_eq, h1, h2]
      · simp [spec_SumsSpread.f, spec_pwSpreadAsked.f, l1In_eq, h1]
    · by_cases h2 : 2 ≤ b ∧ b ≤ 10
      · have h1 : ¬ (0 ≤ n ∧ n ≤ 12) := fun h1 => h ⟨h1, h2⟩
        simp [impl_SumsSpread.f, impl_isSmallBase.f, in_eq, h1, h2]
      · simp [impl_SumsSpread.f, impl_isSmallBase.f, in_eq, h2]
theorem SumsSpread_law : laws_FnExactSumsSpread.Pure := by
  intro n b _ _
  obtain ⟨K0, r, ok, hr, h0⟩ := SumsSpread_both n b 
  obtain ⟨K, hK⟩ : ∃ K, K = K0 + 0 + r.length + 1 := ⟨_, rfl⟩
  have hE : ∀ k, K ≤ k → laws_eqIntS.f k r r = some true := fun k h => (law_facts [] r (by simp) (by omega) (show _ < k by simp; omega)).2.2.1
  have hM : ∀ k, K ≤ k → laws_markIntS.f k r 1 = some (1 + (r.length : Int), marks 1 r.length) := fun k h => (law_facts [] r (by simp) (by omega) (show _ < k by simp; omega)).2.2.2.2.1
  have hH : ∀ k, K ≤ k → laws_heldIntS.f k (marks 1 r.length) 1 = some (1 + (r.length : Int)) := fun k h => (law_facts [] r (by simp) (by omega) (show _ < k by simp; omega)).2.2.2.2.2
  have hN := neg_no r
  have e1 : ∀ k, K ≤ k → spec_SumsSpread.f k n b = some (r, ok) := fun k h => (h0 k (by omega)).1
  have e2 : ∀ k, K ≤ k → impl_SumsSpread.f k n b = some (r, ok) := fun k h => (h0 k (by omega)).2
  refine ⟨K + 9, ?_⟩
  simp [laws_FnExactSumsSpread.f, laws_FnExactSumsSpread.j0, laws_FnExactSumsSpread.j1, hE, hM, hH, hN, e1, e2]
end Go.Proofs.YtehhkkbejmhcfaaC
