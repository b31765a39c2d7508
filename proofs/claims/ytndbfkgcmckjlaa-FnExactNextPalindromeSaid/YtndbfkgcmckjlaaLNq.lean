/-
  The roads of NextPalindrome. No conditions.
-/
import Derived.Test.YtndbfkgcmckjlaaLNp
namespace Go.Proofs.YtndbfkgcmckjlaaC
open Go.RowKit Go.Proofs.YtndbfkgcmckjlaaW.PrintWords Go.Proofs.YtndbfkgcmckjlaaW.PrintMore
set_option linter.unusedSimpArgs false
set_option linter.unusedVariables false

theorem hv_full {b : Int} (hb : 2 ≤ b) : ∀ m : Nat, hv b (List.replicate m (b - 1)) 0 = b ^ m - 1
  | 0 => by simp [hv]
  | m + 1 => by
    rw [List.replicate_succ, hv_cons, List.length_replicate, hv_full hb m, Int.pow_succ, Int.sub_mul, Int.one_mul, Int.mul_comm b]; omega
theorem full_is {b : Int} (hb : 2 ≤ b) {l : List Int} (h : Dg b l) (hv1 : hv b l 0 = b ^ l.length - 1) : l = List.replicate l.length (b - 1) :=
  hv_inj hb h (fun x hx => by rw [List.eq_of_mem_replicate hx]; omega) (by simp) (by rw [hv1, hv_full hb])
/-- 1, noughts and 1. -/
def ones (q : Nat) : List Int := 1 :: (List.replicate q 0 ++ [1])
theorem ones_length (q : Nat) : (ones q).length = q + 2 := by simp [ones]
theorem Dg_ones {b : Int} (hb : 2 ≤ b) (q : Nat) : Dg b (ones q) := fun x hx => by
  simp only [ones, List.mem_cons, List.mem_append, List.not_mem_nil, or_false] at hx
  rcases hx with rfl | h | rfl
  · omega
  · rw [List.eq_of_mem_replicate h]; omega
  · omega
theorem ones_value {b : Int} (q : Nat) : hv b (ones q) 0 = b ^ (q + 1) + 1 := by
  rw [ones, hv_cons, hv_app, hv_zeros]
  simp [hv]
theorem wdiv2 {n : Nat} (h : n ≤ 1000000) : wrap64 (Int.tdiv (wrap64 ((n : Int) + 1)) 2) = (((n + 1) / 2 : Nat) : Int) := by
  rw [w64s (by omega), show (2 : Int) = ((2 : Nat) : Int) from rfl, tdiv_nat, w64n (by omega)]
/-- The reference's second road. -/
theorem spec_second {c : Nat} (hc : 2 ≤ c) (hc2 : c ≤ 16) (E : List Int) (hE : Dg (c : Int) E) (hl1 : 1 ≤ E.length) (hl : E.length ≤ 100) (A : Nat) (hA : hv (c : Int) (E.take ((E.length + 1) / 2)) 0 = (A : Int)) (hA2 : A ≤ 1000000000000) (v : Int) :
    ∃ K, ∀ k, K ≤ k → spec_NextPalindrome.j0 (k + 1) (c : Int) E v false = some (tell (if (E.length + 1) / 2 < (dg c (A + 1)).length then hv (c : Int) (ones (E.length - 1)) 0 else hv (c : Int) (mir E.length ((dg c (A + 1) ++ E.drop ((E.length + 1) / 2)).take ((E.length + 1) / 2))) 0)) ∨ (dg c (A + 1)).length < (E.length + 1) / 2 := by
  have b2 : (2 : Int) ≤ (c : Int) := by omega
  have b16 : (c : Int) ≤ 16 := by omega
  obtain ⟨K, hK, hk⟩ := digits_both (c := c) (m := A + 1) hc hc2 (by omega)
  have hs := dg_short (c := c) (m := A + 1) hc (by omega)
  have hdn := Dg_dg hc (A + 1)
  refine ⟨K + 500, fun k hk' => ?_⟩
  obtain ⟨h, hh⟩ : ∃ h, h = (E.length + 1) / 2 := ⟨_, rfl⟩
  rw [← hh] at hA ⊢
  obtain ⟨e1, _⟩ := hk k (by omega)
  by_cases hshort : (dg c (A + 1)).length < h
  · right; exact hshort
  left
  have hhalf : Aside0 (wrap64 (Int.tdiv (wrap64 ((E.length : Int) + 1)) 2) = (h : Int)) := ⟨by rw [wdiv2 (by omega), hh]⟩
  have hfirst : spec_dgFrom.f k (E.take h) (c : Int) = some ((A : Int), true) := by
    rw [spec_tell b2 b16 (hE.take h) (by simp; omega) (by simp; omega), hA, tell, if_pos (by omega)]
  have hw : Aside0 (wrap64 ((A : Int) + 1) = ((A + 1 : Nat) : Int)) := ⟨w64s (by omega)⟩
  rw [spec_NextPalindrome.j0, if_neg (by simp), hhalf.out, if_pos (by omega), if_pos (by omega), Int.toNat_natCast, hfirst, Option.bind_some]
  simp only [hw.out]
  rw [e1, Option.bind_some]
  by_cases hlong : h < (dg c (A + 1)).length
  · have hw2 : Aside0 (wrap64 ((E.length : Int) + 1) = ((E.length + 1 : Nat) : Int)) := ⟨w64s (by omega)⟩
    have hset : ((List.replicate (E.length + 1) (0 : Int)).set (0 : Int).toNat 1).set ((E.length : Int)).toNat 1 = ones (E.length - 1) := by
      obtain ⟨q, hq⟩ : ∃ q, E.length = q + 1 := ⟨E.length - 1, by omega⟩
      rw [hq, Int.toNat_natCast, Int.toNat_zero, List.replicate_succ, List.set_cons_zero, List.set_cons_succ, List.replicate_succ', ones]
      congr 1
      simp
    rw [if_pos (by omega), hw2.out, if_pos (by omega), if_pos (by omega), Int.toNat_natCast, Option.bind_some, if_pos (by rw [List.length_replicate]; omega), if_pos (by omega), if_pos (by simp <;> omega), hset, spec_tell b2 b16 (Dg_ones b2 _) (by rw [ones_length]; omega) (by rw [ones_length]; omega), if_pos hlong]
    rfl
  · have hlen : (dg c (A + 1) ++ E.drop h).length = E.length := by simp; omega
    have hm := mirrored_S (dg c (A + 1) ++ E.drop h) (by omega) k (by omega)
    rw [hlen, ← hh] at hm
    have hd : Dg (c : Int) (mir E.length ((dg c (A + 1) ++ E.drop h).take h)) := ((hdn.app (hE.drop h)).take h).mir _
    have hml : (mir E.length ((dg c (A + 1) ++ E.drop h).take h)).length = E.length := mir_length (by simp; omega) (by simp; omega)
    rw [if_neg (by omega), Option.bind_some, if_pos (by simp; omega), hm, Option.bind_some, spec_tell b2 b16 hd (by omega) (by omega), if_neg hlong]
    rfl
theorem spec_first {c : Nat} (hc : 2 ≤ c) (hc2 : c ≤ 16) (E : List Int) (hE : Dg (c : Int) E) (hl1 : 1 ≤ E.length) (hl : E.length ≤ 100) (n : Nat) (hn : asked (n : Int) (c : Int) = true) (hEn : E = dg c n) (hn2 : n ≤ 1000000000000) (V : Int) (hV : V = hv (c : Int) (mir E.length (E.take ((E.length + 1) / 2))) 0) :
    ∃ K, ∀ k, K ≤ k → spec_NextPalindrome.f (k + 1) (n : Int) (c : Int) = if V > (n : Int) ∧ V ≤ 1000000000000 then some (V, true) else spec_NextPalindrome.j0 (k + 1) (c : Int) E (tell V).1 false := by
  have b2 : (2 : Int) ≤ (c : Int) := by omega
  have b16 : (c : Int) ≤ 16 := by omega
  obtain ⟨K, hK, hk⟩ := digits_both (c := c) (m := n) hc hc2 (by omega)
  refine ⟨K + 500, fun k hk' => ?_⟩
  obtain ⟨e1, _⟩ := hk (k + 1) (by omega)
  have hd : Dg (c : Int) (mir E.length (E.take ((E.length + 1) / 2))) := (hE.take _).mir _
  have hml : (mir E.length (E.take ((E.length + 1) / 2))).length = E.length := mir_length (by simp; omega) (by simp; omega)
  rw [spec_NextPalindrome.f, dgAsked_eq, hn, Option.bind_some, if_pos rfl, e1, Option.bind_some, ← hEn, mirrored_S E (by omega) (k + 1) (by omega), Option.bind_some, spec_tell b2 b16 hd (by omega) (by omega), Option.bind_some, ← hV]
  by_cases h1 : V ≤ 1000000000000
  · have ht : tell V = (V, true) := by rw [tell, if_pos h1]
    rw [ht, if_pos rfl]
    by_cases h2 : V > (n : Int)
    · rw [if_pos ⟨h2, h1⟩, decide_eq_true h2, spec_NextPalindrome.j0, if_pos rfl]
    · rw [if_neg (fun h => h2 h.1), decide_eq_false h2]
  · have ht : tell V = (0, false) := by rw [tell, if_neg h1]
    rw [ht, if_neg (by simp), if_neg (fun h => h1 h.2)]
/-- The program's road, for digits D of the next number. -/
theorem impl_road {c : Nat} (hc : 2 ≤ c) (hc2 : c ≤ 16) (n : Nat) (hn : asked (n : Int) (c : Int) = true) (hn2 : n ≤ 1000000000000) (D : List Int) (hD : D = dg c (n + 1)) (A : Nat) (hA : hv (c : Int) (D.take ((D.length + 1) / 2)) 0 = (A : Int)) (hA2 : A ≤ 1000000000000) (V : Int) (hV : V = hv (c : Int) (mir D.length (D.take ((D.length + 1) / 2))) 0) :
    ∃ K, ∀ k, K ≤ k → (¬ V < (n : Int) + 1 → impl_NextPalindrome.f k (n : Int) (c : Int) = some (tell V)) ∧
      (V < (n : Int) + 1 → (dg c (A + 1)).length = (D.length + 1) / 2 → impl_NextPalindrome.f k (n : Int) (c : Int) = some (tell (hv (c : Int) (mir D.length (dg c (A + 1))) 0))) := by
  have b2 : (2 : Int) ≤ (c : Int) := by omega
  have b16 : (c : Int) ≤ 16 := by omega
  obtain ⟨K, hK, hk⟩ := digits_both (c := c) (m := n + 1) hc hc2 (by omega)
  obtain ⟨K2, hK2, hk2⟩ := digits_both (c := c) (m := A + 1) hc hc2 (by omega)
  have hs := dg_short (c := c) (m := n + 1) hc (by omega)
  rw [← hD] at hs
  have hDd : Dg (c : Int) D := by rw [hD]; exact Dg_dg hc _
  have hDv : hv (c : Int) D 0 = ((n + 1 : Nat) : Int) := by rw [hD]; exact hv_dg hc _
  have hdn := Dg_dg hc (A + 1)
  refine ⟨K + K2 + 500, fun k hk' => ?_⟩
  obtain ⟨h, hh⟩ : ∃ h, h = (D.length + 1) / 2 := ⟨_, rfl⟩
  rw [← hh] at hA hV ⊢
  obtain ⟨_, e1⟩ := hk k (by omega)
  obtain ⟨_, e2⟩ := hk2 k (by omega)
  rw [← hD] at e1
  have hw : Aside0 (wrap64 ((n : Int) + 1) = ((n + 1 : Nat) : Int)) := ⟨w64s (by omega)⟩
  have hwA : Aside0 (wrap64 ((A : Int) + 1) = ((A + 1 : Nat) : Int)) := ⟨w64s (by omega)⟩
  have hhalf : Aside0 (wrap64 (Int.tdiv (wrap64 ((D.length : Int) + 1)) 2) = (h : Int)) := ⟨by rw [wdiv2 (by omega), hh]⟩
  have hsl : (D.take h).length = h := by simp; omega
  have hd : Dg (c : Int) (mir D.length (D.take h)) := (hDd.take _).mir _
  have hml : (mir D.length (D.take h)).length = D.length := mir_length (by simp; omega) (by simp; omega)
  obtain ⟨r, g1, g2⟩ := compare_eq b2 (xs := mir D.length (D.take h)) (ys := D) (by omega) hml hd hDd (k := k) (by omega)
  rw [← hV, hDv] at g2
  obtain ⟨v1, a1, a2, a3⟩ := impl_tell b2 b16 hd (by omega) (k := k) (by omega)
  rw [← hV] at a2
  have start : impl_NextPalindrome.f k (n : Int) (c : Int) = (if r < 0 then ((impl_value.f k (D.take h) (c : Int)).bind fun t209 => ((impl_digitsOf.f k (wrap64 (t209 + 1)) (c : Int)).bind fun t210 => ((impl_mirrored.f k t210 (D.length : Int)).bind fun t213 => ((impl_value.f k t213 (c : Int)).bind fun t216 => ((impl_told.f t216).bind fun bt217 => (some (bt217.1, bt217.2))))))) else some (tell V)) := by
    rw [impl_NextPalindrome.f, isNumber_eq, hn, Option.bind_some, if_pos rfl, hw.out, e1, Option.bind_some, hhalf.out, if_pos (by omega), if_pos (by omega), Int.toNat_natCast, Option.bind_some, mirrored_I (D.take h) D.length (by omega) (by omega) (by omega) (by omega), Option.bind_some, g1, Option.bind_some, a1, Option.bind_some, a2]
    rfl
  refine ⟨fun hV1 => ?_, fun hV1 hlen => ?_⟩
  · rw [start, if_neg (by omega)]
  · obtain ⟨v2, c1, c2, c3⟩ := impl_tell b2 b16 (hDd.take h) (by omega) (k := k) (by omega)
    have hv2 : v2 = (A : Int) := by rw [c3 (by omega), hA]
    have hd2 : Dg (c : Int) (mir D.length (dg c (A + 1))) := hdn.mir _
    have hml2 : (mir D.length (dg c (A + 1))).length = D.length := mir_length (by omega) (by omega)
    obtain ⟨v3, d1, d2, d3⟩ := impl_tell b2 b16 hd2 (by omega) (k := k) (by omega)
    rw [start, if_pos (by omega), c1, Option.bind_some, hv2, hwA.out, e2, Option.bind_some, mirrored_I (dg c (A + 1)) D.length (by omega) (by omega) (by omega) (by omega), Option.bind_some, d1, Option.bind_some, d2]
    rfl
end Go.Proofs.YtndbfkgcmckjlaaC
