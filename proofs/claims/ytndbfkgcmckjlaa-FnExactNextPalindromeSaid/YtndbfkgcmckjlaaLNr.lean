/-
  The plain law of NextPalindrome. No conditions.
-/
import Derived.Test.YtndbfkgcmckjlaaLNq
namespace Go.Proofs.YtndbfkgcmckjlaaC
open Go.RowKit Go.Proofs.YtndbfkgcmckjlaaW.PrintWords Go.Proofs.YtndbfkgcmckjlaaW.PrintMore
set_option linter.unusedSimpArgs false
set_option linter.unusedVariables false

theorem NextPalindrome_both (n b : Int) : ∃ (K : Nat) (v : Int × Bool), ∀ k, K ≤ k → spec_NextPalindrome.f k n b = some v ∧ impl_NextPalindrome.f k n b = some v := by
  cases hask : asked n b with
  | false => exact ⟨0, (0, false), fun k _ => ⟨by rw [spec_NextPalindrome.f, dgAsked_eq, hask, Option.bind_some, if_neg (by simp)], by rw [impl_NextPalindrome.f, isNumber_eq, hask, Option.bind_some, if_neg (by simp)]⟩⟩
  | true =>
    obtain ⟨n, c, rfl, rfl, hm, hc, hc2⟩ := asked_nat hask
    have b2 : (2 : Int) ≤ (c : Int) := by omega
    have b1 : (1 : Int) ≤ (c : Int) := by omega
    obtain ⟨E, hE⟩ : ∃ E, E = dg c n := ⟨_, rfl⟩
    obtain ⟨D, hD⟩ : ∃ D, D = dg c (n + 1) := ⟨_, rfl⟩
    have hEd : Dg (c : Int) E := by rw [hE]; exact Dg_dg hc _
    have hDd : Dg (c : Int) D := by rw [hD]; exact Dg_dg hc _
    have hEv : hv (c : Int) E 0 = (n : Int) := by rw [hE]; exact hv_dg hc _
    have hDv : hv (c : Int) D 0 = ((n + 1 : Nat) : Int) := by rw [hD]; exact hv_dg hc _
    have hEs : E.length ≤ 63 := by rw [hE]; exact dg_short hc (by omega)
    have hDs : D.length ≤ 63 := by rw [hD]; exact dg_short hc (by omega)
    have hE1 : 1 ≤ E.length := by
      have := dg_ne hc n
      rw [← hE] at this
      have := List.length_pos_iff.2 this
      omega
    obtain ⟨hD1, hD2, hD3⟩ := dg_size hc (n := n + 1) (by omega)
    rw [← hD] at hD1 hD2 hD3
    obtain ⟨L, hL⟩ : ∃ L, L = E.length := ⟨_, rfl⟩
    obtain ⟨h, hh⟩ : ∃ h, h = (L + 1) / 2 := ⟨_, rfl⟩
    -- the two halves of the number
    have hEt : (E.take h).length = h := by simp; omega
    have hEdl : (E.drop h).length = L - h := by simp; omega
    have hA0 := hv_lt b2 (hEd.take h)
    have hB0 := hv_lt b2 (hEd.drop h)
    rw [hEt] at hA0
    rw [hEdl] at hB0
    have hsplit : (n : Int) = hv (c : Int) (E.take h) 0 * (c : Int) ^ (L - h) + hv (c : Int) (E.drop h) 0 := by
      rw [← hEv, ← hEdl, ← hv_app, List.take_append_drop]
    have hP1 := (ipow_mono b1 (Nat.le_refl (L - h))).1
    have hAP : hv (c : Int) (E.take h) 0 ≤ hv (c : Int) (E.take h) 0 * (c : Int) ^ (L - h) := by
      have := Int.mul_le_mul_of_nonneg_left hP1 hA0.1
      rw [Int.mul_one] at this
      exact this
    obtain ⟨A, hA⟩ := Int.eq_ofNat_of_zero_le hA0.1
    obtain ⟨V, hV⟩ : ∃ V, V = hv (c : Int) (mir L (E.take h)) 0 := ⟨_, rfl⟩
    have hr0 := hv_lt b2 ((hEd.take h).take (L - h)).rev
    have hVe : V = (A : Int) * (c : Int) ^ (L - h) + hv (c : Int) ((E.take h).take (L - h)).reverse 0 := by
      rw [hV, mir_value (by omega), hEt, hA]
    rw [List.length_reverse, List.length_take, hEt, Nat.min_eq_left (by omega)] at hr0
    rw [hA] at hsplit hAP hA0
    have hAm : A ≤ 1000000000000 := by omega
    obtain ⟨K1, s1⟩ := spec_first hc hc2 E hEd hE1 (by omega) n hask hE hm V (by rw [← hL, ← hh]; exact hV)
    obtain ⟨K2, s2⟩ := spec_second hc hc2 E hEd hE1 (by omega) A (by rw [← hL, ← hh]; exact hA) hAm (tell V).1
    rw [← hL, ← hh] at s2
    -- lengths of the half and 1
    have hA1 := dg_size hc (n := A + 1) (by omega)
    have hcL : (c : Int) ^ L = (c : Int) ^ h * (c : Int) ^ (L - h) := by rw [← Int.pow_add]; congr 1; omega
    have hnL := (hv_lt b2 hEd).2
    rw [hEv, ← hL] at hnL
    have hlenA : (dg c (A + 1)).length ≤ h ∨ ((A : Int) + 1 = (c : Int) ^ h ∧ (dg c (A + 1)).length = h + 1) := by
      by_cases hlt : (A : Int) + 1 < (c : Int) ^ h
      · left
        by_cases hc3 : (dg c (A + 1)).length ≤ h
        · exact hc3
        · have := (ipow_mono b1 (show h ≤ (dg c (A + 1)).length - 1 by omega)).2
          omega
      · right
        have he : (A : Int) + 1 = (c : Int) ^ h := by omega
        refine ⟨he, ?_⟩
        have h3 := (ipow_mono b1 (show h ≤ h + 1 by omega)).2
        have h4 : (c : Int) ^ h < (c : Int) ^ (h + 1) := by
          rw [Int.pow_succ]
          have := (ipow_mono b1 (Nat.le_refl h)).1
          have := Int.mul_le_mul_of_nonneg_left b2 (show 0 ≤ (c : Int) ^ h by omega)
          omega
        have := len_uniq (x := (dg c (A + 1)).length - 1) (y := h) (m := ((A + 1 : Nat) : Int)) b2 hA1.2.1 (by rw [Nat.sub_add_cancel hA1.1]; exact hA1.2.2) (by omega) (by omega)
        omega
    have hlow : 0 < n → h ≤ (dg c (A + 1)).length := fun hn => by
      obtain ⟨x, l, hx1, hx2⟩ := dg_head hc hn
      rw [← hE] at hx1
      obtain ⟨q, hq⟩ : ∃ q, h = q + 1 := ⟨h - 1, by omega⟩
      have ht : E.take h = x :: l.take q := by rw [hx1, hq]; rfl
      have hd := hEd.take h
      rw [ht] at hd
      have := hv_head b2 hd hx2
      rw [← ht, hA] at this
      have hlq : (l.take q).length = q := by
        have := congrArg List.length ht
        rw [hEt] at this
        simp only [List.length_cons] at this
        omega
      rw [hlq] at this
      by_cases hc3 : h ≤ (dg c (A + 1)).length
      · exact hc3
      · have := (ipow_mono b1 (show (dg c (A + 1)).length ≤ q by omega)).2
        have := hA1.2.2
        omega
    by_cases hLD : D.length = L
    · -- the same count of digits
      have hDt : (D.take h).length = h := by simp; omega
      have hDdl : (D.drop h).length = L - h := by simp; omega
      have hB1 := hv_lt b2 (hDd.drop h)
      rw [hDdl] at hB1
      have hsplit2 : ((n + 1 : Nat) : Int) = hv (c : Int) (D.take h) 0 * (c : Int) ^ (L - h) + hv (c : Int) (D.drop h) 0 := by
        rw [← hDv, ← hDdl, ← hv_app, List.take_append_drop]
      obtain ⟨A', hA'⟩ := Int.eq_ofNat_of_zero_le (hv_lt b2 (hDd.take h)).1
      rw [hA'] at hsplit2
      have hAP' : (A' : Int) ≤ (A' : Int) * (c : Int) ^ (L - h) := by
        have := Int.mul_le_mul_of_nonneg_left hP1 (show (0 : Int) ≤ (A' : Int) by omega)
        rw [Int.mul_one] at this
        exact this
      have hA1' : A' ≤ 1000000000001 := by omega
      obtain ⟨V', hV'⟩ : ∃ V', V' = hv (c : Int) (mir L (D.take h)) 0 := ⟨_, rfl⟩
      by_cases hsame : A' = A
      · subst hsame
        have hstart : D.take h = E.take h := hv_inj b2 (hDd.take h) (hEd.take h) (by omega) (by rw [hA', hA])
        have hVV : V' = V := by rw [hV', hV, hstart]
        obtain ⟨K3, s3⟩ := impl_road hc hc2 n hask hm D hD A' (by rw [hLD, ← hh]; exact hA') hAm V' (by rw [hLD, ← hh]; exact hV')
        rw [hLD, ← hh] at s3
        by_cases hVn : V > (n : Int)
        · refine ⟨K1 + K2 + K3 + 1, tell V, fun k hk => ⟨?_, ?_⟩⟩
          · obtain ⟨k, rfl⟩ : ∃ q, k = q + 1 := ⟨k - 1, by omega⟩
            rw [s1 k (by omega)]
            by_cases hV12 : V ≤ 1000000000000
            · rw [if_pos ⟨hVn, hV12⟩, tell, if_pos hV12]
            · have hV3 : tell V = (0, false) := by rw [tell, if_neg hV12]
              rw [if_neg (fun h => hV12 h.2)]
              have hVL := (hv_lt b2 ((hEd.take h).mir L)).2
              rw [← hV, mir_length (by omega) (by omega)] at hVL
              have hn0 : 0 < n := by
                rcases Nat.eq_zero_or_pos n with h0 | h0
                · -- nought has no great mirror
                  exfalso
                  have hP0 : A' = 0 := by omega
                  have hE0 : E = [0] := by rw [hE, h0]; rfl
                  have hL1 : L = 1 := by rw [hL, hE0]; rfl
                  have hh1 : h = 1 := by omega
                  rw [hL1, hh1, hP0] at hVe
                  rw [hL1, hh1] at hr0
                  simp at hVe hr0
                  omega
                · exact h0
              rcases s2 k (by omega) with s2' | s2'
              · rw [s2', hV3]
                congr 1
                rcases hlenA with hle | ⟨he, hle⟩
                · have hlen := hlow hn0
                  have hlh : (dg c (A' + 1)).length = h := by omega
                  rw [if_neg (by omega), List.take_left' hlh]
                  have hmv := mir_value (b := (c : Int)) (L := L) (s := dg c (A' + 1)) (by omega)
                  have hr2 := hv_lt b2 ((Dg_dg hc (A' + 1)).take (L - h)).rev
                  rw [hlh, hv_dg hc] at hmv
                  have : ((A' + 1 : Nat) : Int) * (c : Int) ^ (L - h) = (A' : Int) * (c : Int) ^ (L - h) + (c : Int) ^ (L - h) := by
                    rw [Int.natCast_add, Int.add_mul]; simp
                  rw [tell, if_neg (by omega)]
                · rw [if_pos (by omega), ones_value, show L - 1 + 1 = L by omega, tell, if_neg (by omega)]
              · have := hlow hn0
                omega
          · rw [(s3 k (by omega)).1 (by omega), hVV]
        · -- the half and 1
          have hAh : (dg c (A' + 1)).length ≤ h := by
            rcases hlenA with hle | ⟨he, hle⟩
            · exact hle
            · exfalso
              have hfull := full_is b2 (hEd.take h) (by rw [hEt, hA]; omega)
              rw [hEt] at hfull
              have hrev : hv (c : Int) ((E.take h).take (L - h)).reverse 0 = (c : Int) ^ (L - h) - 1 := by
                rw [hfull, List.take_replicate, List.reverse_replicate, Nat.min_eq_left (by omega), hv_full b2]
              have hD3' := hD3
              rw [hLD, hcL] at hD3'
              have : (A' : Int) * (c : Int) ^ (L - h) + (c : Int) ^ (L - h) = (c : Int) ^ h * (c : Int) ^ (L - h) := by
                rw [← he, Int.add_mul, Int.one_mul]
              omega
          obtain ⟨K4, hgo⟩ : ∃ K4, ∀ k, K4 ≤ k → spec_NextPalindrome.f k (n : Int) (c : Int) = some (tell (hv (c : Int) (mir L (dg c (A' + 1))) 0)) ∧ (dg c (A' + 1)).length = h := by
            have hn0 : 0 < n ∨ n = 0 := by omega
            have hlh : (dg c (A' + 1)).length = h := by
              rcases hn0 with h0 | h0
              · have := hlow h0; omega
              · have hE0 : E = [0] := by rw [hE, h0]; rfl
                have hL1 : L = 1 := by rw [hL, hE0]; rfl
                have := hA1.1
                omega
            refine ⟨K1 + K2 + 1, fun k hk => ⟨?_, hlh⟩⟩
            obtain ⟨k, rfl⟩ : ∃ q, k = q + 1 := ⟨k - 1, by omega⟩
            rw [s1 k (by omega), if_neg (fun h => hVn h.1)]
            rcases s2 k (by omega) with s2' | s2'
            · rw [s2', if_neg (by omega), List.take_left' hlh]
            · omega
          refine ⟨K3 + K4, _, fun k hk => ⟨(hgo k (by omega)).1, ?_⟩⟩
          exact (s3 k (by omega)).2 (by omega) (hgo k (by omega)).2
      · -- the half grew by 1
        have hA2 : A' = A + 1 ∧ hv (c : Int) (D.drop h) 0 = 0 ∧ hv (c : Int) (E.drop h) 0 = (c : Int) ^ (L - h) - 1 := by
          have hsum : (A : Int) * (c : Int) ^ (L - h) + (hv (c : Int) (E.drop h) 0 + 1) = (A' : Int) * (c : Int) ^ (L - h) + hv (c : Int) (D.drop h) 0 := by omega
          by_cases hB : hv (c : Int) (E.drop h) 0 + 1 < (c : Int) ^ (L - h)
          · have := ((uniq ⟨by omega, hB⟩ hB1).1 hsum).1
            omega
          · have he : hv (c : Int) (E.drop h) 0 + 1 = (c : Int) ^ (L - h) := by omega
            have h2 : ((A : Int) + 1) * (c : Int) ^ (L - h) + 0 = (A' : Int) * (c : Int) ^ (L - h) + hv (c : Int) (D.drop h) 0 := by
              rw [Int.add_mul, Int.one_mul]; omega
            have := (uniq (B := (c : Int) ^ (L - h)) ⟨by omega, by omega⟩ hB1).1 h2
            omega
        obtain ⟨e1, e2, e3⟩ := hA2
        subst e1
        have hVn : ¬ V > (n : Int) := by omega
        -- the half of the next number is the half and 1
        have hnext : D.take h = dg c (A + 1) := by
          obtain ⟨x, l, hx1, hx2⟩ := dg_head hc (n := n + 1) (by omega)
          rw [← hD] at hx1
          obtain ⟨q, hq⟩ : ∃ q, h = q + 1 := ⟨h - 1, by omega⟩
          have ht : D.take h = x :: l.take q := by rw [hx1, hq]; rfl
          have hd := hDd.take h
          rw [ht] at hd
          rw [ht]
          exact (dg_is hc (by omega) hd hx2 (by rw [← ht, hA'])).symm
        have hlh : (dg c (A + 1)).length = h := by rw [← hnext]; exact hDt
        obtain ⟨K3, s3⟩ := impl_road hc hc2 n hask hm D hD (A + 1) (by rw [hLD, ← hh]; exact hA') (by
          have := hAP'
          have : (A : Int) * (c : Int) ^ (L - h) ≤ (n : Int) := by omega
          by_cases h12 : A + 1 ≤ 1000000000000
          · exact h12
          · exfalso
            have hA12 : (A : Int) = 1000000000000 := by omega
            have hd := (hv_lt b2 (hEd.take h)).2
            have : n = 1000000000000 := by omega
            -- a number of so many digits is longer than its half
            have hPc : (c : Int) ^ (L - h) = 1 := by
              by_cases hP2 : (c : Int) ^ (L - h) ≤ 1
              · omega
              · have := Int.mul_le_mul_of_nonneg_left (show 2 ≤ (c : Int) ^ (L - h) by omega) (show (0 : Int) ≤ (A : Int) by omega)
                omega
            have hLh : L - h = 0 := by
              by_cases h0 : L - h = 0
              · exact h0
              · have := (ipow_mono b1 (show 1 ≤ L - h by omega)).2
                rw [Int.pow_succ, Int.pow_zero] at this
                omega
            have hL1 : L = 1 := by omega
            have hh1 : h = 1 := by omega
            rw [hEt, hA, hh1, Int.pow_succ, Int.pow_zero] at hd
            omega) V' (by rw [hLD, ← hh]; exact hV')
        rw [hLD, ← hh] at s3
        have hV2 : V' = hv (c : Int) (mir L (dg c (A + 1))) 0 := by rw [hV', hnext]
        have hVe' := mir_value (b := (c : Int)) (L := L) (s := D.take h) (by omega)
        have hr3 := hv_lt b2 ((hDd.take h).take (L - h)).rev
        rw [hDt, hA', ← hV'] at hVe'
        refine ⟨K1 + K2 + K3 + 1, tell V', fun k hk => ⟨?_, ?_⟩⟩
        · obtain ⟨k, rfl⟩ : ∃ q, k = q + 1 := ⟨k - 1, by omega⟩
          rw [s1 k (by omega), if_neg (fun h => hVn h.1)]
          rcases s2 k (by omega) with s2' | s2'
          · rw [s2', if_neg (by omega), List.take_left' hlh, hV2]
          · omega
        · exact (s3 k (by omega)).1 (by omega)
    · -- one digit more
      have hnL2 : ((n + 1 : Nat) : Int) = (c : Int) ^ L := by
        by_cases hlt : ((n + 1 : Nat) : Int) < (c : Int) ^ L
        · exfalso
          -- then the count of digits is the same
          apply hLD
          rcases Nat.eq_zero_or_pos n with h0 | h0
          · have hE0 : E = [0] := by rw [hE, h0]; rfl
            have hL1 : L = 1 := by rw [hL, hE0]; rfl
            have : D = [1] := by rw [hD, h0]; exact dg_is hc (by omega) (fun x hx => by simp at hx; omega) (by omega) (by simp [hv])
            rw [this, hL1]; rfl
          · obtain ⟨q1, q2, q3⟩ := dg_size hc h0
            rw [← hE, ← hL] at q1 q2 q3
            have := len_uniq (x := D.length - 1) (y := L - 1) (m := ((n + 1 : Nat) : Int)) b2 hD2 (by rw [Nat.sub_add_cancel hD1]; exact hD3) (by omega) (by rw [Nat.sub_add_cancel q1]; exact hlt)
            omega
        · omega
      have hDo : D = 1 :: List.replicate L 0 := by
        rw [hD]
        refine dg_is hc (by omega) (fun x hx => ?_) (by omega) ?_
        · rcases List.mem_cons.1 hx with rfl | hx
          · omega
          · rw [List.eq_of_mem_replicate hx]; omega
        · rw [hv_cons, hv_zeros, List.length_replicate, hnL2]; simp
      have hDl : D.length = L + 1 := by rw [hDo]; simp
      have hVn : ¬ V > (n : Int) := by
        have := (hv_lt b2 ((hEd.take h).mir L)).2
        rw [← hV, mir_length (by omega) (by omega)] at this
        omega
      have hAf : (A : Int) + 1 = (c : Int) ^ h := by
        by_cases hlt : (A : Int) + 1 < (c : Int) ^ h
        · exfalso
          have := Int.mul_le_mul_of_nonneg_right (show (A : Int) + 1 + 1 ≤ (c : Int) ^ h by omega) (show 0 ≤ (c : Int) ^ (L - h) by omega)
          rw [Int.add_mul, Int.add_mul, Int.one_mul, ← hcL] at this
          omega
        · omega
      have hlenA1 : (dg c (A + 1)).length = h + 1 := by
        rcases hlenA with hle | ⟨_, hle⟩
        · exfalso
          have := (ipow_mono b1 hle).2
          have := hA1.2.2
          omega
        · exact hle
      obtain ⟨g, hg⟩ : ∃ g, g = (D.length + 1) / 2 := ⟨_, rfl⟩
      have hmirD : mir D.length (D.take g) = ones (L - 1) := by
        obtain ⟨q, hq⟩ : ∃ q, g = q + 1 := ⟨g - 1, by omega⟩
        have ht : D.take g = 1 :: List.replicate q 0 := by
          rw [hDo, hq]
          show 1 :: (List.replicate L (0 : Int)).take q = _
          rw [List.take_replicate, Nat.min_eq_left (by omega)]
        obtain ⟨z, hz⟩ : ∃ z, D.length - (q + 1) = z + 1 := ⟨D.length - (q + 1) - 1, by omega⟩
        rw [mir, ht, List.length_cons, List.length_replicate, hz]
        show (1 :: List.replicate q (0 : Int)) ++ (1 :: (List.replicate q 0).take z).reverse = _
        rw [List.take_replicate, Nat.min_eq_left (by omega), List.reverse_cons, List.reverse_replicate, ones, List.cons_append, ← List.append_assoc, List.replicate_append_replicate]
        congr 3
        omega
      obtain ⟨A', hA'⟩ := Int.eq_ofNat_of_zero_le (hv_lt b2 (hDd.take g)).1
      have hA2' : A' ≤ 1000000000000 := by
        have hsp : ((n + 1 : Nat) : Int) = hv (c : Int) (D.take g) 0 * (c : Int) ^ (D.drop g).length + hv (c : Int) (D.drop g) 0 := by
          rw [← hDv, ← hv_app, List.take_append_drop]
        have hx := (hv_lt b2 (hDd.drop g)).1
        have hlen : 1 ≤ (D.drop g).length := by simp; omega
        have hp := (ipow_mono b1 hlen).2
        rw [Int.pow_succ, Int.pow_zero, Int.one_mul] at hp
        rw [hA'] at hsp
        have := Int.mul_le_mul_of_nonneg_left (show 2 ≤ (c : Int) ^ (D.drop g).length by omega) (show (0 : Int) ≤ (A' : Int) by omega)
        omega
      obtain ⟨K3, s3⟩ := impl_road hc hc2 n hask hm D hD A' (by rw [← hg]; exact hA') hA2' _ rfl
      rw [← hg, hmirD, ones_value, show L - 1 + 1 = L by omega] at s3
      refine ⟨K1 + K2 + K3 + 1, tell ((c : Int) ^ L + 1), fun k hk => ⟨?_, ?_⟩⟩
      · obtain ⟨k, rfl⟩ : ∃ q, k = q + 1 := ⟨k - 1, by omega⟩
        rw [s1 k (by omega), if_neg (fun h => hVn h.1)]
        rcases s2 k (by omega) with s2' | s2'
        · rw [s2', if_pos (by omega), ones_value, show L - 1 + 1 = L by omega]
        · omega
      · exact (s3 k (by omega)).1 (by omega)
theorem NextPalindrome_law : laws_FnExactNextPalindrome.Pure := by
  intro n b _ _
  obtain ⟨K, v, h⟩ := NextPalindrome_both n b
  exact ⟨K, by simp [laws_FnExactNextPalindrome.f, (h K (by omega)).1, (h K (by omega)).2]⟩
end Go.Proofs.YtndbfkgcmckjlaaC
