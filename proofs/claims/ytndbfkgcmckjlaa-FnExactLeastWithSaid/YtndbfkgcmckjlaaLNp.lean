/-
  The plain law of NextPalindrome: both programs tell the same next palindrome. No conditions.
-/
import Derived.Test.YtndbfkgcmckjlaaLGs
namespace Go.Proofs.YtndbfkgcmckjlaaC
open Go.RowKit Go.Proofs.YtndbfkgcmckjlaaW.PrintWords Go.Proofs.YtndbfkgcmckjlaaW.PrintMore
set_option linter.unusedSimpArgs false
set_option linter.unusedVariables false

/-! ### digits and values -/
def Dg (b : Int) (l : List Int) : Prop := ∀ x ∈ l, 0 ≤ x ∧ x ≤ b - 1
theorem Dg.take {b : Int} {l : List Int} (h : Dg b l) (n : Nat) : Dg b (l.take n) := fun x hx => h x (List.mem_of_mem_take hx)
theorem Dg.drop {b : Int} {l : List Int} (h : Dg b l) (n : Nat) : Dg b (l.drop n) := fun x hx => h x (List.mem_of_mem_drop hx)
theorem Dg.rev {b : Int} {l : List Int} (h : Dg b l) : Dg b l.reverse := fun x hx => h x (List.mem_reverse.1 hx)
theorem Dg.app {b : Int} {l m : List Int} (h : Dg b l) (h2 : Dg b m) : Dg b (l ++ m) := fun x hx => by
  rcases List.mem_append.1 hx with h3 | h3
  · exact h x h3
  · exact h2 x h3
theorem hv_lt {b : Int} (hb : 2 ≤ b) {l : List Int} (h : Dg b l) : 0 ≤ hv b l 0 ∧ hv b l 0 < b ^ l.length := by
  have := hv_bound hb l 0 h (by omega)
  rw [Int.zero_add, Int.one_mul] at this
  omega
theorem hv_cons (b : Int) (d : Int) (l : List Int) : hv b (d :: l) 0 = d * b ^ l.length + hv b l 0 := by
  rw [hv, hv_start, Int.zero_mul, Int.zero_add]
theorem hv_app (b : Int) (l m : List Int) : hv b (l ++ m) 0 = hv b l 0 * b ^ m.length + hv b m 0 := by
  rw [hv_append, hv_start]
theorem uniq {x y r s B : Int} (hr : 0 ≤ r ∧ r < B) (hs : 0 ≤ s ∧ s < B) : (x * B + r = y * B + s → x = y ∧ r = s) ∧ (x < y → x * B + r < y * B + s) := by
  have key : ∀ x y : Int, x < y → x * B + B ≤ y * B := fun x y h => by
    have := Int.mul_le_mul_of_nonneg_right (show x + 1 ≤ y by omega) (show 0 ≤ B by omega)
    rw [Int.add_mul] at this
    omega
  refine ⟨fun h => ?_, fun h => ?_⟩
  · by_cases h1 : x < y
    · have := key x y h1; omega
    · by_cases h2 : y < x
      · have := key y x h2; omega
      · have : x = y := by omega
        subst this
        exact ⟨rfl, by omega⟩
  · have := key x y h; omega
theorem hv_inj {b : Int} (hb : 2 ≤ b) : ∀ {l m : List Int}, Dg b l → Dg b m → l.length = m.length → hv b l 0 = hv b m 0 → l = m
  | [], [], _, _, _, _ => rfl
  | [], y :: m, _, _, h, _ => by simp at h
  | x :: l, [], _, _, h, _ => by simp at h
  | x :: l, y :: m, h1, h2, h3, h4 => by
    have hl : l.length = m.length := by simpa using h3
    have d1 : Dg b l := fun z hz => h1 z (by simp [hz])
    have d2 : Dg b m := fun z hz => h2 z (by simp [hz])
    have b1 := hv_lt hb d1
    have b2 := hv_lt hb d2
    rw [hv_cons, hv_cons, hl] at h4
    rw [hl] at b1
    obtain ⟨e1, e2⟩ := (uniq b1 b2).1 h4
    rw [e1, hv_inj hb d1 d2 hl e2]
theorem hv_lsd {c : Nat} (hc : 2 ≤ c) : ∀ n : Nat, hv (c : Int) (lsd c n).reverse 0 = (n : Int) := by
  intro n
  induction n using Nat.strongRecOn with
  | ind n ih =>
    rcases Nat.eq_zero_or_pos n with rfl | hp
    · rw [lsd_zero]; rfl
    · rw [lsd_pos hc hp, List.reverse_cons, hv_app, ih _ (Nat.div_lt_self hp hc)]
      show ((n / c : Nat) : Int) * (c : Int) ^ 1 + hv (c : Int) [((n % c : Nat) : Int)] 0 = _
      have h1 := Nat.div_add_mod n c
      rw [hv_cons]
      show ((n / c : Nat) : Int) * (c : Int) ^ 1 + (((n % c : Nat) : Int) * (c : Int) ^ 0 + 0) = _
      rw [Int.pow_zero, Int.pow_succ, Int.pow_zero, Int.one_mul, Int.mul_one, Int.add_zero, ← Int.natCast_mul, Nat.mul_comm]
      omega
theorem hv_dg {c : Nat} (hc : 2 ≤ c) (n : Nat) : hv (c : Int) (dg c n) 0 = (n : Int) := by
  unfold dg
  split
  · rename_i h; subst h
    show 0 * (c : Int) + 0 = 0
    omega
  · exact hv_lsd hc n
theorem Dg_dg {c : Nat} (hc : 2 ≤ c) (n : Nat) : Dg (c : Int) (dg c n) := fun x hx => by
  have := dg_range hc n x hx; omega
theorem hv_head {b : Int} (hb : 2 ≤ b) {x : Int} {l : List Int} (h : Dg b (x :: l)) (hx : x ≠ 0) : b ^ l.length ≤ hv b (x :: l) 0 := by
  have h1 := h x (by simp)
  have d1 : Dg b l := fun z hz => h z (by simp [hz])
  have b1 := hv_lt hb d1
  rw [hv_cons]
  have := Int.mul_le_mul_of_nonneg_right (show 1 ≤ x by omega) (show 0 ≤ b ^ l.length by omega)
  rw [Int.one_mul] at this
  omega
theorem len_uniq {b m : Int} (hb : 2 ≤ b) {x y : Nat} (h1 : b ^ x ≤ m) (h2 : m < b ^ (x + 1)) (h3 : b ^ y ≤ m) (h4 : m < b ^ (y + 1)) : x = y := by
  by_cases hlt : x < y
  · have := (ipow_mono (b := b) (by omega) (show x + 1 ≤ y by omega)).2; omega
  · by_cases hgt : y < x
    · have := (ipow_mono (b := b) (by omega) (show y + 1 ≤ x by omega)).2; omega
    · omega
/-- The first digit of a number is not nought. -/
theorem lsd_last {c : Nat} (hc : 2 ≤ c) : ∀ n : Nat, 0 < n → ∃ l x, lsd c n = l ++ [x] ∧ x ≠ 0 := by
  intro n
  induction n using Nat.strongRecOn with
  | ind n ih =>
    intro hn
    rw [lsd_pos hc hn]
    rcases Nat.eq_zero_or_pos (n / c) with h | h
    · rw [h, lsd_zero]
      refine ⟨[], _, rfl, ?_⟩
      have h1 := Nat.div_add_mod n c
      rw [h, Nat.mul_zero, Nat.zero_add] at h1
      omega
    · obtain ⟨l, x, h1, h2⟩ := ih _ (Nat.div_lt_self hn hc) h
      exact ⟨((n % c : Nat) : Int) :: l, x, by rw [h1]; rfl, h2⟩
theorem dg_head {c : Nat} (hc : 2 ≤ c) {n : Nat} (hn : 0 < n) : ∃ x l, dg c n = x :: l ∧ x ≠ 0 := by
  obtain ⟨l, x, h1, h2⟩ := lsd_last hc n hn
  refine ⟨x, l.reverse, ?_, h2⟩
  rw [dg, if_neg (by omega), h1, List.reverse_append]; rfl
theorem dg_size {c : Nat} (hc : 2 ≤ c) {n : Nat} (hn : 0 < n) : 1 ≤ (dg c n).length ∧ (c : Int) ^ ((dg c n).length - 1) ≤ (n : Int) ∧ (n : Int) < (c : Int) ^ (dg c n).length := by
  obtain ⟨x, l, h1, h2⟩ := dg_head hc hn
  have hd := Dg_dg hc n
  have e := hv_dg hc n
  have e2 := hv_lt (show (2 : Int) ≤ (c : Int) by omega) hd
  rw [e] at e2
  refine ⟨by rw [h1]; simp, ?_, e2.2⟩
  rw [h1] at hd
  have := hv_head (show (2 : Int) ≤ (c : Int) by omega) hd h2
  rw [← h1, e] at this
  rw [h1]
  simpa using this
/-- A number's digits are told by their count and value. -/
theorem dg_is {c : Nat} (hc : 2 ≤ c) {n : Nat} (hn : 0 < n) {x : Int} {l : List Int} (h : Dg (c : Int) (x :: l)) (hx : x ≠ 0) (hval : hv (c : Int) (x :: l) 0 = (n : Int)) : dg c n = x :: l := by
  obtain ⟨s1, s2, s3⟩ := dg_size hc hn
  have b2 : (2 : Int) ≤ (c : Int) := by omega
  have t1 := hv_head b2 h hx
  have t2 := (hv_lt b2 h).2
  rw [hval] at t1 t2
  have hlen := len_uniq b2 s2 (by rw [Nat.sub_add_cancel s1]; exact s3) t1 t2
  exact hv_inj b2 (Dg_dg hc n) h (by simp; omega) (by rw [hv_dg hc, hval])
theorem valL_exact {b : Int} (hb : 2 ≤ b) (hb2 : b ≤ 16) : ∀ (l : List Int) (s : Int), Dg b l → 0 ≤ s → s ≤ 1000000000000 → valL b l s = if hv b l s ≤ 1000000000000 then some (hv b l s) else none
  | [], s, _, h0, h1 => by rw [valL, hv, if_pos h1]
  | d :: l, s, h, h0, h1 => by
    have hd := h d (by simp)
    have dl : Dg b l := fun z hz => h z (by simp [hz])
    have hsb : 0 ≤ s * b := Int.mul_nonneg h0 (by omega)
    have hsb2 : s * b ≤ 1000000000000 * 16 := Int.mul_le_mul h1 hb2 (by omega) (by omega)
    rw [valL, hv]
    generalize s * b = sb at *
    rw [w64 (n := sb) (by omega) (by omega), w64 (by omega) (by omega)]
    by_cases hc : sb + d > 1000000000000
    · have b1 := hv_bound hb l 0 dl (by omega)
      have e := hv_start b l (sb + d)
      have p := (ipow_mono (b := b) (by omega) (Nat.le_refl l.length)).1
      have q := Int.mul_le_mul_of_nonneg_left p (show 0 ≤ sb + d by omega)
      rw [if_pos hc, if_neg (by omega)]
    · rw [if_neg hc]
      exact valL_exact hb hb2 l (sb + d) dl (by omega) (by omega)
def tell (v : Int) : Int × Bool := if v ≤ 1000000000000 then (v, true) else (0, false)
theorem spec_tell {b : Int} (hb : 2 ≤ b) (hb2 : b ≤ 16) {l : List Int} (h : Dg b l) (hl : l.length ≤ 1000) {k : Nat} (hk : l.length < k) : spec_dgFrom.f k l b = some (tell (hv b l 0)) := by
  rw [dgFrom_eq b l (by omega) hk, valL_exact hb hb2 l 0 h (by omega) (by omega)]
  unfold tell
  by_cases hc : hv b l 0 ≤ 1000000000000
  · rw [if_pos hc, if_pos hc]
  · rw [if_neg hc, if_neg hc]
theorem impl_tell {b : Int} (hb : 2 ≤ b) (hb2 : b ≤ 16) {l : List Int} (h : Dg b l) (hl : l.length ≤ 1000) {k : Nat} (hk : l.length < k) : ∃ v, impl_value.f k l b = some v ∧ impl_told.f v = some (tell (hv b l 0)) ∧ (hv b l 0 ≤ 1000000000000 → v = hv b l 0) := by
  refine ⟨_, value_eq b l (by omega) hk, ?_, fun hc => ?_⟩
  · rw [told_eq, valL_exact hb hb2 l 0 h (by omega) (by omega)]
    unfold tell
    by_cases hc : hv b l 0 ≤ 1000000000000
    · rw [if_pos hc, if_pos hc]
    · rw [if_neg hc, if_neg hc]
  · rw [valL_exact hb hb2 l 0 h (by omega) (by omega), if_pos hc]; rfl

/-! ### mirrors -/
/-- A first half, mirrored to a length. -/
def mir (L : Nat) (s : List Int) : List Int := s ++ (s.take (L - s.length)).reverse
theorem mir_length {L : Nat} {s : List Int} (h1 : s.length ≤ L) (h2 : L ≤ 2 * s.length) : (mir L s).length = L := by simp [mir]; omega
theorem Dg.mir {b : Int} {s : List Int} (h : Dg b s) (L : Nat) : Dg b (mir L s) := Dg.app h (h.take _).rev
theorem mir_value {b : Int} {L : Nat} {s : List Int} (h2 : L ≤ 2 * s.length) : hv b (mir L s) 0 = hv b s 0 * b ^ (L - s.length) + hv b (s.take (L - s.length)).reverse 0 := by
  rw [mir, hv_app, List.length_reverse, List.length_take, Nat.min_eq_left (by omega)]
theorem mirrored_S (l : List Int) (hl : l.length ≤ 1000) : ∀ k, l.length + 1 < k → spec_dgMirrored.f k l = some (mir l.length (l.take ((l.length + 1) / 2))) := by
  intro k hk
  obtain ⟨h, hh⟩ : ∃ h, h = (l.length + 1) / 2 := ⟨_, rfl⟩
  obtain ⟨t, ht⟩ : ∃ t, t = l.length - h := ⟨_, rfl⟩
  obtain ⟨F, hF⟩ : ∃ F, F = l.take h ++ (l.take t).reverse := ⟨_, rfl⟩
  have hFl : F.length = l.length := by rw [hF]; simp; omega
  have hmir : mir l.length (l.take h) = F := by
    rw [mir, hF, List.length_take, List.take_take]
    congr 3; omega
  have F1 : ∀ j (hj : j < l.length) (hj2 : j < F.length), j < h → F[j] = l[j] := fun j hj hj2 hlt => by
    subst hF
    rw [List.getElem_append_left (by simp; omega), List.getElem_take]
  have F2 : ∀ j (hj : j < l.length) (hj2 : j < F.length) (hj3 : l.length - 1 - j < l.length), h ≤ j → F[j] = l[l.length - 1 - j] := fun j hj hj2 hj3 hge => by
    subst hF
    rw [List.getElem_append_right (by simp; omega), List.getElem_reverse, List.getElem_take]
    congr 1
    simp only [List.length_take]
    omega
  have key := run0 (fun k (s : List Int × Int) => spec_dgMirrored.l0 k s.1 (l.length : Int) s.2) l.length 0 (fun j => (F.take j ++ l.drop j, (j : Int))) F
    (fun j hj k _ => by
      show spec_dgMirrored.l0 (k + 1) (F.take j ++ l.drop j) (l.length : Int) (j : Int) = spec_dgMirrored.l0 k (F.take (j + 1) ++ l.drop (j + 1)) (l.length : Int) ((j + 1 : Nat) : Int)
      have hSl : (F.take j ++ l.drop j).length = l.length := by simp; omega
      have hjF : j < F.length := by omega
      have ed : l.drop j = l[j] :: l.drop (j + 1) := List.drop_eq_getElem_cons hj
      have et : F.take (j + 1) = F.take j ++ [F[j]] := take_s hjF
      have hw : wrap64 (wrap64 (((F.take j ++ l.drop j).length : Int) - 1) - (j : Int)) = (l.length : Int) - 1 - (j : Int) := by
        rw [hSl, w64 (n := (l.length : Int) - 1) (by omega) (by omega), w64 (by omega) (by omega)]
      rw [spec_dgMirrored.l0, if_pos (by omega), hw, w64s (by omega)]
      by_cases hc : h ≤ j
      · have hlt : l.length - 1 - j < (F.take j ++ l.drop j).length := by omega
        have hi : (l.length : Int) - 1 - (j : Int) = ((l.length - 1 - j : Nat) : Int) := by omega
        have hg : (F.take j ++ l.drop j)[l.length - 1 - j] = F[j] := by
          rw [List.getElem_append_left (by simp; omega), List.getElem_take, F1 _ (by omega) (by omega) (by omega), F2 j hj hjF (by omega) hc]
        have hset : (F.take j ++ l.drop j).set j F[j] = F.take (j + 1) ++ l.drop (j + 1) := by
          have hm : (F.take j).length = j := by simp; omega
          have := set_mid (F.take j) (l.drop (j + 1)) l[j] F[j]
          rw [hm] at this
          rw [ed, this, et, List.append_assoc]; rfl
        rw [if_pos (by omega), if_pos (by omega), if_pos (by omega), if_pos (by omega), if_pos (by omega), hi, rd_get hlt, hg, Int.toNat_natCast, hset]
      · rw [if_neg (by omega), et, F1 j hj hjF (by omega), ed, List.append_assoc]; rfl)
    (fun k _ => by
      show spec_dgMirrored.l0 (k + 1) (F.take l.length ++ l.drop l.length) (l.length : Int) (l.length : Int) = _
      rw [spec_dgMirrored.l0, if_neg (by omega), List.drop_length, List.append_nil, List.take_of_length_le (by omega)])
    k (by omega)
  unfold spec_dgMirrored.f
  rw [own_eq l (by omega), Option.bind_some, ← hh, hmir]
  simpa using key
theorem mirrored_I (s : List Int) (L : Nat) (hL : L ≤ 1000) (h1 : s.length ≤ L) (h2 : L ≤ 2 * s.length) {k : Nat} (hk : s.length < k) : impl_mirrored.f k s (L : Int) = some (mir L s) := by
  have hw : wrap64 ((L : Int) - (s.length : Int)) = ((L - s.length : Nat) : Int) := by rw [w64 (by omega) (by omega)]; omega
  have hc : slices_Clone_int_int.f s = some s := by simp [slices_Clone_int_int.f, show s.length < 17592186044416 by omega]
  unfold impl_mirrored.f
  rw [hc, Option.bind_some, hw, if_pos (by omega), if_pos (by omega), Int.toNat_natCast, reversed_eq (s.take (L - s.length)) (by simp; omega) (by simp; omega), Option.bind_some, if_pos (by simp; omega)]
  rfl
theorem cmp_val (x y : Int) : cmp_Compare_int.f x y = some (if x < y then -1 else if x > y then 1 else 0) := by
  simp [cmp_Compare_int.f, cmp_isNaN_int.f]
  split
  · rfl
  · split <;> rfl
theorem compare_loop {b : Int} (hb : 2 ≤ b) (xs ys : List Int) (hx : xs.length ≤ 1000) (hxy : xs.length = ys.length) : ∀ (sx sy px py : List Int) (k : Nat), xs = px ++ sx → ys = py ++ sy → px.length = py.length → Dg b sx → Dg b sy → sx.length < k →
    ∃ r, slices_Compare_int_int.l0 k xs ys xs (xs.length : Int) (px.length : Int) = some r ∧ (r < 0 ↔ hv b sx 0 < hv b sy 0) := by
  intro sx
  induction sx with
  | nil =>
    intro sy px py k h1 h2 hp _ _ hk
    obtain ⟨k, rfl⟩ : ∃ m, k = m + 1 := ⟨k - 1, by omega⟩
    obtain rfl : sy = [] := by
      apply List.eq_nil_of_length_eq_zero
      have h3 := congrArg List.length h1
      have h4 := congrArg List.length h2
      rw [List.length_append] at h3 h4
      simp only [List.length_nil] at h3
      omega
    refine ⟨0, ?_, by simp⟩
    have : xs.length = px.length := by rw [h1]; simp
    rw [slices_Compare_int_int.l0, if_neg (by omega), if_neg (by omega)]
  | cons x sx ih =>
    intro sy px py k h1 h2 hp d1 d2 hk
    simp only [List.length_cons] at hk
    obtain ⟨k, rfl⟩ : ∃ m, k = m + 1 := ⟨k - 1, by omega⟩
    have hl : xs.length = px.length + sx.length + 1 := by subst h1; simp; omega
    rcases sy with _ | ⟨y, sy⟩
    · have := congrArg List.length h2; simp at this; omega
    have hl2 : sx.length = sy.length := by
      have := congrArg List.length h2
      simp only [List.length_append, List.length_cons] at this
      omega
    have e1 : rd xs (px.length : Int) = x := by subst h1; exact rd_mid _ _ _
    have e2 : rd ys (px.length : Int) = y := by subst h2; rw [hp]; exact rd_mid _ _ _
    have e3 : wrap64 ((px.length : Int) + 1) = (((px ++ [x]).length : Nat) : Int) := by rw [w64 (by omega) (by omega)]; simp
    have dx : Dg b sx := fun z hz => d1 z (by simp [hz])
    have dy : Dg b sy := fun z hz => d2 z (by simp [hz])
    have bx := hv_lt hb dx
    have by_ := hv_lt hb dy
    rw [← hl2] at by_
    rw [slices_Compare_int_int.l0, if_pos (by omega), if_pos (by omega), if_pos (by omega), if_neg (by omega), if_pos (by omega), e1, e2, cmp_val, Option.bind_some, hv_cons, hv_cons, ← hl2]
    by_cases hc : x < y
    · refine ⟨-1, by rw [if_pos hc, if_neg (by omega)], ⟨fun _ => (uniq bx by_).2 hc, fun _ => by omega⟩⟩
    · by_cases hc2 : x > y
      · refine ⟨1, by rw [if_neg hc, if_pos hc2, if_neg (by omega)], ⟨fun h => by omega, fun h => ?_⟩⟩
        have := (uniq by_ bx).2 hc2
        omega
      · have : x = y := by omega
        subst this
        obtain ⟨r, g1, g2⟩ := ih sy (px ++ [x]) (py ++ [x]) k (by simp [h1]) (by simp [h2]) (by simp [hp]) dx dy (by omega)
        refine ⟨r, by rw [if_neg hc, if_neg hc2, if_pos rfl, e3, g1], ?_⟩
        rw [g2]
        omega
theorem compare_eq {b : Int} (hb : 2 ≤ b) {xs ys : List Int} (hx : xs.length ≤ 1000) (hxy : xs.length = ys.length) (d1 : Dg b xs) (d2 : Dg b ys) {k : Nat} (hk : xs.length < k) :
    ∃ r, slices_Compare_int_int.f k xs ys = some r ∧ (r < 0 ↔ hv b xs 0 < hv b ys 0) := by
  have := compare_loop hb xs ys hx hxy xs ys [] [] k rfl rfl rfl d1 d2 hk
  simpa [slices_Compare_int_int.f] using this

end Go.Proofs.YtndbfkgcmckjlaaC
