/- Plain texts of FnOwnPowers, merged by a program: what Go functions compute, lemmas of the walk, and proofs. No conditions. -/
import Derived.Test.YtehhkkbejmhcfaaZFnOwnPowers2
import Derived.Test.YtehhkkbejmhcfaaZFnOwnPowers3
import Derived.Test.YtehhkkbejmhcfaaZFnOwnPowers4
section
namespace Go.Proofs.YtehhkkbejmhcfaaC
open Go.RowKit Go.Proofs.YtehhkkbejmhcfaaW.PrintWords Go.Proofs.YtehhkkbejmhcfaaW.PrintMore
set_option linter.unusedSimpArgs false
set_option linter.unusedVariables false
set_option linter.unusedSectionVars false
def greatAll2 : Bool := (List.range 9).all fun b => (List.range 4).all fun p => (List.range 12).any fun d => spec_pwGreatest.f 90 ((b : Int) + 2) ((p : Int) + 1) == some ((d * (b + 1) ^ (p + 1) : Nat) : Int) && impl_greatest.f 90 ((b : Int) + 2) ((p : Int) + 1) == some ((d * (b + 1) ^ (p + 1) : Nat) : Int) && decide ((d + 1) * (b + 1) ^ (p + 1) < (b + 2) ^ d) && decide (d * (b + 1) ^ (p + 1) ≤ 100000 ∧ 1 ≤ d)
theorem great_all2 : greatAll2 = true := by decide +kernel
theorem great_at2 {b p : Nat} (hb : 2 ≤ b) (hb2 : b ≤ 10) (hp : 1 ≤ p) (hp2 : p ≤ 4) : ∃ d : Nat, (d + 1) * (b - 1) ^ p < b ^ d ∧ (d * (b - 1) ^ p ≤ 100000 ∧ 1 ≤ d) ∧ ∀ k, 90 ≤ k → spec_pwGreatest.f k (b : Int) (p : Int) = some ((d * (b - 1) ^ p : Nat) : Int) ∧ impl_greatest.f k (b : Int) (p : Int) = some ((d * (b - 1) ^ p : Nat) : Int) := by
  have h := great_all2
  unfold greatAll2 at h
  rw [List.all_eq_true] at h
  have h1 := h (b - 2) (List.mem_range.2 (by omega))
  rw [List.all_eq_true] at h1
  have h2 := h1 (p - 1) (List.mem_range.2 (by omega))
  rw [List.any_eq_true] at h2
  obtain ⟨d, -, h3⟩ := h2
  simp only [Bool.and_eq_true, beq_iff_eq, decide_eq_true_eq] at h3
  rw [show b - 2 + 1 = b - 1 from by omega, show p - 1 + 1 = p from by omega, show b - 2 + 2 = b from by omega, show ((b - 2 : Nat) : Int) + 2 = (b : Int) from by omega, show ((p - 1 : Nat) : Int) + 1 = (p : Int) from by omega] at h3
  obtain ⟨⟨⟨h4, h5⟩, h6⟩, h7⟩ := h3
  exact ⟨d, h6, h7, fun k hk => ⟨up_to (spec_pwGreatest.mono _ _) h4 k hk, up_to (impl_greatest.mono _ _) h5 k hk⟩⟩
structure Base (c q M : Nat) (R : List (List Int)) : Prop where
  hc : 2 ≤ c ∧ c ≤ 10
  hq : 1 ≤ q ∧ q ≤ 4
  hM : 1 ≤ M ∧ M ≤ 100000
  cl : Closed (stp c q) M
  falls : ∀ x, (M : Int) < x → stp c q x < x
  told : Told (stp c q) M R
theorem Cycles_told (b p : Int) : ∃ (K : Nat) (r : List (List Int)) (ok : Bool), (r.length ≤ 1000000 ∧ (∀ c ∈ r, c.length ≤ 1000000)) ∧ ((ok = true → ∃ c q M : Nat, b = c ∧ p = q ∧ Base c q M r) ∧ ((2 ≤ b ∧ b ≤ 10) ∧ 1 ≤ p ∧ p ≤ 4 → ok = true)) ∧ ∀ k, K ≤ k → spec_CyclesOfPowers.f k b p = some (r, ok) ∧ impl_CyclesOfPowers.f k b p = some (r, ok) := by
  by_cases hbp : (2 ≤ b ∧ b ≤ 10) ∧ 1 ≤ p ∧ p ≤ 4
  · obtain ⟨hb, hp⟩ := hbp
    obtain ⟨c, rfl⟩ := Int.eq_ofNat_of_zero_le (show 0 ≤ b by omega)
    obtain ⟨q, rfl⟩ := Int.eq_ofNat_of_zero_le (show 0 ≤ p by omega)
    obtain ⟨d, hd, ⟨hM, hd1⟩, hg⟩ := great_at2 (b := c) (p := q) (by omega) (by omega) (by omega) (by omega)
    obtain ⟨M, hMe⟩ : ∃ M, M = d * (c - 1) ^ q := ⟨_, rfl⟩
    have hpos : 1 ≤ (c - 1) ^ q := Nat.one_le_pow _ _ (by omega)
    have hd0 : d * (c - 1) ^ q < c ^ d := Nat.lt_of_le_of_lt (Nat.mul_le_mul_right _ (Nat.le_succ d)) hd
    have hf : Closed (stp c q) M := fun x h0 h1 => by
      rw [hMe] at h1 ⊢
      exact stp_closed (by omega) hd0 h0 h1
    have hfall : ∀ x, (M : Int) < x → stp c q x < x := fun x hx => stp_falls (by omega) hd (by rw [← hMe]; exact hx)
    have hM1 : 1 ≤ M := by rw [hMe]; exact Nat.mul_le_mul hd1 hpos
    rw [← hMe] at hM hg
    obtain ⟨K, R, hT, hK⟩ := cycles_main2 (by omega) (by omega) (by omega) (by omega) hM hf (nextL_length c q (M + 1)) (fun x h0 h1 => nextL_rd h0 h1) (M + 1) 0 (by omega) (List.replicate (M + 1) 0) [] [] ⟨⟨by simp, fun x _ _ => by rw [rd_zeros]; omega, List.Perm.refl _, List.Pairwise.nil, by simp, by simp⟩, by simp, fun y _ _ h => absurd (rd_zeros y) h, fun y h0 h1 => by omega⟩
    have e1 : wrap64 ((M : Int) + 1) = ((M + 1 : Nat) : Int) := by unfold wrap64; omega
    refine ⟨K + 3000000 + M, R, true, ⟨by have := hT.len; omega, fun c hc => by have := hT.short c hc; omega⟩, ⟨fun _ => ⟨c, q, M, rfl, rfl, ⟨by omega, by omega⟩, ⟨by omega, by omega⟩, ⟨hM1, hM⟩, hf, hfall, hT⟩, fun _ => rfl⟩, fun k hk => ?_⟩
    obtain ⟨k, rfl⟩ : ∃ q, k = q + 1 := ⟨k - 1, by omega⟩
    have hgk := hg k (by omega)
    constructor
    · rw [spec_CyclesOfPowers.f, l1In_eq, decide_eq_true (by omega), Option.bind_some, if_pos rfl, pwPower_eq, decide_eq_true (by omega), Option.bind_some, spec_CyclesOfPowers.j0, if_neg (by decide), hgk.1, Option.bind_some, e1, if_pos (by omega), if_pos (by omega), Int.toNat_natCast]
      exact (hK k (by omega)).1
    · rw [impl_CyclesOfPowers.f, impl_isSmallBase.f, in_eq, decide_eq_true (by omega), Option.bind_some, Option.bind_some, if_pos rfl, in_eq, decide_eq_true (by omega), Option.bind_some, impl_CyclesOfPowers.j0, if_neg (by decide), hgk.2, Option.bind_some, e1]
      refine next_loop (by omega) (by omega) (by omega) (by omega) hM (X := some (R, true)) (K := K + 1) (fun k hk => ?_) (M + 1) 0 (by omega) k (by omega)
      obtain ⟨k, rfl⟩ : ∃ q, k = q + 1 := ⟨k - 1, by omega⟩
      rw [impl_CyclesOfPowers.l0, if_neg (by omega), nextL_length, if_pos (by omega), if_pos (by omega), Int.toNat_natCast]
      exact (hK k (by omega)).2
  · refine ⟨1, [], false, ⟨by simp, by simp⟩, ⟨by simp, fun h => absurd h hbp⟩, fun k hk => ?_⟩
    obtain ⟨k, rfl⟩ : ∃ q, k = q + 1 := ⟨k - 1, by omega⟩
    by_cases hb : 2 ≤ b ∧ b ≤ 10
    · have hp : ¬ (1 ≤ p ∧ p ≤ 4) := fun h => hbp ⟨hb, h⟩
      rw [spec_CyclesOfPowers.f, l1In_eq, decide_eq_true (by omega), Option.bind_some, if_pos rfl, pwPower_eq, decide_eq_false (by omega), Option.bind_some, spec_CyclesOfPowers.j0, impl_CyclesOfPowers.f, impl_isSmallBase.f, in_eq, decide_eq_true (by omega), Option.bind_some, Option.bind_some, if_pos rfl, in_eq, decide_eq_false (by omega), Option.bind_some, impl_CyclesOfPowers.j0]
      exact ⟨rfl, rfl⟩
    · constructor
      · rw [spec_CyclesOfPowers.f, l1In_eq, decide_eq_false (by omega), Option.bind_some, if_neg (by decide), spec_CyclesOfPowers.j0, if_pos rfl]
      · rw [impl_CyclesOfPowers.f, impl_isSmallBase.f, in_eq, decide_eq_false (by omega), Option.bind_some, Option.bind_some, if_neg (by decide), impl_CyclesOfPowers.j0, if_pos rfl]
theorem rd_at {l : List Int} {i : Nat} (h : i < l.length) : rd l (i : Int) = l[i] := by
  simp [rd, List.getD_eq_getElem?_getD, h]
theorem PowerSum_at {n c q : Nat} (hn : n ≤ 1000000000000) (hc : 2 ≤ c ∧ c ≤ 16) (hq : 1 ≤ q ∧ q ≤ 8) {k : Nat} (hk : n + 201 ≤ k) : impl_PowerSum.f k (n : Int) (c : Int) (q : Int) = some (pws c q n, true) := by
  have h : asked (n : Int) (c : Int) = true := by unfold asked; exact decide_eq_true (by omega)
  rw [impl_PowerSum.f, isNumber_eq, h, Option.bind_some, if_pos rfl, isPower_eq, decide_eq_true (by omega), Option.bind_some, if_pos rfl, powerSum_eq hc.1 hc.2 (show 1 ≤ q by omega) (show q ≤ 8 by omega) (show n ≤ 9223372036854775807 by omega) k (by omega), Option.bind_some]
theorem PowerSum_stp {c q : Nat} {x : Int} (h0 : 0 ≤ x) (hx : x ≤ 1000000000000) (hc : 2 ≤ c ∧ c ≤ 16) (hq : 1 ≤ q ∧ q ≤ 8) {k : Nat} (hk : x.toNat + 201 ≤ k) : impl_PowerSum.f k x (c : Int) (q : Int) = some (stp c q x, true) := by
  obtain ⟨n, rfl⟩ := Int.eq_ofNat_of_zero_le h0
  rw [Int.toNat_natCast] at hk
  rw [PowerSum_at (by omega) hc hq hk, stp, Int.toNat_natCast]
theorem byt_of {l : List Int} (h : ∀ x ∈ l, (Lit.int .u8 x).wf = true) : Byt l := fun x hx => by
  simpa [Lit.wf, IntKind.min, IntKind.max, IntKind.signed, IntKind.bits] using h x hx
end Go.Proofs.YtehhkkbejmhcfaaC
end
section
namespace Go.Proofs.YtehhkkbejmhcfaaC
open Go.RowKit Go.Proofs.YtehhkkbejmhcfaaW.PrintWords
theorem dgCounts_loop (xs : List Int) (hx : xs.length ≤ 4611686018427387904) (b : Nat) : ∀ (suf pre : List Int) (s : List Int) (k : Nat), xs = pre ++ suf → suf.length < k → s.length = b → (∀ x ∈ suf, 0 ≤ x ∧ x < b) →
    spec_dgCounts.l0 k s xs (xs.length : Int) (pre.length : Int) = some (suf.foldl (fun a d => a.set d.toNat (wrap64 (rd a d + 1))) s) := by
  intro suf
  induction suf with
  | nil =>
    intro pre s k h hk _ _
    obtain ⟨k, rfl⟩ : ∃ m, k = m + 1 := ⟨k - 1, by omega⟩
    subst h; rw [spec_dgCounts.l0, if_neg (by simp)]; rfl
  | cons x suf ih =>
    intro pre s k h hk hs hr
    simp only [List.length_cons] at hk
    obtain ⟨k, rfl⟩ : ∃ m, k = m + 1 := ⟨k - 1, by omega⟩
    have hl : xs.length = pre.length + suf.length + 1 := by subst h; simp; omega
    have e : rd xs (pre.length : Int) = x := by subst h; exact rd_mid _ _ _
    have hx0 := hr x (by simp)
    rw [spec_dgCounts.l0, if_pos (by omega), if_pos (by omega), if_pos (by omega), e, if_pos (by omega), if_pos (by omega), w64 (n := (pre.length : Int) + 1) (by omega) (by omega)]
    have := ih (pre ++ [x]) (s.set x.toNat (wrap64 (rd s x + 1))) k (by simp [h]) (by omega) (by simpa using hs) (fun y hy => hr y (by simp [hy]))
    simpa using this
def countL (b : Nat) (l : List Int) : List Int := l.foldl (fun a d => a.set d.toNat (wrap64 (rd a d + 1))) (List.replicate b 0)
theorem countL_length (b : Nat) (l : List Int) : (countL b l).length = b := by
  have : ∀ (l : List Int) (s : List Int), (l.foldl (fun a d => a.set d.toNat (wrap64 (rd a d + 1))) s).length = s.length := by
    intro l
    induction l with
    | nil => intro s; rfl
    | cons x l ih => intro s; rw [List.foldl_cons, ih]; simp
  rw [countL, this]; simp
theorem dgCounts_eq (b : Nat) (l : List Int) (hb : b ≤ 35184372088832) (hl : l.length ≤ 4611686018427387904) {k : Nat} (hk : l.length < k) (hr : ∀ x ∈ l, 0 ≤ x ∧ x < b) : spec_dgCounts.f k l (b : Int) = some (countL b l) := by
  have := dgCounts_loop l hl b l [] (List.replicate b 0) k rfl hk (by simp) hr
  unfold spec_dgCounts.f
  rw [if_pos (by omega), if_pos (by simpa using hb)]
  simpa [countL] using this
def cfold (l s : List Int) : List Int := l.foldl (fun a d => a.set d.toNat (wrap64 (rd a d + 1))) s
theorem cfold_length : ∀ (l s : List Int), (cfold l s).length = s.length
  | [], s => rfl
  | x :: l, s => by
    show (cfold l (s.set x.toNat (wrap64 (rd s x + 1)))).length = s.length
    rw [cfold_length l]; simp
theorem cfold_at (b : Nat) : ∀ (l s : List Int), (∀ x ∈ l, 0 ≤ x ∧ x < b) → s.length = b → (∀ i (h : i < s.length), 0 ≤ s[i] ∧ s[i] + (l.length : Int) ≤ 100000) → ∀ i (h : i < s.length) (h2 : i < (cfold l s).length), (cfold l s)[i] = s[i] + (l.count (i : Int) : Int)
  | [], s, _, _, _, i, h, h2 => by simp [cfold]
  | x :: l, s, hr, hs, hb, i, h, h2 => by
    have hx := hr x (by simp)
    obtain ⟨j, rfl⟩ := Int.eq_ofNat_of_zero_le hx.1
    have hj : j < s.length := by omega
    have hbj := hb j hj
    simp only [List.length_cons] at hb hbj
    have e1 : wrap64 (rd s (j : Int) + 1) = s[j] + 1 := by rw [rd_get hj, w64 (by omega) (by omega)]
    have e2 : cfold ((j : Int) :: l) s = cfold l (s.set j (s[j] + 1)) := by
      show cfold l (s.set (j : Int).toNat (wrap64 (rd s (j : Int) + 1))) = _
      rw [e1, Int.toNat_natCast]
    have hlen : (s.set j (s[j] + 1)).length = s.length := by simp
    have ih := cfold_at b l (s.set j (s[j] + 1)) (fun y hy => hr y (by simp [hy])) (by omega) (fun q hq => by
      have hq2 : q < s.length := by omega
      have := hb q hq2
      rw [List.getElem_set]
      split
      · omega
      · omega) i (by omega) (by rw [cfold_length]; omega)
    rw [List.getElem_set] at ih
    have e3 : (cfold ((j : Int) :: l) s)[i] = (cfold l (s.set j (s[j] + 1)))[i]'(by rw [cfold_length]; omega) := by
      congr 1
    rw [e3, ih, List.count_cons]
    by_cases hij : j = i
    · subst hij
      rw [if_pos rfl, if_pos (by simp)]; omega
    · rw [if_neg hij, if_neg (by simp; omega)]; omega
theorem countL_at {b : Nat} {l : List Int} (hr : ∀ x ∈ l, 0 ≤ x ∧ x < b) (hl : l.length ≤ 1000) {i : Nat} (h : i < b) : rd (countL b l) (i : Int) = (l.count (i : Int) : Int) := by
  have hlen : (countL b l).length = b := countL_length b l
  rw [rd_get (show i < (countL b l).length by omega)]
  have := cfold_at b l (List.replicate b 0) hr (by simp) (fun q hq => by simp; omega) i (by simp; omega) (by rw [cfold_length]; simp; omega)
  have e : (countL b l)[i] = (cfold l (List.replicate b 0))[i]'(by rw [cfold_length]; simp; omega) := rfl
  rw [e, this]; simp
end Go.Proofs.YtehhkkbejmhcfaaC
end
section
namespace Go.Proofs.YtehhkkbejmhcfaaC
open Go.RowKit Go.Proofs.YtehhkkbejmhcfaaW.PrintWords Go.Proofs.YtehhkkbejmhcfaaW.PrintMore
set_option linter.unusedVariables false
def spec_l1Put.l0 : Nat → List Int → Int → Int → Option (List Int)
  | 0, _, _, _ => none
  | k + 1, x0, x1, x5 => if x5 < (x0.length : Int) then (if 0 ≤ x5 then (if (rd x0 x5) < x1 then (spec_l1Put.l0 k x0 x1 (wrap64 (x5 + 1))) else (if (rd x0 x5) = x1 then (some x0) else ((some (([] : List Int) : List Int)).bind fun y120 => (if x5 ≤ (x0.length : Int) then ((some (x0.take (x5 : Int).toNat : List Int)).bind fun y123 => (if y120.length + y123.length < 17592186044416 then ((some (y120 ++ y123 : List Int)).bind fun y127 => (if y127.length < 17592186044416 then ((some (y127 ++ [x1] : List Int)).bind fun y130 => ((some (x0.drop (x5 : Int).toNat : List Int)).bind fun y133 => (if y130.length + y133.length < 17592186044416 then (some (y130 ++ y133)) else (none)))) else (none))) else (none))) else (none))))) else (none)) else ((some (([] : List Int) : List Int)).bind fun y140 => (if 0 ≤ x5 then (if x5 ≤ (x0.length : Int) then ((some (x0.take (x5 : Int).toNat : List Int)).bind fun y143 => (if y140.length + y143.length < 17592186044416 then ((some (y140 ++ y143 : List Int)).bind fun y147 => (if y147.length < 17592186044416 then ((some (y147 ++ [x1] : List Int)).bind fun y150 => ((some (x0.drop (x5 : Int).toNat : List Int)).bind fun y153 => (if y150.length + y153.length < 17592186044416 then (some (y150 ++ y153)) else (none)))) else (none))) else (none))) else (none)) else (none)))
def spec_l1Put.f (k : Nat) (l0 : List Int) (a1 : Int) : Option (List Int) := spec_l1Put.l0 k l0 a1 0
mutual
def spec_try.f : Nat → Int → Int → Int → Int → Int → List Int → List Int → Option (List Int)
  | 0, _, _, _, _, _, _, _ => none
  | k + 1, b, p, left, most, sum, counts, found => if left = 0 then (if sum ≤ 1000000000000 then ((spec_dgOf.f k sum b).bind fun ds => (spec_dgCounts.f k ds b).bind fun cs => (spec_l1Same.f k cs counts).bind fun e => if e = true then spec_l1Put.f k found sum else some found) else none) else spec_try.l0 k b p left most sum counts found 0
def spec_try.l0 : Nat → Int → Int → Int → Int → Int → List Int → List Int → Int → Option (List Int)
  | 0, _, _, _, _, _, _, _, _ => none
  | k + 1, b, p, left, most, sum, counts, found, d => if d ≤ most then ((spec_l1Own.f counts).bind fun nx => if 0 ≤ d then (if d < (nx.length : Int) then ((spec_pwOf.f k d p).bind fun q => (spec_try.f k b p (wrap64 (left - 1)) d (wrap64 (sum + q)) (nx.set d.toNat (wrap64 (rd nx d + 1))) found).bind fun fo => spec_try.l0 k b p left most sum counts fo (wrap64 (d + 1))) else none) else none) else some found
end
def spec_Narcissistic.f (k : Nat) (a0 a1 : Int) : Option (List Int × Bool) := (spec_l1In.f a0 1 6).bind fun t1 => if t1 = true then ((spec_l1In.f a1 2 10).bind fun t2 => if t2 = true then (if 0 ≤ a1 ∧ a1.toNat ≤ 35184372088832 then (spec_try.f k a1 a0 a0 (wrap64 (a1 - 1)) 0 (List.replicate a1.toNat 0) []).bind fun r => some (r, true) else none) else some ([], false)) else some ([], false)
def slices_Sort_int_int.f (l0 : List Int) : Option (List Int) := if l0.length < 4611686018427387904 then some (l0.mergeSort fun x y => decide (x ≤ y)) else none
def impl_sorted.f (k : Nat) (a0 : Int) (a1 : Int) : Option (List Int) := (impl_digitsOf.f k a0 a1).bind fun t180 => ((slices_Sort_int_int.f t180).bind fun t183 => (some t183))
def impl_own1.l0 : Nat → Int → List Int → Int → Int → Option Int
  | 0, _, _, _, _ => none
  | k + 1, p, list, n, i => if i < (list.length : Int) then (if 0 ≤ i then ((impl_toPower.f k (rd list i) p).bind fun t => impl_own1.l0 k p list (wrap64 (n + t)) (wrap64 (i + 1))) else none) else some n
def impl_own1.f (k : Nat) (b p : Int) (list out : List Int) : Option (List Int) := (impl_own1.l0 k p list 0 0).bind fun n => (impl_sorted.f k n b).bind fun s => (slices_Equal_int_int.f k s list).bind fun e => if e = true then (if out.length < 17592186044416 then some (out ++ [n]) else none) else some out
mutual
def impl_on.f : Nat → Int → Int → Int → Int → List Int → Int → List Int → Option (List Int)
  | 0, _, _, _, _, _, _, _ => none
  | k + 1, b, p, many, most, list, least, out => if (list.length : Int) = many then impl_own1.f k b p list out else impl_on.l0 k b p many most list out least
def impl_on.l0 : Nat → Int → Int → Int → Int → List Int → List Int → Int → Option (List Int)
  | 0, _, _, _, _, _, _, _ => none
  | k + 1, b, p, many, most, list, out, d => if d ≤ most then (if list.length < 17592186044415 then (impl_on.f k b p many most (list ++ [d]) d out).bind fun fo => impl_on.l0 k b p many most list fo (wrap64 (d + 1)) else none) else some out
end
def impl_owns.f (k : Nat) (a0 a1 a2 : Int) : Option (List Int) := (impl_on.f k a1 a2 a0 (wrap64 (a1 - 1)) [] 0 []).bind fun o => slices_Sort_int_int.f o
def impl_Narcissistic.f (k : Nat) (a0 : Int) (a1 : Int) : Option (List Int × Bool) := (impl_isSmallBase.f a1).bind fun t184 => (if t184 = true then ((impl_in.f a0 1 6).bind fun t185 => (if t185 = true then ((impl_owns.f k a0 a1 a0).bind fun t186 => (some (t186, true))) else (some (([] : List Int), false)))) else (some (([] : List Int), false)))
mutual
def laws_FnExactNarcissistic.j0 : Nat → Int → Int → List Int → Bool → List Int → Bool → Option (Bool)
  | 0, _, _, _, _, _, _ => none
  | k + 1, x0, x1, x5, x6, x7, x33 => if x33 = true then (some false) else ((laws_markIntS.f k x7 1).bind fun bt202 => ((laws_heldIntS.f k bt202.2 1).bind fun t204 => (if t204 < 0 then (some false) else (if t204 = bt202.1 then ((impl_Narcissistic.f k x0 x1).bind fun bt205 => ((laws_eqIntS.f k bt205.1 x5).bind fun t209 => (if t209 = true then (laws_FnExactNarcissistic.j1 k bt202.2 bt202.1 (bt205.2 != x6)) else (laws_FnExactNarcissistic.j1 k bt202.2 bt202.1 true)))) else (some false)))))
def laws_FnExactNarcissistic.j1 : Nat → List Int → Int → Bool → Option (Bool)
  | 0, _, _, _ => none
  | k + 1, x7, x9, x59 => if x59 = true then (some false) else ((laws_heldIntS.f k x7 1).bind fun t210 => (if t210 < 0 then (some false) else (if t210 = x9 then (some true) else (some false))))
end
def laws_FnExactNarcissistic.f (k : Nat) (a0 : Int) (a1 : Int) : Option (Bool) := (spec_Narcissistic.f k a0 a1).bind fun bt193 => ((impl_Narcissistic.f k a0 a1).bind fun bt197 => ((laws_eqIntS.f k bt197.1 bt193.1).bind fun t201 => (if t201 = true then (laws_FnExactNarcissistic.j0 k a0 a1 bt193.1 bt193.2 bt197.1 (bt197.2 != bt193.2)) else (laws_FnExactNarcissistic.j0 k a0 a1 bt193.1 bt193.2 bt197.1 true))))
def laws_FnExactNarcissistic.Pure : Prop := ∀ (a0 : Int) (a1 : Int), (Lit.int .i64 a0).wf = true → (Lit.int .i64 a1).wf = true → ∃ k, laws_FnExactNarcissistic.f k a0 a1 = some true
def spec_OwnPowers.l0 : Nat → Int → Int → List Int → Int → Option (List Int × Bool)
  | 0, _, _, _, _ => none
  | k + 1, b, p, found, d => (spec_pwFalls.f k b p).bind fun m => if d < m then (if 0 ≤ b ∧ b.toNat ≤ 35184372088832 then (spec_try.f k b p d (wrap64 (b - 1)) 0 (List.replicate b.toNat 0) found).bind fun fo => spec_OwnPowers.l0 k b p fo (wrap64 (d + 1)) else none) else some (found, true)
def spec_OwnPowers.f (k : Nat) (a0 a1 : Int) : Option (List Int × Bool) := (spec_l1In.f a0 2 10).bind fun t1 => if t1 = true then ((spec_pwPower.f a1 6).bind fun t2 => if t2 = true then spec_OwnPowers.l0 k a0 a1 [] 1 else some ([], false)) else some ([], false)
mutual
def impl_OwnPowers.j0 : Nat → Int → Int → Bool → Option (List Int × Bool)
  | 0, _, _, _ => none
  | k + 1, x0, x1, x15 => if x15 = true then (some (([] : List Int), false)) else (impl_OwnPowers.l0 k x0 x1 (([] : List Int)) 1)
def impl_OwnPowers.l0 : Nat → Int → Int → List Int → Int → Option (List Int × Bool)
  | 0, _, _, _, _ => none
  | k + 1, x0, x1, x6, x7 => (impl_fallsFrom.f k x0 x1).bind fun t198 => (if x7 < t198 then ((impl_owns.f k x7 x0 x1).bind fun t199 => (if x6.length + t199.length < 17592186044416 then (impl_OwnPowers.l0 k x0 x1 (x6 ++ t199) (wrap64 (x7 + 1))) else (none))) else (some (x6, true)))
end
def impl_OwnPowers.f (k : Nat) (a0 : Int) (a1 : Int) : Option (List Int × Bool) := (impl_isSmallBase.f a0).bind fun t193 => (if t193 = true then ((impl_in.f a1 1 6).bind fun t194 => (impl_OwnPowers.j0 k a0 a1 (!t194))) else (impl_OwnPowers.j0 k a0 a1 true))
mutual
def laws_FnExactOwnPowers.j0 : Nat → Int → Int → List Int → Bool → List Int → Bool → Option (Bool)
  | 0, _, _, _, _, _, _ => none
  | k + 1, x0, x1, x5, x6, x7, x33 => if x33 = true then (some false) else ((laws_markIntS.f k x7 1).bind fun bt214 => ((laws_heldIntS.f k bt214.2 1).bind fun t216 => (if t216 < 0 then (some false) else (if t216 = bt214.1 then ((impl_OwnPowers.f k x0 x1).bind fun bt217 => ((laws_eqIntS.f k bt217.1 x5).bind fun t221 => (if t221 = true then (laws_FnExactOwnPowers.j1 k bt214.2 bt214.1 (bt217.2 != x6)) else (laws_FnExactOwnPowers.j1 k bt214.2 bt214.1 true)))) else (some false)))))
def laws_FnExactOwnPowers.j1 : Nat → List Int → Int → Bool → Option (Bool)
  | 0, _, _, _ => none
  | k + 1, x7, x9, x59 => if x59 = true then (some false) else ((laws_heldIntS.f k x7 1).bind fun t222 => (if t222 < 0 then (some false) else (if t222 = x9 then (some true) else (some false))))
end
def laws_FnExactOwnPowers.f (k : Nat) (a0 : Int) (a1 : Int) : Option (Bool) := (spec_OwnPowers.f k a0 a1).bind fun bt205 => ((impl_OwnPowers.f k a0 a1).bind fun bt209 => ((laws_eqIntS.f k bt209.1 bt205.1).bind fun t213 => (if t213 = true then (laws_FnExactOwnPowers.j0 k a0 a1 bt205.1 bt205.2 bt209.1 (bt209.2 != bt205.2)) else (laws_FnExactOwnPowers.j0 k a0 a1 bt205.1 bt205.2 bt209.1 true))))
def laws_FnExactOwnPowers.Pure : Prop := ∀ (a0 : Int) (a1 : Int), (Lit.int .i64 a0).wf = true → (Lit.int .i64 a1).wf = true → ∃ k, laws_FnExactOwnPowers.f k a0 a1 = some true
end Go.Proofs.YtehhkkbejmhcfaaC
end
section
namespace Go.Proofs.YtehhkkbejmhcfaaC
open Go.RowKit Go.Proofs.YtehhkkbejmhcfaaW.PrintWords Go.Proofs.YtehhkkbejmhcfaaW.PrintMore
set_option linter.unusedSimpArgs false
set_option linter.unusedVariables false
set_option linter.unusedSectionVars false
theorem sorted_ext : ∀ (a b : List Int), a.Pairwise (· < ·) → b.Pairwise (· < ·) → (∀ z, z ∈ a ↔ z ∈ b) → a = b
  | [], [], _, _, _ => rfl
  | [], y :: b, _, _, h => absurd ((h y).2 (by simp)) (by simp)
  | x :: a, [], _, _, h => absurd ((h x).1 (by simp)) (by simp)
  | x :: a, y :: b, ha, hb, h => by
    have ha' := List.pairwise_cons.1 ha
    have hb' := List.pairwise_cons.1 hb
    have e : x = y := by
      rcases List.mem_cons.1 ((h x).1 (by simp)) with e | e
      · exact e
      · rcases List.mem_cons.1 ((h y).2 (by simp)) with e2 | e2
        · exact e2.symm
        · have := hb'.1 x e
          have := ha'.1 y e2
          omega
    subst e
    rw [sorted_ext a b ha'.2 hb'.2 (fun z => ?_)]
    constructor
    · intro hz
      rcases List.mem_cons.1 ((h z).1 (by simp [hz])) with e | e
      · subst e; exact absurd (ha'.1 _ hz) (by omega)
      · exact e
    · intro hz
      rcases List.mem_cons.1 ((h z).2 (by simp [hz])) with e | e
      · subst e; exact absurd (hb'.1 _ hz) (by omega)
      · exact e
def le (x y : Int) : Bool := decide (x ≤ y)
theorem le_trans_ (a b c : Int) (h1 : le a b = true) (h2 : le b c = true) : le a c = true := by
  simp only [le, decide_eq_true_eq] at *; omega
theorem le_total_ (a b : Int) : (le a b || le b a) = true := by
  simp only [le, Bool.or_eq_true, decide_eq_true_eq]; omega
def srt (l : List Int) : List Int := l.mergeSort le
theorem srt_sorted (l : List Int) : (srt l).Pairwise (fun a b => le a b = true) := List.pairwise_mergeSort le_trans_ le_total_ l
theorem srt_perm (l : List Int) : (srt l).Perm l := List.mergeSort_perm l le
theorem srt_length (l : List Int) : (srt l).length = l.length := (srt_perm l).length_eq
theorem l1Put_loop {s : List Int} {y : Int} (hs : s.Pairwise (· < ·)) (hl : s.length ≤ 200000000000) : ∀ (d j : Nat), j + d = s.length → (∀ q (h : q < s.length), q < j → s[q] < y) →
    ∃ s' : List Int, s'.Pairwise (· < ·) ∧ (∀ z, z ∈ s' ↔ z ∈ s ∨ z = y) ∧ s'.length ≤ s.length + 1 ∧ ∀ k, d < k → spec_l1Put.l0 k s y (j : Int) = some s'
  | 0, j, hj, hq => by
    obtain rfl : j = s.length := by omega
    have hlt : ∀ a ∈ s, a < y := fun a ha => by
      obtain ⟨q, h, rfl⟩ := List.getElem_of_mem ha
      exact hq q h h
    refine ⟨s ++ [y], List.pairwise_append.2 ⟨hs, by simp, fun a ha b hb => by rw [List.mem_singleton.1 hb]; exact hlt a ha⟩, fun z => by simp, by simp, fun k hk => ?_⟩
    obtain ⟨k, rfl⟩ : ∃ q, k = q + 1 := ⟨k - 1, by omega⟩
    rw [spec_l1Put.l0, if_neg (by omega), Option.bind_some, if_pos (by omega), if_pos (by omega), Option.bind_some, if_pos (by simp; omega), Option.bind_some, if_pos (by simp; omega), Option.bind_some, Option.bind_some, if_pos (by simp; omega)]
    simp
  | d + 1, j, hj, hq => by
    have hjl : j < s.length := by omega
    by_cases h1 : s[j] < y
    · obtain ⟨s', a1, a2, a3, a4⟩ := l1Put_loop hs hl d (j + 1) (by omega) (fun q h hqj => by
        by_cases e : q = j
        · subst e; exact h1
        · exact hq q h (by omega))
      refine ⟨s', a1, a2, a3, fun k hk => ?_⟩
      obtain ⟨k, rfl⟩ : ∃ q, k = q + 1 := ⟨k - 1, by omega⟩
      rw [spec_l1Put.l0, if_pos (by omega), if_pos (by omega), rd_get hjl, if_pos h1, w64s (by omega)]
      exact a4 k (by omega)
    · by_cases h2 : s[j] = y
      · refine ⟨s, hs, fun z => ⟨.inl, ?_⟩, by omega, fun k hk => ?_⟩
        · rintro (h | rfl)
          · exact h
          · rw [← h2]; exact List.getElem_mem hjl
        · obtain ⟨k, rfl⟩ : ∃ q, k = q + 1 := ⟨k - 1, by omega⟩
          rw [spec_l1Put.l0, if_pos (by omega), if_pos (by omega), rd_get hjl, if_neg h1, if_pos h2]
      · have hlo : ∀ a ∈ s.take j, a < y := fun a ha => by
          obtain ⟨q, h, rfl⟩ := List.getElem_of_mem ha
          rw [List.length_take] at h
          rw [List.getElem_take]
          exact hq q (by omega) (by omega)
        have hhi : ∀ a ∈ s.drop j, y < a := fun a ha => by
          obtain ⟨q, h, rfl⟩ := List.getElem_of_mem ha
          rw [List.length_drop] at h
          rw [List.getElem_drop]
          by_cases e : q = 0
          · subst e; simp only [Nat.add_zero]; omega
          · have := List.pairwise_iff_getElem.1 hs j (j + q) hjl (by omega) (by omega)
            omega
        refine ⟨s.take j ++ [y] ++ s.drop j, ?_, fun z => ?_, by simp; omega, fun k hk => ?_⟩
        · refine List.pairwise_append.2 ⟨List.pairwise_append.2 ⟨hs.sublist (List.take_sublist _ _), by simp, fun a ha b hb => by rw [List.mem_singleton.1 hb]; exact hlo a ha⟩, hs.sublist (List.drop_sublist _ _), fun a ha b hb => ?_⟩
          rcases List.mem_append.1 ha with ha | ha
          · have := hlo a ha; have := hhi b hb; omega
          · rw [List.mem_singleton.1 ha]; exact hhi b hb
        · conv => rhs; rw [← List.take_append_drop j s]
          simp only [List.mem_append, List.mem_singleton]
          constructor
          · rintro ((h | h) | h)
            · exact .inl (.inl h)
            · exact .inr h
            · exact .inl (.inr h)
          · rintro ((h | h) | h)
            · exact .inl (.inl h)
            · exact .inr h
            · exact .inl (.inr h)
        · obtain ⟨k, rfl⟩ : ∃ q, k = q + 1 := ⟨k - 1, by omega⟩
          rw [spec_l1Put.l0, if_pos (by omega), if_pos (by omega), rd_get hjl, if_neg h1, if_neg h2, Option.bind_some, if_pos (by omega), Option.bind_some, if_pos (by simp; omega), Option.bind_some, if_pos (by simp; omega), Option.bind_some, Option.bind_some, if_pos (by simp; omega)]
          simp
theorem l1Put_eq {s : List Int} (hs : s.Pairwise (· < ·)) (hl : s.length ≤ 200000000000) (y : Int) : ∃ s' : List Int, s'.Pairwise (· < ·) ∧ (∀ z, z ∈ s' ↔ z ∈ s ∨ z = y) ∧ s'.length ≤ s.length + 1 ∧ ∀ k, s.length < k → spec_l1Put.f k s y = some s' :=
  l1Put_loop hs hl s.length 0 (by omega) (fun _ _ h => absurd h (by omega))
theorem own_eq (l : List Int) (hl : l.length ≤ 1048576) : spec_l1Own.f l = some l := by
  simp [spec_l1Own.f, show l.length < 17592186044416 by omega]
theorem same_perm {b : Nat} {l m : List Int} (hl : ∀ x ∈ l, 0 ≤ x ∧ x < (b : Int)) (hm : ∀ x ∈ m, 0 ≤ x ∧ x < (b : Int)) (h1 : l.length ≤ 1000) (h2 : m.length ≤ 1000) : countL b l = countL b m ↔ l.Perm m := by
  constructor
  · intro h
    rw [List.perm_iff_count]
    intro x
    by_cases hx : 0 ≤ x ∧ x < (b : Int)
    · obtain ⟨j, rfl⟩ := Int.eq_ofNat_of_zero_le hx.1
      have a1 := countL_at hl h1 (i := j) (by omega)
      have a2 := countL_at hm h2 (i := j) (by omega)
      rw [h] at a1
      omega
    · rw [List.count_eq_zero_of_not_mem (fun hm' => hx (hl x hm')), List.count_eq_zero_of_not_mem (fun hm' => hx (hm x hm'))]
  · intro h
    apply List.ext_getElem
    · rw [countL_length, countL_length]
    · intro i hi1 hi2
      rw [countL_length] at hi1
      have a1 := countL_at hl h1 (i := i) hi1
      have a2 := countL_at hm h2 (i := i) hi1
      rw [rd_get (by rw [countL_length]; exact hi1)] at a1
      rw [rd_get (by rw [countL_length]; exact hi1)] at a2
      rw [a1, a2, h.count_eq]
theorem countL_snoc (b : Nat) (t : List Int) (d : Int) : (countL b t).set d.toNat (wrap64 (rd (countL b t) d + 1)) = countL b (t ++ [d]) := by
  unfold countL
  rw [List.foldl_append]
  rfl
theorem psum_perm (p : Nat) {l m : List Int} (h : l.Perm m) : psum p l = psum p m := by
  unfold psum
  induction h with
  | nil => rfl
  | cons x _ ih => simp only [List.map_cons, List.sum_cons, ih]
  | swap x y l => simp only [List.map_cons, List.sum_cons]; omega
  | trans _ _ ih1 ih2 => rw [ih1, ih2]
theorem psum_snoc (p : Nat) (t : List Int) (d : Int) : psum p (t ++ [d]) = psum p t + d ^ p := by
  rw [psum_append]; simp [psum]
theorem short_of (M : Nat) {l : List Int} (hn : l.Nodup) (h : ∀ x ∈ l, 0 ≤ x ∧ x ≤ (M : Int)) : l.length ≤ M + 1 := by
  have := nodup_le l ((List.range (M + 1)).map Int.ofNat) hn (fun y hy => by
    have := h y hy
    exact List.mem_map.2 ⟨y.toNat, List.mem_range.2 (by omega), by simp; omega⟩)
  simpa using this
def Dig (b : Nat) (t : List Int) : Prop := ∀ x ∈ t, 0 ≤ x ∧ x < (b : Int)
theorem Dig.snoc {b : Nat} {t : List Int} (h : Dig b t) {d : Nat} (hd : d < b) : Dig b (t ++ [(d : Int)]) := fun x hx => by
  rcases List.mem_append.1 hx with hx | hx
  · exact h x hx
  · rw [List.mem_singleton.1 hx]; omega
theorem psum_small {b p : Nat} (hb : b ≤ 10) (hp : p ≤ 8) {t : List Int} (ht : Dig b t) (hl : t.length ≤ 40) : 0 ≤ psum p t ∧ psum p t ≤ 171798691840 := by
  have := psum_bound hp t (fun x hx => by have := ht x hx; omega)
  omega
def Fnd (R : List Int) : Prop := R.Pairwise (· < ·) ∧ ∀ x ∈ R, 0 ≤ x ∧ x ≤ 171798691840
theorem Fnd.short {R : List Int} (h : Fnd R) : R.length ≤ 171798691841 := short_of 171798691840 (h.1.imp (fun hab e => by omega)) h.2
def Dsc (most : Int) (s : List Int) : Prop := (∀ y ∈ s, 0 ≤ y ∧ y ≤ most) ∧ s.Pairwise (fun a c => c ≤ a)
theorem Dsc.nil (most : Int) : Dsc most [] := ⟨by simp, List.Pairwise.nil⟩
theorem dsc_cons {most d : Int} {s : List Int} : Dsc most (d :: s) ↔ (0 ≤ d ∧ d ≤ most) ∧ Dsc d s := by
  constructor
  · intro h
    have h2 := List.pairwise_cons.1 h.2
    exact ⟨h.1 d (by simp), fun y hy => ⟨(h.1 y (by simp [hy])).1, h2.1 y hy⟩, h2.2⟩
  · rintro ⟨h1, h2, h3⟩
    refine ⟨fun y hy => ?_, List.pairwise_cons.2 ⟨fun y hy => (h2 y hy).2, h3⟩⟩
    rcases List.mem_cons.1 hy with rfl | hy
    · exact h1
    · have := h2 y hy; omega
section
variable {b p : Nat} (hb : 2 ≤ b) (hb2 : b ≤ 10) (hp1 : 1 ≤ p) (hp : p ≤ 6)
include hb hb2 hp1 hp
theorem try_spec : ∀ (left : Nat) (t : List Int) (most : Nat) (fd : List Int), Dig b t → t.length + left ≤ 40 → most < b → Fnd fd →
    ∃ (K : Nat) (R : List Int), Fnd R ∧ (∀ x, x ∈ R ↔ x ∈ fd ∨ ∃ s : List Int, s.length = left ∧ Dsc (most : Int) s ∧ x = psum p (t ++ s) ∧ (dg b x.toNat).Perm (t ++ s)) ∧ ∀ k, K ≤ k → spec_try.f k (b : Int) (p : Int) (left : Int) (most : Int) (psum p t) (countL b t) fd = some R := by
  intro left
  induction left with
  | zero =>
    intro t most fd ht hl hm hf
    have hps := psum_small (p := p) hb2 (by omega) ht (by omega)
    obtain ⟨n, hn⟩ := Int.eq_ofNat_of_zero_le hps.1
    obtain ⟨K1, h1⟩ := dgOf_ev (b := b) (n := n) hb (by omega) (by omega)
    have hdr := dg_range hb n
    have hdl := dg_short (c := b) (m := n) hb (by omega)
    have hc1 : ∀ k, K1 + 100 ≤ k → spec_dgCounts.f k (dg b n) (b : Int) = some (countL b (dg b n)) := fun k hk => dgCounts_eq b _ (by omega) (by omega) (by omega) hdr
    have hc2 : ∀ k, K1 + 100 ≤ k → spec_l1Same.f k (countL b (dg b n)) (countL b t) = some (decide (countL b (dg b n) = countL b t)) := fun k hk => l1Same_eq _ _ (by rw [countL_length]; omega) (by rw [countL_length]; omega)
    by_cases hcp : (dg b n).Perm t
    · obtain ⟨R, r1, r2, -, r4⟩ := l1Put_eq hf.1 (by have := hf.short; omega) (psum p t)
      refine ⟨K1 + 200000000000, R, ⟨r1, fun x hx => ?_⟩, fun x => ?_, fun k hk => ?_⟩
      · rcases (r2 x).1 hx with h | h
        · exact hf.2 x h
        · rw [h]; exact hps
      · rw [r2 x]
        constructor
        · rintro (h | h)
          · exact .inl h
          · refine .inr ⟨[], rfl, Dsc.nil _, by rw [List.append_nil]; exact h, ?_⟩
            rw [h, hn, List.append_nil]; exact hcp
        · rintro (h | ⟨s, hs, _, h, _⟩)
          · exact .inl h
          · have : s = [] := List.length_eq_zero_iff.1 hs
            subst this
            rw [List.append_nil] at h
            exact .inr h
      · obtain ⟨k, rfl⟩ : ∃ q, k = q + 1 := ⟨k - 1, by omega⟩
        have e : spec_dgOf.f k (n : Int) (b : Int) = some (dg b n) := h1 k (by omega)
        rw [spec_try.f, if_pos (show ((0 : Nat) : Int) = 0 from rfl), if_pos (by omega), hn, e, Option.bind_some, hc1 k (by omega), Option.bind_some, hc2 k (by omega), Option.bind_some, if_pos (decide_eq_true ((same_perm hdr ht (by omega) (by omega)).2 hcp)), ← hn]
        exact r4 k (by have := hf.short; omega)
    · refine ⟨K1 + 200000000000, fd, hf, fun x => ⟨.inl, ?_⟩, fun k hk => ?_⟩
      · rintro (h | ⟨s, hs, _, h, h5⟩)
        · exact h
        · have : s = [] := List.length_eq_zero_iff.1 hs
          subst this
          rw [List.append_nil] at h h5
          rw [h, hn] at h5
          exact absurd h5 hcp
      · obtain ⟨k, rfl⟩ : ∃ q, k = q + 1 := ⟨k - 1, by omega⟩
        have e : spec_dgOf.f k (n : Int) (b : Int) = some (dg b n) := h1 k (by omega)
        have hne : ¬ (decide (countL b (dg b n) = countL b t) = true) := fun h => hcp ((same_perm hdr ht (by omega) (by omega)).1 (of_decide_eq_true h))
        rw [spec_try.f, if_pos (show ((0 : Nat) : Int) = 0 from rfl), if_pos (by omega), hn, e, Option.bind_some, hc1 k (by omega), Option.bind_some, hc2 k (by omega), Option.bind_some, if_neg hne]
  | succ left IH =>
    intro t most fd ht hl hm hf
    have loop : ∀ e d, e + d = most + 1 → ∀ fd, Fnd fd → ∃ (K : Nat) (R : List Int), Fnd R ∧ (∀ x, x ∈ R ↔ x ∈ fd ∨ ∃ s : List Int, s.length = left + 1 ∧ Dsc (most : Int) s ∧ (∀ y ∈ s.head?, (d : Int) ≤ y) ∧ x = psum p (t ++ s) ∧ (dg b x.toNat).Perm (t ++ s)) ∧
        ∀ k, K ≤ k → spec_try.l0 k (b : Int) (p : Int) ((left + 1 : Nat) : Int) (most : Int) (psum p t) (countL b t) fd (d : Int) = some R := by
      intro e
      induction e with
      | zero =>
        intro d hd fd hf
        refine ⟨1, fd, hf, fun x => ⟨.inl, ?_⟩, fun k hk => ?_⟩
        · rintro (h | ⟨s, hs, h1, h2, _⟩)
          · exact h
          · rcases s with _ | ⟨y, s⟩
            · simp at hs
            · have a1 := h1.1 y (by simp)
              have a2 := h2 y (by simp)
              omega
        · obtain ⟨k, rfl⟩ : ∃ q, k = q + 1 := ⟨k - 1, by omega⟩
          rw [spec_try.l0, if_neg (by omega)]
      | succ e ihe =>
        intro d hd fd hf
        obtain ⟨K1, R1, f1, m1, e1⟩ := IH (t ++ [(d : Int)]) d fd (ht.snoc (by omega)) (by simp; omega) (by omega) hf
        obtain ⟨K2, R2, f2, m2, e2⟩ := ihe (d + 1) (by omega) R1 f1
        refine ⟨K1 + K2 + 100, R2, f2, fun x => ?_, fun k hk => ?_⟩
        · rw [m2 x, m1 x]
          constructor
          · rintro ((h | ⟨s, hs, h1, h2, h3⟩) | ⟨s, hs, h1, h2, h3, h4⟩)
            · exact .inl h
            · refine .inr ⟨(d : Int) :: s, by simp [hs], dsc_cons.2 ⟨by omega, h1⟩, by simp, ?_, ?_⟩
              · rw [h2]; simp
              · simpa using h3
            · refine .inr ⟨s, hs, h1, fun y hy => ?_, h3, h4⟩
              have := h2 y hy; omega
          · rintro (h | ⟨s, hs, h1, h2, h3, h4⟩)
            · exact .inl (.inl h)
            · rcases s with _ | ⟨y, s⟩
              · simp at hs
              · have a2 := h2 y (by simp)
                by_cases hy : y = (d : Int)
                · subst hy
                  refine .inl (.inr ⟨s, by simpa using hs, (dsc_cons.1 h1).2, ?_, ?_⟩)
                  · rw [h3]; simp
                  · simpa using h4
                · refine .inr ⟨y :: s, hs, h1, fun z hz => ?_, h3, h4⟩
                  have : z = y := by simpa using hz.symm
                  subst this; omega
        · obtain ⟨k, rfl⟩ : ∃ q, k = q + 1 := ⟨k - 1, by omega⟩
          have c0 : (0 : Int) ≤ (d : Int) := Int.natCast_nonneg d
          have c1 : (d : Int) < ((countL b t).length : Int) := by rw [countL_length]; exact Int.ofNat_lt.2 (by omega)
          have c2 : (d : Int) ≤ (most : Int) := Int.ofNat_le.2 (by omega)
          have hq := pwOf_eq (x := (d : Int)) (by omega) (by omega) p (by omega) k (by omega)
          have hsn := psum_snoc p t (d : Int)
          have hps := psum_small (p := p) hb2 (by omega) (ht.snoc (d := d) (by omega)) (by simp; omega)
          have w1 : wrap64 (((left + 1 : Nat) : Int) - 1) = (left : Int) := by unfold wrap64; omega
          have w2 : wrap64 (psum p t + (d : Int) ^ p) = psum p (t ++ [(d : Int)]) := by rw [← hsn]; unfold wrap64; omega
          have w3 : wrap64 ((d : Int) + 1) = ((d + 1 : Nat) : Int) := by unfold wrap64; omega
          rw [spec_try.l0, if_pos c2, own_eq _ (by rw [countL_length]; omega), Option.bind_some, if_pos c0, if_pos c1, hq, Option.bind_some, w1, w2, countL_snoc, e1 k (by omega), Option.bind_some, w3]
          exact e2 k (by omega)
    obtain ⟨K, R, f1, m1, e1⟩ := loop (most + 1) 0 (by omega) fd hf
    refine ⟨K + 1, R, f1, fun x => ?_, fun k hk => ?_⟩
    · rw [m1 x]
      constructor
      · rintro (h | ⟨s, hs, h1, h2, h3⟩)
        · exact .inl h
        · exact .inr ⟨s, hs, h1, h3⟩
      · rintro (h | ⟨s, hs, h1, h3⟩)
        · exact .inl h
        · refine .inr ⟨s, hs, h1, fun y hy => ?_, h3⟩
          rcases s with _ | ⟨z, s⟩
          · simp at hs
          · have : y = z := by simpa using hy.symm
            subst this
            exact (h1.1 y (by simp)).1
    · obtain ⟨k, rfl⟩ : ∃ q, k = q + 1 := ⟨k - 1, by omega⟩
      rw [spec_try.f, if_neg (by omega)]
      exact e1 k (by omega)
end
theorem Sort_eq (l : List Int) (hl : l.length ≤ 1000000000000) : slices_Sort_int_int.f l = some (srt l) := by
  unfold slices_Sort_int_int.f
  rw [if_pos (by omega)]; rfl
def Fno (R : List Int) : Prop := R.Nodup ∧ ∀ x ∈ R, 0 ≤ x ∧ x ≤ 171798691840
theorem Fno.short {R : List Int} (h : Fno R) : R.length ≤ 171798691841 := short_of 171798691840 h.1 h.2
def Asc (b : Nat) (least : Int) (s : List Int) : Prop := (∀ y ∈ s, least ≤ y ∧ y < (b : Int)) ∧ s.Pairwise (fun a c => a ≤ c)
theorem Asc.nil (b : Nat) (least : Int) : Asc b least [] := ⟨by simp, List.Pairwise.nil⟩
theorem asc_cons {b : Nat} {least d : Int} {s : List Int} : Asc b least (d :: s) ↔ (least ≤ d ∧ d < (b : Int)) ∧ Asc b d s := by
  constructor
  · intro h
    have h2 := List.pairwise_cons.1 h.2
    exact ⟨h.1 d (by simp), fun y hy => ⟨h2.1 y hy, (h.1 y (by simp [hy])).2⟩, h2.2⟩
  · rintro ⟨h1, h2, h3⟩
    refine ⟨fun y hy => ?_, List.pairwise_cons.2 ⟨fun y hy => (h2 y hy).1, h3⟩⟩
    rcases List.mem_cons.1 hy with rfl | hy
    · exact h1
    · have := h2 y hy; omega
theorem Asc.mono {b : Nat} {least d : Int} {s : List Int} (h : Asc b d s) (hd : least ≤ d) : Asc b least s := ⟨fun y hy => by have := h.1 y hy; omega, h.2⟩
section
variable {b p : Nat} (hb : 2 ≤ b) (hb2 : b ≤ 10) (hp1 : 1 ≤ p) (hp : p ≤ 6)
include hb hb2 hp1 hp
theorem own1_loop {l : List Int} (ht : Dig b l) (hl : l.length ≤ 40) : ∀ (suf pre : List Int), l = pre ++ suf → ∀ k, suf.length + 20 < k → impl_own1.l0 k (p : Int) l (psum p pre) (pre.length : Int) = some (psum p l)
  | [], pre, h, k, hk => by
    obtain ⟨k, rfl⟩ : ∃ q, k = q + 1 := ⟨k - 1, by omega⟩
    rw [List.append_nil] at h
    rw [impl_own1.l0, if_neg (by rw [h]; omega), h]
  | x :: suf, pre, h, k, hk => by
    simp only [List.length_cons] at hk
    obtain ⟨k, rfl⟩ : ∃ q, k = q + 1 := ⟨k - 1, by omega⟩
    have hlen : l.length = pre.length + suf.length + 1 := by rw [h]; simp; omega
    have hx := ht x (by rw [h]; simp)
    have e : rd l (pre.length : Int) = x := by rw [h]; exact rd_mid _ _ _
    have hs := psum_small (p := p) hb2 (by omega) (t := pre ++ [x]) (fun y hy => ht y (by rw [h]; rcases List.mem_append.1 hy with hy | hy <;> simp_all)) (by simp; omega)
    have hsn := psum_snoc p pre x
    have w2 : wrap64 (psum p pre + x ^ p) = psum p (pre ++ [x]) := by rw [← hsn]; unfold wrap64; omega
    have c0 : (pre.length : Int) < (l.length : Int) := Int.ofNat_lt.2 (by omega)
    have c1 : (0 : Int) ≤ (pre.length : Int) := Int.natCast_nonneg _
    have ht2 := toPower_eq (x := x) hx.1 (by omega) p (by omega) k (by omega)
    have ih := own1_loop ht hl suf (pre ++ [x]) (by rw [h]; simp) k (by omega)
    rw [impl_own1.l0, if_pos c0, if_pos c1, e, ht2, Option.bind_some, w2, w64s (by omega)]
    simpa using ih
theorem on_spec (many : Nat) (hmany : many ≤ 40) : ∀ (rest : Nat) (l : List Int) (least : Nat) (out : List Int), Dig b l → l.length + rest = many → least ≤ b → Fno out → (∀ x ∈ out, ¬ ∃ s : List Int, s.length = rest ∧ Asc b (least : Int) s ∧ srt (dg b x.toNat) = l ++ s) →
    ∃ (K : Nat) (R : List Int), Fno R ∧ (∀ x, x ∈ R ↔ x ∈ out ∨ ∃ s : List Int, s.length = rest ∧ Asc b (least : Int) s ∧ x = psum p (l ++ s) ∧ srt (dg b x.toNat) = l ++ s) ∧ ∀ k, K ≤ k → impl_on.f k (b : Int) (p : Int) (many : Int) ((b : Int) - 1) l (least : Int) out = some R := by
  intro rest
  induction rest with
  | zero =>
    intro l least out ht hl hm hf hpre
    have hps := psum_small (p := p) hb2 (by omega) ht (by omega)
    obtain ⟨n, hn⟩ := Int.eq_ofNat_of_zero_le hps.1
    have hdl := dg_short (c := b) (m := n) hb (by omega)
    have hso : ∀ k, n + 200 ≤ k → impl_sorted.f k (n : Int) (b : Int) = some (srt (dg b n)) := fun k hk => by
      rw [impl_sorted.f, digitsOf_now hb (by omega) (by omega) hk, Option.bind_some, Sort_eq _ (by omega), Option.bind_some]
    have heq : ∀ k, 100 ≤ k → slices_Equal_int_int.f k (srt (dg b n)) l = some (decide (srt (dg b n) = l)) := fun k hk => Equal_eq _ _ (by rw [srt_length]; omega) (by rw [srt_length]; omega)
    have hsum : ∀ k, 100 ≤ k → impl_own1.l0 k (p : Int) l 0 0 = some (psum p l) := fun k hk => own1_loop hb hb2 hp1 hp ht (by omega) l [] rfl k (by omega)
    have hlen : (l.length : Int) = (many : Int) := by omega
    by_cases hc : srt (dg b n) = l
    · refine ⟨n + 1000, out ++ [psum p l], ⟨?_, fun x hx => ?_⟩, fun x => ?_, fun k hk => ?_⟩
      · rw [List.nodup_append]
        refine ⟨hf.1, by simp, fun a ha c hc' e => ?_⟩
        rw [List.mem_singleton.1 hc'] at e
        refine hpre a ha ⟨[], rfl, Asc.nil _ _, ?_⟩
        rw [e, hn, List.append_nil]; exact hc
      · rcases List.mem_append.1 hx with hx | hx
        · exact hf.2 x hx
        · rw [List.mem_singleton.1 hx]; exact hps
      · rw [List.mem_append, List.mem_singleton]
        constructor
        · rintro (h | h)
          · exact .inl h
          · refine .inr ⟨[], rfl, Asc.nil _ _, by rw [List.append_nil]; exact h, ?_⟩
            rw [h, hn, List.append_nil]; exact hc
        · rintro (h | ⟨s, hs, _, h, _⟩)
          · exact .inl h
          · have : s = [] := List.length_eq_zero_iff.1 hs
            subst this
            rw [List.append_nil] at h
            exact .inr h
      · obtain ⟨k, rfl⟩ : ∃ q, k = q + 1 := ⟨k - 1, by omega⟩
        have hsh := hf.short
        have hlt : out.length < 17592186044416 := by omega
        rw [impl_on.f, if_pos hlen, impl_own1.f, hsum k (by omega), Option.bind_some, hn, hso k (by omega), Option.bind_some, heq k (by omega), Option.bind_some, if_pos (decide_eq_true hc), if_pos hlt]
    · refine ⟨n + 1000, out, hf, fun x => ⟨.inl, ?_⟩, fun k hk => ?_⟩
      · rintro (h | ⟨s, hs, _, h, h5⟩)
        · exact h
        · have : s = [] := List.length_eq_zero_iff.1 hs
          subst this
          rw [List.append_nil] at h h5
          rw [h, hn] at h5
          exact absurd h5 hc
      · obtain ⟨k, rfl⟩ : ∃ q, k = q + 1 := ⟨k - 1, by omega⟩
        have hne : ¬ (decide (srt (dg b n) = l) = true) := fun h => hc (of_decide_eq_true h)
        rw [impl_on.f, if_pos hlen, impl_own1.f, hsum k (by omega), Option.bind_some, hn, hso k (by omega), Option.bind_some, heq k (by omega), Option.bind_some, if_neg hne]
  | succ rest IH =>
    intro l least out ht hl hm hf hpre
    have loop : ∀ e d, e + d = b → ∀ out, Fno out → (∀ x ∈ out, ¬ ∃ s : List Int, s.length = rest + 1 ∧ Asc b (d : Int) s ∧ srt (dg b x.toNat) = l ++ s) → ∃ (K : Nat) (R : List Int), Fno R ∧ (∀ x, x ∈ R ↔ x ∈ out ∨ ∃ s : List Int, s.length = rest + 1 ∧ Asc b (d : Int) s ∧ x = psum p (l ++ s) ∧ srt (dg b x.toNat) = l ++ s) ∧
        ∀ k, K ≤ k → impl_on.l0 k (b : Int) (p : Int) (many : Int) ((b : Int) - 1) l out (d : Int) = some R := by
      intro e
      induction e with
      | zero =>
        intro d hd out hf hpre
        refine ⟨1, out, hf, fun x => ⟨.inl, ?_⟩, fun k hk => ?_⟩
        · rintro (h | ⟨s, hs, h1, _⟩)
          · exact h
          · rcases s with _ | ⟨y, s⟩
            · simp at hs
            · have a1 := h1.1 y (by simp)
              omega
        · obtain ⟨k, rfl⟩ : ∃ q, k = q + 1 := ⟨k - 1, by omega⟩
          rw [impl_on.l0, if_neg (by omega)]
      | succ e ihe =>
        intro d hd out hf hpre
        obtain ⟨K1, R1, f1, m1, e1⟩ := IH (l ++ [(d : Int)]) d out (ht.snoc (by omega)) (by simp; omega) (by omega) hf (fun x hx => by
          rintro ⟨s, hs, h1, h2⟩
          exact hpre x hx ⟨(d : Int) :: s, by simp [hs], asc_cons.2 ⟨by omega, h1⟩, by rw [h2]; simp⟩)
        obtain ⟨K2, R2, f2, m2, e2⟩ := ihe (d + 1) (by omega) R1 f1 (fun x hx => by
          rintro ⟨s, hs, h1, h2⟩
          rcases (m1 x).1 hx with h | ⟨s', hs', h3, h4, h5⟩
          · exact hpre x h ⟨s, hs, h1.mono (by omega), h2⟩
          · rw [h5, List.append_assoc] at h2
            have h6 := List.append_cancel_left h2
            rw [← h6] at h1
            have := h1.1 (d : Int) (by simp)
            omega)
        refine ⟨K1 + K2 + 100, R2, f2, fun x => ?_, fun k hk => ?_⟩
        · rw [m2 x, m1 x]
          constructor
          · rintro ((h | ⟨s, hs, h1, h2, h3⟩) | ⟨s, hs, h1, h3, h4⟩)
            · exact .inl h
            · refine .inr ⟨(d : Int) :: s, by simp [hs], asc_cons.2 ⟨by omega, h1⟩, ?_, ?_⟩
              · rw [h2]; simp
              · rw [h3]; simp
            · exact .inr ⟨s, hs, h1.mono (by omega), h3, h4⟩
          · rintro (h | ⟨s, hs, h1, h3, h4⟩)
            · exact .inl (.inl h)
            · rcases s with _ | ⟨y, s⟩
              · simp at hs
              · have a2 := (asc_cons.1 h1).1
                by_cases hy : y = (d : Int)
                · subst hy
                  refine .inl (.inr ⟨s, by simpa using hs, (asc_cons.1 h1).2, ?_, ?_⟩)
                  · rw [h3]; simp
                  · rw [h4]; simp
                · exact .inr ⟨y :: s, hs, asc_cons.2 ⟨by omega, (asc_cons.1 h1).2⟩, h3, h4⟩
        · obtain ⟨k, rfl⟩ : ∃ q, k = q + 1 := ⟨k - 1, by omega⟩
          have c2 : (d : Int) ≤ (b : Int) - 1 := by omega
          have w3 : wrap64 ((d : Int) + 1) = ((d + 1 : Nat) : Int) := by unfold wrap64; omega
          rw [impl_on.l0, if_pos c2, if_pos (by omega), e1 k (by omega), Option.bind_some, w3]
          exact e2 k (by omega)
    obtain ⟨K, R, f1, m1, e1⟩ := loop (b - least) least (by omega) out hf hpre
    refine ⟨K + 1, R, f1, m1, fun k hk => ?_⟩
    obtain ⟨k, rfl⟩ : ∃ q, k = q + 1 := ⟨k - 1, by omega⟩
    rw [impl_on.f, if_neg (by omega)]
    exact e1 k (by omega)
end
def Good (b p m : Nat) (x : Int) : Prop := 0 ≤ x ∧ (dg b x.toNat).length = m ∧ psum p (dg b x.toNat) = x
section
variable {b p : Nat} (hb : 2 ≤ b) (hb2 : b ≤ 10) (hp1 : 1 ≤ p) (hp : p ≤ 6)
include hb hb2 hp1 hp
theorem good_dsc {m : Nat} (hm : m ≤ 40) (x : Int) : (∃ s : List Int, s.length = m ∧ Dsc (((b - 1 : Nat) : Nat) : Int) s ∧ x = psum p ([] ++ s) ∧ (dg b x.toNat).Perm ([] ++ s)) ↔ Good b p m x := by
  constructor
  · rintro ⟨s, h1, h2, h3, h4⟩
    rw [List.nil_append] at h3 h4
    have hd : Dig b s := fun y hy => by have := h2.1 y hy; omega
    have := psum_small (p := p) hb2 (by omega) hd (by omega)
    exact ⟨by omega, by rw [h4.length_eq]; exact h1, by rw [psum_perm p h4]; exact h3.symm⟩
  · rintro ⟨h1, h2, h3⟩
    have hr := dg_range hb x.toNat
    refine ⟨(dg b x.toNat).mergeSort (fun a c => decide (c ≤ a)), ?_, ⟨fun y hy => ?_, ?_⟩, ?_, ?_⟩
    · rw [(List.mergeSort_perm _ _).length_eq]; exact h2
    · have := hr y ((List.mergeSort_perm _ _).mem_iff.1 hy); omega
    · have := List.pairwise_mergeSort (le := fun a c : Int => decide (c ≤ a)) (fun a b c h1 h2 => by simp only [decide_eq_true_eq] at *; omega) (fun a b => by simp only [Bool.or_eq_true, decide_eq_true_eq]; omega) (dg b x.toNat)
      exact this.imp (fun h => by simpa using h)
    · rw [List.nil_append, psum_perm p (List.mergeSort_perm _ _)]; exact h3.symm
    · rw [List.nil_append]; exact (List.mergeSort_perm _ _).symm
theorem good_asc {m : Nat} (hm : m ≤ 40) (x : Int) : (∃ s : List Int, s.length = m ∧ Asc b ((0 : Nat) : Int) s ∧ x = psum p ([] ++ s) ∧ srt (dg b x.toNat) = [] ++ s) ↔ Good b p m x := by
  constructor
  · rintro ⟨s, h1, h2, h3, h4⟩
    rw [List.nil_append] at h3 h4
    have h5 : (dg b x.toNat).Perm s := by rw [← h4]; exact (srt_perm _).symm
    have hd : Dig b s := fun y hy => by have := h2.1 y hy; omega
    have := psum_small (p := p) hb2 (by omega) hd (by omega)
    exact ⟨by omega, by rw [h5.length_eq]; exact h1, by rw [psum_perm p h5]; exact h3.symm⟩
  · rintro ⟨h1, h2, h3⟩
    have hr := dg_range hb x.toNat
    refine ⟨srt (dg b x.toNat), by rw [srt_length]; exact h2, ⟨fun y hy => ?_, ?_⟩, ?_, rfl⟩
    · have := hr y ((srt_perm _).mem_iff.1 hy); omega
    · exact (srt_sorted _).imp (fun h => by simpa [le] using h)
    · rw [List.nil_append, psum_perm p (srt_perm _)]; exact h3.symm
theorem owns_spec {m : Nat} (hm : m ≤ 40) : ∃ (K : Nat) (R : List Int), Fnd R ∧ (∀ x, x ∈ R ↔ Good b p m x) ∧ ∀ k, K ≤ k → impl_owns.f k (m : Int) (b : Int) (p : Int) = some R := by
  obtain ⟨K, R, f1, m1, e1⟩ := on_spec hb hb2 hp1 hp m hm m [] 0 [] (fun x hx => by simp at hx) (by simp) (by omega) ⟨List.nodup_nil, by simp⟩ (by simp)
  have hw : wrap64 ((b : Int) - 1) = (b : Int) - 1 := by unfold wrap64; omega
  refine ⟨K, srt R, ⟨?_, fun x hx => f1.2 x ((srt_perm R).mem_iff.1 hx)⟩, fun x => ?_, fun k hk => ?_⟩
  · have hn : (srt R).Nodup := (srt_perm R).nodup_iff.2 f1.1
    exact List.Pairwise.imp₂ (fun a c h1 h2 => by simp only [le, decide_eq_true_eq] at h1; omega) (srt_sorted R) hn
  · rw [(srt_perm R).mem_iff, m1 x, good_asc hb hb2 hp1 hp hm x]
    simp
  · have hsh := f1.short
    rw [impl_owns.f, hw, show (0 : Int) = ((0 : Nat) : Int) from rfl, e1 k hk, Option.bind_some, Sort_eq _ (by omega)]
theorem try_all {m : Nat} (hm : m ≤ 40) {fd : List Int} (hf : Fnd fd) : ∃ (K : Nat) (R : List Int), Fnd R ∧ (∀ x, x ∈ R ↔ x ∈ fd ∨ Good b p m x) ∧ ∀ k, K ≤ k → spec_try.f k (b : Int) (p : Int) (m : Int) (wrap64 ((b : Int) - 1)) 0 (List.replicate (b : Int).toNat 0) fd = some R := by
  obtain ⟨K, R, f1, m1, e1⟩ := try_spec hb hb2 hp1 hp m [] (b - 1) fd (fun x hx => by simp at hx) (by simpa using hm) (by omega) hf
  have hw : wrap64 ((b : Int) - 1) = ((b - 1 : Nat) : Int) := by unfold wrap64; omega
  refine ⟨K, R, f1, fun x => ?_, fun k hk => ?_⟩
  · rw [m1 x, good_dsc hb hb2 hp1 hp hm x]
  · have := e1 k hk
    rw [hw, Int.toNat_natCast]
    exact this
end
theorem lsd_lt {b : Nat} (hb : 2 ≤ b) : ∀ n : Nat, n < b ^ (lsd b n).length := by
  intro n
  induction n using Nat.strongRecOn with
  | ind n ih =>
    by_cases h0 : n = 0
    · subst h0; exact Nat.pow_pos (by omega)
    · rw [lsd_pos hb (by omega), List.length_cons, Nat.pow_succ]
      have h1 := ih (n / b) (Nat.div_lt_self (by omega) (by omega))
      exact (Nat.div_lt_iff_lt_mul (by omega)).1 h1
theorem shorter {b x y : Nat} (hb : 2 ≤ b) (h : (dg b x).length < (dg b y).length) : x < y := by
  by_cases hc : x < y
  · exact hc
  · have h1 : (lsd b y).length ≤ (lsd b x).length := lsd_len hb _ _ (Nat.lt_of_le_of_lt (by omega) (lsd_lt hb x))
    have h2 : ∀ n, (dg b n).length = if n = 0 then 1 else (lsd b n).length := fun n => by
      unfold dg; split <;> simp
    rw [h2, h2] at h
    by_cases hx : x = 0
    · have : y = 0 := by omega
      subst hx; subst this
      simp at h
    · rw [if_neg hx] at h
      have h3 : 1 ≤ (lsd b x).length := by rw [lsd_pos hb (by omega)]; simp
      split at h <;> omega
section
variable {b p F : Nat} (hb : 2 ≤ b) (hb2 : b ≤ 10) (hp1 : 1 ≤ p) (hp : p ≤ 6) (hF : F < 40) (hfl : ∀ k, 90 ≤ k → spec_pwFalls.f k (b : Int) (p : Int) = some (F : Int) ∧ impl_fallsFrom.f k (b : Int) (p : Int) = some (F : Int))
include hb hb2 hp1 hp hF hfl
theorem spec_own_loop : ∀ e d, e + d = F → 1 ≤ d → ∀ fd, Fnd fd → (∀ x, x ∈ fd ↔ ∃ m, 1 ≤ m ∧ m < d ∧ Good b p m x) → ∃ (K : Nat) (R : List Int), Fnd R ∧ (∀ x, x ∈ R ↔ ∃ m, 1 ≤ m ∧ m < F ∧ Good b p m x) ∧ ∀ k, K ≤ k → spec_OwnPowers.l0 k (b : Int) (p : Int) fd (d : Int) = some (R, true) := by
  intro e
  induction e with
  | zero =>
    intro d hd h1 fd hf hm
    obtain rfl : d = F := by omega
    refine ⟨91, fd, hf, hm, fun k hk => ?_⟩
    obtain ⟨k, rfl⟩ : ∃ q, k = q + 1 := ⟨k - 1, by omega⟩
    rw [spec_OwnPowers.l0, (hfl k (by omega)).1, Option.bind_some, if_neg (by omega)]
  | succ e ih =>
    intro d hd h1 fd hf hm
    obtain ⟨K1, R1, f1, m1, e1⟩ := try_all hb hb2 hp1 hp (m := d) (by omega) hf
    obtain ⟨K2, R2, f2, m2, e2⟩ := ih (d + 1) (by omega) (by omega) R1 f1 (fun x => by
      rw [m1 x, hm x]
      constructor
      · rintro (⟨m, h1, h2, h3⟩ | h)
        · exact ⟨m, h1, by omega, h3⟩
        · exact ⟨d, by omega, by omega, h⟩
      · rintro ⟨m, h1, h2, h3⟩
        by_cases he : m = d
        · subst he; exact .inr h3
        · exact .inl ⟨m, h1, by omega, h3⟩)
    refine ⟨K1 + K2 + 91, R2, f2, m2, fun k hk => ?_⟩
    obtain ⟨k, rfl⟩ : ∃ q, k = q + 1 := ⟨k - 1, by omega⟩
    rw [spec_OwnPowers.l0, (hfl k (by omega)).1, Option.bind_some, if_pos (by omega), if_pos ⟨by omega, by omega⟩, e1 k (by omega), Option.bind_some, w64s (by omega)]
    exact e2 k (by omega)
theorem impl_own_loop : ∀ e d, e + d = F → 1 ≤ d → ∀ fd, Fnd fd → (∀ x, x ∈ fd ↔ ∃ m, 1 ≤ m ∧ m < d ∧ Good b p m x) → ∃ (K : Nat) (R : List Int), Fnd R ∧ (∀ x, x ∈ R ↔ ∃ m, 1 ≤ m ∧ m < F ∧ Good b p m x) ∧ ∀ k, K ≤ k → impl_OwnPowers.l0 k (b : Int) (p : Int) fd (d : Int) = some (R, true) := by
  intro e
  induction e with
  | zero =>
    intro d hd h1 fd hf hm
    obtain rfl : d = F := by omega
    refine ⟨91, fd, hf, hm, fun k hk => ?_⟩
    obtain ⟨k, rfl⟩ : ∃ q, k = q + 1 := ⟨k - 1, by omega⟩
    rw [impl_OwnPowers.l0, (hfl k (by omega)).2, Option.bind_some, if_neg (by omega)]
  | succ e ih =>
    intro d hd h1 fd hf hm
    obtain ⟨K1, R1, f1, m1, e1⟩ := owns_spec hb hb2 hp1 hp (m := d) (by omega)
    have f3 : Fnd (fd ++ R1) := by
      refine ⟨List.pairwise_append.2 ⟨hf.1, f1.1, fun a ha c hc => ?_⟩, fun x hx => ?_⟩
      · obtain ⟨m, h2, h3, h4⟩ := (hm a).1 ha
        have h5 := (m1 c).1 hc
        have h6 := shorter (x := a.toNat) (y := c.toNat) hb (by rw [h4.2.1, h5.2.1]; omega)
        have := h4.1
        have := h5.1
        omega
      · rcases List.mem_append.1 hx with hx | hx
        · exact hf.2 x hx
        · exact f1.2 x hx
    obtain ⟨K2, R2, f2, m2, e2⟩ := ih (d + 1) (by omega) (by omega) (fd ++ R1) f3 (fun x => by
      rw [List.mem_append, m1 x, hm x]
      constructor
      · rintro (⟨m, h1, h2, h3⟩ | h)
        · exact ⟨m, h1, by omega, h3⟩
        · exact ⟨d, by omega, by omega, h⟩
      · rintro ⟨m, h1, h2, h3⟩
        by_cases he : m = d
        · subst he; exact .inr h3
        · exact .inl ⟨m, h1, by omega, h3⟩)
    have s1 := hf.short
    have s2 := f1.short
    refine ⟨K1 + K2 + 91, R2, f2, m2, fun k hk => ?_⟩
    obtain ⟨k, rfl⟩ : ∃ q, k = q + 1 := ⟨k - 1, by omega⟩
    rw [impl_OwnPowers.l0, (hfl k (by omega)).2, Option.bind_some, if_pos (by omega), e1 k (by omega), Option.bind_some, if_pos (by omega), w64s (by omega)]
    exact e2 k (by omega)
end
end Go.Proofs.YtehhkkbejmhcfaaC
end
section
namespace Go.Proofs.YtehhkkbejmhcfaaC
open Go.RowKit Go.Proofs.YtehhkkbejmhcfaaW.PrintWords Go.Proofs.YtehhkkbejmhcfaaW.PrintMore
set_option linter.unusedVariables false
def spec_DrawOwnPowers.f (l0 : List Int) : Option (Int × Int) := (spec_l1Cur_among.f l0 0 0 ([2, 3, 4, 5, 7, 10, 10, 11, 1] : List Int)).bind fun b1 => (spec_l1Cur_among.f l0 b1.2.1 b1.2.2 ([1, 2, 3, 3, 4, 7, 0] : List Int)).bind fun b2 => some (b1.1, b2.1)
def spec_DrawNarcissistic.f (l0 : List Int) : Option (Int × Int) := (spec_l1Cur_among.f l0 0 0 ([1, 2, 3, 3, 4, 5, 7, 0] : List Int)).bind fun b1 => (spec_l1Cur_among.f l0 b1.2.1 b1.2.2 ([10, 10, 2, 3, 4, 5, 7, 11, 1] : List Int)).bind fun b2 => some (b1.1, b2.1)
mutual
def laws_FnOwnPowers.j0 : Nat → List Int → Int → Int → List Int → Bool → Bool → Option (Bool)
  | 0, _, _, _, _, _, _ => none
  | k + 1, x1, x5, x6, x7, x8, x65 => if x65 = true then (some false) else (if x8 = true then ((laws_rRising.f k x7).bind fun t305 => (if t305 = true then ((laws_rHas.f k x7 0).bind fun t306 => (if t306 = true then ((laws_rHas.f k x7 1).bind fun t307 => (laws_FnOwnPowers.j1 k x1 x5 x6 x7 (!t307))) else (laws_FnOwnPowers.j1 k x1 x5 x6 x7 true))) else (laws_FnOwnPowers.j1 k x1 x5 x6 x7 true))) else (laws_FnOwnPowers.j5 k x1))
def laws_FnOwnPowers.j5 : Nat → List Int → Option (Bool)
  | 0, _ => none
  | k + 1, x1 => (spec_DrawNarcissistic.f x1).bind fun bt319 => ((impl_Narcissistic.f k bt319.1 bt319.2).bind fun bt321 => ((spec_Narcissistic.f k bt319.1 bt319.2).bind fun bt325 => (if (bt321.2 != bt325.2) = true then (laws_FnOwnPowers.j6 k bt319.1 bt319.2 bt321.1 true) else ((laws_rSame.f k bt321.1 bt325.1).bind fun t329 => (laws_FnOwnPowers.j6 k bt319.1 bt319.2 bt321.1 (!t329))))))
def laws_FnOwnPowers.j6 : Nat → Int → Int → List Int → Bool → Option (Bool)
  | 0, _, _, _, _ => none
  | k + 1, x23, x24, x25, x176 => if x176 = true then (some false) else (laws_FnOwnPowers.l3 k x23 x24 x25 (x25.length : Int) 0)
def laws_FnOwnPowers.l3 : Nat → Int → Int → List Int → Int → Int → Option (Bool)
  | 0, _, _, _, _, _ => none
  | k + 1, x23, x24, x177, x178, x179 => if x179 < x178 then (if 0 ≤ x179 then (if x179 < (x177.length : Int) then ((impl_PowerSum.f k (rd x177 x179) x24 x23).bind fun bt331 => ((impl_CountDigits.f k (rd x177 x179) x24).bind fun bt333 => ((impl_OwnPowers.f k x24 x23).bind fun bt335 => (if bt331.2 = true then (if bt331.1 = (rd x177 x179) then (if bt333.2 = true then (if bt333.1 = x23 then (if bt335.2 = true then ((laws_rHas.f k bt335.1 (rd x177 x179)).bind fun t339 => (if t339 = true then (laws_FnOwnPowers.l3 k x23 x24 x177 x178 (wrap64 (x179 + 1))) else (some false))) else (some false)) else (some false)) else (some false)) else (some false)) else (some false))))) else (none)) else (none)) else (some true)
def laws_FnOwnPowers.j1 : Nat → List Int → Int → Int → List Int → Bool → Option (Bool)
  | 0, _, _, _, _, _ => none
  | k + 1, x1, x5, x6, x7, x79 => if x79 = true then (some false) else (laws_FnOwnPowers.l0 k x1 x5 x6 x7 x7 (x7.length : Int) 0)
def laws_FnOwnPowers.l0 : Nat → List Int → Int → Int → List Int → List Int → Int → Int → Option (Bool)
  | 0, _, _, _, _, _, _, _ => none
  | k + 1, x1, x5, x6, x7, x80, x81, x82 => if x82 < x81 then (if 0 ≤ x82 then (if x82 < (x80.length : Int) then ((impl_PowerSum.f k (rd x80 x82) x5 x6).bind fun bt309 => (if bt309.2 = true then (if bt309.1 = (rd x80 x82) then (laws_FnOwnPowers.l0 k x1 x5 x6 x7 x80 x81 (wrap64 (x82 + 1))) else (some false)) else (some false))) else (none)) else (none)) else (laws_FnOwnPowers.l1 k x1 x5 x6 x7 0)
def laws_FnOwnPowers.l1 : Nat → List Int → Int → Int → List Int → Int → Option (Bool)
  | 0, _, _, _, _, _ => none
  | k + 1, x1, x5, x6, x7, x15 => if x15 < 600 then ((impl_PowerSum.f k x15 x5 x6).bind fun bt311 => (if bt311.2 = true then ((laws_rHas.f k x7 x15).bind fun t313 => (if ((bt311.1 == x15) != t313) = true then (some false) else (laws_FnOwnPowers.l1 k x1 x5 x6 x7 (wrap64 (x15 + 1))))) else (some false))) else (if x6 ≤ 4 then ((impl_CyclesOfPowers.f k x5 x6).bind fun bt314 => (laws_FnOwnPowers.l2 k x1 x7 bt314.2 0 bt314.1 (bt314.1.length : Int) 0)) else (laws_FnOwnPowers.j5 k x1))
def laws_FnOwnPowers.l2 : Nat → List Int → List Int → Bool → Int → List (List Int) → Int → Int → Option (Bool)
  | 0, _, _, _, _, _, _, _ => none
  | k + 1, x1, x7, x19, x20, x131, x132, x133 => if x133 < x132 then (if 0 ≤ x133 then (if x133 < (x131.length : Int) then (if ((rd_L2 x131 x133).length : Int) = 1 then (laws_FnOwnPowers.l2 k x1 x7 x19 (wrap64 (x20 + 1)) x131 x132 (wrap64 (x133 + 1))) else (laws_FnOwnPowers.l2 k x1 x7 x19 x20 x131 x132 (wrap64 (x133 + 1)))) else (none)) else (none)) else (if x19 = true then (if x20 = (x7.length : Int) then (laws_FnOwnPowers.j5 k x1) else (some false)) else (some false))
end
def laws_FnOwnPowers.f (k : Nat) (l0 : List Int) (l1 : List Int) : Option (Bool) := (laws_big.f l0 l1).bind fun t293 => (if t293 = true then (some true) else ((spec_DrawOwnPowers.f l0).bind fun bt294 => ((impl_OwnPowers.f k bt294.1 bt294.2).bind fun bt296 => ((spec_OwnPowers.f k bt294.1 bt294.2).bind fun bt300 => (if (bt296.2 != bt300.2) = true then (laws_FnOwnPowers.j0 k l1 bt294.1 bt294.2 bt296.1 bt296.2 true) else ((laws_rSame.f k bt296.1 bt300.1).bind fun t304 => (laws_FnOwnPowers.j0 k l1 bt294.1 bt294.2 bt296.1 bt296.2 (!t304))))))))
def laws_FnOwnPowers.Pure : Prop := ∀ (l0 : List Int) (l1 : List Int), l0.length ≤ maxLen → l0.length * 1 ≤ 140737488351232 → (∀ x ∈ l0, (Lit.int .u8 x).wf = true) → l1.length ≤ maxLen → l1.length * 1 ≤ 140737488351232 → (∀ x ∈ l1, (Lit.int .u8 x).wf = true) → ∃ k, laws_FnOwnPowers.f k l0 l1 = some true
end Go.Proofs.YtehhkkbejmhcfaaC
end
section
namespace Go.Proofs.YtehhkkbejmhcfaaC
open Go.RowKit Go.Proofs.YtehhkkbejmhcfaaW.PrintWords Go.Proofs.YtehhkkbejmhcfaaW.PrintMore
set_option linter.unusedSimpArgs false
set_option linter.unusedVariables false
set_option linter.unusedSectionVars false
def fallAll2 : Bool := (List.range 9).all fun b => (List.range 6).all fun p => (List.range 40).any fun d => spec_pwFalls.f 90 ((b : Int) + 2) ((p : Int) + 1) == some (d : Int) && impl_fallsFrom.f 90 ((b : Int) + 2) ((p : Int) + 1) == some (d : Int) && decide (2 ≤ d ∧ d * (b + 1) ^ (p + 1) < (b + 2) ^ (d - 1))
theorem fall_all2 : fallAll2 = true := by decide +kernel
theorem fall_at2 {b p : Nat} (hb : 2 ≤ b) (hb2 : b ≤ 10) (hp : 1 ≤ p) (hp2 : p ≤ 6) : ∃ d : Nat, d < 40 ∧ (2 ≤ d ∧ d * (b - 1) ^ p < b ^ (d - 1)) ∧ ∀ k, 90 ≤ k → spec_pwFalls.f k (b : Int) (p : Int) = some (d : Int) ∧ impl_fallsFrom.f k (b : Int) (p : Int) = some (d : Int) := by
  have h := fall_all2
  unfold fallAll2 at h
  rw [List.all_eq_true] at h
  have h1 := h (b - 2) (List.mem_range.2 (by omega))
  rw [List.all_eq_true] at h1
  have h2 := h1 (p - 1) (List.mem_range.2 (by omega))
  rw [List.any_eq_true] at h2
  obtain ⟨d, hd, h3⟩ := h2
  simp only [Bool.and_eq_true, beq_iff_eq, decide_eq_true_eq] at h3
  rw [show b - 2 + 1 = b - 1 from by omega, show p - 1 + 1 = p from by omega, show b - 2 + 2 = b from by omega, show ((b - 2 : Nat) : Int) + 2 = (b : Int) from by omega, show ((p - 1 : Nat) : Int) + 1 = (p : Int) from by omega] at h3
  exact ⟨d, List.mem_range.1 hd, h3.2, fun k hk => ⟨up_to (spec_pwFalls.mono _ _) h3.1.1 k hk, up_to (impl_fallsFrom.mono _ _) h3.1.2 k hk⟩⟩
theorem good_iff {c q F : Nat} (hc : 2 ≤ c) (hq : 1 ≤ q) (h2 : 2 ≤ F) (hF : F * (c - 1) ^ q < c ^ (F - 1)) (x : Int) : (∃ m, 1 ≤ m ∧ m < F ∧ Good c q m x) ↔ 0 ≤ x ∧ stp c q x = x := by
  constructor
  · rintro ⟨m, h1, h3, h4⟩
    refine ⟨h4.1, ?_⟩
    unfold stp pws
    rw [← psum_dg hc hq]
    exact h4.2.2
  · rintro ⟨h0, hx⟩
    obtain ⟨D, rfl⟩ : ∃ D, F = D + 1 := ⟨F - 1, by omega⟩
    rw [Nat.add_sub_cancel] at hF
    obtain ⟨n, rfl⟩ := Int.eq_ofNat_of_zero_le h0
    have hle : ¬ (((D * (c - 1) ^ q : Nat) : Int) < (n : Int)) := fun h => by
      have := stp_falls hc hF h
      omega
    have h5 : D * (c - 1) ^ q ≤ (D + 1) * (c - 1) ^ q := Nat.mul_le_mul_right _ (Nat.le_succ D)
    have hn : n < c ^ D := Nat.lt_of_le_of_lt (Nat.le_trans (Int.ofNat_le.1 (Int.not_lt.1 hle)) h5) hF
    have hl := lsd_len hc D n hn
    have hne : 1 ≤ (dg c n).length := List.length_pos_iff.2 (dg_ne hc n)
    have hdl : (dg c n).length ≤ D := by
      unfold dg
      split
      · simp; omega
      · simpa using hl
    refine ⟨(dg c n).length, hne, by omega, h0, by rw [Int.toNat_natCast], ?_⟩
    rw [Int.toNat_natCast, psum_dg hc hq]
    have := hx
    unfold stp pws at this
    rw [Int.toNat_natCast] at this
    exact this
structure OwnB (c q : Nat) (r : List Int) : Prop where
  hc : 2 ≤ c ∧ c ≤ 10
  hq : 1 ≤ q ∧ q ≤ 6
  rise : r.Pairwise (· < ·)
  iff : ∀ x, x ∈ r ↔ 0 ≤ x ∧ stp c q x = x
  small : ∀ x ∈ r, 0 ≤ x ∧ x ≤ 171798691840
theorem OwnPowers_told (b p : Int) : ∃ (K : Nat) (r : List Int) (ok : Bool), r.length ≤ 171798691841 ∧ ((ok = true → ∃ c q : Nat, b = c ∧ p = q ∧ OwnB c q r) ∧ ((2 ≤ b ∧ b ≤ 10) ∧ 1 ≤ p ∧ p ≤ 6 → ok = true)) ∧ ∀ k, K ≤ k → spec_OwnPowers.f k b p = some (r, ok) ∧ impl_OwnPowers.f k b p = some (r, ok) := by
  by_cases hb : 2 ≤ b ∧ b ≤ 10
  · have d2 : decide (2 ≤ b ∧ b ≤ 10) = true := decide_eq_true hb
    by_cases hp : 1 ≤ p ∧ p ≤ 6
    · have d1 : decide (1 ≤ p ∧ p ≤ 6) = true := decide_eq_true hp
      obtain ⟨c, rfl⟩ := Int.eq_ofNat_of_zero_le (show 0 ≤ b by omega)
      obtain ⟨q, rfl⟩ := Int.eq_ofNat_of_zero_le (show 0 ≤ p by omega)
      have hc : 2 ≤ c ∧ c ≤ 10 := by omega
      have hq : 1 ≤ q ∧ q ≤ 6 := by omega
      obtain ⟨F, hF, hF1, hfl⟩ := fall_at2 hc.1 hc.2 hq.1 hq.2
      have hno : ∀ x, x ∈ ([] : List Int) ↔ ∃ m, 1 ≤ m ∧ m < 1 ∧ Good c q m x := fun x => ⟨fun h => by simp at h, fun ⟨m, h1, h2, _⟩ => by omega⟩
      obtain ⟨K1, R1, f1, m1, e1⟩ := spec_own_loop hc.1 hc.2 hq.1 hq.2 hF hfl (F - 1) 1 (by omega) (by omega) [] ⟨List.Pairwise.nil, by simp⟩ hno
      obtain ⟨K2, R2, f2, m2, e2⟩ := impl_own_loop hc.1 hc.2 hq.1 hq.2 hF hfl (F - 1) 1 (by omega) (by omega) [] ⟨List.Pairwise.nil, by simp⟩ hno
      obtain rfl : R1 = R2 := sorted_ext R1 R2 f1.1 f2.1 (fun z => by rw [m1 z, m2 z])
      refine ⟨K1 + K2 + 1, R1, true, f1.short, ⟨fun _ => ⟨c, q, rfl, rfl, hc, hq, f1.1, fun x => by rw [m1 x, good_iff hc.1 hq.1 hF1.1 hF1.2 x], f1.2⟩, fun _ => rfl⟩, fun k hk => ⟨?_, ?_⟩⟩
      · rw [spec_OwnPowers.f, l1In_eq, d2, Option.bind_some, if_pos rfl, pwPower_eq, d1, Option.bind_some, if_pos rfl]
        exact e1 k (by omega)
      · obtain ⟨k, rfl⟩ : ∃ q, k = q + 1 := ⟨k - 1, by omega⟩
        rw [impl_OwnPowers.f, impl_isSmallBase.f, in_eq, d2, Option.bind_some, Option.bind_some, if_pos rfl, in_eq, d1, Option.bind_some, impl_OwnPowers.j0, if_neg (by decide)]
        exact e2 k (by omega)
    · have d1 : decide (1 ≤ p ∧ p ≤ 6) = false := decide_eq_false hp
      refine ⟨1, [], false, by simp, ⟨by simp, fun h => absurd h.2 hp⟩, fun k hk => ⟨?_, ?_⟩⟩
      · rw [spec_OwnPowers.f, l1In_eq, d2, Option.bind_some, if_pos rfl, pwPower_eq, d1, Option.bind_some, if_neg (by decide)]
      · obtain ⟨k, rfl⟩ : ∃ q, k = q + 1 := ⟨k - 1, by omega⟩
        rw [impl_OwnPowers.f, impl_isSmallBase.f, in_eq, d2, Option.bind_some, Option.bind_some, if_pos rfl, in_eq, d1, Option.bind_some, impl_OwnPowers.j0, if_pos (by decide)]
  · have d2 : decide (2 ≤ b ∧ b ≤ 10) = false := decide_eq_false hb
    refine ⟨1, [], false, by simp, ⟨by simp, fun h => absurd h.1 hb⟩, fun k hk => ⟨?_, ?_⟩⟩
    · rw [spec_OwnPowers.f, l1In_eq, d2, Option.bind_some, if_neg (by decide)]
    · obtain ⟨k, rfl⟩ : ∃ q, k = q + 1 := ⟨k - 1, by omega⟩
      rw [impl_OwnPowers.f, impl_isSmallBase.f, in_eq, d2, Option.bind_some, Option.bind_some, if_neg (by decide), impl_OwnPowers.j0, if_pos rfl]
theorem Narcissistic_told (m b : Int) : ∃ (K : Nat) (r : List Int) (ok : Bool), r.length ≤ 171798691841 ∧ (∀ x ∈ r, (0 ≤ x ∧ x ≤ 171798691840) ∧ ∃ c q : Nat, b = c ∧ m = q ∧ (2 ≤ c ∧ c ≤ 10) ∧ (1 ≤ q ∧ q ≤ 6) ∧ Good c q q x) ∧ ∀ k, K ≤ k → spec_Narcissistic.f k m b = some (r, ok) ∧ impl_Narcissistic.f k m b = some (r, ok) := by
  by_cases hm : 1 ≤ m ∧ m ≤ 6
  · by_cases hb : 2 ≤ b ∧ b ≤ 10
    · obtain ⟨c, rfl⟩ := Int.eq_ofNat_of_zero_le (show 0 ≤ b by omega)
      obtain ⟨q, rfl⟩ := Int.eq_ofNat_of_zero_le (show 0 ≤ m by omega)
      obtain ⟨K1, R1, f1, m1, e1⟩ := try_all (b := c) (p := q) (by omega) (by omega) (by omega) (by omega) (m := q) (by omega) (fd := []) ⟨List.Pairwise.nil, by simp⟩
      obtain ⟨K2, R2, f2, m2, e2⟩ := owns_spec (b := c) (p := q) (by omega) (by omega) (by omega) (by omega) (m := q) (by omega)
      obtain rfl : R1 = R2 := sorted_ext R1 R2 f1.1 f2.1 (fun z => by rw [m1 z, m2 z]; simp)
      have d1 : decide (1 ≤ (q : Int) ∧ (q : Int) ≤ 6) = true := decide_eq_true hm
      have d2 : decide (2 ≤ (c : Int) ∧ (c : Int) ≤ 10) = true := decide_eq_true hb
      refine ⟨K1 + K2, R1, true, f1.short, fun x hx => ⟨f1.2 x hx, c, q, rfl, rfl, by omega, by omega, (m2 x).1 hx⟩, fun k hk => ⟨?_, ?_⟩⟩
      · rw [spec_Narcissistic.f, l1In_eq, d1, Option.bind_some, if_pos rfl, l1In_eq, d2, Option.bind_some, if_pos rfl, if_pos ⟨by omega, by omega⟩, e1 k (by omega), Option.bind_some]
      · rw [impl_Narcissistic.f, impl_isSmallBase.f, in_eq, d2, Option.bind_some, Option.bind_some, if_pos rfl, in_eq, d1, Option.bind_some, if_pos rfl, e2 k (by omega), Option.bind_some]
    · have d1 : decide (1 ≤ m ∧ m ≤ 6) = true := decide_eq_true hm
      have d2 : decide (2 ≤ b ∧ b ≤ 10) = false := decide_eq_false hb
      refine ⟨0, [], false, by simp, by simp, fun k _ => ⟨?_, ?_⟩⟩
      · rw [spec_Narcissistic.f, l1In_eq, d1, Option.bind_some, if_pos rfl, l1In_eq, d2, Option.bind_some, if_neg (by decide)]
      · rw [impl_Narcissistic.f, impl_isSmallBase.f, in_eq, d2, Option.bind_some, Option.bind_some, if_neg (by decide)]
  · have d1 : decide (1 ≤ m ∧ m ≤ 6) = false := decide_eq_false hm
    refine ⟨0, [], false, by simp, by simp, fun k _ => ⟨?_, ?_⟩⟩
    · rw [spec_Narcissistic.f, l1In_eq, d1, Option.bind_some, if_neg (by decide)]
    · rw [impl_Narcissistic.f, impl_isSmallBase.f, in_eq, Option.bind_some, Option.bind_some]
      split
      · rw [in_eq, d1, Option.bind_some, if_neg (by decide)]
      · rfl
theorem wrap_long {n : Nat} (h : n ≤ 1000000000000) : wrap64 ((n : Int) + 1) = ((n + 1 : Nat) : Int) := by unfold wrap64; omega
theorem rSameB {l : List Int} (hl : l.length ≤ 1000000000000) : ∀ (d i k : Nat), i + d = l.length → d < k → laws_rSame.l0 k l l (l.length : Int) (i : Int) = some true
  | 0, i, k, h, hk => by
    obtain ⟨k, rfl⟩ : ∃ q, k = q + 1 := ⟨k - 1, by omega⟩
    rw [laws_rSame.l0, if_neg (by omega)]
  | d + 1, i, k, h, hk => by
    obtain ⟨k, rfl⟩ : ∃ q, k = q + 1 := ⟨k - 1, by omega⟩
    rw [laws_rSame.l0, if_pos (by omega), if_pos (by omega), if_pos (by omega), if_pos (by omega), if_pos rfl, wrap_long (by omega)]
    exact rSameB hl d (i + 1) k (by omega) (by omega)
theorem rSame_same {l : List Int} (hl : l.length ≤ 1000000000000) {k : Nat} (hk : l.length < k) : laws_rSame.f k l l = some true := by
  rw [laws_rSame.f, if_pos rfl]
  exact rSameB hl l.length 0 k (by omega) (by omega)
theorem rHasB {l : List Int} (hl : l.length ≤ 1000000000000) {x : Int} : ∀ (d i k : Nat), i + d = l.length → d < k → laws_rHas.l0 k x l (l.length : Int) (i : Int) = some (decide (x ∈ l.drop i))
  | 0, i, k, h, hk => by
    obtain ⟨k, rfl⟩ : ∃ q, k = q + 1 := ⟨k - 1, by omega⟩
    rw [laws_rHas.l0, if_neg (by omega), List.drop_eq_nil_of_le (by omega)]
    simp
  | d + 1, i, k, h, hk => by
    obtain ⟨k, rfl⟩ : ∃ q, k = q + 1 := ⟨k - 1, by omega⟩
    rw [laws_rHas.l0, if_pos (by omega), if_pos (by omega), if_pos (by omega), rd_at (show i < l.length by omega), List.drop_eq_getElem_cons (show i < l.length by omega)]
    by_cases hc : l[i] = x
    · rw [if_pos hc, decide_eq_true (by rw [hc]; simp)]
    · rw [if_neg hc, wrap_long (by omega), rHasB hl d (i + 1) k (by omega) (by omega)]
      congr 1
      refine decide_eq_decide.2 ?_
      rw [List.mem_cons]
      exact ⟨.inr, fun h => h.elim (fun e => absurd e.symm hc) id⟩
theorem rHas_is {l : List Int} (hl : l.length ≤ 1000000000000) {x : Int} {k : Nat} (hk : l.length < k) : laws_rHas.f k l x = some (decide (x ∈ l)) := by
  rw [laws_rHas.f]
  have := rHasB hl (x := x) l.length 0 k (by omega) (by omega)
  rw [List.drop_zero] at this
  exact this
theorem rRisingB {l : List Int} (hl : l.length ≤ 1000000000000) (hs : l.Pairwise (· < ·)) : ∀ (d i k : Nat), i + d = l.length → d < k → 1 ≤ i → laws_rRising.l0 k l (i : Int) = some true
  | 0, i, k, h, hk, h1 => by
    obtain ⟨k, rfl⟩ : ∃ q, k = q + 1 := ⟨k - 1, by omega⟩
    rw [laws_rRising.l0, if_neg (by omega)]
  | d + 1, i, k, h, hk, h1 => by
    obtain ⟨k, rfl⟩ : ∃ q, k = q + 1 := ⟨k - 1, by omega⟩
    obtain ⟨j, rfl⟩ : ∃ j, i = j + 1 := ⟨i - 1, by omega⟩
    have hw : wrap64 (((j + 1 : Nat) : Int) - 1) = (j : Int) := by unfold wrap64; omega
    have h2 := List.pairwise_iff_getElem.1 hs j (j + 1) (by omega) (by omega) (by omega)
    rw [laws_rRising.l0, if_pos (by omega), hw, if_pos (by omega), if_pos (by omega), if_pos (by omega), rd_at (show j < l.length by omega), rd_at (show j + 1 < l.length by omega), if_neg (by omega), wrap_long (by omega)]
    exact rRisingB hl hs d (j + 2) k (by omega) (by omega) (by omega)
theorem rRising_is {l : List Int} (hl : l.length ≤ 1000000000000) (hs : l.Pairwise (· < ·)) {k : Nat} (hk : l.length < k) : laws_rRising.f k l = some true := by
  rw [laws_rRising.f]
  by_cases h : l.length = 0
  · obtain ⟨k, rfl⟩ : ∃ q, k = q + 1 := ⟨k - 1, by omega⟩
    rw [laws_rRising.l0, if_neg (by omega)]
  · exact rRisingB hl hs (l.length - 1) 1 k (by omega) (by omega) (by omega)
theorem CountDigits_at {n c : Nat} (hn : n ≤ 1000000000000) (hc : 2 ≤ c ∧ c ≤ 16) {k : Nat} (hk : n + 200 ≤ k) : impl_CountDigits.f k (n : Int) (c : Int) = some (((dg c n).length : Int), true) := by
  have h : asked (n : Int) (c : Int) = true := by unfold asked; exact decide_eq_true (by omega)
  rw [impl_CountDigits.f, isNumber_eq, h, Option.bind_some, if_pos rfl, digitsOf_now hc.1 (by omega) (by omega) hk, Option.bind_some]
theorem l3_loop {c q : Nat} (hc : 2 ≤ c ∧ c ≤ 10) (hq : 1 ≤ q ∧ q ≤ 6) {l : List Int} (hl : l.length ≤ 171798691841) (hg : ∀ x ∈ l, (0 ≤ x ∧ x ≤ 171798691840) ∧ Good c q q x) : ∃ K, ∀ (d i k : Nat), i + d = l.length → K + d ≤ k → laws_FnOwnPowers.l3 k (q : Int) (c : Int) l (l.length : Int) (i : Int) = some true := by
  obtain ⟨K0, r, ok, hr, ⟨hB, hok⟩, hK⟩ := OwnPowers_told (c : Int) (q : Int)
  obtain rfl := hok (by omega)
  obtain ⟨c', q', e1, e2, hB⟩ := hB rfl
  obtain rfl : c = c' := by omega
  obtain rfl : q = q' := by omega
  obtain ⟨K, hKK⟩ : ∃ K, K = K0 + 171798692100 + r.length := ⟨_, rfl⟩
  have hK1 : ∀ k, K ≤ k → impl_OwnPowers.f k (c : Int) (q : Int) = some (r, true) := fun k hk => (hK k (by omega)).2
  have hK2 : ∀ k, K ≤ k → ∀ x ∈ l, impl_PowerSum.f k x (c : Int) (q : Int) = some (x, true) ∧ impl_CountDigits.f k x (c : Int) = some ((q : Int), true) ∧ laws_rHas.f k r x = some true := fun k hk x hx => by
    obtain ⟨⟨h0, h1⟩, h2⟩ := hg x hx
    have h3 : stp c q x = x := by
      unfold stp pws
      rw [← psum_dg hc.1 hq.1]
      exact h2.2.2
    have h4 : x ∈ r := (hB.iff x).2 ⟨h0, h3⟩
    obtain ⟨n, rfl⟩ := Int.eq_ofNat_of_zero_le h0
    refine ⟨?_, ?_, ?_⟩
    · have h5 := PowerSum_stp (c := c) (q := q) h0 (Int.le_trans h1 (by decide)) ⟨hc.1, by omega⟩ ⟨hq.1, by omega⟩ (k := k) (by rw [Int.toNat_natCast]; omega)
      rw [h3] at h5
      exact h5
    · have h5 := CountDigits_at (n := n) (c := c) (by omega) ⟨hc.1, by omega⟩ (k := k) (by omega)
      have h6 := h2.2.1
      rw [Int.toNat_natCast] at h6
      rw [h6] at h5
      exact h5
    · rw [rHas_is (by omega) (by omega), decide_eq_true h4]
  clear hK hKK
  refine ⟨K + 1, ?_⟩
  intro d
  induction d with
  | zero =>
    intro i k h hk
    obtain ⟨k, rfl⟩ : ∃ q, k = q + 1 := ⟨k - 1, by omega⟩
    rw [laws_FnOwnPowers.l3, if_neg (by omega)]
  | succ d ih =>
    intro i k h hk
    obtain ⟨k, rfl⟩ : ∃ q, k = q + 1 := ⟨k - 1, by omega⟩
    obtain ⟨a1, a2, a3⟩ := hK2 k (by omega) l[i] (List.getElem_mem (by omega))
    rw [laws_FnOwnPowers.l3, if_pos (by omega), if_pos (by omega), if_pos (by omega), rd_at (show i < l.length by omega), a1, Option.bind_some, a2, Option.bind_some, hK1 k (by omega), Option.bind_some, if_pos rfl, if_pos rfl, if_pos rfl, if_pos rfl, if_pos rfl, a3, Option.bind_some, if_pos rfl, wrap_long (by omega)]
    exact ih (i + 1) k (by omega) (by omega)
theorem DrawOwnPowers_some {l : List Int} (h : Byt l) : ∃ b p, spec_DrawOwnPowers.f l = some (b, p) := by
  obtain ⟨v1, s1, t1, e1, _, h1, h2⟩ := among_some h (s := 0) (by omega) (by omega) 0 (L := [2, 3, 4, 5, 7, 10, 10, 11, 1]) (by decide) (by decide)
  obtain ⟨v2, s2, t2, e2, _, h3, h4⟩ := among_some h (s := s1) (by omega) (by omega) t1 (L := [1, 2, 3, 3, 4, 7, 0]) (by decide) (by decide)
  unfold spec_DrawOwnPowers.f
  rw [e1, Option.bind_some, e2, Option.bind_some]
  exact ⟨_, _, rfl⟩
theorem DrawNarcissistic_some {l : List Int} (h : Byt l) : ∃ b p, spec_DrawNarcissistic.f l = some (b, p) := by
  obtain ⟨v1, s1, t1, e1, _, h1, h2⟩ := among_some h (s := 0) (by omega) (by omega) 0 (L := [1, 2, 3, 3, 4, 5, 7, 0]) (by decide) (by decide)
  obtain ⟨v2, s2, t2, e2, _, h3, h4⟩ := among_some h (s := s1) (by omega) (by omega) t1 (L := [10, 10, 2, 3, 4, 5, 7, 11, 1]) (by decide) (by decide)
  unfold spec_DrawNarcissistic.f
  rw [e1, Option.bind_some, e2, Option.bind_some]
  exact ⟨_, _, rfl⟩
theorem j5_true {l1 : List Int} (h : Byt l1) : ∃ K, ∀ k, K ≤ k → laws_FnOwnPowers.j5 k l1 = some true := by
  obtain ⟨m, b, hd⟩ := DrawNarcissistic_some h
  obtain ⟨K, r, ok, hr, hg, hK⟩ := Narcissistic_told m b
  have hl3 : ∃ K2, ∀ k, K2 ≤ k → laws_FnOwnPowers.l3 k m b r (r.length : Int) 0 = some true := by
    rcases r with _ | ⟨x, r⟩
    · refine ⟨1, fun k hk => ?_⟩
      obtain ⟨k, rfl⟩ : ∃ q, k = q + 1 := ⟨k - 1, by omega⟩
      rw [laws_FnOwnPowers.l3, if_neg (by simp)]
    · obtain ⟨-, c, q, rfl, rfl, hc, hq, -⟩ := hg x (by simp)
      obtain ⟨K2, hK2⟩ := l3_loop hc hq hr (fun y hy => by
        obtain ⟨h1, c', q', e1, e2, -, -, h2⟩ := hg y hy
        obtain rfl : c = c' := by omega
        obtain rfl : q = q' := by omega
        exact ⟨h1, h2⟩)
      exact ⟨K2 + (x :: r).length, fun k hk => hK2 (x :: r).length 0 k (by omega) hk⟩
  obtain ⟨K2, hK2⟩ := hl3
  refine ⟨K + K2 + r.length + 3, fun k hk => ?_⟩
  obtain ⟨k, rfl⟩ : ∃ q, k = q + 2 := ⟨k - 2, by omega⟩
  have hb : ¬ ((ok != ok) = true) := by simp
  have hs : laws_rSame.f (k + 1) r r = some true := rSame_same (by omega) (by omega)
  have hk1 := hK (k + 1) (by omega)
  rw [laws_FnOwnPowers.j5, hd, Option.bind_some]
  show (impl_Narcissistic.f (k + 1) m b).bind _ = _
  rw [hk1.2, Option.bind_some]
  show (spec_Narcissistic.f (k + 1) m b).bind _ = _
  rw [hk1.1, Option.bind_some]
  show (if (ok != ok) = true then _ else (laws_rSame.f (k + 1) r r).bind _) = _
  rw [if_neg hb, hs, Option.bind_some]
  show laws_FnOwnPowers.j6 (k + 1) m b r false = _
  rw [laws_FnOwnPowers.j6, if_neg (by decide)]
  exact hK2 k (by omega)
def ones (R : List (List Int)) : List (List Int) := R.filter (fun c => decide ((c.length : Int) = 1))
theorem l2_loop {l1 own : List Int} {R : List (List Int)} (hR : R.length ≤ 1000000) {K : Nat} (hj : ∀ k, K ≤ k → laws_FnOwnPowers.j5 k l1 = some true) (ho : (ones R).length = own.length) : ∀ (suf pre : List (List Int)) (k : Nat), R = pre ++ suf → K + suf.length + 1 ≤ k → laws_FnOwnPowers.l2 k l1 own true ((ones pre).length : Int) R (R.length : Int) (pre.length : Int) = some true := by
  intro suf
  induction suf with
  | nil =>
    intro pre k h hk
    obtain ⟨k, rfl⟩ : ∃ q, k = q + 1 := ⟨k - 1, by omega⟩
    rw [List.append_nil] at h
    subst h
    rw [laws_FnOwnPowers.l2, if_neg (by omega), if_pos rfl, if_pos (by omega)]
    exact hj k (by simp at hk; omega)
  | cons x suf ih =>
    intro pre k h hk
    rw [List.length_cons] at hk
    obtain ⟨k, rfl⟩ : ∃ q, k = q + 1 := ⟨k - 1, by omega⟩
    have hRl : R.length = pre.length + (suf.length + 1) := by rw [h]; simp
    have hrd : rd_L2 R (pre.length : Int) = x := by rw [h]; exact rdL_mid pre suf x
    have hole : (ones pre).length ≤ pre.length := List.length_filter_le _ _
    have hpl : ((pre ++ [x]).length : Int) = ((pre.length + 1 : Nat) : Int) := by simp
    have hnext := ih (pre ++ [x]) k (by rw [h]; simp) (by omega)
    rw [hpl] at hnext
    rw [laws_FnOwnPowers.l2, if_pos (by omega), if_pos (by omega), if_pos (by omega), hrd]
    by_cases hx : (x.length : Int) = 1
    · have h1 : ((ones (pre ++ [x])).length : Int) = (((ones pre).length + 1 : Nat) : Int) := by simp [ones, List.filter_append, hx]
      rw [h1] at hnext
      rw [if_pos hx, wrap_small (by omega), wrap_small (by omega)]
      exact hnext
    · have h1 : ((ones (pre ++ [x])).length : Int) = ((ones pre).length : Int) := by simp [ones, List.filter_append, hx]
      rw [h1] at hnext
      rw [if_neg hx, wrap_small (by omega)]
      exact hnext
theorem ones_own {c q M : Nat} {R : List (List Int)} {own : List Int} (hB : Base c q M R) (hO : OwnB c q own) : (ones R).length = own.length := by
  have h1 : heads (ones R) = own := by
    refine sorted_ext _ _ ?_ hO.rise (fun z => ?_)
    · have := heads_rise hB.told
      exact List.Pairwise.sublist (List.Sublist.map _ List.filter_sublist) this
    · rw [hO.iff z]
      constructor
      · intro hz
        obtain ⟨x, hx, rfl⟩ := List.mem_map.1 hz
        obtain ⟨hxR, hx1⟩ := List.mem_filter.1 hx
        have hx1 := of_decide_eq_true hx1
        obtain ⟨e, m, hr, he, hxe⟩ := hB.told.cyc x hxR
        have hxl : x.length = m := by rw [hxe, orbit_length]
        have hm : m = 1 := by omega
        have hb := hr.back
        rw [hm] at hb
        have h2 : rd x 0 = e := by rw [hxe]; exact orbit_zero_rd _ e hr.lt
        rw [h2]
        exact ⟨(hB.told.range x hxR e (by rw [hxe]; exact he.mem)).1, hb⟩
      · rintro ⟨h0, hz⟩
        have hnn : ∀ y, 0 ≤ y → 0 ≤ stp c q y := fun y hy => by
          unfold stp pws
          exact (psum_cap (b := c) hB.hc.1 _ (lsd_range hB.hc.1 _)).1
        have h2 := told_fix hB.told h0 (cyc_low hB.cl hB.falls hnn h0 (m := 1) (by omega) hz) hz
        exact List.mem_map.2 ⟨[z], List.mem_filter.2 ⟨h2, by simp⟩, rfl⟩
  rw [← h1]
  simp [heads]
section
variable {c q : Nat} {own l1 : List Int} (hO : OwnB c q own) (hol : own.length ≤ 171798691841) (hb : Byt l1)
include hO hol hb
theorem l1_true : ∃ K, ∀ (d i k : Nat), i + d = 600 → K + d ≤ k → laws_FnOwnPowers.l1 k l1 (c : Int) (q : Int) own (i : Int) = some true := by
  obtain ⟨K0, hj⟩ := j5_true hb
  have hc := hO.hc
  have hq := hO.hq
  have hend : ∃ K, ∀ k, K ≤ k → (if (q : Int) ≤ 4 then ((impl_CyclesOfPowers.f k (c : Int) (q : Int)).bind fun bt314 => (laws_FnOwnPowers.l2 k l1 own bt314.2 0 bt314.1 (bt314.1.length : Int) 0)) else (laws_FnOwnPowers.j5 k l1)) = some true := by
    by_cases h4 : (q : Int) ≤ 4
    · obtain ⟨K1, R, ok, ⟨hR1, hR2⟩, ⟨htold, hok⟩, hK1⟩ := Cycles_told (c : Int) (q : Int)
      obtain rfl := hok (by omega)
      obtain ⟨c', q', M, e1, e2, hB⟩ := htold rfl
      obtain rfl : c = c' := by omega
      obtain rfl : q = q' := by omega
      have hl2 := l2_loop hR1 hj (ones_own hB hO) R []
      refine ⟨K0 + K1 + R.length + 1, fun k hk => ?_⟩
      rw [if_pos h4, (hK1 k (by omega)).2, Option.bind_some]
      exact hl2 k rfl (by omega)
    · exact ⟨K0, fun k hk => by rw [if_neg h4]; exact hj k hk⟩
  obtain ⟨K1, hend⟩ := hend
  obtain ⟨K, hKK⟩ : ∃ K, K = K1 + own.length + 1000 := ⟨_, rfl⟩
  have hH : ∀ k, K ≤ k → ∀ x, laws_rHas.f k own x = some (decide (x ∈ own)) := fun k hk x => rHas_is (by omega) (by omega)
  have hP : ∀ k, K ≤ k → ∀ i : Nat, i < 600 → impl_PowerSum.f k (i : Int) (c : Int) (q : Int) = some (stp c q (i : Int), true) := fun k hk i hi => PowerSum_stp (by omega) (by omega) ⟨hc.1, by omega⟩ ⟨hq.1, by omega⟩ (by rw [Int.toNat_natCast]; omega)
  have hE : ∀ k, K ≤ k → _ := fun k hk => hend k (by omega)
  clear hend hKK
  refine ⟨K + 1, ?_⟩
  intro d
  induction d with
  | zero =>
    intro i k h hk
    obtain ⟨k, rfl⟩ : ∃ q, k = q + 1 := ⟨k - 1, by omega⟩
    rw [laws_FnOwnPowers.l1, if_neg (by omega)]
    exact hE k (by omega)
  | succ d ih =>
    intro i k h hk
    obtain ⟨k, rfl⟩ : ∃ q, k = q + 1 := ⟨k - 1, by omega⟩
    have hx : ¬ (((stp c q (i : Int) == (i : Int)) != decide ((i : Int) ∈ own)) = true) := by
      have h1 : decide ((i : Int) ∈ own) = (stp c q (i : Int) == (i : Int)) := by
        rw [Bool.eq_iff_iff, decide_eq_true_iff, beq_iff_eq, hO.iff]
        exact ⟨fun h => h.2, fun h => ⟨by omega, h⟩⟩
      rw [h1]
      simp
    rw [laws_FnOwnPowers.l1, if_pos (by omega), hP k (by omega) i (by omega), Option.bind_some, if_pos rfl, hH k (by omega), Option.bind_some]
    show (if ((stp c q (i : Int) == (i : Int)) != decide ((i : Int) ∈ own)) = true then _ else _) = _
    rw [if_neg hx, wrap_long (by omega)]
    exact ih (i + 1) k (by omega) (by omega)
theorem j1_true : ∃ K, ∀ k, K ≤ k → laws_FnOwnPowers.j1 k l1 (c : Int) (q : Int) own false = some true := by
  obtain ⟨K0, hl⟩ := l1_true hO hol hb
  have hc := hO.hc
  have hq := hO.hq
  obtain ⟨K, hKK⟩ : ∃ K, K = K0 + 171798692100 := ⟨_, rfl⟩
  have hP : ∀ k, K ≤ k → ∀ x ∈ own, impl_PowerSum.f k x (c : Int) (q : Int) = some (x, true) := fun k hk x hx => by
    obtain ⟨h0, h1⟩ := hO.small x hx
    have h5 := PowerSum_stp (c := c) (q := q) h0 (Int.le_trans h1 (by decide)) ⟨hc.1, by omega⟩ ⟨hq.1, by omega⟩ (k := k) (by omega)
    rw [((hO.iff x).1 hx).2] at h5
    exact h5
  have hL : ∀ k, K + 600 ≤ k → laws_FnOwnPowers.l1 k l1 (c : Int) (q : Int) own 0 = some true := fun k hk => hl 600 0 k (by omega) (by omega)
  clear hl hKK
  have hl0 : ∀ (d i k : Nat), i + d = own.length → K + d + 601 ≤ k → laws_FnOwnPowers.l0 k l1 (c : Int) (q : Int) own own (own.length : Int) (i : Int) = some true := by
    intro d
    induction d with
    | zero =>
      intro i k h hk
      obtain ⟨k, rfl⟩ : ∃ q, k = q + 1 := ⟨k - 1, by omega⟩
      rw [laws_FnOwnPowers.l0, if_neg (by omega)]
      exact hL k (by omega)
    | succ d ih =>
      intro i k h hk
      obtain ⟨k, rfl⟩ : ∃ q, k = q + 1 := ⟨k - 1, by omega⟩
      rw [laws_FnOwnPowers.l0, if_pos (by omega), if_pos (by omega), if_pos (by omega), rd_at (show i < own.length by omega), hP k (by omega) own[i] (List.getElem_mem (by omega)), Option.bind_some, if_pos rfl, if_pos rfl, wrap_long (by omega)]
      exact ih (i + 1) k (by omega) (by omega)
  refine ⟨K + own.length + 602, fun k hk => ?_⟩
  obtain ⟨k, rfl⟩ : ∃ q, k = q + 1 := ⟨k - 1, by omega⟩
  rw [laws_FnOwnPowers.j1, if_neg (by decide)]
  exact hl0 own.length 0 k (by omega) (by omega)
theorem j0_true : ∃ K, ∀ k, K ≤ k → laws_FnOwnPowers.j0 k l1 (c : Int) (q : Int) own true false = some true := by
  obtain ⟨K, hj⟩ := j1_true hO hol hb
  have h0 : (0 : Int) ∈ own := (hO.iff 0).2 ⟨by omega, stp_fix hO.hc.1 (.inl rfl) hO.hq.1⟩
  have h1 : (1 : Int) ∈ own := (hO.iff 1).2 ⟨by omega, stp_fix hO.hc.1 (.inr rfl) hO.hq.1⟩
  refine ⟨K + own.length + 2, fun k hk => ?_⟩
  obtain ⟨k, rfl⟩ : ∃ q, k = q + 1 := ⟨k - 1, by omega⟩
  have e0 : laws_rHas.f k own 0 = some true := by rw [rHas_is (by omega) (by omega), decide_eq_true h0]
  have e1 : laws_rHas.f k own 1 = some true := by rw [rHas_is (by omega) (by omega), decide_eq_true h1]
  rw [laws_FnOwnPowers.j0, if_neg (by decide), if_pos rfl, rRising_is (by omega) hO.rise (by omega), Option.bind_some, if_pos rfl, e0, Option.bind_some, if_pos rfl, e1, Option.bind_some]
  exact hj k (by omega)
end
theorem FnOwnPowers_law : laws_FnOwnPowers.Pure := by
  intro l0 l1 _ hl0 hw0 _ hl1 hw1
  have hbig : laws_big.f l0 l1 = some (decide (l0.length + l1.length > 1048576)) := by
    unfold laws_big.f
    by_cases h1 : (l0.length : Int) > 1048576
    · rw [if_pos h1, decide_eq_true (by omega)]
    · rw [if_neg h1]
      have : wrap64 (1048576 - (l0.length : Int)) = 1048576 - (l0.length : Int) := by unfold wrap64; omega
      rw [this]
      congr 1
      exact decide_eq_decide.2 (by omega)
  by_cases hb : l0.length + l1.length > 1048576
  · refine ⟨0, ?_⟩
    rw [laws_FnOwnPowers.f, hbig, decide_eq_true hb, Option.bind_some, if_pos rfl]
  · obtain ⟨b, p, hd⟩ := DrawOwnPowers_some (byt_of hw0)
    obtain ⟨K1, own, ok, hol, ⟨htold, -⟩, hK1⟩ := OwnPowers_told b p
    obtain ⟨K2, hj5⟩ := j5_true (byt_of hw1)
    have hj0 : ∃ K, ∀ k, K ≤ k → laws_FnOwnPowers.j0 k l1 b p own ok false = some true := by
      cases ok with
      | false =>
        refine ⟨K2 + 1, fun k hk => ?_⟩
        obtain ⟨k, rfl⟩ : ∃ q, k = q + 1 := ⟨k - 1, by omega⟩
        rw [laws_FnOwnPowers.j0, if_neg (by decide), if_neg (by decide)]
        exact hj5 k (by omega)
      | true =>
        obtain ⟨c, q, rfl, rfl, hO⟩ := htold rfl
        exact j0_true hO hol (byt_of hw1)
    obtain ⟨K3, hj0⟩ := hj0
    obtain ⟨k, hk⟩ : ∃ k, k = K1 + K2 + K3 + own.length + 1 := ⟨_, rfl⟩
    refine ⟨k, ?_⟩
    have h1 := hK1 k (by omega)
    have hbn : ¬ ((ok != ok) = true) := by simp
    rw [laws_FnOwnPowers.f, hbig, decide_eq_false hb, Option.bind_some, if_neg (by decide), hd, Option.bind_some]
    show (impl_OwnPowers.f k b p).bind _ = _
    rw [h1.2, Option.bind_some]
    show (spec_OwnPowers.f k b p).bind _ = _
    rw [h1.1, Option.bind_some]
    show (if (ok != ok) = true then _ else (laws_rSame.f k own own).bind _) = _
    rw [if_neg hbn, rSame_same (by omega) (by omega), Option.bind_some]
    exact hj0 k (by omega)
end Go.Proofs.YtehhkkbejmhcfaaC
end
