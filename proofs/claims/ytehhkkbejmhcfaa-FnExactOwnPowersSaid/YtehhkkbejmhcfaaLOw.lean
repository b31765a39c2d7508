/-
  The plain laws of Narcissistic and OwnPowers over the printed functions. No conditions.
-/
import Derived.Test.YtehhkkbejmhcfaaLHp
import Derived.Test.YtehhkkbejmhcfaaLCt
import Derived.Test.YtehhkkbejmhcfaaLD3
import Derived.Test.YtehhkkbejmhcfaaCOw
namespace Go.Proofs.YtehhkkbejmhcfaaC
open Go.RowKit Go.Proofs.YtehhkkbejmhcfaaW.PrintWords Go.Proofs.YtehhkkbejmhcfaaW.PrintMore
set_option linter.unusedSimpArgs false
set_option linter.unusedVariables false
set_option linter.unusedSectionVars false

/-! ### sorted lists -/
theorem sorted_ext : ∀ (a b : List Int), a.Pairwise (· < ·) → b.Pairwise (· < ·) → (∀ z, z ∈ a ↔ z ∈ b) → a = b
  | [], [], _, _, _ => rfl
  | [], y :: b, _, _, h => absurd ((h y).2 (by simp)) (by simp)
  | x :: a, [], _, _, h => absurd ((h x).1 (by simp)) (by simp)
  | x :: a, y :: b, ha, hb, h => by
    have ha' := List.pairwise_cons.1 ha
    have hb' := List.pairwise_cons.1 hb
    have e : x = y := by
      rcases List.mem_cons.1 ((h x).1 (by simp)) with e | e
      · exact e
      · rcases List.mem_cons.1 ((h y).2 (by simp)) with e2 | e2
        · exact e2.symm
        · have := hb'.1 x e
          have := ha'.1 y e2
          omega
    subst e
    rw [sorted_ext a b ha'.2 hb'.2 (fun z => ?_)]
    constructor
    · intro hz
      rcases List.mem_cons.1 ((h z).1 (by simp [hz])) with e | e
      · subst e; exact absurd (ha'.1 _ hz) (by omega)
      · exact e
    · intro hz
      rcases List.mem_cons.1 ((h z).2 (by simp [hz])) with e | e
      · subst e; exact absurd (hb'.1 _ hz) (by omega)
      · exact e
def le (x y : Int) : Bool := decide (x ≤ y)
theorem le_trans_ (a b c : Int) (h1 : le a b = true) (h2 : le b c = true) : le a c = true := by
  simp only [le, decide_eq_true_eq] at *; omega
theorem le_total_ (a b : Int) : (le a b || le b a) = true := by
  simp only [le, Bool.or_eq_true, decide_eq_true_eq]; omega
/-- The sorting of a list. -/
def srt (l : List Int) : List Int := l.mergeSort le
theorem srt_sorted (l : List Int) : (srt l).Pairwise (fun a b => le a b = true) := List.pairwise_mergeSort le_trans_ le_total_ l
theorem srt_perm (l : List Int) : (srt l).Perm l := List.mergeSort_perm l le
theorem srt_unique {l m : List Int} (h1 : m.Pairwise (fun a b => le a b = true)) (h2 : m.Perm l) : srt l = m :=
  List.Perm.eq_of_pairwise (le := fun a b => le a b = true) (fun a b _ _ h3 h4 => by simp only [le, decide_eq_true_eq] at h3 h4; omega) (srt_sorted l) h1 ((srt_perm l).trans h2.symm)
theorem srt_length (l : List Int) : (srt l).length = l.length := (srt_perm l).length_eq
theorem l1Put_loop {s : List Int} {y : Int} (hs : s.Pairwise (· < ·)) (hl : s.length ≤ 200000000000) : ∀ (d j : Nat), j + d = s.length → (∀ q (h : q < s.length), q < j → s[q] < y) →
    ∃ s' : List Int, s'.Pairwise (· < ·) ∧ (∀ z, z ∈ s' ↔ z ∈ s ∨ z = y) ∧ s'.length ≤ s.length + 1 ∧ ∀ k, d < k → spec_l1Put.l0 k s y (j : Int) = some s'
  | 0, j, hj, hq => by
    obtain rfl : j = s.length := by omega
    have hlt : ∀ a ∈ s, a < y := fun a ha => by
      obtain ⟨q, h, rfl⟩ := List.getElem_of_mem ha
      exact hq q h h
    refine ⟨s ++ [y], List.pairwise_append.2 ⟨hs, by simp, fun a ha b hb => by rw [List.mem_singleton.1 hb]; exact hlt a ha⟩, fun z => by simp, by simp, fun k hk => ?_⟩
    obtain ⟨k, rfl⟩ : ∃ q, k = q + 1 := ⟨k - 1, by omega⟩
    rw [spec_l1Put.l0, if_neg (by omega), Option.bind_some, if_pos (by omega), if_pos (by omega), Option.bind_some, if_pos (by simp; omega), Option.bind_some, if_pos (by simp; omega), Option.bind_some, Option.bind_some, if_pos (by simp; omega)]
    simp
  | d + 1, j, hj, hq => by
    have hjl : j < s.length := by omega
    by_cases h1 : s[j] < y
    · obtain ⟨s', a1, a2, a3, a4⟩ := l1Put_loop hs hl d (j + 1) (by omega) (fun q h hqj => by
        by_cases e : q = j
        · subst e; exact h1
        · exact hq q h (by omega))
      refine ⟨s', a1, a2, a3, fun k hk => ?_⟩
      obtain ⟨k, rfl⟩ : ∃ q, k = q + 1 := ⟨k - 1, by omega⟩
      rw [spec_l1Put.l0, if_pos (by omega), if_pos (by omega), rd_get hjl, if_pos h1, w64s (by omega)]
      exact a4 k (by omega)
    · by_cases h2 : s[j] = y
      · refine ⟨s, hs, fun z => ⟨.inl, ?_⟩, by omega, fun k hk => ?_⟩
        · rintro (h | rfl)
          · exact h
          · rw [← h2]; exact List.getElem_mem hjl
        · obtain ⟨k, rfl⟩ : ∃ q, k = q + 1 := ⟨k - 1, by omega⟩
          rw [spec_l1Put.l0, if_pos (by omega), if_pos (by omega), rd_get hjl, if_neg h1, if_pos h2]
      · have hlo : ∀ a ∈ s.take j, a < y := fun a ha => by
          obtain ⟨q, h, rfl⟩ := List.getElem_of_mem ha
          rw [List.length_take] at h
          rw [List.getElem_take]
          exact hq q (by omega) (by omega)
        have hhi : ∀ a ∈ s.drop j, y < a := fun a ha => by
          obtain ⟨q, h, rfl⟩ := List.getElem_of_mem ha
          rw [List.length_drop] at h
          rw [List.getElem_drop]
          by_cases e : q = 0
          · subst e; simp only [Nat.add_zero]; omega
          · have := List.pairwise_iff_getElem.1 hs j (j + q) hjl (by omega) (by omega)
            omega
        refine ⟨s.take j ++ [y] ++ s.drop j, ?_, fun z => ?_, by simp; omega, fun k hk => ?_⟩
        · refine List.pairwise_append.2 ⟨List.pairwise_append.2 ⟨hs.sublist (List.take_sublist _ _), by simp, fun a ha b hb => by rw [List.mem_singleton.1 hb]; exact hlo a ha⟩, hs.sublist (List.drop_sublist _ _), fun a ha b hb => ?_⟩
          rcases List.mem_append.1 ha with ha | ha
          · have := hlo a ha; have := hhi b hb; omega
          · rw [List.mem_singleton.1 ha]; exact hhi b hb
        · conv => rhs; rw [← List.take_append_drop j s]
          simp only [List.mem_append, List.mem_singleton]
          constructor
          · rintro ((h | h) | h)
            · exact .inl (.inl h)
            · exact .inr h
            · exact .inl (.inr h)
          · rintro ((h | h) | h)
            · exact .inl (.inl h)
            · exact .inr h
            · exact .inl (.inr h)
        · obtain ⟨k, rfl⟩ : ∃ q, k = q + 1 := ⟨k - 1, by omega⟩
          rw [spec_l1Put.l0, if_pos (by omega), if_pos (by omega), rd_get hjl, if_neg h1, if_neg h2, Option.bind_some, if_pos (by omega), Option.bind_some, if_pos (by simp; omega), Option.bind_some, if_pos (by simp; omega), Option.bind_some, Option.bind_some, if_pos (by simp; omega)]
          simp
theorem l1Put_eq {s : List Int} (hs : s.Pairwise (· < ·)) (hl : s.length ≤ 200000000000) (y : Int) : ∃ s' : List Int, s'.Pairwise (· < ·) ∧ (∀ z, z ∈ s' ↔ z ∈ s ∨ z = y) ∧ s'.length ≤ s.length + 1 ∧ ∀ k, s.length < k → spec_l1Put.f k s y = some s' :=
  l1Put_loop hs hl s.length 0 (by omega) (fun _ _ h => absurd h (by omega))


theorem own_eq (l : List Int) (hl : l.length ≤ 1048576) : spec_l1Own.f l = some l := by
  simp [spec_l1Own.f, show l.length < 17592186044416 by omega]
theorem same_perm {b : Nat} {l m : List Int} (hl : ∀ x ∈ l, 0 ≤ x ∧ x < (b : Int)) (hm : ∀ x ∈ m, 0 ≤ x ∧ x < (b : Int)) (h1 : l.length ≤ 1000) (h2 : m.length ≤ 1000) : countL b l = countL b m ↔ l.Perm m := by
  constructor
  · intro h
    rw [List.perm_iff_count]
    intro x
    by_cases hx : 0 ≤ x ∧ x < (b : Int)
    · obtain ⟨j, rfl⟩ := Int.eq_ofNat_of_zero_le hx.1
      have a1 := countL_at hl h1 (i := j) (by omega)
      have a2 := countL_at hm h2 (i := j) (by omega)
      rw [h] at a1
      omega
    · rw [List.count_eq_zero_of_not_mem (fun hm' => hx (hl x hm')), List.count_eq_zero_of_not_mem (fun hm' => hx (hm x hm'))]
  · intro h
    apply List.ext_getElem
    · rw [countL_length, countL_length]
    · intro i hi1 hi2
      rw [countL_length] at hi1
      have a1 := countL_at hl h1 (i := i) hi1
      have a2 := countL_at hm h2 (i := i) hi1
      rw [rd_get (by rw [countL_length]; exact hi1)] at a1
      rw [rd_get (by rw [countL_length]; exact hi1)] at a2
      rw [a1, a2, h.count_eq]
theorem countL_snoc (b : Nat) (t : List Int) (d : Int) : (countL b t).set d.toNat (wrap64 (rd (countL b t) d + 1)) = countL b (t ++ [d]) := by
  unfold countL
  rw [List.foldl_append]
  rfl
theorem psum_perm (p : Nat) {l m : List Int} (h : l.Perm m) : psum p l = psum p m := by
  unfold psum
  induction h with
  | nil => rfl
  | cons x _ ih => simp only [List.map_cons, List.sum_cons, ih]
  | swap x y l => simp only [List.map_cons, List.sum_cons]; omega
  | trans _ _ ih1 ih2 => rw [ih1, ih2]
theorem psum_snoc (p : Nat) (t : List Int) (d : Int) : psum p (t ++ [d]) = psum p t + d ^ p := by
  rw [psum_append]; simp [psum]
theorem short_of (M : Nat) {l : List Int} (hn : l.Nodup) (h : ∀ x ∈ l, 0 ≤ x ∧ x ≤ (M : Int)) : l.length ≤ M + 1 := by
  have := nodup_le l ((List.range (M + 1)).map Int.ofNat) hn (fun y hy => by
    have := h y hy
    exact List.mem_map.2 ⟨y.toNat, List.mem_range.2 (by omega), by simp; omega⟩)
  simpa using this
def Dig (b : Nat) (t : List Int) : Prop := ∀ x ∈ t, 0 ≤ x ∧ x < (b : Int)
theorem Dig.snoc {b : Nat} {t : List Int} (h : Dig b t) {d : Nat} (hd : d < b) : Dig b (t ++ [(d : Int)]) := fun x hx => by
  rcases List.mem_append.1 hx with hx | hx
  · exact h x hx
  · rw [List.mem_singleton.1 hx]; omega
theorem psum_small {b p : Nat} (hb : b ≤ 10) (hp : p ≤ 8) {t : List Int} (ht : Dig b t) (hl : t.length ≤ 40) : 0 ≤ psum p t ∧ psum p t ≤ 171798691840 := by
  have := psum_bound hp t (fun x hx => by have := ht x hx; omega)
  omega
def Fnd (R : List Int) : Prop := R.Pairwise (· < ·) ∧ ∀ x ∈ R, 0 ≤ x ∧ x ≤ 171798691840
theorem Fnd.short {R : List Int} (h : Fnd R) : R.length ≤ 171798691841 := short_of 171798691840 (h.1.imp (fun hab e => by omega)) h.2
def Dsc (most : Int) (s : List Int) : Prop := (∀ y ∈ s, 0 ≤ y ∧ y ≤ most) ∧ s.Pairwise (fun a c => c ≤ a)
theorem Dsc.nil (most : Int) : Dsc most [] := ⟨by simp, List.Pairwise.nil⟩
theorem dsc_cons {most d : Int} {s : List Int} : Dsc most (d :: s) ↔ (0 ≤ d ∧ d ≤ most) ∧ Dsc d s := by
  constructor
  · intro h
    have h2 := List.pairwise_cons.1 h.2
    exact ⟨h.1 d (by simp), fun y hy => ⟨(h.1 y (by simp [hy])).1, h2.1 y hy⟩, h2.2⟩
  · rintro ⟨h1, h2, h3⟩
    refine ⟨fun y hy => ?_, List.pairwise_cons.2 ⟨fun y hy => (h2 y hy).2, h3⟩⟩
    rcases List.mem_cons.1 hy with rfl | hy
    · exact h1
    · have := h2 y hy; omega
section
variable {b p : Nat} (hb : 2 ≤ b) (hb2 : b ≤ 10) (hp1 : 1 ≤ p) (hp : p ≤ 6)
include hb hb2 hp1 hp
theorem try_spec : ∀ (left : Nat) (t : List Int) (most : Nat) (fd : List Int), Dig b t → t.length + left ≤ 40 → most < b → Fnd fd →
    ∃ (K : Nat) (R : List Int), Fnd R ∧ (∀ x, x ∈ R ↔ x ∈ fd ∨ ∃ s : List Int, s.length = left ∧ Dsc (most : Int) s ∧ x = psum p (t ++ s) ∧ (dg b x.toNat).Perm (t ++ s)) ∧ ∀ k, K ≤ k → spec_try.f k (b : Int) (p : Int) (left : Int) (most : Int) (psum p t) (countL b t) fd = some R := by
  intro left
  induction left with
  | zero =>
    intro t most fd ht hl hm hf
    have hps := psum_small (p := p) hb2 (by omega) ht (by omega)
    obtain ⟨n, hn⟩ := Int.eq_ofNat_of_zero_le hps.1
    obtain ⟨K1, h1⟩ := dgOf_ev (b := b) (n := n) hb (by omega) (by omega)
    have hdr := dg_range hb n
    have hdl := dg_short (c := b) (m := n) hb (by omega)
    have hc1 : ∀ k, K1 + 100 ≤ k → spec_dgCounts.f k (dg b n) (b : Int) = some (countL b (dg b n)) := fun k hk => dgCounts_eq b _ (by omega) (by omega) (by omega) hdr
    have hc2 : ∀ k, K1 + 100 ≤ k → spec_l1Same.f k (countL b (dg b n)) (countL b t) = some (decide (countL b (dg b n) = countL b t)) := fun k hk => l1Same_eq _ _ (by rw [countL_length]; omega) (by rw [countL_length]; omega)
    by_cases hcp : (dg b n).Perm t
    · obtain ⟨R, r1, r2, -, r4⟩ := l1Put_eq hf.1 (by have := hf.short; omega) (psum p t)
      refine ⟨K1 + 200000000000, R, ⟨r1, fun x hx => ?_⟩, fun x => ?_, fun k hk => ?_⟩
      · rcases (r2 x).1 hx with h | h
        · exact hf.2 x h
        · rw [h]; exact hps
      · rw [r2 x]
        constructor
        · rintro (h | h)
          · exact .inl h
          · refine .inr ⟨[], rfl, Dsc.nil _, by rw [List.append_nil]; exact h, ?_⟩
            rw [h, hn, List.append_nil]; exact hcp
        · rintro (h | ⟨s, hs, _, h, _⟩)
          · exact .inl h
          · have : s = [] := List.length_eq_zero_iff.1 hs
            subst this
            rw [List.append_nil] at h
            exact .inr h
      · obtain ⟨k, rfl⟩ : ∃ q, k = q + 1 := ⟨k - 1, by omega⟩
        have e : spec_dgOf.f k (n : Int) (b : Int) = some (dg b n) := h1 k (by omega)
        rw [spec_try.f, if_pos (show ((0 : Nat) : Int) = 0 from rfl), if_pos (by omega), hn, e, Option.bind_some, hc1 k (by omega), Option.bind_some, hc2 k (by omega), Option.bind_some, if_pos (decide_eq_true ((same_perm hdr ht (by omega) (by omega)).2 hcp)), ← hn]
        exact r4 k (by have := hf.short; omega)
    · refine ⟨K1 + 200000000000, fd, hf, fun x => ⟨.inl, ?_⟩, fun k hk => ?_⟩
      · rintro (h | ⟨s, hs, _, h, h5⟩)
        · exact h
        · have : s = [] := List.length_eq_zero_iff.1 hs
          subst this
          rw [List.append_nil] at h h5
          rw [h, hn] at h5
          exact absurd h5 hcp
      · obtain ⟨k, rfl⟩ : ∃ q, k = q + 1 := ⟨k - 1, by omega⟩
        have e : spec_dgOf.f k (n : Int) (b : Int) = some (dg b n) := h1 k (by omega)
        have hne : ¬ (decide (countL b (dg b n) = countL b t) = true) := fun h => hcp ((same_perm hdr ht (by omega) (by omega)).1 (of_decide_eq_true h))
        rw [spec_try.f, if_pos (show ((0 : Nat) : Int) = 0 from rfl), if_pos (by omega), hn, e, Option.bind_some, hc1 k (by omega), Option.bind_some, hc2 k (by omega), Option.bind_some, if_neg hne]
  | succ left IH =>
    intro t most fd ht hl hm hf
    have loop : ∀ e d, e + d = most + 1 → ∀ fd, Fnd fd → ∃ (K : Nat) (R : List Int), Fnd R ∧ (∀ x, x ∈ R ↔ x ∈ fd ∨ ∃ s : List Int, s.length = left + 1 ∧ Dsc (most : Int) s ∧ (∀ y ∈ s.head?, (d : Int) ≤ y) ∧ x = psum p (t ++ s) ∧ (dg b x.toNat).Perm (t ++ s)) ∧
        ∀ k, K ≤ k → spec_try.l0 k (b : Int) (p : Int) ((left + 1 : Nat) : Int) (most : Int) (psum p t) (countL b t) fd (d : Int) = some R := by
      intro e
      induction e with
      | zero =>
        intro d hd fd hf
        refine ⟨1, fd, hf, fun x => ⟨.inl, ?_⟩, fun k hk => ?_⟩
        · rintro (h | ⟨s, hs, h1, h2, _⟩)
          · exact h
          · rcases s with _ | ⟨y, s⟩
            · simp at hs
            · have a1 := h1.1 y (by simp)
              have a2 := h2 y (by simp)
              omega
        · obtain ⟨k, rfl⟩ : ∃ q, k = q + 1 := ⟨k - 1, by omega⟩
          rw [spec_try.l0, if_neg (by omega)]
      | succ e ihe =>
        intro d hd fd hf
        obtain ⟨K1, R1, f1, m1, e1⟩ := IH (t ++ [(d : Int)]) d fd (ht.snoc (by omega)) (by simp; omega) (by omega) hf
        obtain ⟨K2, R2, f2, m2, e2⟩ := ihe (d + 1) (by omega) R1 f1
        refine ⟨K1 + K2 + 100, R2, f2, fun x => ?_, fun k hk => ?_⟩
        · rw [m2 x, m1 x]
          constructor
          · rintro ((h | ⟨s, hs, h1, h2, h3⟩) | ⟨s, hs, h1, h2, h3, h4⟩)
            · exact .inl h
            · refine .inr ⟨(d : Int) :: s, by simp [hs], dsc_cons.2 ⟨by omega, h1⟩, by simp, ?_, ?_⟩
              · rw [h2]; simp
              · simpa using h3
            · refine .inr ⟨s, hs, h1, fun y hy => ?_, h3, h4⟩
              have := h2 y hy; omega
          · rintro (h | ⟨s, hs, h1, h2, h3, h4⟩)
            · exact .inl (.inl h)
            · rcases s with _ | ⟨y, s⟩
              · simp at hs
              · have a2 := h2 y (by simp)
                by_cases hy : y = (d : Int)
                · subst hy
                  refine .inl (.inr ⟨s, by simpa using hs, (dsc_cons.1 h1).2, ?_, ?_⟩)
                  · rw [h3]; simp
                  · simpa using h4
                · refine .inr ⟨y :: s, hs, h1, fun z hz => ?_, h3, h4⟩
                  have : z = y := by simpa using hz.symm
                  subst this; omega
        · obtain ⟨k, rfl⟩ : ∃ q, k = q + 1 := ⟨k - 1, by omega⟩
          have c0 : (0 : Int) ≤ (d : Int) := Int.natCast_nonneg d
          have c1 : (d : Int) < ((countL b t).length : Int) := by rw [countL_length]; exact Int.ofNat_lt.2 (by omega)
          have c2 : (d : Int) ≤ (most : Int) := Int.ofNat_le.2 (by omega)
          have hq := pwOf_eq (x := (d : Int)) (by omega) (by omega) p (by omega) k (by omega)
          have hsn := psum_snoc p t (d : Int)
          have hps := psum_small (p := p) hb2 (by omega) (ht.snoc (d := d) (by omega)) (by simp; omega)
          have w1 : wrap64 (((left + 1 : Nat) : Int) - 1) = (left : Int) := by unfold wrap64; omega
          have w2 : wrap64 (psum p t + (d : Int) ^ p) = psum p (t ++ [(d : Int)]) := by rw [← hsn]; unfold wrap64; omega
          have w3 : wrap64 ((d : Int) + 1) = ((d + 1 : Nat) : Int) := by unfold wrap64; omega
          rw [spec_try.l0, if_pos c2, own_eq _ (by rw [countL_length]; omega), Option.bind_some, if_pos c0, if_pos c1, hq, Option.bind_some, w1, w2, countL_snoc, e1 k (by omega), Option.bind_some, w3]
          exact e2 k (by omega)
    obtain ⟨K, R, f1, m1, e1⟩ := loop (most + 1) 0 (by omega) fd hf
    refine ⟨K + 1, R, f1, fun x => ?_, fun k hk => ?_⟩
    · rw [m1 x]
      constructor
      · rintro (h | ⟨s, hs, h1, h2, h3⟩)
        · exact .inl h
        · exact .inr ⟨s, hs, h1, h3⟩
      · rintro (h | ⟨s, hs, h1, h3⟩)
        · exact .inl h
        · refine .inr ⟨s, hs, h1, fun y hy => ?_, h3⟩
          rcases s with _ | ⟨z, s⟩
          · simp at hs
          · have : y = z := by simpa using hy.symm
            subst this
            exact (h1.1 y (by simp)).1
    · obtain ⟨k, rfl⟩ : ∃ q, k = q + 1 := ⟨k - 1, by omega⟩
      rw [spec_try.f, if_neg (by omega)]
      exact e1 k (by omega)
end
/-! ### the other way -/
theorem Sort_eq (l : List Int) (hl : l.length ≤ 1000000000000) : slices_Sort_int_int.f l = some (srt l) := by
  unfold slices_Sort_int_int.f
  rw [if_pos (by omega)]; rfl
def Fno (R : List Int) : Prop := R.Nodup ∧ ∀ x ∈ R, 0 ≤ x ∧ x ≤ 171798691840
theorem Fno.short {R : List Int} (h : Fno R) : R.length ≤ 171798691841 := short_of 171798691840 h.1 h.2
def Asc (b : Nat) (least : Int) (s : List Int) : Prop := (∀ y ∈ s, least ≤ y ∧ y < (b : Int)) ∧ s.Pairwise (fun a c => a ≤ c)
theorem Asc.nil (b : Nat) (least : Int) : Asc b least [] := ⟨by simp, List.Pairwise.nil⟩
theorem asc_cons {b : Nat} {least d : Int} {s : List Int} : Asc b least (d :: s) ↔ (least ≤ d ∧ d < (b : Int)) ∧ Asc b d s := by
  constructor
  · intro h
    have h2 := List.pairwise_cons.1 h.2
    exact ⟨h.1 d (by simp), fun y hy => ⟨h2.1 y hy, (h.1 y (by simp [hy])).2⟩, h2.2⟩
  · rintro ⟨h1, h2, h3⟩
    refine ⟨fun y hy => ?_, List.pairwise_cons.2 ⟨fun y hy => (h2 y hy).1, h3⟩⟩
    rcases List.mem_cons.1 hy with rfl | hy
    · exact h1
    · have := h2 y hy; omega
theorem Asc.mono {b : Nat} {least d : Int} {s : List Int} (h : Asc b d s) (hd : least ≤ d) : Asc b least s := ⟨fun y hy => by have := h.1 y hy; omega, h.2⟩
section
variable {b p : Nat} (hb : 2 ≤ b) (hb2 : b ≤ 10) (hp1 : 1 ≤ p) (hp : p ≤ 6)
include hb hb2 hp1 hp
theorem own1_loop {l : List Int} (ht : Dig b l) (hl : l.length ≤ 40) : ∀ (suf pre : List Int), l = pre ++ suf → ∀ k, suf.length + 20 < k → impl_own1.l0 k (p : Int) l (psum p pre) (pre.length : Int) = some (psum p l)
  | [], pre, h, k, hk => by
    obtain ⟨k, rfl⟩ : ∃ q, k = q + 1 := ⟨k - 1, by omega⟩
    rw [List.append_nil] at h
    rw [impl_own1.l0, if_neg (by rw [h]; omega), h]
  | x :: suf, pre, h, k, hk => by
    simp only [List.length_cons] at hk
    obtain ⟨k, rfl⟩ : ∃ q, k = q + 1 := ⟨k - 1, by omega⟩
    have hlen : l.length = pre.length + suf.length + 1 := by rw [h]; simp; omega
    have hx := ht x (by rw [h]; simp)
    have e : rd l (pre.length : Int) = x := by rw [h]; exact rd_mid _ _ _
    have hs := psum_small (p := p) hb2 (by omega) (t := pre ++ [x]) (fun y hy => ht y (by rw [h]; rcases List.mem_append.1 hy with hy | hy <;> simp_all)) (by simp; omega)
    have hsn := psum_snoc p pre x
    have w2 : wrap64 (psum p pre + x ^ p) = psum p (pre ++ [x]) := by rw [← hsn]; unfold wrap64; omega
    have c0 : (pre.length : Int) < (l.length : Int) := Int.ofNat_lt.2 (by omega)
    have c1 : (0 : Int) ≤ (pre.length : Int) := Int.natCast_nonneg _
    have ht2 := toPower_eq (x := x) hx.1 (by omega) p (by omega) k (by omega)
    have ih := own1_loop ht hl suf (pre ++ [x]) (by rw [h]; simp) k (by omega)
    rw [impl_own1.l0, if_pos c0, if_pos c1, e, ht2, Option.bind_some, w2, w64s (by omega)]
    simpa using ih
theorem on_spec (many : Nat) (hmany : many ≤ 40) : ∀ (rest : Nat) (l : List Int) (least : Nat) (out : List Int), Dig b l → l.length + rest = many → least ≤ b → Fno out → (∀ x ∈ out, ¬ ∃ s : List Int, s.length = rest ∧ Asc b (least : Int) s ∧ srt (dg b x.toNat) = l ++ s) →
    ∃ (K : Nat) (R : List Int), Fno R ∧ (∀ x, x ∈ R ↔ x ∈ out ∨ ∃ s : List Int, s.length = rest ∧ Asc b (least : Int) s ∧ x = psum p (l ++ s) ∧ srt (dg b x.toNat) = l ++ s) ∧ ∀ k, K ≤ k → impl_on.f k (b : Int) (p : Int) (many : Int) ((b : Int) - 1) l (least : Int) out = some R := by
  intro rest
  induction rest with
  | zero =>
    intro l least out ht hl hm hf hpre
    have hps := psum_small (p := p) hb2 (by omega) ht (by omega)
    obtain ⟨n, hn⟩ := Int.eq_ofNat_of_zero_le hps.1
    have hdl := dg_short (c := b) (m := n) hb (by omega)
    have hso : ∀ k, n + 200 ≤ k → impl_sorted.f k (n : Int) (b : Int) = some (srt (dg b n)) := fun k hk => by
      rw [impl_sorted.f, digitsOf_now hb (by omega) (by omega) hk, Option.bind_some, Sort_eq _ (by omega), Option.bind_some]
    have heq : ∀ k, 100 ≤ k → slices_Equal_int_int.f k (srt (dg b n)) l = some (decide (srt (dg b n) = l)) := fun k hk => Equal_eq _ _ (by rw [srt_length]; omega) (by rw [srt_length]; omega)
    have hsum : ∀ k, 100 ≤ k → impl_own1.l0 k (p : Int) l 0 0 = some (psum p l) := fun k hk => own1_loop hb hb2 hp1 hp ht (by omega) l [] rfl k (by omega)
    have hlen : (l.length : Int) = (many : Int) := by omega
    by_cases hc : srt (dg b n) = l
    · refine ⟨n + 1000, out ++ [psum p l], ⟨?_, fun x hx => ?_⟩, fun x => ?_, fun k hk => ?_⟩
      · rw [List.nodup_append]
        refine ⟨hf.1, by simp, fun a ha c hc' e => ?_⟩
        rw [List.mem_singleton.1 hc'] at e
        refine hpre a ha ⟨[], rfl, Asc.nil _ _, ?_⟩
        rw [e, hn, List.append_nil]; exact hc
      · rcases List.mem_append.1 hx with hx | hx
        · exact hf.2 x hx
        · rw [List.mem_singleton.1 hx]; exact hps
      · rw [List.mem_append, List.mem_singleton]
        constructor
        · rintro (h | h)
          · exact .inl h
          · refine .inr ⟨[], rfl, Asc.nil _ _, by rw [List.append_nil]; exact h, ?_⟩
            rw [h, hn, List.append_nil]; exact hc
        · rintro (h | ⟨s, hs, _, h, _⟩)
          · exact .inl h
          · have : s = [] := List.length_eq_zero_iff.1 hs
            subst this
            rw [List.append_nil] at h
            exact .inr h
      · obtain ⟨k, rfl⟩ : ∃ q, k = q + 1 := ⟨k - 1, by omega⟩
        have hsh := hf.short
        have hlt : out.length < 17592186044416 := by omega
        rw [impl_on.f, if_pos hlen, impl_own1.f, hsum k (by omega), Option.bind_some, hn, hso k (by omega), Option.bind_some, heq k (by omega), Option.bind_some, if_pos (decide_eq_true hc), if_pos hlt]
    · refine ⟨n + 1000, out, hf, fun x => ⟨.inl, ?_⟩, fun k hk => ?_⟩
      · rintro (h | ⟨s, hs, _, h, h5⟩)
        · exact h
        · have : s = [] := List.length_eq_zero_iff.1 hs
          subst this
          rw [List.append_nil] at h h5
          rw [h, hn] at h5
          exact absurd h5 hc
      · obtain ⟨k, rfl⟩ : ∃ q, k = q + 1 := ⟨k - 1, by omega⟩
        have hne : ¬ (decide (srt (dg b n) = l) = true) := fun h => hc (of_decide_eq_true h)
        rw [impl_on.f, if_pos hlen, impl_own1.f, hsum k (by omega), Option.bind_some, hn, hso k (by omega), Option.bind_some, heq k (by omega), Option.bind_some, if_neg hne]
  | succ rest IH =>
    intro l least out ht hl hm hf hpre
    have loop : ∀ e d, e + d = b → ∀ out, Fno out → (∀ x ∈ out, ¬ ∃ s : List Int, s.length = rest + 1 ∧ Asc b (d : Int) s ∧ srt (dg b x.toNat) = l ++ s) → ∃ (K : Nat) (R : List Int), Fno R ∧ (∀ x, x ∈ R ↔ x ∈ out ∨ ∃ s : List Int, s.length = rest + 1 ∧ Asc b (d : Int) s ∧ x = psum p (l ++ s) ∧ srt (dg b x.toNat) = l ++ s) ∧
        ∀ k, K ≤ k → impl_on.l0 k (b : Int) (p : Int) (many : Int) ((b : Int) - 1) l out (d : Int) = some R := by
      intro e
      induction e with
      | zero =>
        intro d hd out hf hpre
        refine ⟨1, out, hf, fun x => ⟨.inl, ?_⟩, fun k hk => ?_⟩
        · rintro (h | ⟨s, hs, h1, _⟩)
          · exact h
          · rcases s with _ | ⟨y, s⟩
            · simp at hs
            · have a1 := h1.1 y (by simp)
              omega
        · obtain ⟨k, rfl⟩ : ∃ q, k = q + 1 := ⟨k - 1, by omega⟩
          rw [impl_on.l0, if_neg (by omega)]
      | succ e ihe =>
        intro d hd out hf hpre
        obtain ⟨K1, R1, f1, m1, e1⟩ := IH (l ++ [(d : Int)]) d out (ht.snoc (by omega)) (by simp; omega) (by omega) hf (fun x hx => by
          rintro ⟨s, hs, h1, h2⟩
          exact hpre x hx ⟨(d : Int) :: s, by simp [hs], asc_cons.2 ⟨by omega, h1⟩, by rw [h2]; simp⟩)
        obtain ⟨K2, R2, f2, m2, e2⟩ := ihe (d + 1) (by omega) R1 f1 (fun x hx => by
          rintro ⟨s, hs, h1, h2⟩
          rcases (m1 x).1 hx with h | ⟨s', hs', h3, h4, h5⟩
          · exact hpre x h ⟨s, hs, h1.mono (by omega), h2⟩
          · rw [h5, List.append_assoc] at h2
            have h6 := List.append_cancel_left h2
            rw [← h6] at h1
            have := h1.1 (d : Int) (by simp)
            omega)
        refine ⟨K1 + K2 + 100, R2, f2, fun x => ?_, fun k hk => ?_⟩
        · rw [m2 x, m1 x]
          constructor
          · rintro ((h | ⟨s, hs, h1, h2, h3⟩) | ⟨s, hs, h1, h3, h4⟩)
            · exact .inl h
            · refine .inr ⟨(d : Int) :: s, by simp [hs], asc_cons.2 ⟨by omega, h1⟩, ?_, ?_⟩
              · rw [h2]; simp
              · rw [h3]; simp
            · exact .inr ⟨s, hs, h1.mono (by omega), h3, h4⟩
          · rintro (h | ⟨s, hs, h1, h3, h4⟩)
            · exact .inl (.inl h)
            · rcases s with _ | ⟨y, s⟩
              · simp at hs
              · have a2 := (asc_cons.1 h1).1
                by_cases hy : y = (d : Int)
                · subst hy
                  refine .inl (.inr ⟨s, by simpa using hs, (asc_cons.1 h1).2, ?_, ?_⟩)
                  · rw [h3]; simp
                  · rw [h4]; simp
                · exact .inr ⟨y :: s, hs, asc_cons.2 ⟨by omega, (asc_cons.1 h1).2⟩, h3, h4⟩
        · obtain ⟨k, rfl⟩ : ∃ q, k = q + 1 := ⟨k - 1, by omega⟩
          have c2 : (d : Int) ≤ (b : Int) - 1 := by omega
          have w3 : wrap64 ((d : Int) + 1) = ((d + 1 : Nat) : Int) := by unfold wrap64; omega
          rw [impl_on.l0, if_pos c2, if_pos (by omega), e1 k (by omega), Option.bind_some, w3]
          exact e2 k (by omega)
    obtain ⟨K, R, f1, m1, e1⟩ := loop (b - least) least (by omega) out hf hpre
    refine ⟨K + 1, R, f1, m1, fun k hk => ?_⟩
    obtain ⟨k, rfl⟩ : ∃ q, k = q + 1 := ⟨k - 1, by omega⟩
    rw [impl_on.f, if_neg (by omega)]
    exact e1 k (by omega)
end
/-! ### more rounds, the same answer -/
theorem spec_pwLimited.mono_l : ∀ k, (∀ y0 y1 y2, LeO (spec_pwLimited.l0 k y0 y1 y2) (spec_pwLimited.l0 (k + 1) y0 y1 y2))
  | 0 => fun _ _ _ r h => by simp [spec_pwLimited.l0] at h
  | k + 1 => by
    have ih0 := spec_pwLimited.mono_l k
    · intro y0 y1 y2
      unfold spec_pwLimited.l0
      repeat' first
      | (with_reducible exact ih0 _ _ _)
      | (with_reducible exact LeO.refl _)
      | (with_reducible exact LeO.none _)
      | (with_reducible refine LeO.ite ?_ ?_)
      | (with_reducible refine LeO.bind ?_ (fun _ => ?_))
      | exact ih0 _ _ _
      | exact LeO.none _
      | refine LeO.ite ?_ ?_
      | refine LeO.bind ?_ (fun _ => ?_)

theorem spec_pwLimited.mono : ∀ a0 a1 k, LeO (spec_pwLimited.f k a0 a1) (spec_pwLimited.f (k + 1) a0 a1) := by
  intro a0 a1 k
  have ih0 := spec_pwLimited.mono_l k
  unfold spec_pwLimited.f
  repeat' first
      | (with_reducible exact ih0 _ _ _)
      | (with_reducible exact LeO.refl _)
      | (with_reducible exact LeO.none _)
      | (with_reducible refine LeO.ite ?_ ?_)
      | (with_reducible refine LeO.bind ?_ (fun _ => ?_))
      | exact ih0 _ _ _
      | exact LeO.none _
      | refine LeO.ite ?_ ?_
      | refine LeO.bind ?_ (fun _ => ?_)

theorem spec_pwOf.mono_l : ∀ k, (∀ y0 y1 y2, LeO (spec_pwOf.l0 k y0 y1 y2) (spec_pwOf.l0 (k + 1) y0 y1 y2))
  | 0 => fun _ _ _ r h => by simp [spec_pwOf.l0] at h
  | k + 1 => by
    have ih0 := spec_pwOf.mono_l k
    · intro y0 y1 y2
      unfold spec_pwOf.l0
      repeat' first
      | (with_reducible exact ih0 _ _ _)
      | (with_reducible exact LeO.refl _)
      | (with_reducible exact LeO.none _)
      | (with_reducible refine LeO.ite ?_ ?_)
      | (with_reducible refine LeO.bind ?_ (fun _ => ?_))
      | exact ih0 _ _ _
      | exact LeO.none _
      | refine LeO.ite ?_ ?_
      | refine LeO.bind ?_ (fun _ => ?_)

theorem spec_pwOf.mono : ∀ a0 a1 k, LeO (spec_pwOf.f k a0 a1) (spec_pwOf.f (k + 1) a0 a1) := by
  intro a0 a1 k
  have ih0 := spec_pwOf.mono_l k
  unfold spec_pwOf.f
  repeat' first
      | (with_reducible exact ih0 _ _ _)
      | (with_reducible exact LeO.refl _)
      | (with_reducible exact LeO.none _)
      | (with_reducible refine LeO.ite ?_ ?_)
      | (with_reducible refine LeO.bind ?_ (fun _ => ?_))
      | exact ih0 _ _ _
      | exact LeO.none _
      | refine LeO.ite ?_ ?_
      | refine LeO.bind ?_ (fun _ => ?_)

theorem spec_pwFalls.mono_l : ∀ k, (∀ y0 y1 y2 y3, LeO (spec_pwFalls.l0 k y0 y1 y2 y3) (spec_pwFalls.l0 (k + 1) y0 y1 y2 y3))
  | 0 => fun _ _ _ _ r h => by simp [spec_pwFalls.l0] at h
  | k + 1 => by
    have ih0 := spec_pwFalls.mono_l k
    · intro y0 y1 y2 y3
      unfold spec_pwFalls.l0
      repeat' first
      | (with_reducible exact ih0 _ _ _ _)
      | (with_reducible exact spec_pwLimited.mono _ _ _)
      | (with_reducible exact spec_pwOf.mono _ _ _)
      | (with_reducible exact LeO.refl _)
      | (with_reducible exact LeO.none _)
      | (with_reducible refine LeO.ite ?_ ?_)
      | (with_reducible refine LeO.bind ?_ (fun _ => ?_))
      | exact ih0 _ _ _ _
      | exact spec_pwLimited.mono _ _ _
      | exact spec_pwOf.mono _ _ _
      | exact LeO.none _
      | refine LeO.ite ?_ ?_
      | refine LeO.bind ?_ (fun _ => ?_)

theorem spec_pwFalls.mono : ∀ a0 a1 k, LeO (spec_pwFalls.f k a0 a1) (spec_pwFalls.f (k + 1) a0 a1) := by
  intro a0 a1 k
  have ih0 := spec_pwFalls.mono_l k
  unfold spec_pwFalls.f
  repeat' first
      | (with_reducible exact ih0 _ _ _ _)
      | (with_reducible exact spec_pwLimited.mono _ _ _)
      | (with_reducible exact spec_pwOf.mono _ _ _)
      | (with_reducible exact LeO.refl _)
      | (with_reducible exact LeO.none _)
      | (with_reducible refine LeO.ite ?_ ?_)
      | (with_reducible refine LeO.bind ?_ (fun _ => ?_))
      | exact ih0 _ _ _ _
      | exact spec_pwLimited.mono _ _ _
      | exact spec_pwOf.mono _ _ _
      | exact LeO.none _
      | refine LeO.ite ?_ ?_
      | refine LeO.bind ?_ (fun _ => ?_)

theorem impl_toPower.mono_l : ∀ k, (∀ y0 y1 y2 y3, LeO (impl_toPower.l0 k y0 y1 y2 y3) (impl_toPower.l0 (k + 1) y0 y1 y2 y3))
  | 0 => fun _ _ _ _ r h => by simp [impl_toPower.l0] at h
  | k + 1 => by
    have ih0 := impl_toPower.mono_l k
    · intro y0 y1 y2 y3
      unfold impl_toPower.l0
      repeat' first
      | (with_reducible exact ih0 _ _ _ _)
      | (with_reducible exact LeO.refl _)
      | (with_reducible exact LeO.none _)
      | (with_reducible refine LeO.ite ?_ ?_)
      | (with_reducible refine LeO.bind ?_ (fun _ => ?_))
      | exact ih0 _ _ _ _
      | exact LeO.none _
      | refine LeO.ite ?_ ?_
      | refine LeO.bind ?_ (fun _ => ?_)

theorem impl_toPower.mono : ∀ a0 a1 k, LeO (impl_toPower.f k a0 a1) (impl_toPower.f (k + 1) a0 a1) := by
  intro a0 a1 k
  have ih0 := impl_toPower.mono_l k
  unfold impl_toPower.f
  repeat' first
      | (with_reducible exact ih0 _ _ _ _)
      | (with_reducible exact LeO.refl _)
      | (with_reducible exact LeO.none _)
      | (with_reducible refine LeO.ite ?_ ?_)
      | (with_reducible refine LeO.bind ?_ (fun _ => ?_))
      | exact ih0 _ _ _ _
      | exact LeO.none _
      | refine LeO.ite ?_ ?_
      | refine LeO.bind ?_ (fun _ => ?_)

theorem impl_fallsFrom.mono_l : ∀ k, (∀ y0 y1 y2, LeO (impl_fallsFrom.l0 k y0 y1 y2) (impl_fallsFrom.l0 (k + 1) y0 y1 y2))
  | 0 => fun _ _ _ r h => by simp [impl_fallsFrom.l0] at h
  | k + 1 => by
    have ih0 := impl_fallsFrom.mono_l k
    · intro y0 y1 y2
      unfold impl_fallsFrom.l0
      repeat' first
      | (with_reducible exact ih0 _ _ _)
      | (with_reducible exact impl_toPower.mono _ _ _)
      | (with_reducible exact LeO.refl _)
      | (with_reducible exact LeO.none _)
      | (with_reducible refine LeO.ite ?_ ?_)
      | (with_reducible refine LeO.bind ?_ (fun _ => ?_))
      | exact ih0 _ _ _
      | exact impl_toPower.mono _ _ _
      | exact LeO.none _
      | refine LeO.ite ?_ ?_
      | refine LeO.bind ?_ (fun _ => ?_)

theorem impl_fallsFrom.mono : ∀ a0 a1 k, LeO (impl_fallsFrom.f k a0 a1) (impl_fallsFrom.f (k + 1) a0 a1) := by
  intro a0 a1 k
  have ih0 := impl_fallsFrom.mono_l k
  unfold impl_fallsFrom.f
  repeat' first
      | (with_reducible exact ih0 _ _ _)
      | (with_reducible exact impl_toPower.mono _ _ _)
      | (with_reducible exact LeO.refl _)
      | (with_reducible exact LeO.none _)
      | (with_reducible refine LeO.ite ?_ ?_)
      | (with_reducible refine LeO.bind ?_ (fun _ => ?_))
      | exact ih0 _ _ _
      | exact impl_toPower.mono _ _ _
      | exact LeO.none _
      | refine LeO.ite ?_ ?_
      | refine LeO.bind ?_ (fun _ => ?_)

theorem up_to {f : Nat → Option Int} (h : ∀ k, LeO (f k) (f (k + 1))) {a : Nat} {r : Int} (ha : f a = some r) : ∀ k, a ≤ k → f k = some r := by
  intro k hk
  obtain ⟨d, rfl⟩ := Nat.exists_eq_add_of_le hk
  clear hk
  induction d with
  | zero => exact ha
  | succ d ih => exact h _ _ ih
def fallAll : Bool := (List.range 9).all fun b => (List.range 6).all fun p => (List.range 40).any fun d => spec_pwFalls.f 90 ((b : Int) + 2) ((p : Int) + 1) == some (d : Int) && impl_fallsFrom.f 90 ((b : Int) + 2) ((p : Int) + 1) == some (d : Int) && decide (1 ≤ d)
theorem fall_all : fallAll = true := by decide +kernel
theorem fall_at {b p : Nat} (hb : 2 ≤ b) (hb2 : b ≤ 10) (hp : 1 ≤ p) (hp2 : p ≤ 6) : ∃ d : Nat, d < 40 ∧ 1 ≤ d ∧ ∀ k, 90 ≤ k → spec_pwFalls.f k (b : Int) (p : Int) = some (d : Int) ∧ impl_fallsFrom.f k (b : Int) (p : Int) = some (d : Int) := by
  have h := fall_all
  unfold fallAll at h
  rw [List.all_eq_true] at h
  have h1 := h (b - 2) (List.mem_range.2 (by omega))
  rw [List.all_eq_true] at h1
  have h2 := h1 (p - 1) (List.mem_range.2 (by omega))
  rw [List.any_eq_true] at h2
  obtain ⟨d, hd, h3⟩ := h2
  simp only [Bool.and_eq_true, beq_iff_eq, decide_eq_true_eq] at h3
  rw [show ((b - 2 : Nat) : Int) + 2 = (b : Int) from by omega, show ((p - 1 : Nat) : Int) + 1 = (p : Int) from by omega] at h3
  exact ⟨d, List.mem_range.1 hd, h3.2, fun k hk => ⟨up_to (spec_pwFalls.mono _ _) h3.1.1 k hk, up_to (impl_fallsFrom.mono _ _) h3.1.2 k hk⟩⟩
/-! ### which numbers -/
def Good (b p m : Nat) (x : Int) : Prop := 0 ≤ x ∧ (dg b x.toNat).length = m ∧ psum p (dg b x.toNat) = x
section
variable {b p : Nat} (hb : 2 ≤ b) (hb2 : b ≤ 10) (hp1 : 1 ≤ p) (hp : p ≤ 6)
include hb hb2 hp1 hp
theorem good_dsc {m : Nat} (hm : m ≤ 40) (x : Int) : (∃ s : List Int, s.length = m ∧ Dsc (((b - 1 : Nat) : Nat) : Int) s ∧ x = psum p ([] ++ s) ∧ (dg b x.toNat).Perm ([] ++ s)) ↔ Good b p m x := by
  constructor
  · rintro ⟨s, h1, h2, h3, h4⟩
    rw [List.nil_append] at h3 h4
    have hd : Dig b s := fun y hy => by have := h2.1 y hy; omega
    have := psum_small (p := p) hb2 (by omega) hd (by omega)
    exact ⟨by omega, by rw [h4.length_eq]; exact h1, by rw [psum_perm p h4]; exact h3.symm⟩
  · rintro ⟨h1, h2, h3⟩
    have hr := dg_range hb x.toNat
    refine ⟨(dg b x.toNat).mergeSort (fun a c => decide (c ≤ a)), ?_, ⟨fun y hy => ?_, ?_⟩, ?_, ?_⟩
    · rw [(List.mergeSort_perm _ _).length_eq]; exact h2
    · have := hr y ((List.mergeSort_perm _ _).mem_iff.1 hy); omega
    · have := List.pairwise_mergeSort (le := fun a c : Int => decide (c ≤ a)) (fun a b c h1 h2 => by simp only [decide_eq_true_eq] at *; omega) (fun a b => by simp only [Bool.or_eq_true, decide_eq_true_eq]; omega) (dg b x.toNat)
      exact this.imp (fun h => by simpa using h)
    · rw [List.nil_append, psum_perm p (List.mergeSort_perm _ _)]; exact h3.symm
    · rw [List.nil_append]; exact (List.mergeSort_perm _ _).symm
theorem good_asc {m : Nat} (hm : m ≤ 40) (x : Int) : (∃ s : List Int, s.length = m ∧ Asc b ((0 : Nat) : Int) s ∧ x = psum p ([] ++ s) ∧ srt (dg b x.toNat) = [] ++ s) ↔ Good b p m x := by
  constructor
  · rintro ⟨s, h1, h2, h3, h4⟩
    rw [List.nil_append] at h3 h4
    have h5 : (dg b x.toNat).Perm s := by rw [← h4]; exact (srt_perm _).symm
    have hd : Dig b s := fun y hy => by have := h2.1 y hy; omega
    have := psum_small (p := p) hb2 (by omega) hd (by omega)
    exact ⟨by omega, by rw [h5.length_eq]; exact h1, by rw [psum_perm p h5]; exact h3.symm⟩
  · rintro ⟨h1, h2, h3⟩
    have hr := dg_range hb x.toNat
    refine ⟨srt (dg b x.toNat), by rw [srt_length]; exact h2, ⟨fun y hy => ?_, ?_⟩, ?_, rfl⟩
    · have := hr y ((srt_perm _).mem_iff.1 hy); omega
    · exact (srt_sorted _).imp (fun h => by simpa [le] using h)
    · rw [List.nil_append, psum_perm p (srt_perm _)]; exact h3.symm
theorem owns_spec {m : Nat} (hm : m ≤ 40) : ∃ (K : Nat) (R : List Int), Fnd R ∧ (∀ x, x ∈ R ↔ Good b p m x) ∧ ∀ k, K ≤ k → impl_owns.f k (m : Int) (b : Int) (p : Int) = some R := by
  obtain ⟨K, R, f1, m1, e1⟩ := on_spec hb hb2 hp1 hp m hm m [] 0 [] (fun x hx => by simp at hx) (by simp) (by omega) ⟨List.nodup_nil, by simp⟩ (by simp)
  have hw : wrap64 ((b : Int) - 1) = (b : Int) - 1 := by unfold wrap64; omega
  refine ⟨K, srt R, ⟨?_, fun x hx => f1.2 x ((srt_perm R).mem_iff.1 hx)⟩, fun x => ?_, fun k hk => ?_⟩
  · have hn : (srt R).Nodup := (srt_perm R).nodup_iff.2 f1.1
    exact List.Pairwise.imp₂ (fun a c h1 h2 => by simp only [le, decide_eq_true_eq] at h1; omega) (srt_sorted R) hn
  · rw [(srt_perm R).mem_iff, m1 x, good_asc hb hb2 hp1 hp hm x]
    simp
  · have hsh := f1.short
    rw [impl_owns.f, hw, show (0 : Int) = ((0 : Nat) : Int) from rfl, e1 k hk, Option.bind_some, Sort_eq _ (by omega)]
theorem try_all {m : Nat} (hm : m ≤ 40) {fd : List Int} (hf : Fnd fd) : ∃ (K : Nat) (R : List Int), Fnd R ∧ (∀ x, x ∈ R ↔ x ∈ fd ∨ Good b p m x) ∧ ∀ k, K ≤ k → spec_try.f k (b : Int) (p : Int) (m : Int) (wrap64 ((b : Int) - 1)) 0 (List.replicate (b : Int).toNat 0) fd = some R := by
  obtain ⟨K, R, f1, m1, e1⟩ := try_spec hb hb2 hp1 hp m [] (b - 1) fd (fun x hx => by simp at hx) (by simpa using hm) (by omega) hf
  have hw : wrap64 ((b : Int) - 1) = ((b - 1 : Nat) : Int) := by unfold wrap64; omega
  refine ⟨K, R, f1, fun x => ?_, fun k hk => ?_⟩
  · rw [m1 x, good_dsc hb hb2 hp1 hp hm x]
  · have := e1 k hk
    rw [hw, Int.toNat_natCast]
    exact this
end
theorem Narcissistic_both (m b : Int) : ∃ (K : Nat) (r : List Int) (ok : Bool), r.length ≤ 171798691841 ∧ ∀ k, K ≤ k → spec_Narcissistic.f k m b = some (r, ok) ∧ impl_Narcissistic.f k m b = some (r, ok) := by
  by_cases hm : 1 ≤ m ∧ m ≤ 6
  · by_cases hb : 2 ≤ b ∧ b ≤ 10
    · obtain ⟨c, rfl⟩ := Int.eq_ofNat_of_zero_le (show 0 ≤ b by omega)
      obtain ⟨q, rfl⟩ := Int.eq_ofNat_of_zero_le (show 0 ≤ m by omega)
      obtain ⟨K1, R1, f1, m1, e1⟩ := try_all (b := c) (p := q) (by omega) (by omega) (by omega) (by omega) (m := q) (by omega) (fd := []) ⟨List.Pairwise.nil, by simp⟩
      obtain ⟨K2, R2, f2, m2, e2⟩ := owns_spec (b := c) (p := q) (by omega) (by omega) (by omega) (by omega) (m := q) (by omega)
      obtain rfl : R1 = R2 := sorted_ext R1 R2 f1.1 f2.1 (fun z => by rw [m1 z, m2 z]; simp)
      have d1 : decide (1 ≤ (q : Int) ∧ (q : Int) ≤ 6) = true := decide_eq_true hm
      have d2 : decide (2 ≤ (c : Int) ∧ (c : Int) ≤ 10) = true := decide_eq_true hb
      refine ⟨K1 + K2, R1, true, f1.short, fun k hk => ⟨?_, ?_⟩⟩
      · rw [spec_Narcissistic.f, l1In_eq, d1, Option.bind_some, if_pos rfl, l1In_eq, d2, Option.bind_some, if_pos rfl, if_pos ⟨by omega, by omega⟩, e1 k (by omega), Option.bind_some]
      · rw [impl_Narcissistic.f, impl_isSmallBase.f, in_eq, d2, Option.bind_some, Option.bind_some, if_pos rfl, in_eq, d1, Option.bind_some, if_pos rfl, e2 k (by omega), Option.bind_some]
    · have d1 : decide (1 ≤ m ∧ m ≤ 6) = true := decide_eq_true hm
      have d2 : decide (2 ≤ b ∧ b ≤ 10) = false := decide_eq_false hb
      refine ⟨0, [], false, by simp, fun k _ => ⟨?_, ?_⟩⟩
      · rw [spec_Narcissistic.f, l1In_eq, d1, Option.bind_some, if_pos rfl, l1In_eq, d2, Option.bind_some, if_neg (by decide)]
      · rw [impl_Narcissistic.f, impl_isSmallBase.f, in_eq, d2, Option.bind_some, Option.bind_some, if_neg (by decide)]
  · have d1 : decide (1 ≤ m ∧ m ≤ 6) = false := decide_eq_false hm
    refine ⟨0, [], false, by simp, fun k _ => ⟨?_, ?_⟩⟩
    · rw [spec_Narcissistic.f, l1In_eq, d1, Option.bind_some, if_neg (by decide)]
    · rw [impl_Narcissistic.f, impl_isSmallBase.f, in_eq, Option.bind_some, Option.bind_some]
      split
      · rw [in_eq, d1, Option.bind_some, if_neg (by decide)]
      · rfl
theorem Narcissistic_law : laws_FnExactNarcissistic.Pure := by
  intro n b _ _
  obtain ⟨K0, r, ok, hr, h0⟩ := Narcissistic_both n b
  obtain ⟨K, hK⟩ : ∃ K, K = K0 + r.length + 1 := ⟨_, rfl⟩
  have hE : ∀ k, K ≤ k → laws_eqIntS.f k r r = some true := fun k h => (law_facts_long r (by omega) (show _ < k by omega)).1
  have hM : ∀ k, K ≤ k → laws_markIntS.f k r 1 = some (1 + (r.length : Int), marks 1 r.length) := fun k h => (law_facts_long r (by omega) (show _ < k by omega)).2.1
  have hH : ∀ k, K ≤ k → laws_heldIntS.f k (marks 1 r.length) 1 = some (1 + (r.length : Int)) := fun k h => (law_facts_long r (by omega) (show _ < k by omega)).2.2
  have hN := neg_no r
  have e1 : ∀ k, K ≤ k → spec_Narcissistic.f k n b = some (r, ok) := fun k h => (h0 k (by omega)).1
  have e2 : ∀ k, K ≤ k → impl_Narcissistic.f k n b = some (r, ok) := fun k h => (h0 k (by omega)).2
  refine ⟨K + 9, ?_⟩
  simp [laws_FnExactNarcissistic.f, laws_FnExactNarcissistic.j0, laws_FnExactNarcissistic.j1, hE, hM, hH, hN, e1, e2]
/-! ### all of them -/
theorem lsd_len {b : Nat} (hb : 2 ≤ b) : ∀ (d n : Nat), n < b ^ d → (lsd b n).length ≤ d := by
  intro d
  induction d with
  | zero => intro n hn; obtain rfl : n = 0 := by simpa using hn
            rw [lsd_zero]; simp
  | succ d ih =>
    intro n hn
    by_cases h0 : n = 0
    · subst h0; rw [lsd_zero]; simp
    · rw [lsd_pos hb (by omega)]
      have := ih (n / b) (Nat.div_lt_of_lt_mul (by rw [Nat.pow_succ, Nat.mul_comm] at hn; exact hn))
      simp only [List.length_cons]; omega
theorem lsd_lt {b : Nat} (hb : 2 ≤ b) : ∀ n : Nat, n < b ^ (lsd b n).length := by
  intro n
  induction n using Nat.strongRecOn with
  | ind n ih =>
    by_cases h0 : n = 0
    · subst h0; exact Nat.pow_pos (by omega)
    · rw [lsd_pos hb (by omega), List.length_cons, Nat.pow_succ]
      have h1 := ih (n / b) (Nat.div_lt_self (by omega) (by omega))
      exact (Nat.div_lt_iff_lt_mul (by omega)).1 h1
theorem shorter {b x y : Nat} (hb : 2 ≤ b) (h : (dg b x).length < (dg b y).length) : x < y := by
  by_cases hc : x < y
  · exact hc
  · have h1 : (lsd b y).length ≤ (lsd b x).length := lsd_len hb _ _ (Nat.lt_of_le_of_lt (by omega) (lsd_lt hb x))
    have h2 : ∀ n, (dg b n).length = if n = 0 then 1 else (lsd b n).length := fun n => by
      unfold dg; split <;> simp
    rw [h2, h2] at h
    by_cases hx : x = 0
    · have : y = 0 := by omega
      subst hx; subst this
      simp at h
    · rw [if_neg hx] at h
      have h3 : 1 ≤ (lsd b x).length := by rw [lsd_pos hb (by omega)]; simp
      split at h <;> omega
section
variable {b p F : Nat} (hb : 2 ≤ b) (hb2 : b ≤ 10) (hp1 : 1 ≤ p) (hp : p ≤ 6) (hF : F < 40) (hfl : ∀ k, 90 ≤ k → spec_pwFalls.f k (b : Int) (p : Int) = some (F : Int) ∧ impl_fallsFrom.f k (b : Int) (p : Int) = some (F : Int))
include hb hb2 hp1 hp hF hfl
theorem spec_own_loop : ∀ e d, e + d = F → 1 ≤ d → ∀ fd, Fnd fd → (∀ x, x ∈ fd ↔ ∃ m, 1 ≤ m ∧ m < d ∧ Good b p m x) → ∃ (K : Nat) (R : List Int), Fnd R ∧ (∀ x, x ∈ R ↔ ∃ m, 1 ≤ m ∧ m < F ∧ Good b p m x) ∧ ∀ k, K ≤ k → spec_OwnPowers.l0 k (b : Int) (p : Int) fd (d : Int) = some (R, true) := by
  intro e
  induction e with
  | zero =>
    intro d hd h1 fd hf hm
    obtain rfl : d = F := by omega
    refine ⟨91, fd, hf, hm, fun k hk => ?_⟩
    obtain ⟨k, rfl⟩ : ∃ q, k = q + 1 := ⟨k - 1, by omega⟩
    rw [spec_OwnPowers.l0, (hfl k (by omega)).1, Option.bind_some, if_neg (by omega)]
  | succ e ih =>
    intro d hd h1 fd hf hm
    obtain ⟨K1, R1, f1, m1, e1⟩ := try_all hb hb2 hp1 hp (m := d) (by omega) hf
    obtain ⟨K2, R2, f2, m2, e2⟩ := ih (d + 1) (by omega) (by omega) R1 f1 (fun x => by
      rw [m1 x, hm x]
      constructor
      · rintro (⟨m, h1, h2, h3⟩ | h)
        · exact ⟨m, h1, by omega, h3⟩
        · exact ⟨d, by omega, by omega, h⟩
      · rintro ⟨m, h1, h2, h3⟩
        by_cases he : m = d
        · subst he; exact .inr h3
        · exact .inl ⟨m, h1, by omega, h3⟩)
    refine ⟨K1 + K2 + 91, R2, f2, m2, fun k hk => ?_⟩
    obtain ⟨k, rfl⟩ : ∃ q, k = q + 1 := ⟨k - 1, by omega⟩
    rw [spec_OwnPowers.l0, (hfl k (by omega)).1, Option.bind_some, if_pos (by omega), if_pos ⟨by omega, by omega⟩, e1 k (by omega), Option.bind_some, w64s (by omega)]
    exact e2 k (by omega)
theorem impl_own_loop : ∀ e d, e + d = F → 1 ≤ d → ∀ fd, Fnd fd → (∀ x, x ∈ fd ↔ ∃ m, 1 ≤ m ∧ m < d ∧ Good b p m x) → ∃ (K : Nat) (R : List Int), Fnd R ∧ (∀ x, x ∈ R ↔ ∃ m, 1 ≤ m ∧ m < F ∧ Good b p m x) ∧ ∀ k, K ≤ k → impl_OwnPowers.l0 k (b : Int) (p : Int) fd (d : Int) = some (R, true) := by
  intro e
  induction e with
  | zero =>
    intro d hd h1 fd hf hm
    obtain rfl : d = F := by omega
    refine ⟨91, fd, hf, hm, fun k hk => ?_⟩
    obtain ⟨k, rfl⟩ : ∃ q, k = q + 1 := ⟨k - 1, by omega⟩
    rw [impl_OwnPowers.l0, (hfl k (by omega)).2, Option.bind_some, if_neg (by omega)]
  | succ e ih =>
    intro d hd h1 fd hf hm
    obtain ⟨K1, R1, f1, m1, e1⟩ := owns_spec hb hb2 hp1 hp (m := d) (by omega)
    have f3 : Fnd (fd ++ R1) := by
      refine ⟨List.pairwise_append.2 ⟨hf.1, f1.1, fun a ha c hc => ?_⟩, fun x hx => ?_⟩
      · obtain ⟨m, h2, h3, h4⟩ := (hm a).1 ha
        have h5 := (m1 c).1 hc
        have h6 := shorter (x := a.toNat) (y := c.toNat) hb (by rw [h4.2.1, h5.2.1]; omega)
        have := h4.1
        have := h5.1
        omega
      · rcases List.mem_append.1 hx with hx | hx
        · exact hf.2 x hx
        · exact f1.2 x hx
    obtain ⟨K2, R2, f2, m2, e2⟩ := ih (d + 1) (by omega) (by omega) (fd ++ R1) f3 (fun x => by
      rw [List.mem_append, m1 x, hm x]
      constructor
      · rintro (⟨m, h1, h2, h3⟩ | h)
        · exact ⟨m, h1, by omega, h3⟩
        · exact ⟨d, by omega, by omega, h⟩
      · rintro ⟨m, h1, h2, h3⟩
        by_cases he : m = d
        · subst he; exact .inr h3
        · exact .inl ⟨m, h1, by omega, h3⟩)
    have s1 := hf.short
    have s2 := f1.short
    refine ⟨K1 + K2 + 91, R2, f2, m2, fun k hk => ?_⟩
    obtain ⟨k, rfl⟩ : ∃ q, k = q + 1 := ⟨k - 1, by omega⟩
    rw [impl_OwnPowers.l0, (hfl k (by omega)).2, Option.bind_some, if_pos (by omega), e1 k (by omega), Option.bind_some, if_pos (by omega), w64s (by omega)]
    exact e2 k (by omega)
end
theorem OwnPowers_both (b p : Int) : ∃ (K : Nat) (r : List Int) (ok : Bool), r.length ≤ 171798691841 ∧ ∀ k, K ≤ k → spec_OwnPowers.f k b p = some (r, ok) ∧ impl_OwnPowers.f k b p = some (r, ok) := by
  by_cases hb : 2 ≤ b ∧ b ≤ 10
  · have d2 : decide (2 ≤ b ∧ b ≤ 10) = true := decide_eq_true hb
    by_cases hp : 1 ≤ p ∧ p ≤ 6
    · have d1 : decide (1 ≤ p ∧ p ≤ 6) = true := decide_eq_true hp
      obtain ⟨c, rfl⟩ := Int.eq_ofNat_of_zero_le (show 0 ≤ b by omega)
      obtain ⟨q, rfl⟩ := Int.eq_ofNat_of_zero_le (show 0 ≤ p by omega)
      obtain ⟨F, hF, hF1, hfl⟩ := fall_at (b := c) (p := q) (by omega) (by omega) (by omega) (by omega)
      have hno : ∀ x, x ∈ ([] : List Int) ↔ ∃ m, 1 ≤ m ∧ m < 1 ∧ Good c q m x := fun x => ⟨fun h => by simp at h, fun ⟨m, h1, h2, _⟩ => by omega⟩
      obtain ⟨K1, R1, f1, m1, e1⟩ := spec_own_loop (by omega) (by omega) (by omega) (by omega) hF hfl (F - 1) 1 (by omega) (by omega) [] ⟨List.Pairwise.nil, by simp⟩ hno
      obtain ⟨K2, R2, f2, m2, e2⟩ := impl_own_loop (by omega) (by omega) (by omega) (by omega) hF hfl (F - 1) 1 (by omega) (by omega) [] ⟨List.Pairwise.nil, by simp⟩ hno
      obtain rfl : R1 = R2 := sorted_ext R1 R2 f1.1 f2.1 (fun z => by rw [m1 z, m2 z])
      refine ⟨K1 + K2 + 1, R1, true, f1.short, fun k hk => ⟨?_, ?_⟩⟩
      · rw [spec_OwnPowers.f, l1In_eq, d2, Option.bind_some, if_pos rfl, pwPower_eq, d1, Option.bind_some, if_pos rfl]
        exact e1 k (by omega)
      · obtain ⟨k, rfl⟩ : ∃ q, k = q + 1 := ⟨k - 1, by omega⟩
        rw [impl_OwnPowers.f, impl_isSmallBase.f, in_eq, d2, Option.bind_some, Option.bind_some, if_pos rfl, in_eq, d1, Option.bind_some, impl_OwnPowers.j0, if_neg (by decide)]
        exact e2 k (by omega)
    · have d1 : decide (1 ≤ p ∧ p ≤ 6) = false := decide_eq_false hp
      refine ⟨1, [], false, by simp, fun k hk => ⟨?_, ?_⟩⟩
      · rw [spec_OwnPowers.f, l1In_eq, d2, Option.bind_some, if_pos rfl, pwPower_eq, d1, Option.bind_some, if_neg (by decide)]
      · obtain ⟨k, rfl⟩ : ∃ q, k = q + 1 := ⟨k - 1, by omega⟩
        rw [impl_OwnPowers.f, impl_isSmallBase.f, in_eq, d2, Option.bind_some, Option.bind_some, if_pos rfl, in_eq, d1, Option.bind_some, impl_OwnPowers.j0, if_pos (by decide)]
  · have d2 : decide (2 ≤ b ∧ b ≤ 10) = false := decide_eq_false hb
    refine ⟨1, [], false, by simp, fun k hk => ⟨?_, ?_⟩⟩
    · rw [spec_OwnPowers.f, l1In_eq, d2, Option.bind_some, if_neg (by decide)]
    · obtain ⟨k, rfl⟩ : ∃ q, k = q + 1 := ⟨k - 1, by omega⟩
      rw [impl_OwnPowers.f, impl_isSmallBase.f, in_eq, d2, Option.bind_some, Option.bind_some, if_neg (by decide), impl_OwnPowers.j0, if_pos rfl]
theorem OwnPowers_law : laws_FnExactOwnPowers.Pure := by
  intro n b _ _
  obtain ⟨K0, r, ok, hr, h0⟩ := OwnPowers_both n b
  obtain ⟨K, hK⟩ : ∃ K, K = K0 + r.length + 1 := ⟨_, rfl⟩
  have hE : ∀ k, K ≤ k → laws_eqIntS.f k r r = some true := fun k h => (law_facts_long r (by omega) (show _ < k by omega)).1
  have hM : ∀ k, K ≤ k → laws_markIntS.f k r 1 = some (1 + (r.length : Int), marks 1 r.length) := fun k h => (law_facts_long r (by omega) (show _ < k by omega)).2.1
  have hH : ∀ k, K ≤ k → laws_heldIntS.f k (marks 1 r.length) 1 = some (1 + (r.length : Int)) := fun k h => (law_facts_long r (by omega) (show _ < k by omega)).2.2
  have hN := neg_no r
  have e1 : ∀ k, K ≤ k → spec_OwnPowers.f k n b = some (r, ok) := fun k h => (h0 k (by omega)).1
  have e2 : ∀ k, K ≤ k → impl_OwnPowers.f k n b = some (r, ok) := fun k h => (h0 k (by omega)).2
  refine ⟨K + 9, ?_⟩
  simp [laws_FnExactOwnPowers.f, laws_FnExactOwnPowers.j0, laws_FnExactOwnPowers.j1, hE, hM, hH, hN, e1, e2]
end Go.Proofs.YtehhkkbejmhcfaaC
