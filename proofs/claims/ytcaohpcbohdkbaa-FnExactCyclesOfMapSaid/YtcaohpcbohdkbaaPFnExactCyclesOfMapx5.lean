/- Each Go function that FnExactCyclesOfMap reaches, as a plain Lean function, and a proof that the Go code comes to its answers. No conditions. (Written by a program.) -/
import Derived.Test.YtcaohpcbohdkbaaPFnExactCyclesOfMapx0
import Derived.Test.YtcaohpcbohdkbaaPFnExactCyclesOfMapx2
import Derived.Test.YtcaohpcbohdkbaaPFnExactCyclesOfMapx4
namespace Go.Proofs.Ytcaohpcbohdkbaa.PFnExactCyclesOfMap
open Go.RowKit Go.Proofs.YtcaohpcbohdkbaaW.PrintWords Go.Proofs.YtcaohpcbohdkbaaW.PrintLast Go.Proofs.YtcaohpcbohdkbaaW.PrintMore
attribute [local go_sem] max2_int min2_int max_two min_two max_three min_three max_four min_four   -- for this text's walks alone
set_option linter.unusedVariables false
set_option linter.unusedSimpArgs false

/-! ### laws_markIntS: function 13 -/
def laws_markIntS.l0 : Nat → List Int → Int → Int → Option (Int × List Int)
  | 0, _, _, _ => none
  | k + 1, x0, x1, x5 => if x5 < (x0.length : Int) then (if 0 ≤ x5 then (laws_markIntS.l0 k (x0.set (x5 : Int).toNat x1) (wrap64 (x1 + 1)) (wrap64 (x5 + 1))) else (none)) else (some (x1, x0))
def laws_markIntS.f (k : Nat) (l0 : List Int) (a1 : Int) : Option (Int × List Int) := laws_markIntS.l0 k l0 a1 0
theorem laws_markIntS.mono_l : ∀ k, (∀ y0 y1 y2, LeO (laws_markIntS.l0 k y0 y1 y2) (laws_markIntS.l0 (k + 1) y0 y1 y2))
  | 0 => fun _ _ _ r h => by simp [laws_markIntS.l0] at h
  | k + 1 => by
    have ih0 := laws_markIntS.mono_l k
    · intro y0 y1 y2
      unfold laws_markIntS.l0
      repeat' first
      | (with_reducible exact ih0 _ _ _)
      | (with_reducible exact LeO.refl _)
      | (with_reducible exact LeO.none _)
      | (with_reducible refine LeO.ite ?_ ?_)
      | (with_reducible refine LeO.bind ?_ (fun _ => ?_))
      | exact ih0 _ _ _
      | exact LeO.none _
      | refine LeO.ite ?_ ?_
      | refine LeO.bind ?_ (fun _ => ?_)
theorem laws_markIntS.mono : ∀ a0 a1 k, LeO (laws_markIntS.f k a0 a1) (laws_markIntS.f (k + 1) a0 a1) := by
  intro a0 a1 k
  have ih0 := laws_markIntS.mono_l k
  unfold laws_markIntS.f
  repeat' first
      | (with_reducible exact ih0 _ _ _)
      | (with_reducible exact LeO.refl _)
      | (with_reducible exact LeO.none _)
      | (with_reducible refine LeO.ite ?_ ?_)
      | (with_reducible refine LeO.bind ?_ (fun _ => ?_))
      | exact ih0 _ _ _
      | exact LeO.none _
      | refine LeO.ite ?_ ?_
      | refine LeO.bind ?_ (fun _ => ?_)
set_option maxHeartbeats 8000000 in
set_option maxRecDepth 100000 in
theorem laws_markIntS.calls (k : Nat) (P0_ : Nat → Prop) (u9000_ : Value) (l0 : List Int) (a1 : Int) (r1 : Int) (r2 : List Int) (w0 w : World) (hB : Below w0.heap.size w0 w) (ho0 : Kd.R (Kd.int .i64) 3 w w0.heap.size P0_ u9000_ l0) (h : laws_markIntS.f k l0 a1 = some (r1, r2)) :
    Calls Try.prog 13 #[u9000_, .int .i64 a1] w fun e w' => e = .returned (.int .i64 r1) ∧ Kd.R (Kd.int .i64) 3 w' w0.heap.size (fun k_ => (P0_ k_ ∨ w.heap.size ≤ k_)) u9000_ r2 ∧ Below w0.heap.size w0 w' ∧ Kept w w' (fun k_ => P0_ k_) := by
  have HO0 := Aside0.mk (show Kd.R (Kd.int .i64) 3 w w0.heap.size (fun k_ => (P0_ k_ ∨ w.heap.size ≤ k_)) u9000_ l0 from Kd.R_mono ho0 (fun k_ hk => (.inl hk)))
  have HK := Aside0.mk (Kept.refl w (fun k_ => P0_ k_))
  have HW0 := Aside0.mk hB.size
  have HB := Aside0.mk hB
  clear hB
  have H : (laws_markIntS.l0 k l0 a1 0) = some (r1, r2) := h
  clear h
  have H' := Aside0.mk H
  clear H
  go_enter Try.func13, Try.ntmps13
  go_wp2
  go_loopg [1, 5] k (fun kq v1 v5 w' => ∃ (x0_1 : List Int) (x1_1 : Int) (x5_1 : Int), v1 = .int .i64 x1_1 ∧ v5 = .int .i64 x5_1 ∧ Aside0 (laws_markIntS.l0 kq x0_1 x1_1 x5_1 = some (r1, r2)) ∧ Aside0 (kq ≤ k) ∧ Aside0 (Kd.R (Kd.int .i64) 3 w' w0.heap.size (fun k_ => (P0_ k_ ∨ w.heap.size ≤ k_)) u9000_ x0_1) ∧ Aside0 (Kept w w' (fun k_ => P0_ k_)) ∧ Aside0 (Below w0.heap.size w0 w'))
  case atStart => exact ⟨(l0), (a1), (0), (by first | rfl | (simp; done) | (simp [*]; done)), (by first | rfl | (simp; done) | (simp [*]; done)), H', ⟨Nat.le_refl _⟩, ⟨by (with_reducible repeat (first | apply Kd.R_alloc | apply Kd.R_drewN | apply Kd.R_drew)); exact HO0.out⟩, ⟨by repeat (first | (with_reducible first | exact HK.out | apply Kept.alloc | apply Kept.drewN | apply Kept.drew) | exact HK.out)⟩, ⟨by repeat (first | (with_reducible first | exact HB.out | apply below_alloc | apply pw_below_drewN | apply below_drew1) | exact HB.out)⟩⟩
  case round =>
    clear H'
    try clear c1
    try clear p2
    obtain ⟨x0_1, x1_1, x5_1, rfl, rfl, HA, HK1, HO_0, HK, HB⟩ := hrel
    cases gk with
    | zero => exact absurd HA.out (by simp [laws_markIntS.l0])
    | succ k1 =>
      have H := HA.out
      clear HA
      simp only [laws_markIntS.l0] at H
      by_cases c3 : x5_1 < (x0_1.length : Int)
      · rw [if_pos c3] at H
        have c3b0 : decide (x5_1 < (x0_1.length : Int)) = true := decide_eq_true c3
        clear c3
        by_cases c4 : 0 ≤ x5_1
        · rw [if_pos c4] at H
          have c4b0 : decide (0 ≤ x5_1) = true := decide_eq_true c4
          clear c4
          obtain ⟨y206, hy206⟩ : ∃ y_ : List Int, y_ = (x0_1.set (x5_1 : Int).toNat x1_1) := ⟨_, rfl⟩
          replace H : (laws_markIntS.l0 k1 y206 (wrap64 (x1_1 + 1)) (wrap64 (x5_1 + 1))) = some (r1, r2) := by first | (rw [hy206]; with_reducible exact H) | (have H2_ := (Option.bind_some _ _).symm.trans H; rw [hy206]; with_reducible exact H2_) | (have H2_ := (Option.bind_some _ _).symm.trans H; with_reducible exact H2_) | with_reducible exact H | (rw [hy206]; exact H) | exact H
          have Ny206 := Aside0.mk hy206
          clear hy206
          have H' := Aside0.mk H
          clear H
          obtain ⟨Ao6, co6, eo6⟩ := Kd.R_slice HO_0.out
          subst eo6
          have p5 : 0 ≤ (x5_1 : Int) := of_decide_eq_true (by first | (with_reducible assumption) | assumption)
          have q5 : (x5_1 : Int) < ((x0_1.length : Int) : Int) := of_decide_eq_true (by first | (with_reducible assumption) | assumption)
          obtain ⟨go5, co5, eo5, gb5, gl5, cl5, HG5⟩ := Kd.R_form HO_0.out (by omega)
          (first | cases eo5 | (injection eo5 with ea_ en_ ec_; (first | subst ea_ | (injection ea_ with ea_; subst ea_)); subst ec_; clear en_))
          have GB5 := Aside0.mk gb5
          have GG5 := Aside0.mk HG5
          clear gb5 gl5 HG5
          have HMgo5 := Aside0.mk (show (P0_ go5 ∨ w.heap.size ≤ go5) from (HO_0.out.1 _ rfl))
          obtain ⟨hx5_0, hf5_0⟩ := Kd.R_celln 0 HO_0.out (x5_1 : Int) p5 q5
          replace p5 := eq_true p5
          replace q5 := eq_true q5
          have HP7 := Kd.R_putg HO_0.out (x5_1 : Int) x1_1
          go_wp2_with (first | ((with_reducible refine gate_store (t := 3) (p := 15) rfl ?_); refine store_event (t := 3) (p := 15) (v := ?vo_w8) (w1 := (wr.setCell ⟨go5, (x5_1 : Int).toNat, none⟩ (.int .i64 x1_1))) ?hg ?ho ?hn ?hr ?_; (case ho => rfl); (case hg => rfl); (case hn => rfl); (case hr => first | (go_simp; done) | (go_simp; rfl)); intro w8 hw; have hg : wr.grownBy w8 (some go5) := (by rw [hw]; exact HP7.2); have hp_ : Kd.R (Kd.int .i64) 3 w8 w0.heap.size (fun k_ => (P0_ k_ ∨ w.heap.size ≤ k_)) (.slice (some ⟨go5, 0, none⟩) x0_1.length co6) y206 := (by rw [hw, Ny206.out]; exact HP7.1); clear HP7; have n0_ := Aside0.mk (hp_); have n1_ := Aside0.mk ((by rw [hw]; exact below_set (HB.out) GB5.out : Below w0.heap.size w0 w8)); have n2_ := Aside0.mk (Kept.of_grown (S := (fun k_ => P0_ k_)) hg (by repeat (first | (with_reducible first | exact HK.out | apply Kept.alloc | apply Kept.drewN | apply Kept.drew) | exact HK.out)) (fun k_ e_ => (HO_0.out.1 k_ e_))); clear HO_0; clear HB; clear HK; have HO_0 := n0_; have HB := n1_; have HK := n2_; clear n0_ n1_ n2_; clear hg hw hp_))
          go_roundg k1
          case measure => have := HK1.out; omega
          case rel => exact ⟨(y206), (wrap64 (x1_1 + 1)), (wrap64 (x5_1 + 1)), (by first | rfl | (simp; done) | (simp [*]; done)), (by first | rfl | (simp; done) | (simp [*]; done)), H', ⟨by have := HK1.out; omega⟩, ⟨by (with_reducible repeat (first | apply Kd.R_alloc | apply Kd.R_drewN | apply Kd.R_drew)); exact HO_0.out⟩, ⟨by repeat (first | (with_reducible first | exact HK.out | apply Kept.alloc | apply Kept.drewN | apply Kept.drew) | exact HK.out)⟩, ⟨by repeat (first | (with_reducible first | exact HB.out | apply below_alloc | apply pw_below_drewN | apply below_drew1) | exact HB.out)⟩⟩
        · rw [if_neg c4] at H
          exact absurd H (by simp)
      · rw [if_neg c3] at H
        have c3b0 : decide (x5_1 < (x0_1.length : Int)) = false := decide_eq_false c3
        clear c3
        simp only [Option.some.injEq, Prod.mk.injEq] at H
        obtain ⟨rfl, rfl⟩ := H
        obtain ⟨Ao9, co9, eo9⟩ := Kd.R_slice HO_0.out
        subst eo9
        go_wp2
        go_ret
        exact ⟨by first | rfl | (simp [errW_none, errW_some] <;> rfl) | (simp [*, errW_none, errW_some] <;> rfl), by (with_reducible repeat (first | apply Kd.R_alloc | apply Kd.R_drewN | apply Kd.R_drew)); exact HO_0.out, by repeat (first | (with_reducible first | exact HB.out | apply below_alloc | apply pw_below_drewN | apply below_drew1) | exact HB.out), by repeat (first | (with_reducible first | exact HK.out | apply Kept.alloc | apply Kept.drewN | apply Kept.drew) | exact HK.out)⟩

/-! ### laws_markIntSS: function 14 -/
def laws_markIntSS.l0 : Nat → List (List Int) → Int → Int → Option (Int × List (List Int))
  | 0, _, _, _ => none
  | k + 1, x0, x1, x2 => if x2 < (x0.length : Int) then (if 0 ≤ x2 then ((laws_markIntS.f k (rd_L2 x0 x2) x1).bind fun bt => (laws_markIntSS.l0 k (x0.set (x2 : Int).toNat bt.2) bt.1 (wrap64 (x2 + 1)))) else (none)) else (some (x1, x0))
def laws_markIntSS.f (k : Nat) (l0 : List (List Int)) (a1 : Int) : Option (Int × List (List Int)) := laws_markIntSS.l0 k l0 a1 0
theorem laws_markIntSS.mono_l : ∀ k y0 y1 y2, LeO (laws_markIntSS.l0 k y0 y1 y2) (laws_markIntSS.l0 (k + 1) y0 y1 y2)
  | 0, _, _, _ => fun r h => by simp [laws_markIntSS.l0] at h
  | k + 1, y0, y1, y2 => by
    have ih := laws_markIntSS.mono_l k
    rw [laws_markIntSS.l0, laws_markIntSS.l0]
    refine LeO.ite (LeO.ite (LeO.bind (laws_markIntS.mono _ _ k) (fun t => ih _ _ _)) (LeO.none _)) (LeO.refl _)
theorem laws_markIntSS.mono : ∀ a0 a1 k, LeO (laws_markIntSS.f k a0 a1) (laws_markIntSS.f (k + 1) a0 a1) := fun a0 a1 k => laws_markIntSS.mono_l k a0 a1 0
set_option maxHeartbeats 8000000 in
set_option maxRecDepth 100000 in
theorem laws_markIntSS.calls (k : Nat) (P0_ : Nat → Prop) (u9000_ : Value) (l0 : List (List Int)) (a1 : Int) (r1 : Int) (r2 : List (List Int)) (w0 w : World) (hB : Below w0.heap.size w0 w) (ho0 : Kd.S (Kd.slice 3 (Kd.int .i64)) 22 w w0.heap.size P0_ u9000_ l0) (h : laws_markIntSS.f k l0 a1 = some (r1, r2)) :
    Calls Try.prog 14 #[u9000_, .int .i64 a1] w fun e w' => e = .returned (.int .i64 r1) ∧ Kd.S (Kd.slice 3 (Kd.int .i64)) 22 w' w0.heap.size P0_ u9000_ r2 ∧ Below w0.heap.size w0 w' ∧ Kept w w' (fun k_ => P0_ k_) := by
  have HO0 := Aside0.mk ho0
  have HK := Aside0.mk (Kept.refl w (fun k_ => P0_ k_))
  have HB := Aside0.mk hB
  clear hB ho0
  have H' := Aside0.mk (show (laws_markIntSS.l0 k l0 a1 0) = some (r1, r2) from h)
  clear h
  go_enter Try.func14, Try.ntmps14
  go_wp2
  go_loopg [1, 5] k (fun kq v1 v2 w' => ∃ (x0_1 : List (List Int)) (x1_1 : Int) (x2_1 : Int), v1 = .int .i64 x1_1 ∧ v2 = .int .i64 x2_1 ∧ Aside0 (laws_markIntSS.l0 kq x0_1 x1_1 x2_1 = some (r1, r2)) ∧ Aside0 (kq ≤ k) ∧ Aside0 (Kd.S (Kd.slice 3 (Kd.int .i64)) 22 w' w0.heap.size P0_ u9000_ x0_1) ∧ Aside0 (Kept w w' (fun k_ => P0_ k_)) ∧ Aside0 (Below w0.heap.size w0 w'))
  case atStart => exact ⟨l0, a1, 0, rfl, rfl, H', ⟨Nat.le_refl _⟩, HO0, HK, HB⟩
  case round =>
    clear H' HO0 HK HB
    obtain ⟨x0_1, x1_1, x2_1, rfl, rfl, HA, HK1, HO_0, HK, HB⟩ := hrel
    cases gk with
    | zero => exact absurd HA.out (by simp [laws_markIntSS.l0])
    | succ k1 =>
      have H := HA.out
      clear HA
      simp only [laws_markIntSS.l0] at H
      obtain ⟨Ao6, co6, eo6⟩ := Kd.S_slice HO_0.out
      subst eo6
      by_cases c3 : x2_1 < (x0_1.length : Int)
      · rw [if_pos c3] at H
        have c3b0 : decide (x2_1 < (x0_1.length : Int)) = true := decide_eq_true c3
        by_cases c4 : 0 ≤ x2_1
        · rw [if_pos c4] at H
          have c4b0 : decide (0 ≤ x2_1) = true := decide_eq_true c4
          obtain ⟨⟨m1, row2⟩, hm, H⟩ := Option.bind_eq_some_iff.mp H
          obtain ⟨go5, co5, eo5, -, -, -⟩ := Kd.S_form HO_0.out (by omega)
          injection eo5 with ea_ en_ ec_
          subst ea_
          obtain ⟨oki, cs, hcl, ⟨v5, rfl, hR5⟩, hcell, hoki, hH⟩ := Kd.S_lend HO_0.out ([] : List Int) x2_1 c4 c3
          have hc0 := hcell 0 v5 rfl
          rw [show x2_1.toNat * (Kd.slice 3 (Kd.int .i64)).sz + 0 = x2_1.toNat from by show x2_1.toNat * 1 + 0 = _; omega] at hc0
          clear hcell hcl
          obtain ⟨Ao7, co7, eo7⟩ := Kd.R_slice hR5
          subst eo7
          have HR5 := Aside0.mk (show Kd.R (Kd.int .i64) 3 wr w0.heap.size oki _ (rd_L2 x0_1 x2_1) from hR5)
          have HM := Aside0.mk (show laws_markIntS.f k1 (rd_L2 x0_1 x2_1) x1_1 = some (m1, row2) from hm)
          have HH := Aside0.mk hH
          have HOK := Aside0.mk hoki
          have H' := Aside0.mk (show laws_markIntSS.l0 k1 (x0_1.set x2_1.toNat row2) m1 (wrap64 (x2_1 + 1)) = some (r1, r2) from H)
          have hlen : (x0_1.getD x2_1.toNat []).length = (rd_L2 x0_1 x2_1).length := rfl
          rw [hlen] at HR5 hc0 HH
          have p5 := eq_true c4
          have q5 := eq_true c3
          clear hR5 hm hH hoki H hlen c4 c3 en_ ec_
          generalize hrow : rd_L2 x0_1 x2_1 = row1 at HR5 HM hc0 HH
          clear hrow
          go_wp2_with (go_at_call 13; refine (laws_markIntS.calls k1 oki (.slice Ao7 row1.length co7) row1 x1_1 m1 row2 w0 wr HB.out HR5.out HM.out).mono ?_; rintro e w2 ⟨rfl, hR6, hB6, hK6⟩)
          go_roundg k1
          case measure => have := HK1.out; omega
          case rel =>
            refine ⟨x0_1.set x2_1.toNat row2, m1, wrap64 (x2_1 + 1), rfl, by first | rfl | (simp; done) | (simp [*]; done), H', ⟨by have := HK1.out; omega⟩, ⟨?_⟩, ⟨Kept.then_ HK.out hK6 (fun k hk => .inl (HOK.out k hk).1)⟩, ⟨hB6⟩⟩
            exact Kd.H_back (Kd.H_kept HH.out hK6 (fun k _ hn hs => hn hs)) ⟨_, rfl, Kd.R_reok rfl hR6 (fun k e => HR5.out.1 k e)⟩ (fun _ hk => hk)
        · rw [if_neg c4] at H
          exact absurd H (by simp)
      · rw [if_neg c3] at H
        have c3b0 : decide (x2_1 < (x0_1.length : Int)) = false := decide_eq_false c3
        clear c3
        simp only [Option.some.injEq, Prod.mk.injEq] at H
        obtain ⟨rfl, rfl⟩ := H
        go_wp2
        go_ret
        exact ⟨rfl, HO_0.out, HB.out, HK.out⟩

/-! ### laws_heldIntS: function 18 -/
def laws_heldIntS.l0 : Nat → List Int → Int → Int → Option (Int)
  | 0, _, _, _ => none
  | k + 1, x0, x1, x5 => if x5 < (x0.length : Int) then (if 0 ≤ x5 then (if (rd x0 x5) = x1 then (laws_heldIntS.l0 k x0 (wrap64 (x1 + 1)) (wrap64 (x5 + 1))) else (some (-1))) else (none)) else (some x1)
def laws_heldIntS.f (k : Nat) (l0 : List Int) (a1 : Int) : Option (Int) := laws_heldIntS.l0 k l0 a1 0
theorem laws_heldIntS.mono_l : ∀ k, (∀ y0 y1 y2, LeO (laws_heldIntS.l0 k y0 y1 y2) (laws_heldIntS.l0 (k + 1) y0 y1 y2))
  | 0 => fun _ _ _ r h => by simp [laws_heldIntS.l0] at h
  | k + 1 => by
    have ih0 := laws_heldIntS.mono_l k
    · intro y0 y1 y2
      unfold laws_heldIntS.l0
      repeat' first
      | (with_reducible exact ih0 _ _ _)
      | (with_reducible exact LeO.refl _)
      | (with_reducible exact LeO.none _)
      | (with_reducible refine LeO.ite ?_ ?_)
      | (with_reducible refine LeO.bind ?_ (fun _ => ?_))
      | exact ih0 _ _ _
      | exact LeO.none _
      | refine LeO.ite ?_ ?_
      | refine LeO.bind ?_ (fun _ => ?_)
theorem laws_heldIntS.mono : ∀ a0 a1 k, LeO (laws_heldIntS.f k a0 a1) (laws_heldIntS.f (k + 1) a0 a1) := by
  intro a0 a1 k
  have ih0 := laws_heldIntS.mono_l k
  unfold laws_heldIntS.f
  repeat' first
      | (with_reducible exact ih0 _ _ _)
      | (with_reducible exact LeO.refl _)
      | (with_reducible exact LeO.none _)
      | (with_reducible refine LeO.ite ?_ ?_)
      | (with_reducible refine LeO.bind ?_ (fun _ => ?_))
      | exact ih0 _ _ _
      | exact LeO.none _
      | refine LeO.ite ?_ ?_
      | refine LeO.bind ?_ (fun _ => ?_)
set_option maxHeartbeats 8000000 in
set_option maxRecDepth 100000 in
theorem laws_heldIntS.calls (k : Nat) (A0 : Option Addr) (c0 : Nat) (l0 : List Int) (a1 : Int) (r : Int) (w : World) (hr0 : Kd.C (Kd.int .i64) w A0 l0.length l0) (hc0 : l0.length ≤ c0) (h : laws_heldIntS.f k l0 a1 = some r) :
    Calls Try.prog 18 #[.slice A0 l0.length c0, .int .i64 a1] w fun e w' => e = .returned (.int .i64 r) ∧ Drawn0 w w' := by
  have HR0 := Aside0.mk hr0
  have HC0 := Aside0.mk hc0
  clear hr0 hc0
  have H : (laws_heldIntS.l0 k l0 a1 0) = some r := h
  clear h
  have H' := Aside0.mk H
  clear H
  go_enter Try.func18, Try.ntmps18
  go_wp2
  go_loopg [1, 5] k (fun kq v1 v5 w' => ∃ (x1_1 : Int) (x5_1 : Int), v1 = .int .i64 x1_1 ∧ v5 = .int .i64 x5_1 ∧ Aside0 (laws_heldIntS.l0 kq l0 x1_1 x5_1 = some r) ∧ Aside0 (kq ≤ k) ∧ Drawn0 w w')
  case atStart => exact ⟨(a1), (0), (by first | rfl | (simp; done) | (simp [*]; done)), (by first | rfl | (simp; done) | (simp [*]; done)), H', ⟨Nat.le_refl _⟩, by repeat (first | exact Drawn0.refl _ | apply Drawn0.step)⟩
  case round =>
    clear H'
    try clear c1
    try clear p2
    obtain ⟨x1_1, x5_1, rfl, rfl, HA, HK1, ⟨m1, rfl⟩⟩ := hrel
    cases gk with
    | zero => exact absurd HA.out (by simp [laws_heldIntS.l0])
    | succ k1 =>
      have H := HA.out
      clear HA
      simp only [laws_heldIntS.l0] at H
      by_cases c3 : x5_1 < (l0.length : Int)
      · rw [if_pos c3] at H
        have c3b0 : decide (x5_1 < (l0.length : Int)) = true := decide_eq_true c3
        clear c3
        by_cases c4 : 0 ≤ x5_1
        · rw [if_pos c4] at H
          have c4b0 : decide (0 ≤ x5_1) = true := decide_eq_true c4
          clear c4
          by_cases c5 : (rd l0 x5_1) = x1_1
          · rw [if_pos c5] at H
            have c5b0 : ((rd l0 x5_1) == x1_1) = true := beq_iff_eq.mpr c5
            have c5b1 : ((rd l0 x5_1) != x1_1) = false := bne_eq_false_iff_eq.mpr c5
            clear c5
            have H' := Aside0.mk H
            clear H
            have p207 : 0 ≤ (x5_1 : Int) := of_decide_eq_true (by first | (with_reducible assumption) | assumption)
            have q207 : x5_1 < (l0.length : Int) := of_decide_eq_true (by first | (with_reducible assumption) | assumption)
            obtain ⟨ad207, e207, hx207_0⟩ := Kd.at_int HR0.out x5_1 p207 q207
            cases e207
            replace p207 := eq_true p207
            replace q207 := eq_true q207
            go_wp2
            go_roundg k1
            case measure => have := HK1.out; omega
            case rel => exact ⟨(wrap64 (x1_1 + 1)), (wrap64 (x5_1 + 1)), (by first | rfl | (simp; done) | (simp [*]; done)), (by first | rfl | (simp; done) | (simp [*]; done)), H', ⟨by have := HK1.out; omega⟩, by repeat (first | exact Drawn0.refl _ | apply Drawn0.step)⟩
          · rw [if_neg c5] at H
            have c5b0 : ((rd l0 x5_1) == x1_1) = false := beq_eq_false_iff_ne.mpr c5
            have c5b1 : ((rd l0 x5_1) != x1_1) = true := bne_iff_ne.mpr c5
            obtain rfl := Option.some.inj H
            have p207 : 0 ≤ (x5_1 : Int) := of_decide_eq_true (by first | (with_reducible assumption) | assumption)
            have q207 : x5_1 < (l0.length : Int) := of_decide_eq_true (by first | (with_reducible assumption) | assumption)
            obtain ⟨ad207, e207, hx207_0⟩ := Kd.at_int HR0.out x5_1 p207 q207
            cases e207
            replace p207 := eq_true p207
            replace q207 := eq_true q207
            go_wp2
            go_ret
            exact ⟨by first | rfl | (simp; done) | (simp [*]; done), by repeat (first | exact Drawn0.refl _ | apply Drawn0.step)⟩
        · rw [if_neg c4] at H
          exact absurd H (by simp)
      · rw [if_neg c3] at H
        have c3b0 : decide (x5_1 < (l0.length : Int)) = false := decide_eq_false c3
        clear c3
        obtain rfl := Option.some.inj H
        go_wp2
        go_ret
        exact ⟨by first | rfl | (simp; done) | (simp [*]; done), by repeat (first | exact Drawn0.refl _ | apply Drawn0.step)⟩

/-! ### laws_heldIntSS: function 15 -/
def laws_heldIntSS.l0 : Nat → List (List Int) → Int → Int → Option (Int)
  | 0, _, _, _ => none
  | k + 1, x0, x1, x5 => if x5 < (x0.length : Int) then (if 0 ≤ x5 then ((laws_heldIntS.f k (rd_L2 x0 x5) x1).bind fun t209 => (if t209 < 0 then (some (-1)) else (laws_heldIntSS.l0 k x0 t209 (wrap64 (x5 + 1))))) else (none)) else (some x1)
def laws_heldIntSS.f (k : Nat) (l0 : List (List Int)) (a1 : Int) : Option (Int) := laws_heldIntSS.l0 k l0 a1 0
theorem laws_heldIntSS.mono_l : ∀ k, (∀ y0 y1 y2, LeO (laws_heldIntSS.l0 k y0 y1 y2) (laws_heldIntSS.l0 (k + 1) y0 y1 y2))
  | 0 => fun _ _ _ r h => by simp [laws_heldIntSS.l0] at h
  | k + 1 => by
    have ih0 := laws_heldIntSS.mono_l k
    · intro y0 y1 y2
      unfold laws_heldIntSS.l0
      repeat' first
      | (with_reducible exact ih0 _ _ _)
      | (with_reducible exact laws_heldIntS.mono _ _ _)
      | (with_reducible exact LeO.refl _)
      | (with_reducible exact LeO.none _)
      | (with_reducible refine LeO.ite ?_ ?_)
      | (with_reducible refine LeO.bind ?_ (fun _ => ?_))
      | exact ih0 _ _ _
      | exact laws_heldIntS.mono _ _ _
      | exact LeO.none _
      | refine LeO.ite ?_ ?_
      | refine LeO.bind ?_ (fun _ => ?_)
theorem laws_heldIntSS.mono : ∀ a0 a1 k, LeO (laws_heldIntSS.f k a0 a1) (laws_heldIntSS.f (k + 1) a0 a1) := by
  intro a0 a1 k
  have ih0 := laws_heldIntSS.mono_l k
  unfold laws_heldIntSS.f
  repeat' first
      | (with_reducible exact ih0 _ _ _)
      | (with_reducible exact laws_heldIntS.mono _ _ _)
      | (with_reducible exact LeO.refl _)
      | (with_reducible exact LeO.none _)
      | (with_reducible refine LeO.ite ?_ ?_)
      | (with_reducible refine LeO.bind ?_ (fun _ => ?_))
      | exact ih0 _ _ _
      | exact laws_heldIntS.mono _ _ _
      | exact LeO.none _
      | refine LeO.ite ?_ ?_
      | refine LeO.bind ?_ (fun _ => ?_)
set_option maxHeartbeats 8000000 in
set_option maxRecDepth 100000 in
theorem laws_heldIntSS.calls (k : Nat) (A0 : Option Addr) (c0 : Nat) (l0 : List (List Int)) (a1 : Int) (r : Int) (w : World) (hr0 : Kd.C (Kd.slice 3 (Kd.int .i64)) w A0 l0.length l0) (hc0 : l0.length ≤ c0) (h : laws_heldIntSS.f k l0 a1 = some r) :
    Calls Try.prog 15 #[.slice A0 l0.length c0, .int .i64 a1] w fun e w' => e = .returned (.int .i64 r) ∧ Drawn0 w w' := by
  have HR0 := Aside0.mk hr0
  have HC0 := Aside0.mk hc0
  clear hr0 hc0
  have H : (laws_heldIntSS.l0 k l0 a1 0) = some r := h
  clear h
  have H' := Aside0.mk H
  clear H
  go_enter Try.func15, Try.ntmps15
  go_wp2
  go_loopg [1, 5] k (fun kq v1 v5 w' => ∃ (x1_1 : Int) (x5_1 : Int), v1 = .int .i64 x1_1 ∧ v5 = .int .i64 x5_1 ∧ Aside0 (laws_heldIntSS.l0 kq l0 x1_1 x5_1 = some r) ∧ Aside0 (kq ≤ k) ∧ Drawn0 w w')
  case atStart => exact ⟨(a1), (0), (by first | rfl | (simp; done) | (simp [*]; done)), (by first | rfl | (simp; done) | (simp [*]; done)), H', ⟨Nat.le_refl _⟩, by repeat (first | exact Drawn0.refl _ | apply Drawn0.step)⟩
  case round =>
    clear H'
    try clear c1
    try clear p2
    obtain ⟨x1_1, x5_1, rfl, rfl, HA, HK1, ⟨m1, rfl⟩⟩ := hrel
    cases gk with
    | zero => exact absurd HA.out (by simp [laws_heldIntSS.l0])
    | succ k1 =>
      have H := HA.out
      clear HA
      simp only [laws_heldIntSS.l0] at H
      by_cases c3 : x5_1 < (l0.length : Int)
      · rw [if_pos c3] at H
        have c3b0 : decide (x5_1 < (l0.length : Int)) = true := decide_eq_true c3
        clear c3
        by_cases c4 : 0 ≤ x5_1
        · rw [if_pos c4] at H
          have c4b0 : decide (0 ≤ x5_1) = true := decide_eq_true c4
          clear c4
          replace H := Option.bind_eq_some_iff.mp H
          obtain ⟨t209, A50, H⟩ := H
          replace H : (if t209 < 0 then (some (-1)) else (laws_heldIntSS.l0 k1 l0 t209 (wrap64 (x5_1 + 1)))) = some r := H
          have A5 := Aside0.mk A50
          clear A50
          by_cases c6 : t209 < 0
          · rw [if_pos c6] at H
            have c6b0 : decide (t209 < 0) = true := decide_eq_true c6
            clear c6
            obtain rfl := Option.some.inj H
            have p208 : 0 ≤ (x5_1 : Int) := of_decide_eq_true (by first | (with_reducible assumption) | assumption)
            have q208 : x5_1 < (l0.length : Int) := of_decide_eq_true (by first | (with_reducible assumption) | assumption)
            obtain ⟨ad208, A208_0, c208_0, e208, hx208_0, hl208_0, hi208_0⟩ := at_L2 HR0.out x5_1 p208 q208
            cases e208
            have HR208_0 := Aside0.mk hi208_0
            have HC208_0 := Aside0.mk hl208_0
            clear hi208_0 hl208_0
            replace p208 := eq_true p208
            replace q208 := eq_true q208
            go_wp2_with (first | ((with_reducible refine gate_callee (f := 18) rfl ?_); refine goesL_ (some 17) rfl rfl Try.func18 (by kernel_rfl) rfl #[.slice A208_0 (rd_L2 l0 x5_1).length c208_0, .int .i64 x1_1] rfl (by (try simp only [List.map_toArray, List.map_cons, List.map_nil]); first | done | rfl | (simp only [List.length_drop, List.length_take]; rfl)) ?_; (with_reducible refine (laws_heldIntS.calls k1 _ _ (rd_L2 l0 x5_1) x1_1 t209 _ ?side1 ?side2 A5.out).mono ?_); (case side1 => repeat (first | exact HR208_0.out | (with_reducible refine Kd.C_alloc ?_ _) | (with_reducible refine Kd.C_drewN ?_ _) | (with_reducible refine Kd.C_drew ?_))); (case side2 => exact HC208_0.out); rintro e w' ⟨rfl, ⟨nd, rfl⟩⟩; refine ⟨_, rfl, ?_⟩))
            go_ret
            exact ⟨by first | rfl | (simp; done) | (simp [*]; done), by repeat (first | exact Drawn0.refl _ | apply Drawn0.step)⟩
          · rw [if_neg c6] at H
            have c6b0 : decide (t209 < 0) = false := decide_eq_false c6
            clear c6
            have H' := Aside0.mk H
            clear H
            have p208 : 0 ≤ (x5_1 : Int) := of_decide_eq_true (by first | (with_reducible assumption) | assumption)
            have q208 : x5_1 < (l0.length : Int) := of_decide_eq_true (by first | (with_reducible assumption) | assumption)
            obtain ⟨ad208, A208_0, c208_0, e208, hx208_0, hl208_0, hi208_0⟩ := at_L2 HR0.out x5_1 p208 q208
            cases e208
            have HR208_0 := Aside0.mk hi208_0
            have HC208_0 := Aside0.mk hl208_0
            clear hi208_0 hl208_0
            replace p208 := eq_true p208
            replace q208 := eq_true q208
            go_wp2_with (first | ((with_reducible refine gate_callee (f := 18) rfl ?_); refine goesL_ (some 17) rfl rfl Try.func18 (by kernel_rfl) rfl #[.slice A208_0 (rd_L2 l0 x5_1).length c208_0, .int .i64 x1_1] rfl (by (try simp only [List.map_toArray, List.map_cons, List.map_nil]); first | done | rfl | (simp only [List.length_drop, List.length_take]; rfl)) ?_; (with_reducible refine (laws_heldIntS.calls k1 _ _ (rd_L2 l0 x5_1) x1_1 t209 _ ?side1 ?side2 A5.out).mono ?_); (case side1 => repeat (first | exact HR208_0.out | (with_reducible refine Kd.C_alloc ?_ _) | (with_reducible refine Kd.C_drewN ?_ _) | (with_reducible refine Kd.C_drew ?_))); (case side2 => exact HC208_0.out); rintro e w' ⟨rfl, ⟨nd, rfl⟩⟩; refine ⟨_, rfl, ?_⟩))
            go_roundg k1
            case measure => have := HK1.out; omega
            case rel => exact ⟨(t209), (wrap64 (x5_1 + 1)), (by first | rfl | (simp; done) | (simp [*]; done)), (by first | rfl | (simp; done) | (simp [*]; done)), H', ⟨by have := HK1.out; omega⟩, by repeat (first | exact Drawn0.refl _ | apply Drawn0.step)⟩
        · rw [if_neg c4] at H
          exact absurd H (by simp)
      · rw [if_neg c3] at H
        have c3b0 : decide (x5_1 < (l0.length : Int)) = false := decide_eq_false c3
        clear c3
        obtain rfl := Option.some.inj H
        go_wp2
        go_ret
        exact ⟨by first | rfl | (simp; done) | (simp [*]; done), by repeat (first | exact Drawn0.refl _ | apply Drawn0.step)⟩

/-! ### laws_FnExactCyclesOfMap: function 3 -/
def laws_FnExactCyclesOfMap.f (k : Nat) (l0 : List Int) : Option Bool := if (l0.length : Int) > 1048576 then some true else (laws_toIntS.f k l0).bind fun t => (spec_CyclesOfMap.f k t).bind fun b1 => (impl_CyclesOfMap.f k t).bind fun b2 => (laws_eqIntSS.f k b2.1 b1.1).bind fun e1 => (laws_eqIntS.f k t t).bind fun e2 => (laws_markIntS.f k t 1).bind fun m1 => (laws_markIntSS.f k b2.1 1).bind fun m2 => (laws_heldIntSS.f k m2.2 1).bind fun q => if b2.2 = b1.2 ∧ e1 = true ∧ e2 = true ∧ 0 ≤ m1.1 ∧ 0 ≤ q ∧ q = m2.1 then some true else none
structure CySt (w : World) (N0 N : Nat) (vW vx vg : Value) (tW : List (List Int)) (tx : List Int) (tg : List (List Int)) (W : World) : Prop where
  B : Below w.heap.size w W
  hN : N ≤ W.heap.size
  HW : Kd.S (Kd.slice 3 (Kd.int .i64)) 22 W w.heap.size (fun k => k < N0) vW tW
  Hx : Kd.R (Kd.int .i64) 3 W w.heap.size (fun k => N0 ≤ k ∧ k < N) vx tx
  Hg : Kd.S (Kd.slice 3 (Kd.int .i64)) 22 W w.heap.size (fun k => N ≤ k) vg tg
theorem CySt.below {w W W2 : World} {N0 N : Nat} {vW vx vg : Value} {tW tg : List (List Int)} {tx : List Int} (h : CySt w N0 N vW vx vg tW tx tg W) (hb : Below W.heap.size W W2) : CySt w N0 N vW vx vg tW tx tg W2 :=
  ⟨below_step h.B hb, Nat.le_trans h.hN hb.size, Kd.S_below h.HW hb, Kd.R_below h.Hx hb, Kd.S_below h.Hg hb⟩
theorem CySt.drew {w W W2 : World} {N0 N : Nat} {vW vx vg : Value} {tW tg : List (List Int)} {tx : List Int} (h : CySt w N0 N vW vx vg tW tx tg W) (hb : Drawn0 W W2) : CySt w N0 N vW vx vg tW tx tg W2 := h.below hb.below
theorem CySt.marked {w W W2 : World} {N0 N : Nat} {vW vx vg : Value} {tW tg : List (List Int)} {tx tx2 : List Int} {S : Nat → Prop} (h : CySt w N0 N vW vx vg tW tx tg W) (h0 : N0 ≤ N) (hR : Kd.R (Kd.int .i64) 3 W2 w.heap.size S vx tx2) (hB : Below w.heap.size w W2) (hk : Kept W W2 (fun k => N0 ≤ k ∧ k < N)) : CySt w N0 N vW vx vg tW tx2 tg W2 :=
  ⟨hB, Nat.le_trans h.hN hk.1, Kd.S_kept h.HW hk (fun k h1 h2 => by omega), Kd.R_reok rfl hR (fun k e => h.Hx.1 k e), Kd.S_kept h.Hg hk (fun k h1 h2 => by omega)⟩
theorem CySt.markedS {w W W2 : World} {N0 N : Nat} {vW vx vg : Value} {tW tg tg2 : List (List Int)} {tx : List Int} (h : CySt w N0 N vW vx vg tW tx tg W) (h0 : N0 ≤ N) (hR : Kd.S (Kd.slice 3 (Kd.int .i64)) 22 W2 w.heap.size (fun k => N ≤ k) vg tg2) (hB : Below w.heap.size w W2) (hk : Kept W W2 (fun k => N ≤ k)) : CySt w N0 N vW vx vg tW tx tg2 W2 :=
  ⟨hB, Nat.le_trans h.hN hk.1, Kd.S_kept h.HW hk (fun k h1 h2 => by omega), Kd.R_kept h.Hx hk (fun k h1 h2 => by omega), hR⟩
/-- Behind the two calls: three rows, each in a stretch of its own. -/
theorem CySt.start {w w1 w2 w3 w4 : World} {vW vx vg : Value} {tW tg : List (List Int)} {tx : List Int} (h01 : Below w.heap.size w w1) (hW : Kd.S (Kd.slice 3 (Kd.int .i64)) 22 w2 w1.heap.size (fun _ => True) vW tW) (h12 : Below w1.heap.size w1 w2)
    (hx : Kd.R (Kd.int .i64) 3 w3 w2.heap.size (fun _ => True) vx tx) (h23 : Below w2.heap.size w2 w3) (hg : Kd.S (Kd.slice 3 (Kd.int .i64)) 22 w4 w3.heap.size (fun _ => True) vg tg) (h34 : Below w3.heap.size w3 w4) : CySt w w2.heap.size w3.heap.size vW vx vg tW tx tg w4 := by
  have h02 := below_step h01 h12
  have h03 := below_step h02 h23
  have h24 := below_step h23 h34
  refine ⟨below_step h03 h34, h34.size, ?_, ?_, ?_⟩
  · exact Kd.S_mono (Kd.S_old (Kd.S_lower hW h01.size) h24) (fun k hk => hk.2)
  · exact Kd.R_mono (Kd.R_bound (Kd.R_lower (Kd.R_old (Kd.R_mono (Kd.R_bound hx) (ok' := fun k => w2.heap.size ≤ k) (fun k hk => hk.2.1)) h34) h02.size)) (fun k hk => ⟨hk.1.1, hk.1.2⟩)
  · exact Kd.S_mono (Kd.S_lower (Kd.S_bound hg) h03.size) (fun k hk => hk.2.1)
set_option maxHeartbeats 8000000 in
set_option maxRecDepth 100000 in
theorem laws_FnExactCyclesOfMap.calls (k : Nat) (A0 : Option Addr) (c0 : Nat) (l0 : List Int) (r : Bool) (w : World) (hr0 : Kd.C (Kd.int .i64) w A0 l0.length l0) (hc0 : l0.length ≤ c0) (h : laws_FnExactCyclesOfMap.f k l0 = some r) :
    Calls Try.prog 3 #[.slice A0 l0.length c0] w fun e w' => e = .returned (.bool r) ∧ Below w.heap.size w w' := by
  have HR0 := Aside0.mk hr0
  have HC0 := Aside0.mk hc0
  clear hr0 hc0
  unfold laws_FnExactCyclesOfMap.f at h
  by_cases c2 : (l0.length : Int) > 1048576
  · rw [if_pos c2] at h
    have c2b0 : decide (1048576 < (l0.length : Int)) = true := decide_eq_true c2
    have c2b1 : decide (1048576 < l0.length) = true := decide_eq_true (by omega)
    clear c2
    obtain rfl := Option.some.inj h
    clear h
    go_enter Try.func3, Try.ntmps3
    go_wp2
    go_ret
    exact ⟨rfl, Below.refl _ _⟩
  · rw [if_neg c2] at h
    have c2b0 : decide (1048576 < (l0.length : Int)) = false := decide_eq_false c2
    have c2b1 : decide (1048576 < l0.length) = false := decide_eq_false (by omega)
    clear c2
    replace h := Option.bind_eq_some_iff.mp h
    obtain ⟨tx, a1, h⟩ := h
    replace h := Option.bind_eq_some_iff.mp h
    obtain ⟨⟨tW, bW⟩, a2, h⟩ := h
    replace h := Option.bind_eq_some_iff.mp h
    obtain ⟨⟨tg, bg⟩, a3, h⟩ := h
    replace h := Option.bind_eq_some_iff.mp h
    obtain ⟨e1, a4, h⟩ := h
    replace h := Option.bind_eq_some_iff.mp h
    obtain ⟨e2, a5, h⟩ := h
    replace h := Option.bind_eq_some_iff.mp h
    obtain ⟨⟨m1, tx2⟩, a6, h⟩ := h
    replace h := Option.bind_eq_some_iff.mp h
    obtain ⟨⟨m2, tg2⟩, a7, h⟩ := h
    replace h := Option.bind_eq_some_iff.mp h
    obtain ⟨q, a8, h⟩ := h
    have hc : (bg = bW ∧ e1 = true ∧ e2 = true ∧ 0 ≤ m1 ∧ 0 ≤ q ∧ q = m2) ∧ true = r := by
      by_cases hc : bg = bW ∧ e1 = true ∧ e2 = true ∧ 0 ≤ m1 ∧ 0 ≤ q ∧ q = m2
      · rw [if_pos hc] at h; exact ⟨hc, Option.some.inj h⟩
      · rw [if_neg hc] at h; cases h
    clear h
    obtain ⟨⟨rfl, rfl, rfl, hm1, hq, rfl⟩, rfl⟩ := hc
    have A1 := Aside0.mk a1
    have A2 := Aside0.mk a2
    have A3 := Aside0.mk a3
    have A4 := Aside0.mk a4
    have A5 := Aside0.mk a5
    have A6 := Aside0.mk a6
    have A7 := Aside0.mk a7
    have A8 := Aside0.mk a8
    clear a1 a2 a3 a4 a5 a6 a7 a8
    have d1 : decide (m1 < 0) = false := decide_eq_false (by omega)
    have d2 : decide (q < 0) = false := decide_eq_false (by omega)
    clear hm1 hq
    have HB := Aside0.mk (Below.refl w.heap.size w)
    go_enter Try.func3, Try.ntmps3
    go_wp2_with (first | (go_at_call 9; refine (laws_toIntS.calls k A0 c0 l0 tx _ (Kd.C_below HR0.out HB.out) HC0.out A1.out).mono ?_; rintro e w1 ⟨v1, rfl, ho, hb⟩; obtain ⟨Ao1, co1, eo1⟩ := Kd.R_slice ho; subst eo1; have HO1 := Aside0.mk ho; have HB1 := Aside0.mk (below_step HB.out hb); clear ho hb HB))
    go_wp2_with (first | (go_at_call 8; refine (spec_CyclesOfMap.calls k _ _ tx tW bg _ (Kd.R_reads' HO1.out).2.2 (Kd.R_reads' HO1.out).2.1 A2.out).mono ?_; rintro e w2 ⟨vW, rfl, ho, hb⟩; obtain ⟨AW, cW, eW⟩ := Kd.S_slice ho; subst eW; have HOW := Aside0.mk ho; have HB2 := Aside0.mk hb; have HB := Aside0.mk (below_step HB1.out hb); clear ho hb))
    go_wp2_with (first | (go_at_call 9; refine (laws_toIntS.calls k A0 c0 l0 tx _ (Kd.C_below HR0.out HB.out) HC0.out A1.out).mono ?_; rintro e w3 ⟨vx, rfl, ho, hb⟩; obtain ⟨Ax, cx, ex⟩ := Kd.R_slice ho; subst ex; have HOX := Aside0.mk ho; have HB3 := Aside0.mk hb; clear ho hb HB))
    go_wp2_with (first | (go_at_call 10; refine (impl_CyclesOfMap.calls k _ _ tx tg bg _ (Kd.R_reads' HOX.out).2.2 (Kd.R_reads' HOX.out).2.1 A3.out).mono ?_; rintro e w4 ⟨vg, rfl, ho, hb⟩; obtain ⟨Ag, cg, eg⟩ := Kd.S_slice ho; subst eg; have HS := Aside0.mk (CySt.start HB1.out HOW.out HB2.out HOX.out HB3.out ho hb); have HN := Aside0.mk HB3.out.size; clear ho hb HOW HB2 HOX HB3 HB1 HO1))
    generalize hN0 : w2.heap.size = N0 at HS HN
    generalize hN1 : w3.heap.size = N1 at HS HN
    clear hN0 hN1
    go_wp2_with (first | (go_at_call 11; refine (laws_eqIntSS.calls k _ _ tg _ _ tW true _ (Kd.S_reads' HS.out.Hg).2.2 (Kd.S_reads' HS.out.Hg).2.1 (Kd.S_reads' HS.out.HW).2.2 (Kd.S_reads' HS.out.HW).2.1 A4.out).mono ?_; rintro e w5 ⟨rfl, hd⟩; have n0_ := Aside0.mk (HS.out.drew hd); clear hd HS; have HS := n0_; clear n0_))
    go_wp2_with (first | (go_at_call 9; refine (laws_toIntS.calls k A0 c0 l0 tx _ (Kd.C_below HR0.out HS.out.B) HC0.out A1.out).mono ?_; rintro e w6 ⟨v5, rfl, ho, hb⟩; obtain ⟨Ay5, c5, e5⟩ := Kd.R_slice ho; subst e5; have HO5 := Aside0.mk ho; have n0_ := Aside0.mk (HS.out.below hb); clear HS hb ho; have HS := n0_; clear n0_))
    go_wp2_with (first | (go_at_call 12; refine (laws_eqIntS.calls k _ _ tx _ _ tx true _ (Kd.R_reads' HS.out.Hx).2.2 (Kd.R_reads' HS.out.Hx).2.1 (Kd.R_reads' HO5.out).2.2 (Kd.R_reads' HO5.out).2.1 A5.out).mono ?_; clear HO5; rintro e w7 ⟨rfl, hd⟩; have n0_ := Aside0.mk (HS.out.drew hd); clear hd HS; have HS := n0_; clear n0_))
    go_wp2_with (first | (go_at_call 13; refine (laws_markIntS.calls k _ _ tx 1 m1 tx2 w _ HS.out.B HS.out.Hx A6.out).mono ?_; rintro e w8 ⟨rfl, ho, hb, hk⟩; have n0_ := Aside0.mk (HS.out.marked HN.out ho hb hk); clear ho hb hk HS; have HS := n0_; clear n0_))
    go_wp2_with (first | (go_at_call 11; refine (laws_eqIntSS.calls k _ _ tg _ _ tW true _ (Kd.S_reads' HS.out.Hg).2.2 (Kd.S_reads' HS.out.Hg).2.1 (Kd.S_reads' HS.out.HW).2.2 (Kd.S_reads' HS.out.HW).2.1 A4.out).mono ?_; rintro e w9 ⟨rfl, hd⟩; have n0_ := Aside0.mk (HS.out.drew hd); clear hd HS; have HS := n0_; clear n0_))
    go_wp2_with (first | (go_at_call 14; refine (laws_markIntSS.calls k _ _ tg 1 q tg2 w _ HS.out.B HS.out.Hg A7.out).mono ?_; rintro e w10 ⟨rfl, ho, hb, hk⟩; have n0_ := Aside0.mk (HS.out.markedS HN.out ho hb hk); clear ho hb hk HS; have HS := n0_; clear n0_))
    have hlg : tg.length = tg2.length := (Kd.S_reads' HS.out.Hg).1
    rw [hlg] at HS ⊢
    clear hlg
    go_wp2_with (first | (go_at_call 15; refine (laws_heldIntSS.calls k _ _ tg2 1 q _ (Kd.S_reads' HS.out.Hg).2.2 (Kd.S_reads' HS.out.Hg).2.1 A8.out).mono ?_; rintro e w11 ⟨rfl, hd⟩; have n0_ := Aside0.mk (HS.out.drew hd); clear hd HS; have HS := n0_; clear n0_))
    go_wp2_with (first | (go_at_call 9; refine (laws_toIntS.calls k A0 c0 l0 tx _ (Kd.C_below HR0.out HS.out.B) HC0.out A1.out).mono ?_; rintro e w12 ⟨v6, rfl, ho, hb⟩; obtain ⟨A6_, c6, e6⟩ := Kd.R_slice ho; subst e6; have HO6 := Aside0.mk ho; have n0_ := Aside0.mk (HS.out.below hb); clear HS hb ho; have HS := n0_; clear n0_))
    go_wp2_with (first | (go_at_call 10; refine (impl_CyclesOfMap.calls k _ _ tx tg bg _ (Kd.R_reads' HO6.out).2.2 (Kd.R_reads' HO6.out).2.1 A3.out).mono ?_; clear HO6; rintro e w13 ⟨vh, rfl, ho, hb⟩; obtain ⟨Ah, ch, eh⟩ := Kd.S_slice ho; subst eh; have HOH := Aside0.mk ho; have n0_ := Aside0.mk (HS.out.below hb); clear HS hb ho; have HS := n0_; clear n0_))
    go_wp2_with (first | (go_at_call 11; refine (laws_eqIntSS.calls k _ _ tg _ _ tW true _ (Kd.S_reads' HOH.out).2.2 (Kd.S_reads' HOH.out).2.1 (Kd.S_reads' HS.out.HW).2.2 (Kd.S_reads' HS.out.HW).2.1 A4.out).mono ?_; clear HOH; rintro e w14 ⟨rfl, hd⟩; have n0_ := Aside0.mk (HS.out.drew hd); clear hd HS; have HS := n0_; clear n0_))
    go_wp2_with (first | (go_at_call 15; refine (laws_heldIntSS.calls k _ _ tg2 1 q _ (Kd.S_reads' HS.out.Hg).2.2 (Kd.S_reads' HS.out.Hg).2.1 A8.out).mono ?_; rintro e w15 ⟨rfl, hd⟩; have n0_ := Aside0.mk (HS.out.drew hd); clear hd HS; have HS := n0_; clear n0_))
    go_ret
    exact ⟨rfl, HS.out.B⟩
def laws_FnExactCyclesOfMap.Pure : Prop := ∀ (l0 : List Int), l0.length ≤ maxLen → l0.length * 8 ≤ 140737488351232 → (∀ x ∈ l0, (Lit.int .i64 x).wf = true) → ∃ k, laws_FnExactCyclesOfMap.f k l0 = some true
theorem laws_FnExactCyclesOfMap.walk (P : laws_FnExactCyclesOfMap.Pure) (a0 : Option Addr) (len0 cap0 : Nat) (z0 : List Int) (w : World) (w0 : (a0 = none ∧ len0 = 0 ∧ cap0 = 0 ∧ z0 = []) ∨ ∃ x, a0 = some x ∧ len0 ≤ cap0 ∧ cap0 ≤ maxLen ∧ z0.length = cap0 ∧ (∀ i, i < z0.length → w.cell? (x.add i) = some (.int .i64 (z0.getD i 0))) ∧ ∀ n ∈ z0, (Lit.int .i64 n).wf = true) (y0 : len0 * 8 ≤ 140737488351232) :
    Calls Try.prog 3 #[.slice a0 len0 cap0] w fun e w' => e = .returned (.bool true) ∧ Below w.heap.size w w' := by
  obtain ⟨l0, rfl, hr0, hm0, hw0, hc0⟩ := ReadsInt.ofRowC w0
  obtain ⟨k, h⟩ := P l0 hm0 y0 hw0
  refine (laws_FnExactCyclesOfMap.calls k _ _ l0 true w (Kd.C_of_reads (d := (0 : Int)) (h1 := fun _ => rfl) hr0) hc0 h).mono ?_
  rintro e w' ⟨rfl, hd⟩
  exact ⟨rfl, hd⟩

end Go.Proofs.Ytcaohpcbohdkbaa.PFnExactCyclesOfMap
