/- Plain texts of FnMapsEnd, merged by a program: what Go functions compute, lemmas of the walk, and proofs. No conditions. -/
import Derived.Test.YtcaohpcbohdkbaaGreatZFnMapsEnd8
import Derived.Test.YtcaohpcbohdkbaaGreatZFnMapsEnd9
import Derived.Test.YtcaohpcbohdkbaaGreatZFnMapsEnd10
import Derived.Test.YtcaohpcbohdkbaaGreatZFnMapsEnd11
section
namespace Go.Proofs.YtcaohpcbohdkbaaGreat.PFnMapsEnd
open Go.RowKit Go.Proofs.YtcaohpcbohdkbaaGreatW.PrintWords Go.Proofs.YtcaohpcbohdkbaaGreatW.PrintLast Go.Proofs.YtcaohpcbohdkbaaGreatW.PrintMore
attribute [local go_sem] max2_int min2_int max_two min_two max_three min_three max_four min_four   -- for this text's walks alone
set_option linter.unusedVariables false
set_option linter.unusedSimpArgs false
mutual
def spec_mpCycles.l0 : Nat → List Int → List Bool → List Bool → List (List Int) → Int → Int → Option ((List (List Int)))
 | 0, _, _, _, _, _, _ => none
 | k + 1, x0, x3, x4, x5, x16, x17 => if x17 < x16 then (if 0 ≤ x17 then (if x17 < (x3.length : Int) then (if rdOf false x3 x17 = true then (if x17 < (x4.length : Int) then (spec_mpCycles.j1 k x0 x3 x4 x5 x17 x16 x17 (!(rdOf false x4 x17))) else (none)) else (spec_mpCycles.j1 k x0 x3 x4 x5 x17 x16 x17 false)) else (none)) else (none)) else (some x5)
def spec_mpCycles.j1 : Nat → List Int → List Bool → List Bool → List (List Int) → Int → Int → Int → Bool → Option ((List (List Int)))
 | 0, _, _, _, _, _, _, _, _ => none
 | k + 1, x0, x3, x4, x5, x6, x16, x17, x30 => if x30 = true then ((spec_mpRound.f k x0 x6).bind fun t244 => (spec_mpCycles.l1 k x0 x3 x4 x5 t244 x16 x17 (t244.length : Int) 0)) else (spec_mpCycles.l0 k x0 x3 x4 x5 x16 (wrap64 (x17 + 1)))
def spec_mpCycles.l1 : Nat → List Int → List Bool → List Bool → List (List Int) → List Int → Int → Int → Int → Int → Option ((List (List Int)))
 | 0, _, _, _, _, _, _, _, _, _ => none
 | k + 1, x0, x3, x4, x5, x7, x16, x17, x35, x36 => if x36 < x35 then (if 0 ≤ x36 then (if x36 < (x7.length : Int) then (if 0 ≤ (rd x7 x36) then (if (rd x7 x36) < (x4.length : Int) then (spec_mpCycles.l1 k x0 x3 (x4.set ((rd x7 x36) : Int).toNat true) x5 x7 x16 x17 x35 (wrap64 (x36 + 1))) else (none)) else (none)) else (none)) else (none)) else (if x5.length < 5864062014805 then (spec_mpCycles.l0 k x0 x3 x4 (x5 ++ [x7]) x16 (wrap64 (x17 + 1))) else (none))
end
def spec_mpCycles.f (k : Nat) (l0 : List Int) : Option ((List (List Int))) := (spec_mpCyclic.f k l0).bind fun t236 => (if 0 ≤ (l0.length : Int) then (if ((l0.length : Int) : Int).toNat ≤ 281474976710656 then (spec_mpCycles.l0 k l0 t236 (List.replicate ((l0.length : Int) : Int).toNat false) ([] : List (List Int)) (l0.length : Int) 0) else (none)) else (none))
theorem spec_mpCycles.mono_l : ∀ k, (∀ y0 y1 y2 y3 y4 y5, LeO (spec_mpCycles.l0 k y0 y1 y2 y3 y4 y5) (spec_mpCycles.l0 (k + 1) y0 y1 y2 y3 y4 y5)) ∧ (∀ y0 y1 y2 y3 y4 y5 y6 y7, LeO (spec_mpCycles.j1 k y0 y1 y2 y3 y4 y5 y6 y7) (spec_mpCycles.j1 (k + 1) y0 y1 y2 y3 y4 y5 y6 y7)) ∧ (∀ y0 y1 y2 y3 y4 y5 y6 y7 y8, LeO (spec_mpCycles.l1 k y0 y1 y2 y3 y4 y5 y6 y7 y8) (spec_mpCycles.l1 (k + 1) y0 y1 y2 y3 y4 y5 y6 y7 y8))
 | 0 => ⟨fun _ _ _ _ _ _ r h => by simp [spec_mpCycles.l0] at h, fun _ _ _ _ _ _ _ _ r h => by simp [spec_mpCycles.j1] at h, fun _ _ _ _ _ _ _ _ _ r h => by simp [spec_mpCycles.l1] at h⟩
 | k + 1 => by
  obtain ⟨ih0, ih1, ih2⟩ := spec_mpCycles.mono_l k
  refine ⟨?_, ?_, ?_⟩
  ·intro y0 y1 y2 y3 y4 y5
   unfold spec_mpCycles.l0
   repeat' first
   | (with_reducible exact ih0 _ _ _ _ _ _)
   | (with_reducible exact ih1 _ _ _ _ _ _ _ _)
   | (with_reducible exact ih2 _ _ _ _ _ _ _ _ _)
   | (with_reducible exact spec_mpCyclic.mono _ _)
   | (with_reducible exact spec_mpRound.mono _ _ _)
   | (with_reducible exact LeO.refl _)
   | (with_reducible exact LeO.none _)
   | (with_reducible refine LeO.ite ?_ ?_)
   | (with_reducible refine LeO.bind ?_ (fun _ => ?_))
   | exact ih0 _ _ _ _ _ _
   | exact ih1 _ _ _ _ _ _ _ _
   | exact ih2 _ _ _ _ _ _ _ _ _
   | exact spec_mpCyclic.mono _ _
   | exact spec_mpRound.mono _ _ _
   | exact LeO.none _
   | refine LeO.ite ?_ ?_
   | refine LeO.bind ?_ (fun _ => ?_)
  ·intro y0 y1 y2 y3 y4 y5 y6 y7
   unfold spec_mpCycles.j1
   repeat' first
   | (with_reducible exact ih0 _ _ _ _ _ _)
   | (with_reducible exact ih1 _ _ _ _ _ _ _ _)
   | (with_reducible exact ih2 _ _ _ _ _ _ _ _ _)
   | (with_reducible exact spec_mpCyclic.mono _ _)
   | (with_reducible exact spec_mpRound.mono _ _ _)
   | (with_reducible exact LeO.refl _)
   | (with_reducible exact LeO.none _)
   | (with_reducible refine LeO.ite ?_ ?_)
   | (with_reducible refine LeO.bind ?_ (fun _ => ?_))
   | exact ih0 _ _ _ _ _ _
   | exact ih1 _ _ _ _ _ _ _ _
   | exact ih2 _ _ _ _ _ _ _ _ _
   | exact spec_mpCyclic.mono _ _
   | exact spec_mpRound.mono _ _ _
   | exact LeO.none _
   | refine LeO.ite ?_ ?_
   | refine LeO.bind ?_ (fun _ => ?_)
  ·intro y0 y1 y2 y3 y4 y5 y6 y7 y8
   unfold spec_mpCycles.l1
   repeat' first
   | (with_reducible exact ih0 _ _ _ _ _ _)
   | (with_reducible exact ih1 _ _ _ _ _ _ _ _)
   | (with_reducible exact ih2 _ _ _ _ _ _ _ _ _)
   | (with_reducible exact spec_mpCyclic.mono _ _)
   | (with_reducible exact spec_mpRound.mono _ _ _)
   | (with_reducible exact LeO.refl _)
   | (with_reducible exact LeO.none _)
   | (with_reducible refine LeO.ite ?_ ?_)
   | (with_reducible refine LeO.bind ?_ (fun _ => ?_))
   | exact ih0 _ _ _ _ _ _
   | exact ih1 _ _ _ _ _ _ _ _
   | exact ih2 _ _ _ _ _ _ _ _ _
   | exact spec_mpCyclic.mono _ _
   | exact spec_mpRound.mono _ _ _
   | exact LeO.none _
   | refine LeO.ite ?_ ?_
   | refine LeO.bind ?_ (fun _ => ?_)
theorem spec_mpCycles.mono : ∀ a0 k, LeO (spec_mpCycles.f k a0) (spec_mpCycles.f (k + 1) a0) := by
 intro a0 k
 obtain ⟨ih0, ih1, ih2⟩ := spec_mpCycles.mono_l k
 unfold spec_mpCycles.f
 repeat' first
   | (with_reducible exact ih0 _ _ _ _ _ _)
   | (with_reducible exact ih1 _ _ _ _ _ _ _ _)
   | (with_reducible exact ih2 _ _ _ _ _ _ _ _ _)
   | (with_reducible exact spec_mpCyclic.mono _ _)
   | (with_reducible exact spec_mpRound.mono _ _ _)
   | (with_reducible exact LeO.refl _)
   | (with_reducible exact LeO.none _)
   | (with_reducible refine LeO.ite ?_ ?_)
   | (with_reducible refine LeO.bind ?_ (fun _ => ?_))
   | exact ih0 _ _ _ _ _ _
   | exact ih1 _ _ _ _ _ _ _ _
   | exact ih2 _ _ _ _ _ _ _ _ _
   | exact spec_mpCyclic.mono _ _
   | exact spec_mpRound.mono _ _ _
   | exact LeO.none _
   | refine LeO.ite ?_ ?_
   | refine LeO.bind ?_ (fun _ => ?_)
set_option maxHeartbeats 8000000 in
set_option maxRecDepth 100000 in
theorem spec_mpCycles.calls (k : Nat) (A0 : Option Addr) (c0 : Nat) (l0 : List Int) (r : List (List Int)) (w : World) (hr0 : Kd.C (Kd.int .i64) w A0 l0.length l0) (hc0 : l0.length ≤ c0) (h : spec_mpCycles.f k l0 = some r) :
  Calls Tryz.prog 40 #[.slice A0 l0.length c0] w fun e w' => ∃ v0_ : Value, e = .returned (v0_) ∧ Kd.S (Kd.slice 3 (Kd.int .i64)) 24 w' w.heap.size (fun _ => True) v0_ r ∧ Below w.heap.size w w' := by
 have HR0 := Aside0.mk hr0
 have HC0 := Aside0.mk hc0
 clear hr0 hc0
 have HB := Aside0.mk (Below.refl w.heap.size w)
 have H : ((spec_mpCyclic.f k l0).bind fun t236 => (if 0 ≤ (l0.length : Int) then (if ((l0.length : Int) : Int).toNat ≤ 281474976710656 then (spec_mpCycles.l0 k l0 t236 (List.replicate ((l0.length : Int) : Int).toNat false) ([] : List (List Int)) (l0.length : Int) 0) else (none)) else (none))) = some r := h
 clear h
 replace H := Option.bind_eq_some_iff.mp H
 obtain ⟨t236, A20, H⟩ := H
 replace H : (if 0 ≤ (l0.length : Int) then (if ((l0.length : Int) : Int).toNat ≤ 281474976710656 then (spec_mpCycles.l0 k l0 t236 (List.replicate ((l0.length : Int) : Int).toNat false) ([] : List (List Int)) (l0.length : Int) 0) else (none)) else (none)) = some r := H
 have A2 := Aside0.mk A20
 clear A20
 by_cases c3 : 0 ≤ (l0.length : Int)
 ·rw [if_pos c3] at H
  have c3b0 := eq_true c3
  have c3b1 : decide (0 ≤ (l0.length : Int)) = true := decide_eq_true c3
  clear c3
  by_cases c4 : ((l0.length : Int) : Int).toNat ≤ 281474976710656
  ·rw [if_pos c4] at H
   have c4b0 := eq_true c4
   have c4b1 : decide (((l0.length : Int) : Int).toNat ≤ 281474976710656) = true := decide_eq_true c4
   clear c4
   obtain ⟨y239, hy239⟩ : ∃ y_ : List Bool, y_ = (List.replicate ((l0.length : Int) : Int).toNat false) := ⟨_, rfl⟩
   replace H : (spec_mpCycles.l0 k l0 t236 y239 ([] : List (List Int)) (l0.length : Int) 0) = some r := by first | (rw [hy239]; with_reducible exact H) | (have H2_ := (Option.bind_some _ _).symm.trans H; rw [hy239]; with_reducible exact H2_) | (have H2_ := (Option.bind_some _ _).symm.trans H; with_reducible exact H2_) | with_reducible exact H | (rw [hy239]; exact H) | exact H
   have Ny239 := Aside0.mk hy239
   clear hy239
   have H' := Aside0.mk H
   clear H
   go_enter Tryz.func40, Tryz.ntmps40
   go_wp2_with (first | ((with_reducible refine gate_callee (f := 64) rfl ?_); refine goesL_ (some 11) rfl rfl Tryz.func64 (by kernel_rfl) rfl #[.slice A0 l0.length c0] rfl (by (try simp only [List.map_toArray, List.map_cons, List.map_nil]); first | done | rfl | (simp only [List.length_drop, List.length_take]; rfl)) ?_; (with_reducible refine (spec_mpCyclic.calls k _ _ l0 t236 _ ?side1 ?side2 A2.out).mono ?_); (case side1 => repeat (first | exact HR0.out | (with_reducible refine Kd.C_alloc ?_ _) | (with_reducible refine Kd.C_drewN ?_ _) | (with_reducible refine Kd.C_drew ?_))); (case side2 => exact HC0.out); rintro e w5 ⟨v237, rfl, ho0, hb⟩; refine ⟨_, rfl, ?_⟩; have n0_ := Aside0.mk (Kd.R_lower ho0 (below_size (by repeat (first | (with_reducible first | exact HB.out | apply below_alloc | apply pw_below_drewN | apply below_drew1) | exact HB.out)))); have n1_ := Aside0.mk (below_step (by repeat (first | (with_reducible first | exact HB.out | apply below_alloc | apply pw_below_drewN | apply below_drew1) | exact HB.out)) hb); clear HB; have HO238 := n0_; have HB := n1_; clear n0_ n1_; (try clear hb); (try clear hb2); (try clear hk); (try clear hi); (try clear ho0)) | ((with_reducible refine gate_dst (N := 14) rfl ?_); refine Kd.R_make Kd.bool _ 4 rfl (N := 14) rfl 62 _ _ rfl (l0.length : Int) rfl rfl Tryz.underlying62 (.bool false) 1 info4 rfl (by decide) (by omega) false (ok := fun _ => True) (okp := fun _ => True) rfl (fun _ hk => hk) trivial (of_decide_eq_true (by first | (with_reducible assumption) | assumption)) (Nat.le_trans (Nat.mul_le_mul_right _ (of_decide_eq_true (by first | (with_reducible assumption) | assumption) : (l0.length : Int).toNat ≤ 281474976710656)) (by omega)) (Below.refl _ _) (Nat.le_refl _) ?_; intro v240 w6 ho7 hb hg_ hnew_; clear hg_ hnew_; (first | rw [← Ny239.out] at ho7 | (simp only [Int.reduceToNat] at ho7; rw [← Ny239.out] at ho7)); have n0_ := Aside0.mk (Kd.R_elder' (by (with_reducible repeat (first | apply Kd.R_alloc | apply Kd.R_drewN | apply Kd.R_drew)); exact HO238.out) (Kd.R_base ho7) hb); have n1_ := Aside0.mk (Kd.R_lower (Kd.R_new' ho7 (Kd.R_lt (by (with_reducible repeat (first | apply Kd.R_alloc | apply Kd.R_drewN | apply Kd.R_drew)); exact HO238.out))) (below_size (by repeat (first | (with_reducible first | exact HB.out | apply below_alloc | apply pw_below_drewN | apply below_drew1) | exact HB.out)))); have n2_ := Aside0.mk (below_step (by repeat (first | (with_reducible first | exact HB.out | apply below_alloc | apply pw_below_drewN | apply below_drew1) | exact HB.out)) hb); clear HO238; clear HB; have HO238 := n0_; have HO241 := n1_; have HB := n2_; clear n0_ n1_ n2_; clear hb ho7))
   go_loopg [5, 17] k (fun kq v5 v17 w' => ∃ (x4_1 : List Bool) (x5_1 : List (List Int)) (x17_1 : Int), v17 = .int .i64 x17_1 ∧ Aside0 (spec_mpCycles.l0 kq l0 t236 x4_1 x5_1 (l0.length : Int) x17_1 = some r) ∧ Aside0 (kq ≤ k) ∧ Aside0 (Kd.R Kd.bool 4 w' w.heap.size (fun k_ => some k_ ≠ (v240 : Value).ownBlock) v237 t236) ∧ Aside0 (Kd.R Kd.bool 4 w' w.heap.size (fun k_ => some k_ ≠ (v237 : Value).ownBlock) v240 x4_1) ∧ Aside0 (Kd.S (Kd.slice 3 (Kd.int .i64)) 24 w' w.heap.size (fun _ => True) v5 x5_1) ∧ Aside0 (Below w.heap.size w w'))
   case atStart => exact ⟨(y239), (([] : List (List Int))), (0), (by first | rfl | (simp; done) | (simp [*]; done)), H', ⟨Nat.le_refl _⟩, ⟨by (with_reducible repeat (first | apply Kd.R_alloc | apply Kd.R_drewN | apply Kd.R_drew)); exact Kd.R_mono HO238.out (fun _ hk => by first | exact hk.2 | exact hk)⟩, ⟨by (with_reducible repeat (first | apply Kd.R_alloc | apply Kd.R_drewN | apply Kd.R_drew)); exact Kd.R_mono HO241.out (fun _ hk => by first | exact hk.2 | exact hk)⟩, ⟨by first | exact Kd.S_nil _ _ _ _ _ | exact Kd.N_nil _ _ _ _ _ | exact Kd.V_nil _ _ _ _ _ | exact Kd.Q_nil _ _ _ _ _ | exact Kd.R_nil _ _ _ _ _⟩, ⟨by repeat (first | (with_reducible first | exact HB.out | apply below_alloc | apply pw_below_drewN | apply below_drew1) | exact HB.out)⟩⟩
   case round =>
    clear H'
    try clear p2
    try clear c3
    try clear c3b0
    try clear c3b1
    try clear c4
    try clear c4b0
    try clear c4b1
    try clear c6
    obtain ⟨x4_1, x5_1, x17_1, rfl, HA, HK1, HO_3, HO_4, HO_5, HB⟩ := hrel
    cases gk with
    | zero => exact absurd HA.out (by simp [spec_mpCycles.l0])
    | succ k1 =>
     have H := HA.out
     clear HA
     simp only [spec_mpCycles.l0] at H
     by_cases c8 : x17_1 < (l0.length : Int)
     ·rw [if_pos c8] at H
      have c8b0 : decide (x17_1 < (l0.length : Int)) = true := decide_eq_true c8
      clear c8
      have HC9 := Aside0.mk H
      clear H
      go_upto_region 7 with (fail)
      go_cut [30] (fun v30 wc => ∃ (kq : Nat) (x30_8 : Bool), v30 = .bool x30_8 ∧ Aside0 (spec_mpCycles.j1 kq l0 t236 x4_1 x5_1 x17_1 (l0.length : Int) x17_1 x30_8 = some r) ∧ Aside0 (kq ≤ k1) ∧ Aside0 (Kd.R Kd.bool 4 wc w.heap.size (fun k_ => some k_ ≠ (v240 : Value).ownBlock) v237 t236) ∧ Aside0 (Kd.R Kd.bool 4 wc w.heap.size (fun k_ => some k_ ≠ (v237 : Value).ownBlock) v240 x4_1) ∧ Aside0 (Kd.S (Kd.slice 3 (Kd.int .i64)) 24 wc w.heap.size (fun _ => True) u5 x5_1) ∧ Aside0 (Below w.heap.size w wc))
      case first =>
       have H := HC9.out
       clear HC9
       by_cases c10 : 0 ≤ x17_1
       ·rw [if_pos c10] at H
        have c10b0 : decide (0 ≤ x17_1) = true := decide_eq_true c10
        clear c10
        (first | rw [c10b0] | (simp only [i64_w, i32_w]; rw [c10b0]) | skip)
        by_cases c11 : x17_1 < (t236.length : Int)
        ·rw [if_pos c11] at H
         have c11b0 : decide (x17_1 < (t236.length : Int)) = true := decide_eq_true c11
         clear c11
         obtain ⟨bq12, hbq12⟩ : ∃ b_ : Bool, b_ = (rdOf false t236 x17_1) := ⟨_, rfl⟩
         replace H : (if bq12 = true then (if x17_1 < (x4_1.length : Int) then (spec_mpCycles.j1 k1 l0 t236 x4_1 x5_1 x17_1 (l0.length : Int) x17_1 (!(rdOf false x4_1 x17_1))) else (none)) else (spec_mpCycles.j1 k1 l0 t236 x4_1 x5_1 x17_1 (l0.length : Int) x17_1 false)) = some r := by rw [← hbq12] at H; exact H
         have Nbq12 := Aside0.mk hbq12
         clear hbq12
         by_cases c13 : bq12 = true
         ·subst c13
          have H1 : (if x17_1 < (x4_1.length : Int) then (spec_mpCycles.j1 k1 l0 t236 x4_1 x5_1 x17_1 (l0.length : Int) x17_1 (!(rdOf false x4_1 x17_1))) else (none)) = some r := by rw [if_pos rfl] at H; exact H
          clear H
          have H := H1
          clear H1
          by_cases c14 : x17_1 < (x4_1.length : Int)
          ·rw [if_pos c14] at H
           have c14b0 : decide (x17_1 < (x4_1.length : Int)) = true := decide_eq_true c14
           clear c14
           have H' := Aside0.mk H
           clear H
           obtain ⟨Ao15, co15, eo15⟩ := Kd.R_slice HO_3.out
           subst eo15
           have p242 : 0 ≤ (x17_1 : Int) := of_decide_eq_true (by first | (with_reducible assumption) | assumption)
           have q242 : x17_1 < (t236.length : Int) := of_decide_eq_true (by first | (with_reducible assumption) | assumption)
           obtain ⟨ad242, e242, hx242_0⟩ := Kd.at_bool (Kd.R_reads' HO_3.out).2.2 x17_1 p242 q242
           (try rw [← Nbq12.out] at hx242_0)
           cases e242
           replace p242 := eq_true p242
           replace q242 := eq_true q242
           obtain ⟨Ao16, co16, eo16⟩ := Kd.R_slice HO_4.out
           subst eo16
           have p243 : 0 ≤ (x17_1 : Int) := of_decide_eq_true (by first | (with_reducible assumption) | assumption)
           have q243 : x17_1 < (x4_1.length : Int) := of_decide_eq_true (by first | (with_reducible assumption) | assumption)
           obtain ⟨ad243, e243, hx243_0⟩ := Kd.at_bool (Kd.R_reads' HO_4.out).2.2 x17_1 p243 q243
           (try rw [← Nbq12.out] at hx243_0)
           cases e243
           replace p243 := eq_true p243
           replace q243 := eq_true q243
           go_wp2
           go_meet
           case rel => exact ⟨_, (!(rdOf false x4_1 x17_1)), (by first | rfl | (simp; done) | (simp [*]; done)), H', ⟨by have := HK1.out; first | omega | exact Nat.le_refl _⟩, ⟨by (with_reducible repeat (first | apply Kd.R_alloc | apply Kd.R_drewN | apply Kd.R_drew)); exact HO_3.out⟩, ⟨by (with_reducible repeat (first | apply Kd.R_alloc | apply Kd.R_drewN | apply Kd.R_drew)); exact HO_4.out⟩, ⟨by (with_reducible repeat (first | apply Kd.S_alloc | apply Kd.S_drewN | apply Kd.S_drew)); exact HO_5.out⟩, ⟨by repeat (first | (with_reducible first | exact HB.out | apply below_alloc | apply pw_below_drewN | apply below_drew1) | exact HB.out)⟩⟩
          ·rw [if_neg c14] at H
           exact absurd H (by simp)
         ·replace c13 := Bool.eq_false_iff.mpr c13
          subst c13
          have H1 : (spec_mpCycles.j1 k1 l0 t236 x4_1 x5_1 x17_1 (l0.length : Int) x17_1 false) = some r := by rw [if_neg (show ¬ (false = true) by decide)] at H; exact H
          clear H
          have H := H1
          clear H1
          have H' := Aside0.mk H
          clear H
          obtain ⟨Ao17, co17, eo17⟩ := Kd.R_slice HO_3.out
          subst eo17
          have p242 : 0 ≤ (x17_1 : Int) := of_decide_eq_true (by first | (with_reducible assumption) | assumption)
          have q242 : x17_1 < (t236.length : Int) := of_decide_eq_true (by first | (with_reducible assumption) | assumption)
          obtain ⟨ad242, e242, hx242_0⟩ := Kd.at_bool (Kd.R_reads' HO_3.out).2.2 x17_1 p242 q242
          (try rw [← Nbq12.out] at hx242_0)
          cases e242
          replace p242 := eq_true p242
          replace q242 := eq_true q242
          go_wp2
          go_meet
          case rel => exact ⟨_, (false), (by first | rfl | (simp; done) | (simp [*]; done)), H', ⟨by have := HK1.out; first | omega | exact Nat.le_refl _⟩, ⟨by (with_reducible repeat (first | apply Kd.R_alloc | apply Kd.R_drewN | apply Kd.R_drew)); exact HO_3.out⟩, ⟨by (with_reducible repeat (first | apply Kd.R_alloc | apply Kd.R_drewN | apply Kd.R_drew)); exact HO_4.out⟩, ⟨by (with_reducible repeat (first | apply Kd.S_alloc | apply Kd.S_drewN | apply Kd.S_drew)); exact HO_5.out⟩, ⟨by repeat (first | (with_reducible first | exact HB.out | apply below_alloc | apply pw_below_drewN | apply below_drew1) | exact HB.out)⟩⟩
        ·rw [if_neg c11] at H
         exact absurd H (by simp)
       ·rw [if_neg c10] at H
        exact absurd H (by simp)
      case rest =>
       clear HC9
       try clear c1
       try clear q1
       try clear p2
       try clear q2
       try clear hx2
       try clear c3
       try clear c3b0
       try clear c3b1
       try clear c4
       try clear c4b0
       try clear c4b1
       try clear c6
       try clear c8
       try clear c8b0
       try clear c10
       try clear c10b0
       try clear c11
       try clear c11b0
       try clear q12
       try clear c13
       try clear c14
       try clear c14b0
       try clear hx242_0
       try clear hx243_0
       try clear p2
       try clear p242
       try clear p243
       try clear q242
       try clear q243
       obtain ⟨kq, x30_8, rfl, HA, HJ8, HO_3, HO_4, HO_5, HB⟩ := hcut
       cases kq with
       | zero => exact absurd HA.out (by simp [spec_mpCycles.j1])
       | succ kj8 =>
        have H := HA.out
        clear HA
        simp only [spec_mpCycles.j1] at H
        by_cases c18 : x30_8 = true
        ·subst c18
         have H1 : ((spec_mpRound.f kj8 l0 x17_1).bind fun t244 => (spec_mpCycles.l1 kj8 l0 t236 x4_1 x5_1 t244 (l0.length : Int) x17_1 (t244.length : Int) 0)) = some r := by rw [if_pos rfl] at H; exact H
         clear H
         have H := H1
         clear H1
         replace H := Option.bind_eq_some_iff.mp H
         obtain ⟨t244, A190, H⟩ := H
         replace H : (spec_mpCycles.l1 kj8 l0 t236 x4_1 x5_1 t244 (l0.length : Int) x17_1 (t244.length : Int) 0) = some r := H
         have A19 := Aside0.mk A190
         clear A190
         have H' := Aside0.mk H
         clear H
         go_wp2_with (first | ((with_reducible refine gate_callee (f := 65) rfl ?_); refine goesL_ (some 33) rfl rfl Tryz.func65 (by kernel_rfl) rfl #[.slice A0 l0.length c0, .int .i64 x17_1] rfl (by (try simp only [List.map_toArray, List.map_cons, List.map_nil]); first | done | rfl | (simp only [List.length_drop, List.length_take]; rfl)) ?_; (with_reducible refine (spec_mpRound.calls kj8 _ _ l0 x17_1 t244 _ ?side1 ?side2 A19.out).mono ?_); (case side1 => repeat (first | exact (Kd.C_below HR0.out HB.out) | (with_reducible refine Kd.C_alloc ?_ _) | (with_reducible refine Kd.C_drewN ?_ _) | (with_reducible refine Kd.C_drew ?_))); (case side2 => exact HC0.out); rintro e w20 ⟨v245, rfl, ho0, hb⟩; refine ⟨_, rfl, ?_⟩; have n0_ := Aside0.mk (Kd.R_below (by (with_reducible repeat (first | apply Kd.R_alloc | apply Kd.R_drewN | apply Kd.R_drew)); exact HO_3.out) hb); have n1_ := Aside0.mk (Kd.R_below (by (with_reducible repeat (first | apply Kd.R_alloc | apply Kd.R_drewN | apply Kd.R_drew)); exact HO_4.out) hb); have n2_ := Aside0.mk (Kd.S_elder' (by (with_reducible repeat (first | apply Kd.S_alloc | apply Kd.S_drewN | apply Kd.S_drew)); exact HO_5.out) (Kd.R_base ho0) hb); have n3_ := Aside0.mk (Kd.R_lower ho0 (below_size (by repeat (first | (with_reducible first | exact HB.out | apply below_alloc | apply pw_below_drewN | apply below_drew1) | exact HB.out)))); have n4_ := Aside0.mk (below_step (by repeat (first | (with_reducible first | exact HB.out | apply below_alloc | apply pw_below_drewN | apply below_drew1) | exact HB.out)) hb); clear HO_3; clear HO_4; clear HO_5; clear HB; have HO_3 := n0_; have HO_4 := n1_; have HO_5 := n2_; have HO246 := n3_; have HB := n4_; clear n0_ n1_ n2_ n3_ n4_; (try clear hb); (try clear hb2); (try clear hk); (try clear hi); (try clear ho0); obtain ⟨Ao21, co21, eo21⟩ := Kd.R_slice HO246.out; subst eo21))
         go_loopg [36] kj8 (fun kq v36 w' => ∃ (x4_3 : List Bool) (x36_3 : Int), v36 = .int .i64 x36_3 ∧ Aside0 (spec_mpCycles.l1 kq l0 t236 x4_3 x5_1 t244 (l0.length : Int) x17_1 (t244.length : Int) x36_3 = some r) ∧ Aside0 (kq ≤ kj8) ∧ Aside0 (Kd.R Kd.bool 4 w' w.heap.size (fun k_ => some k_ ≠ (v240 : Value).ownBlock) v237 t236) ∧ Aside0 (Kd.R Kd.bool 4 w' w.heap.size (fun k_ => some k_ ≠ (v237 : Value).ownBlock) v240 x4_3) ∧ Aside0 (Kd.S (Kd.slice 3 (Kd.int .i64)) 24 w' w.heap.size (fun k_ => some k_ ≠ ((.slice Ao21 t244.length co21) : Value).ownBlock) u5 x5_1) ∧ Aside0 (Kd.R (Kd.int .i64) 3 w' w.heap.size (fun _ => True) (.slice Ao21 t244.length co21) t244) ∧ Aside0 (Below w.heap.size w w'))
         case atStart => exact ⟨(x4_1), (0), (by first | rfl | (simp; done) | (simp [*]; done)), H', ⟨Nat.le_refl _⟩, ⟨by (with_reducible repeat (first | apply Kd.R_alloc | apply Kd.R_drewN | apply Kd.R_drew)); exact HO_3.out⟩, ⟨by (with_reducible repeat (first | apply Kd.R_alloc | apply Kd.R_drewN | apply Kd.R_drew)); exact HO_4.out⟩, ⟨by (with_reducible repeat (first | apply Kd.S_alloc | apply Kd.S_drewN | apply Kd.S_drew)); exact Kd.S_mono HO_5.out (fun _ hk => by first | exact hk.2 | exact hk)⟩, ⟨by (with_reducible repeat (first | apply Kd.R_alloc | apply Kd.R_drewN | apply Kd.R_drew)); exact HO246.out⟩, ⟨by repeat (first | (with_reducible first | exact HB.out | apply below_alloc | apply pw_below_drewN | apply below_drew1) | exact HB.out)⟩⟩
         case round =>
          clear H'
          try clear c1
          try clear q1
          try clear p2
          try clear q2
          try clear hx2
          try clear c3
          try clear c3b0
          try clear c3b1
          try clear c4
          try clear c4b0
          try clear c4b1
          try clear c6
          try clear c8
          try clear c8b0
          try clear c10
          try clear c10b0
          try clear c11
          try clear c11b0
          try clear q12
          try clear c13
          try clear c14
          try clear c14b0
          try clear c18
          try clear hx242_0
          try clear hx243_0
          try clear p2
          try clear p242
          try clear p243
          try clear q1
          try clear q12
          try clear q2
          try clear q242
          try clear q243
          obtain ⟨x4_3, x36_3, rfl, HA, HK3, HO_3, HO_4, HO_5, HO_7, HB⟩ := hrel
          cases gk with
          | zero => exact absurd HA.out (by simp [spec_mpCycles.l1])
          | succ k3 =>
           have H := HA.out
           clear HA
           simp only [spec_mpCycles.l1] at H
           by_cases c22 : x36_3 < (t244.length : Int)
           ·rw [if_pos c22] at H
            have c22b0 : decide (x36_3 < (t244.length : Int)) = true := decide_eq_true c22
            clear c22
            by_cases c23 : 0 ≤ x36_3
            ·rw [if_pos c23] at H
             have c23b0 : decide (0 ≤ x36_3) = true := decide_eq_true c23
             clear c23
             by_cases c24 : x36_3 < (t244.length : Int)
             ·rw [if_pos c24] at H
              have c24b0 : decide (x36_3 < (t244.length : Int)) = true := decide_eq_true c24
              clear c24
              by_cases c25 : 0 ≤ (rd t244 x36_3)
              ·rw [if_pos c25] at H
               have c25b0 : decide (0 ≤ (rd t244 x36_3)) = true := decide_eq_true c25
               clear c25
               by_cases c26 : (rd t244 x36_3) < (x4_3.length : Int)
               ·rw [if_pos c26] at H
                have c26b0 : decide ((rd t244 x36_3) < (x4_3.length : Int)) = true := decide_eq_true c26
                clear c26
                obtain ⟨y248, hy248⟩ : ∃ y_ : List Bool, y_ = (x4_3.set ((rd t244 x36_3) : Int).toNat true) := ⟨_, rfl⟩
                replace H : (spec_mpCycles.l1 k3 l0 t236 y248 x5_1 t244 (l0.length : Int) x17_1 (t244.length : Int) (wrap64 (x36_3 + 1))) = some r := by first | (rw [hy248]; with_reducible exact H) | (have H2_ := (Option.bind_some _ _).symm.trans H; rw [hy248]; with_reducible exact H2_) | (have H2_ := (Option.bind_some _ _).symm.trans H; with_reducible exact H2_) | with_reducible exact H | (rw [hy248]; exact H) | exact H
                have Ny248 := Aside0.mk hy248
                clear hy248
                have H' := Aside0.mk H
                clear H
                have p247 : 0 ≤ (x36_3 : Int) := of_decide_eq_true (by first | (with_reducible assumption) | assumption)
                have q247 : x36_3 < (t244.length : Int) := of_decide_eq_true (by first | (with_reducible assumption) | assumption)
                obtain ⟨ad247, e247, hx247_0⟩ := Kd.at_int (Kd.R_reads' HO_7.out).2.2 x36_3 p247 q247
                cases e247
                replace p247 := eq_true p247
                replace q247 := eq_true q247
                have p27 : 0 ≤ ((rd t244 x36_3) : Int) := of_decide_eq_true (by first | (with_reducible assumption) | assumption)
                have q27 : ((rd t244 x36_3) : Int) < ((x4_3.length : Int) : Int) := of_decide_eq_true (by first | (with_reducible assumption) | assumption)
                obtain ⟨go27, co27, eo27, gb27, gl27, cl27, HG27⟩ := Kd.R_form HO_4.out (by omega)
                (first | cases eo27 | (injection eo27 with ea_ en_ ec_; (first | subst ea_ | (injection ea_ with ea_; subst ea_)); subst ec_; clear en_))
                have GB27 := Aside0.mk gb27
                have GG27 := Aside0.mk HG27
                clear gb27 gl27 HG27
                obtain ⟨hx27_0, hf27_0⟩ := Kd.R_celln false HO_4.out ((rd t244 x36_3) : Int) p27 q27
                replace p27 := eq_true p27
                replace q27 := eq_true q27
                have HP28 := Kd.R_putg HO_4.out ((rd t244 x36_3) : Int) true
                go_wp2_with (first | ((with_reducible refine gate_store (t := 4) (p := 42) rfl ?_); refine store_event (t := 4) (p := 42) (v := ?vo_w29) (w1 := (wr.setCell ⟨go27, ((rd t244 x36_3) : Int).toNat, none⟩ (.bool true))) ?hg ?ho ?hn ?hr ?_; (case ho => rfl); (case hg => rfl); (case hn => rfl); (case hr => first | (go_simp; done) | (go_simp; rfl)); intro w29 hw; have hg : wr.grownBy w29 (some go27) := (by rw [hw]; exact HP28.2); have hp_ : Kd.R Kd.bool 4 w29 w.heap.size (fun k_ => some k_ ≠ (v237 : Value).ownBlock) (.slice (some ⟨go27, 0, none⟩) x4_3.length co27) y248 := (by rw [hw, Ny248.out]; exact HP28.1); clear HP28; have n0_ := Aside0.mk (Kd.R_after (v := (.slice (some ⟨go27, 0, none⟩) x4_3.length co27)) (v1 := (.slice (some ⟨go27, 0, none⟩) x4_3.length co27)) (ok := (fun _ => True)) (by (with_reducible repeat (first | apply Kd.R_alloc | apply Kd.R_drewN | apply Kd.R_drew)); exact Kd.R_mono HO_3.out (fun _ hk => ⟨trivial, hk⟩)) hg (.inl rfl)); have n1_ := Aside0.mk (hp_); have n2_ := Aside0.mk (Kd.S_over' (v := (.slice (some ⟨go27, 0, none⟩) x4_3.length co27)) (by (with_reducible repeat (first | apply Kd.S_alloc | apply Kd.S_drewN | apply Kd.S_drew)); exact HO_5.out) (Kd.R_typed HO_4.out) (by decide) hg); have n3_ := Aside0.mk (Kd.R_over' (v := (.slice (some ⟨go27, 0, none⟩) x4_3.length co27)) (by (with_reducible repeat (first | apply Kd.R_alloc | apply Kd.R_drewN | apply Kd.R_drew)); exact HO_7.out) (Kd.R_typed HO_4.out) (by decide) hg); have n4_ := Aside0.mk ((by rw [hw]; exact below_set (HB.out) GB27.out : Below w.heap.size w w29)); clear HO_3; clear HO_4; clear HO_5; clear HO_7; clear HB; have HO_3 := n0_; have HO_4 := n1_; have HO_5 := n2_; have HO_7 := n3_; have HB := n4_; clear n0_ n1_ n2_ n3_ n4_; clear hg hw hp_))
                go_roundg k3
                case measure => have := HK1.out; have := HJ8.out; have := HK3.out; omega
                case rel => exact ⟨(y248), (wrap64 (x36_3 + 1)), (by first | rfl | (simp; done) | (simp [*]; done)), H', ⟨by have := HK1.out; have := HJ8.out; have := HK3.out; omega⟩, ⟨by (with_reducible repeat (first | apply Kd.R_alloc | apply Kd.R_drewN | apply Kd.R_drew)); exact Kd.R_mono HO_3.out (fun _ hk => by first | exact hk.2 | exact hk)⟩, ⟨by (with_reducible repeat (first | apply Kd.R_alloc | apply Kd.R_drewN | apply Kd.R_drew)); exact HO_4.out⟩, ⟨by (with_reducible repeat (first | apply Kd.S_alloc | apply Kd.S_drewN | apply Kd.S_drew)); exact HO_5.out⟩, ⟨by (with_reducible repeat (first | apply Kd.R_alloc | apply Kd.R_drewN | apply Kd.R_drew)); exact HO_7.out⟩, ⟨by repeat (first | (with_reducible first | exact HB.out | apply below_alloc | apply pw_below_drewN | apply below_drew1) | exact HB.out)⟩⟩
               ·rw [if_neg c26] at H
                exact absurd H (by simp)
              ·rw [if_neg c25] at H
               exact absurd H (by simp)
             ·rw [if_neg c24] at H
              exact absurd H (by simp)
            ·rw [if_neg c23] at H
             exact absurd H (by simp)
           ·rw [if_neg c22] at H
            have c22b0 : decide (x36_3 < (t244.length : Int)) = false := decide_eq_false c22
            clear c22
            by_cases c30 : x5_1.length < 5864062014805
            ·rw [if_pos c30] at H
             have LMc30 := Aside0.mk c30
             clear c30
             obtain ⟨y249, hy249⟩ : ∃ y_ : List (List Int), y_ = (x5_1 ++ [t244]) := ⟨_, rfl⟩
             replace H : (spec_mpCycles.l0 k3 l0 t236 x4_3 y249 (l0.length : Int) (wrap64 (x17_1 + 1))) = some r := by first | (rw [hy249]; with_reducible exact H) | (have H2_ := (Option.bind_some _ _).symm.trans H; rw [hy249]; with_reducible exact H2_) | (have H2_ := (Option.bind_some _ _).symm.trans H; with_reducible exact H2_) | with_reducible exact H | (rw [hy249]; exact H) | exact H
             have Ny249 := Aside0.mk hy249
             clear hy249
             have H' := Aside0.mk H
             clear H
             go_wp2_with (first | ((with_reducible refine gate_builtin (b := .append) (xs := #[.tmp 44, .tmp 46]) rfl ?_); at_builtin; refine Kd.S_append (Kd.slice 3 (Kd.int .i64)) (w0 := w) w.heap.size rfl (.tmp 44) (.tmp 46) 26 24 (.slice none 0 0) 24 rfl Tryz.underlying26 info24 rfl (by decide) (by omega) u5 x5_1 t244 [.slice Ao21 t244.length co21] (fun _ => True) (fun k_ => some k_ = (.slice Ao21 t244.length co21 : Value).ownBlock) rfl rfl ?aP (fun k_ hk_ => ((Kd.R_mono (ok' := fun k_ => ((fun _ => True)) k_ ∧ some k_ ≠ (u5 : Value).ownBlock) (Kd.R_apart' (HO_7.out) (Kd.S_typed HO_5.out) (by decide)) (fun k_ hk => ⟨trivial, hk.2⟩))).1 k_ hk_.symm) ?aF ?aO ?aB ?aS ?aL ?_; (case aP => exact Kd.M_row (Kd.R_mono (Kd.R_tight rfl (Kd.R_mono (ok' := fun k_ => ((fun _ => True)) k_ ∧ some k_ ≠ (u5 : Value).ownBlock) (Kd.R_apart' (HO_7.out) (Kd.S_typed HO_5.out) (by decide)) (fun k_ hk => ⟨trivial, hk.2⟩))) (fun _ h_ => h_))); (case aB => exact (by repeat (first | (with_reducible first | exact HB.out | apply below_alloc | apply pw_below_drewN | apply below_drew1) | exact HB.out))); (case aF => exact (fun _ _ => trivial)); (case aO => exact (by (with_reducible repeat (first | apply Kd.S_alloc | apply Kd.S_drewN | apply Kd.S_drew)); exact Kd.S_mono HO_5.out (fun k_ hk => ⟨trivial, fun e_ => hk e_⟩))); (case aS => exact (below_size (by repeat (first | (with_reducible first | exact HB.out | apply below_alloc | apply pw_below_drewN | apply below_drew1) | exact HB.out)))); (case aL => have := LMc30.out; omega); intro v250 w31 ho hb hg hat; rw [← Ny249.out] at ho; have n0_ := Aside0.mk (Kd.R_over' (by (with_reducible repeat (first | apply Kd.R_alloc | apply Kd.R_drewN | apply Kd.R_drew)); exact HO_3.out) (Kd.S_typed (by (with_reducible repeat (first | apply Kd.S_alloc | apply Kd.S_drewN | apply Kd.S_drew)); exact HO_5.out)) (by decide) hg); have n1_ := Aside0.mk (Kd.R_over' (by (with_reducible repeat (first | apply Kd.R_alloc | apply Kd.R_drewN | apply Kd.R_drew)); exact HO_4.out) (Kd.S_typed (by (with_reducible repeat (first | apply Kd.S_alloc | apply Kd.S_drewN | apply Kd.S_drew)); exact HO_5.out)) (by decide) hg); have n2_ := Aside0.mk (hb); have n3_ := Aside0.mk (ho); clear HO_3; clear HO_4; clear HB; clear HO_5; clear HO_7; have HO_3 := n0_; have HO_4 := n1_; have HB := n2_; have HO251 := n3_; clear n0_ n1_ n2_ n3_; clear ho hb hg hat))
             go_roundg k3
             case measure => have := HK1.out; have := HJ8.out; have := HK3.out; omega
             case rel => exact ⟨(x4_3), (y249), (wrap64 (x17_1 + 1)), (by first | rfl | (simp; done) | (simp [*]; done)), H', ⟨by have := HK1.out; have := HJ8.out; have := HK3.out; omega⟩, ⟨by (with_reducible repeat (first | apply Kd.R_alloc | apply Kd.R_drewN | apply Kd.R_drew)); exact HO_3.out⟩, ⟨by (with_reducible repeat (first | apply Kd.R_alloc | apply Kd.R_drewN | apply Kd.R_drew)); exact HO_4.out⟩, ⟨by (with_reducible repeat (first | apply Kd.S_alloc | apply Kd.S_drewN | apply Kd.S_drew)); exact HO251.out⟩, ⟨by repeat (first | (with_reducible first | exact HB.out | apply below_alloc | apply pw_below_drewN | apply below_drew1) | exact HB.out)⟩⟩
            ·rw [if_neg c30] at H
             exact absurd H (by simp)
        ·replace c18 := Bool.eq_false_iff.mpr c18
         subst c18
         have H1 : (spec_mpCycles.l0 kj8 l0 t236 x4_1 x5_1 (l0.length : Int) (wrap64 (x17_1 + 1))) = some r := by rw [if_neg (show ¬ (false = true) by decide)] at H; exact H
         clear H
         have H := H1
         clear H1
         have H' := Aside0.mk H
         clear H
         go_wp2
         go_roundg kj8
         case measure => have := HK1.out; have := HJ8.out; omega
         case rel => exact ⟨(x4_1), (x5_1), (wrap64 (x17_1 + 1)), (by first | rfl | (simp; done) | (simp [*]; done)), H', ⟨by have := HK1.out; have := HJ8.out; omega⟩, ⟨by (with_reducible repeat (first | apply Kd.R_alloc | apply Kd.R_drewN | apply Kd.R_drew)); exact HO_3.out⟩, ⟨by (with_reducible repeat (first | apply Kd.R_alloc | apply Kd.R_drewN | apply Kd.R_drew)); exact HO_4.out⟩, ⟨by (with_reducible repeat (first | apply Kd.S_alloc | apply Kd.S_drewN | apply Kd.S_drew)); exact HO_5.out⟩, ⟨by repeat (first | (with_reducible first | exact HB.out | apply below_alloc | apply pw_below_drewN | apply below_drew1) | exact HB.out)⟩⟩
     ·rw [if_neg c8] at H
      have c8b0 : decide (x17_1 < (l0.length : Int)) = false := decide_eq_false c8
      clear c8
      obtain rfl := Option.some.inj H
      go_wp2
      go_ret
      exact ⟨_, by first | rfl | (simp [errW_none, errW_some] <;> rfl) | (simp [*, errW_none, errW_some] <;> rfl), by (with_reducible repeat (first | apply Kd.S_alloc | apply Kd.S_drewN | apply Kd.S_drew)); exact HO_5.out, by repeat (first | (with_reducible first | exact HB.out | apply below_alloc | apply pw_below_drewN | apply below_drew1) | exact HB.out)⟩
  ·rw [if_neg c4] at H
   exact absurd H (by simp)
 ·rw [if_neg c3] at H
  exact absurd H (by simp)
def spec_CyclesOfMap.f (k : Nat) (l0 : List Int) : Option ((List (List Int)) × Bool) := (spec_mpGood.f k l0).bind fun t252 => (if t252 = true then ((spec_mpCycles.f k l0).bind fun t253 => (some (t253, true))) else (some (([] : List (List Int)), false)))
theorem spec_CyclesOfMap.mono : ∀ a0 k, LeO (spec_CyclesOfMap.f k a0) (spec_CyclesOfMap.f (k + 1) a0) := by
 intro a0 k
 unfold spec_CyclesOfMap.f
 repeat' first
   | (with_reducible exact spec_mpCycles.mono _ _)
   | (with_reducible exact spec_mpGood.mono _ _)
   | (with_reducible exact LeO.refl _)
   | (with_reducible exact LeO.none _)
   | (with_reducible refine LeO.ite ?_ ?_)
   | (with_reducible refine LeO.bind ?_ (fun _ => ?_))
   | exact spec_mpCycles.mono _ _
   | exact spec_mpGood.mono _ _
   | exact LeO.none _
   | refine LeO.ite ?_ ?_
   | refine LeO.bind ?_ (fun _ => ?_)
set_option maxHeartbeats 8000000 in
set_option maxRecDepth 100000 in
theorem spec_CyclesOfMap.calls (k : Nat) (A0 : Option Addr) (c0 : Nat) (l0 : List Int) (r1 : List (List Int)) (r2 : Bool) (w : World) (hr0 : Kd.C (Kd.int .i64) w A0 l0.length l0) (hc0 : l0.length ≤ c0) (h : spec_CyclesOfMap.f k l0 = some (r1, r2)) :
  Calls Tryz.prog 7 #[.slice A0 l0.length c0] w fun e w' => ∃ v0_ : Value, e = .returned (.tuple #[v0_, .bool r2]) ∧ Kd.S (Kd.slice 3 (Kd.int .i64)) 24 w' w.heap.size (fun _ => True) v0_ r1 ∧ Below w.heap.size w w' := by
 have HR0 := Aside0.mk hr0
 have HC0 := Aside0.mk hc0
 clear hr0 hc0
 have HB := Aside0.mk (Below.refl w.heap.size w)
 have H : ((spec_mpGood.f k l0).bind fun t252 => (if t252 = true then ((spec_mpCycles.f k l0).bind fun t253 => (some (t253, true))) else (some (([] : List (List Int)), false)))) = some (r1, r2) := h
 clear h
 replace H := Option.bind_eq_some_iff.mp H
 obtain ⟨t252, A20, H⟩ := H
 replace H : (if t252 = true then ((spec_mpCycles.f k l0).bind fun t253 => (some (t253, true))) else (some (([] : List (List Int)), false))) = some (r1, r2) := H
 have A2 := Aside0.mk A20
 clear A20
 by_cases c3 : t252 = true
 ·subst c3
  have H1 : ((spec_mpCycles.f k l0).bind fun t253 => (some (t253, true))) = some (r1, r2) := by rw [if_pos rfl] at H; exact H
  clear H
  have H := H1
  clear H1
  replace H := Option.bind_eq_some_iff.mp H
  obtain ⟨t253, A40, H⟩ := H
  replace H : (some (t253, true)) = some (r1, r2) := H
  have A4 := Aside0.mk A40
  clear A40
  simp only [Option.some.injEq, Prod.mk.injEq] at H
  obtain ⟨rfl, rfl⟩ := H
  go_enter Tryz.func7, Tryz.ntmps7
  go_wp2_with (first | ((with_reducible refine gate_callee (f := 39) rfl ?_); refine goesL_ (some 5) rfl rfl Tryz.func39 (by kernel_rfl) rfl #[.slice A0 l0.length c0] rfl (by (try simp only [List.map_toArray, List.map_cons, List.map_nil]); first | done | rfl | (simp only [List.length_drop, List.length_take]; rfl)) ?_; (with_reducible refine (spec_mpGood.calls k _ _ l0 true _ ?side1 ?side2 A2.out).mono ?_); (case side1 => repeat (first | exact HR0.out | (with_reducible refine Kd.C_alloc ?_ _) | (with_reducible refine Kd.C_drewN ?_ _) | (with_reducible refine Kd.C_drew ?_))); (case side2 => exact HC0.out); rintro e w' ⟨rfl, ⟨nd, rfl⟩⟩; refine ⟨_, rfl, ?_⟩) | ((with_reducible refine gate_callee (f := 40) rfl ?_); refine goesL_ (some 8) rfl rfl Tryz.func40 (by kernel_rfl) rfl #[.slice A0 l0.length c0] rfl (by (try simp only [List.map_toArray, List.map_cons, List.map_nil]); first | done | rfl | (simp only [List.length_drop, List.length_take]; rfl)) ?_; (with_reducible refine (spec_mpCycles.calls k _ _ l0 t253 _ ?side1 ?side2 A4.out).mono ?_); (case side1 => repeat (first | exact HR0.out | (with_reducible refine Kd.C_alloc ?_ _) | (with_reducible refine Kd.C_drewN ?_ _) | (with_reducible refine Kd.C_drew ?_))); (case side2 => exact HC0.out); rintro e w5 ⟨v254, rfl, ho0, hb⟩; refine ⟨_, rfl, ?_⟩; have n0_ := Aside0.mk (Kd.S_lower ho0 (below_size (by repeat (first | (with_reducible first | exact HB.out | apply below_alloc | apply pw_below_drewN | apply below_drew1) | exact HB.out)))); have n1_ := Aside0.mk (below_step (by repeat (first | (with_reducible first | exact HB.out | apply below_alloc | apply pw_below_drewN | apply below_drew1) | exact HB.out)) hb); clear HB; have HO255 := n0_; have HB := n1_; clear n0_ n1_; (try clear hb); (try clear hb2); (try clear hk); (try clear hi); (try clear ho0)))
  go_ret2
  exact ⟨_, by first | rfl | (simp [errW_none, errW_some] <;> rfl) | (simp [*, errW_none, errW_some] <;> rfl), by (with_reducible repeat (first | apply Kd.S_alloc | apply Kd.S_drewN | apply Kd.S_drew)); exact HO255.out, by repeat (first | (with_reducible first | exact HB.out | apply below_alloc | apply pw_below_drewN | apply below_drew1) | exact HB.out)⟩
 ·replace c3 := Bool.eq_false_iff.mpr c3
  subst c3
  have H1 : (some (([] : List (List Int)), false)) = some (r1, r2) := by rw [if_neg (show ¬ (false = true) by decide)] at H; exact H
  clear H
  have H := H1
  clear H1
  simp only [Option.some.injEq, Prod.mk.injEq] at H
  obtain ⟨rfl, rfl⟩ := H
  go_enter Tryz.func7, Tryz.ntmps7
  go_wp2_with (first | ((with_reducible refine gate_callee (f := 39) rfl ?_); refine goesL_ (some 5) rfl rfl Tryz.func39 (by kernel_rfl) rfl #[.slice A0 l0.length c0] rfl (by (try simp only [List.map_toArray, List.map_cons, List.map_nil]); first | done | rfl | (simp only [List.length_drop, List.length_take]; rfl)) ?_; (with_reducible refine (spec_mpGood.calls k _ _ l0 false _ ?side1 ?side2 A2.out).mono ?_); (case side1 => repeat (first | exact HR0.out | (with_reducible refine Kd.C_alloc ?_ _) | (with_reducible refine Kd.C_drewN ?_ _) | (with_reducible refine Kd.C_drew ?_))); (case side2 => exact HC0.out); rintro e w' ⟨rfl, ⟨nd, rfl⟩⟩; refine ⟨_, rfl, ?_⟩))
  go_ret2
  exact ⟨_, by first | rfl | (simp [errW_none, errW_some] <;> rfl) | (simp [*, errW_none, errW_some] <;> rfl), by first | exact Kd.S_nil _ _ _ _ _ | exact Kd.N_nil _ _ _ _ _ | exact Kd.V_nil _ _ _ _ _ | exact Kd.Q_nil _ _ _ _ _ | exact Kd.R_nil _ _ _ _ _, by repeat (first | (with_reducible first | exact HB.out | apply below_alloc | apply pw_below_drewN | apply below_drew1) | exact HB.out)⟩
def idxL (x : Int) : List (List Int) → Int → Int
 | [], _ => -1
 | c :: cs, i => if rd c 0 = x then i else idxL x cs (i + 1)
theorem idxL_hit {x : Int} : ∀ (a : List (List Int)) (y : List Int) (c : List (List Int)) (i : Int), (∀ z ∈ a, ¬ rd z 0 = x) → rd y 0 = x → idxL x (a ++ y :: c) i = i + (a.length : Int)
 | [], y, c, i, _, hy => by simp [idxL, hy]
 | z :: a, y, c, i, h, hy => by
  rw [List.cons_append, idxL, if_neg (h z (by simp)), idxL_hit a y c (i + 1) (fun u hu => h u (by simp [hu])) hy]
  simp; omega
theorem idxL_miss {x : Int} : ∀ (a : List (List Int)) (i : Int), (∀ z ∈ a, ¬ rd z 0 = x) → idxL x a i = -1
 | [], _, _ => rfl
 | z :: a, i, h => by
  rw [idxL, if_neg (h z (by simp)), idxL_miss a (i + 1) (fun u hu => h u (by simp [hu]))]
set_option maxHeartbeats 2000000 in
theorem basins_closure (B : Nat) (x : Int) (A1 : Option Addr) (c1 : Nat) (xs : List Int) (W : World) (hx : Kd.C (Kd.int .i64) W A1 xs.length xs) (hp : 0 < xs.length) (hb : W.cell? ⟨B, 0, none⟩ = some (.int .i64 x)) :
  Calls Tryz.prog 43 #[.slice A1 xs.length c1, .pointer (some ⟨B, 0, none⟩)] W fun e w' => e = .returned (.bool (decide (rd xs 0 = x))) ∧ Drawn0 W w' := by
 obtain ⟨ad, e1, hcell⟩ := Kd.at_int hx 0 (by omega) (by omega)
 subst e1
 have hlt : (0 : Int) < (xs.length : Int) := by omega
 have hlt2 : decide ((0 : Int) < (xs.length : Int)) = true := decide_eq_true hlt
 rw [Int.toNat_zero] at hcell
 have ha : ad.add 0 = ad := by simp [Addr.add]
 rw [ha] at hcell
 obtain ⟨y, hy⟩ : ∃ y, y = rd xs 0 := ⟨_, rfl⟩
 rw [← hy] at hcell ⊢
 clear hy hx
 have hq : (y == x) = decide (y = x) := by
  by_cases h : y = x
  ·rw [decide_eq_true h, beq_iff_eq.mpr h]
  ·rw [decide_eq_false h, beq_eq_false_iff_ne.mpr h]
 go_enter Tryz.func43, Tryz.ntmps43
 go_wp2
 go_quiet (fail)
 go_wp2
 go_ret
 refine ⟨by first | rfl | (rw [hq]) | (simp [hq]), ?_⟩
 exact ⟨_, rfl⟩
set_option maxHeartbeats 2000000 in
theorem basins_IndexFunc (B : Nat) (x : Int) (A0 : Option Addr) (c0 : Nat) (l0 : List (List Int)) (w : World) (hr0 : Kd.C (Kd.slice 3 (Kd.int .i64)) w A0 l0.length l0) (hc0 : l0.length ≤ c0) (hl : l0.length ≤ 1000) (hb : w.cell? ⟨B, 0, none⟩ = some (.int .i64 x)) (hne : ∀ c ∈ l0, 0 < c.length) :
  Calls Tryz.prog 42 #[.slice A0 l0.length c0, .func (.func 43) #[] #[.pointer (some ⟨B, 0, none⟩)]] w fun e w' => e = .returned (.int .i64 (idxL x l0 0)) ∧ Drawn0 w w' := by
 have HR0 := Aside0.mk hr0
 have HB := Aside0.mk hb
 have HNE := Aside0.mk hne
 have HL := Aside0.mk hl
 have eg := enters_of Tryz.func43 (by kernel_rfl) rfl
 clear hr0 hb hne hl
 obtain ⟨r, hr⟩ : ∃ r, r = idxL x l0 0 := ⟨_, rfl⟩
 rw [← hr]
 have HE := Aside0.mk hr
 clear hr
 go_enter Tryz.func42, Tryz.ntmps42
 go_wp2
 go_loopg [8] l0.length (fun gg s8 wr => ∃ kk q : Nat, kk ≤ l0.length ∧ l0.length - kk ≤ gg ∧ s8 = .int .i64 kk ∧ wr = w.drewN q ∧ Aside0 (∀ y ∈ l0.take kk, ¬ rd y 0 = x))
 case atStart => exact ⟨0, 0, Nat.zero_le _, by omega, rfl, rfl, ⟨by simp⟩⟩
 case round =>
  obtain ⟨kk, q, hkk, hg, rfl, rfl, A⟩ := hrel
  by_cases hlt : kk < l0.length
  ·have hltz : (kk : Int) < (l0.length : Int) := by omega
   obtain ⟨ad1, A1, c1, e1, hcell, hl1, hC1⟩ := at_L2 HR0.out (kk : Int) (by omega) hltz
   cases e1
   rw [Int.toNat_natCast] at hcell
   obtain ⟨y, hy⟩ : ∃ y, y = rd_L2 l0 (kk : Int) := ⟨_, rfl⟩
   have hye : l0[kk] = y := by rw [hy]; simp [rd_L2, List.getD_eq_getElem?_getD, List.getElem?_eq_getElem hlt]
   rw [← hy] at hcell hC1
   have hpos : 0 < y.length := HNE.out y (hye ▸ List.getElem_mem hlt)
   have B' : Aside0 (l0 = l0.take kk ++ y :: l0.drop (kk + 1) ∧ l0.take (kk + 1) = l0.take kk ++ [y]) := ⟨by
    have h1 : l0.drop kk = l0[kk] :: l0.drop (kk + 1) := List.drop_eq_getElem_cons hlt
    constructor
    ·conv => lhs; rw [← List.take_append_drop kk l0, h1, hye]
    ·rw [List.take_succ_eq_append_getElem hlt, hye]⟩
   have HCALL := Lib.hid (fun q : Nat => basins_closure B x A1 c1 y (w.drewN q) (Kd.C_drewN hC1 q) hpos HB.out)
   clear hy hye hl1 hC1 hpos
   by_cases hq : rd y 0 = x
   ·have HQ := Aside0.mk hq
    have hd : decide (rd y 0 = x) = true := decide_eq_true hq
    clear hq
    go_wp2_with (fail)
    refine (HCALL.out _).mono ?_
    rintro e w' ⟨rfl, q', rfl⟩
    go_wp2
    go_ret
    refine ⟨?_, ⟨_, rfl⟩⟩
    rw [HE.out, B'.out.1, idxL_hit _ _ _ _ A.out HQ.out, List.length_take, Nat.min_eq_left (by omega)]
    simp
   ·have HQ := Aside0.mk hq
    have hd : decide (rd y 0 = x) = false := decide_eq_false hq
    clear hq
    go_wp2_with (fail)
    refine (HCALL.out _).mono ?_
    rintro e w' ⟨rfl, q', rfl⟩
    go_wp2
    go_roundg (l0.length - (kk + 1))
    case measure => omega
    case rel =>
     have hc9 := HL.out
     refine ⟨kk + 1, _, by omega, by omega, (by first | (rw [concat_next (Nat.le_trans hkk hc9)]) | (rw [i64_w, concat_next (Nat.le_trans hkk hc9)]) | go_num), rfl, ⟨fun z hz => ?_⟩⟩
     rw [B'.out.2] at hz
     rcases List.mem_append.1 hz with hz | hz
     ·exact A.out z hz
     ·rw [List.mem_singleton.1 hz]; exact HQ.out
  ·have hd1 : decide (kk < l0.length) = false := decide_eq_false hlt
   have hd2 : decide ((kk : Int) < (l0.length : Int)) = false := decide_eq_false (by omega)
   have hk : Aside0 (kk = l0.length) := ⟨by omega⟩
   clear hlt
   go_wp2
   go_ret
   refine ⟨?_, ⟨q, rfl⟩⟩
   have := A.out
   rw [hk.out, List.take_length] at this
   rw [HE.out, idxL_miss _ _ this]
   rfl
def basL (k0 : Nat) (l0 : List Int) (all : List (List Int)) : Nat → List Int → Int → Option (List Int)
 | 0, _, _ => none
 | k + 1, out, i => if i < (l0.length : Int) then (impl_cycleAt.f k0 l0 i).bind fun c => if 0 < c.length ∧ out.length < 1000 then basL k0 l0 all k (out ++ [idxL (rd c 0) all 0]) (wrap64 (i + 1)) else none else some out
theorem basL_mono (l0 : List Int) (all : List (List Int)) (k0 : Nat) : ∀ (k : Nat) (out : List Int) (i : Int), LeO (basL k0 l0 all k out i) (basL (k0 + 1) l0 all (k + 1) out i)
 | 0, _, _ => fun r h => by simp [basL] at h
 | k + 1, out, i => by
  intro r hr
  rw [basL] at hr ⊢
  by_cases h1 : i < (l0.length : Int)
  ·rw [if_pos h1] at hr ⊢
   obtain ⟨c, h2, h3⟩ := Option.bind_eq_some_iff.1 hr
   refine Option.bind_eq_some_iff.2 ⟨c, impl_cycleAt.mono _ _ _ c h2, ?_⟩
   by_cases h4 : 0 < c.length ∧ out.length < 1000
   ·rw [if_pos h4] at h3 ⊢
    exact basL_mono l0 all k0 k _ _ r h3
   ·rw [if_neg h4] at h3; cases h3
  ·rw [if_neg h1] at hr ⊢; exact hr
def impl_BasinsOf.f (k : Nat) (l0 : List Int) : Option (List Int × Bool) := (impl_IsMap.f l0).bind fun b => if b = true then (impl_cycles.f k l0).bind fun all => if all.length ≤ 1000 ∧ (∀ c ∈ all, 0 < c.length) then (basL k l0 all k [] 0).bind fun out => some (out, true) else none else some ([], false)
theorem impl_BasinsOf.mono : ∀ a0 k, LeO (impl_BasinsOf.f k a0) (impl_BasinsOf.f (k + 1) a0) := by
 intro a0 k r h
 unfold impl_BasinsOf.f at h ⊢
 obtain ⟨b, h1, h2⟩ := Option.bind_eq_some_iff.1 h
 refine Option.bind_eq_some_iff.2 ⟨b, h1, ?_⟩
 by_cases hb : b = true
 ·rw [if_pos hb] at h2 ⊢
  obtain ⟨all, h3, h4⟩ := Option.bind_eq_some_iff.1 h2
  refine Option.bind_eq_some_iff.2 ⟨all, impl_cycles.mono _ _ all h3, ?_⟩
  by_cases hc : all.length ≤ 1000 ∧ (∀ c ∈ all, 0 < c.length)
  ·rw [if_pos hc] at h4 ⊢
   obtain ⟨out, h5, h6⟩ := Option.bind_eq_some_iff.1 h4
   exact Option.bind_eq_some_iff.2 ⟨out, basL_mono _ _ _ _ _ _ out h5, h6⟩
  ·rw [if_neg hc] at h4; cases h4
 ·rw [if_neg hb] at h2 ⊢; exact h2
set_option maxHeartbeats 8000000 in
set_option maxRecDepth 100000 in
theorem impl_BasinsOf.calls (k : Nat) (A0 : Option Addr) (c0 : Nat) (l0 : List Int) (r1 : List Int) (r2 : Bool) (w : World) (hr0 : Kd.C (Kd.int .i64) w A0 l0.length l0) (hc0 : l0.length ≤ c0) (h : impl_BasinsOf.f k l0 = some (r1, r2)) :
  Calls Tryz.prog 8 #[.slice A0 l0.length c0] w fun e w' => ∃ v0_ : Value, e = .returned (.tuple #[v0_, .bool r2]) ∧ Kd.R (Kd.int .i64) 3 w' w.heap.size (fun _ => True) v0_ r1 ∧ Below w.heap.size w w' := by
 obtain ⟨b, h1, h2⟩ := Option.bind_eq_some_iff.1 h
 have HM := Aside0.mk h1
 have HR0 := Aside0.mk hr0
 have HC0 := Aside0.mk hc0
 have HB := Aside0.mk (Below.refl w.heap.size w)
 cases b with
 | false =>
  rw [if_neg (by decide)] at h2
  have e1 : [] = r1 := congrArg Prod.fst (Option.some.inj h2)
  have e2 : false = r2 := congrArg Prod.snd (Option.some.inj h2)
  subst e1; subst e2
  clear h h1 h2 hr0 hc0
  go_enter Tryz.func8, Tryz.ntmps8
  go_wp2_with (go_at_call 18; refine (impl_IsMap.calls A0 c0 l0 false _ HR0.out HC0.out HM.out).mono ?_; rintro e w' ⟨rfl, hb⟩; have HB1 := Aside0.mk hb; clear hb)
  go_ret2
  exact ⟨_, rfl, Kd.R_nil _ _ _ _ _, HB1.out⟩
 | true =>
  rw [if_pos rfl] at h2
  obtain ⟨all, h3, h4⟩ := Option.bind_eq_some_iff.1 h2
  have h5 : (all.length ≤ 1000 ∧ (∀ c ∈ all, 0 < c.length)) ∧ basL k l0 all k [] 0 = some r1 ∧ true = r2 := by
   by_cases hc : all.length ≤ 1000 ∧ (∀ c ∈ all, 0 < c.length)
   ·rw [if_pos hc] at h4
    obtain ⟨out, h5, h6⟩ := Option.bind_eq_some_iff.1 h4
    have e1 : out = r1 := congrArg Prod.fst (Option.some.inj h6)
    have e2 : true = r2 := congrArg Prod.snd (Option.some.inj h6)
    exact ⟨hc, e1 ▸ h5, e2⟩
   ·rw [if_neg hc] at h4; cases h4
  obtain ⟨h6, h7, rfl⟩ := h5
  have HALL := Aside0.mk h6
  have HCY := Aside0.mk h3
  have H' := Aside0.mk h7
  clear h h1 h2 h3 h4 h6 h7 hr0 hc0
  go_enter Tryz.func8, Tryz.ntmps8
  go_wp2_with (first
   | (go_at_call 18; refine (impl_IsMap.calls A0 c0 l0 true _ HR0.out HC0.out HM.out).mono ?_; rintro e w' ⟨rfl, hb⟩; have n0_ := Aside0.mk hb; clear hb HB; have HB := n0_; clear n0_)
   | (go_at_call 38; refine (impl_cycles.calls k A0 c0 l0 all _ (Kd.C_below HR0.out HB.out) HC0.out HCY.out).mono ?_; rintro e w' ⟨v4, rfl, ho, hb⟩; obtain ⟨A4, c4, e4⟩ := Kd.R_slice (Kd.S_R ho); subst e4; obtain ⟨N, hN⟩ : ∃ N, N = w'.heap.size := ⟨_, rfl⟩; have HN := Aside0.mk hN; have HA := Aside0.mk (Kd.R_mono (ok' := fun q => q < N) (Kd.R_bound (Kd.R_lower (Kd.S_R ho) (below_size HB.out))) (fun q hq => hN ▸ hq.2.2.1)); have n0_ := Aside0.mk (below_step HB.out hb); clear ho hb HB hN; have HB := n0_; clear n0_))
  go_loopg [5, 16] k (fun kq v5 v16 w' => ∃ (out : List Int) (i : Int), v16 = .int .i64 i ∧ Aside0 (basL k l0 all kq out i = some r1) ∧ Aside0 (kq ≤ k) ∧ Aside0 (Kd.R (Kd.int .i64) 3 w' w.heap.size (fun q => N ≤ q) v5 out) ∧ Aside0 (Kd.R (Kd.slice 3 (Kd.int .i64)) 24 w' w.heap.size (fun q => q < N) (.slice A4 all.length c4) all) ∧ Aside0 (Below w.heap.size w w') ∧ Aside0 (N ≤ w'.heap.size))
  case atStart =>
   refine ⟨[], 0, rfl, H', ⟨Nat.le_refl _⟩, ⟨⟨fun q hq => ?_, [], ?_, Reps.none _ _⟩⟩, ⟨Kd.R_alloc HA.out _⟩, ⟨below_alloc HB.out _⟩, ⟨by rw [HN.out]; simp⟩⟩
   ·rw [HN.out]
    simp [Value.ownBlock] at hq
    omega
   have h2 := World.ownsRow_lit (base := w.heap.size) (e := 3) (size := 1) _ #[] 0 HB.out.size (by simp [maxLen]) (by simp)
   refine (show World.ownsRow _ w.heap.size 3 1 _ 0 [] from ?_)
   simpa using h2
  case round =>
   clear H' HA HB
   obtain ⟨out, i, rfl, HL, HK, HO, HA, HB, HNW⟩ := hrel
   cases gk with
   | zero => exact absurd HL.out (by simp [basL])
   | succ k1 =>
    have H := HL.out
    clear HL
    simp only [basL] at H
    by_cases c1 : i < (l0.length : Int)
    ·rw [if_pos c1] at H
     have c1b : decide (i < (l0.length : Int)) = true := decide_eq_true c1
     replace H := Option.bind_eq_some_iff.mp H
     obtain ⟨c, H1, H⟩ := H
     have HCA := Aside0.mk H1
     clear H1
     by_cases c2 : 0 < c.length ∧ out.length < 1000
     ·rw [if_pos c2] at H
      have H' := Aside0.mk H
      have C2 := Aside0.mk c2
      have c2b : decide ((0 : Int) < (c.length : Int)) = true := decide_eq_true (by omega)
      have c2i : (0 : Int) < (c.length : Int) := by omega
      clear H c1 c2
      go_wp2_with (go_at_call 41; refine (impl_cycleAt.calls k A0 c0 l0 i c _ (Kd.C_below HR0.out HB.out) HC0.out HCA.out).mono ?_; rintro e w' ⟨v, rfl, ho, hb⟩; obtain ⟨Ac, cc, ec⟩ := Kd.R_slice ho; subst ec; obtain ⟨adc, e1, hcell⟩ := Kd.at_int (Kd.R_reads' ho).2.2 0 (by omega) c2i; subst e1; rw [Int.toNat_zero, show adc.add 0 = adc by simp [Addr.add]] at hcell; have n0_ := Aside0.mk (Kd.R_below HO.out hb); have n1_ := Aside0.mk (Kd.R_below HA.out hb); have n2_ := Aside0.mk (below_step HB.out hb); have n3_ := Aside0.mk (Nat.le_trans HNW.out hb.size); clear HO HA HB HNW ho hb; have HO := n0_; have HA := n1_; have HB := n2_; have HNW := n3_; clear n0_ n1_ n2_ n3_)
      have hrx := Kd.R_reads' HA.out
      have HX := basins_IndexFunc w'.heap.size (rd c 0) A4 c4 all (w'.alloc (.cells #[.int .i64 (rd c 0)] 3)) (Kd.C_alloc hrx.2.2 _) hrx.2.1 HALL.out.1 (by simp) HALL.out.2
      obtain ⟨x9, hx9⟩ : ∃ x9, x9 = idxL (rd c 0) all 0 := ⟨_, rfl⟩
      rw [← hx9] at HX
      have HX9 := Aside0.mk hx9
      clear hrx hx9
      refine HX.mono ?_
      rintro e w2 ⟨rfl, q, rfl⟩
      have n0_ := Aside0.mk (Kd.R_drewN (Kd.R_alloc HO.out (.cells #[.int .i64 (rd c 0)] 3)) q)
      have n1_ := Aside0.mk (Kd.R_drewN (Kd.R_alloc HA.out (.cells #[.int .i64 (rd c 0)] 3)) q)
      have n2_ := Aside0.mk (pw_below_drewN (below_alloc HB.out (.cells #[.int .i64 (rd c 0)] 3)) q)
      have n3_ : Aside0 (N ≤ ((w'.alloc (.cells #[.int .i64 (rd c 0)] 3)).drewN q).heap.size) := ⟨Nat.le_trans HNW.out (by show _ ≤ (w'.alloc (.cells #[.int .i64 (rd c 0)] 3)).heap.size; simp)⟩
      clear HX HO HA HB HNW hcell
      have HNW := n3_
      have HO := n0_
      have HA := n1_
      have HB := n2_
      clear n0_ n1_ n2_ n3_
      generalize (w'.alloc (.cells #[.int .i64 (rd c 0)] 3)).drewN q = W at HO HA HB HNW ⊢
      go_wp2_with ((with_reducible refine gate_builtin (b := .append) (xs := #[.tmp 24, .tmp 28]) rfl ?_); at_builtin; refine Kd.R_append (Kd.int .i64) (w0 := w) w.heap.size rfl (.tmp 24) (.tmp 28) 24 3 (.int .i64 0) 8 rfl Tryz.underlying24 info3 rfl (by decide) (by omega) _ out x9 [.int .i64 x9] (fun q => N ≤ q) (fun _ => False) rfl rfl rfl (fun _ h => h.elim) (fun q hq => Nat.le_trans HNW.out hq) HO.out HB.out HB.out.size (by have := C2.out; omega) ?_; intro v2 w3 ho hb hg hat; have n0_ := Aside0.mk ho; have n1_ := Aside0.mk (Kd.R_grown HA.out hg (fun q hq he => by have h9 := HO.out.1 q he.symm; omega)); have n2_ := Aside0.mk hb; have n3_ := Aside0.mk (Nat.le_trans HNW.out hg.size); clear ho hb hg hat HO HA HB HNW; have HO := n0_; have HA := n1_; have HB := n2_; have HNW := n3_; clear n0_ n1_ n2_ n3_)
      go_roundg k1
      case measure => have := HK.out; omega
      case rel => exact ⟨out ++ [x9], wrap64 (i + 1), (by first | rfl | (rw [i64_w]) | go_num), ⟨by rw [HX9.out]; exact H'.out⟩, ⟨by have := HK.out; omega⟩, HO, HA, HB, HNW⟩
     ·rw [if_neg c2] at H
      exact absurd H (by simp)
    ·rw [if_neg c1] at H
     have c1b : decide (i < (l0.length : Int)) = false := decide_eq_false c1
     obtain rfl := Option.some.inj H
     go_wp2
     go_ret2
     exact ⟨_, rfl, Kd.R_mono HO.out (fun _ _ => trivial), HB.out⟩
def spec_l1Has.l0 : Nat → Int → List Int → Int → Int → Option (Bool)
 | 0, _, _, _, _ => none
 | k + 1, x1, x7, x8, x9 => if x9 < x8 then (if 0 ≤ x9 then (if x9 < (x7.length : Int) then (if (rd x7 x9) = x1 then (some true) else (spec_l1Has.l0 k x1 x7 x8 (wrap64 (x9 + 1)))) else (none)) else (none)) else (some false)
def spec_l1Has.f (k : Nat) (l0 : List Int) (a1 : Int) : Option (Bool) := spec_l1Has.l0 k a1 l0 (l0.length : Int) 0
theorem spec_l1Has.mono_l : ∀ k, (∀ y0 y1 y2 y3, LeO (spec_l1Has.l0 k y0 y1 y2 y3) (spec_l1Has.l0 (k + 1) y0 y1 y2 y3))
 | 0 => fun _ _ _ _ r h => by simp [spec_l1Has.l0] at h
 | k + 1 => by
  have ih0 := spec_l1Has.mono_l k
  ·intro y0 y1 y2 y3
   unfold spec_l1Has.l0
   repeat' first
   | (with_reducible exact ih0 _ _ _ _)
   | (with_reducible exact LeO.refl _)
   | (with_reducible exact LeO.none _)
   | (with_reducible refine LeO.ite ?_ ?_)
   | (with_reducible refine LeO.bind ?_ (fun _ => ?_))
   | exact ih0 _ _ _ _
   | exact LeO.none _
   | refine LeO.ite ?_ ?_
   | refine LeO.bind ?_ (fun _ => ?_)
theorem spec_l1Has.mono : ∀ a0 a1 k, LeO (spec_l1Has.f k a0 a1) (spec_l1Has.f (k + 1) a0 a1) := by
 intro a0 a1 k
 have ih0 := spec_l1Has.mono_l k
 unfold spec_l1Has.f
 repeat' first
   | (with_reducible exact ih0 _ _ _ _)
   | (with_reducible exact LeO.refl _)
   | (with_reducible exact LeO.none _)
   | (with_reducible refine LeO.ite ?_ ?_)
   | (with_reducible refine LeO.bind ?_ (fun _ => ?_))
   | exact ih0 _ _ _ _
   | exact LeO.none _
   | refine LeO.ite ?_ ?_
   | refine LeO.bind ?_ (fun _ => ?_)
set_option maxHeartbeats 8000000 in
set_option maxRecDepth 100000 in
theorem spec_l1Has.calls (k : Nat) (A0 : Option Addr) (c0 : Nat) (l0 : List Int) (a1 : Int) (r : Bool) (w : World) (hr0 : Kd.C (Kd.int .i64) w A0 l0.length l0) (hc0 : l0.length ≤ c0) (h : spec_l1Has.f k l0 a1 = some r) :
  Calls Tryz.prog 45 #[.slice A0 l0.length c0, .int .i64 a1] w fun e w' => e = .returned (.bool r) ∧ Drawn0 w w' := by
 have HR0 := Aside0.mk hr0
 have HC0 := Aside0.mk hc0
 clear hr0 hc0
 have H : (spec_l1Has.l0 k a1 l0 (l0.length : Int) 0) = some r := h
 clear h
 have H' := Aside0.mk H
 clear H
 go_enter Tryz.func45, Tryz.ntmps45
 go_wp2
 go_loopg [9] k (fun kq v9 w' => ∃ (x9_1 : Int), v9 = .int .i64 x9_1 ∧ Aside0 (spec_l1Has.l0 kq a1 l0 (l0.length : Int) x9_1 = some r) ∧ Aside0 (kq ≤ k) ∧ Drawn0 w w')
 case atStart => exact ⟨(0), (by first | rfl | (simp; done) | (simp [*]; done)), H', ⟨Nat.le_refl _⟩, by repeat (first | exact Drawn0.refl _ | apply Drawn0.step)⟩
 case round =>
  clear H'
  try clear p2
  obtain ⟨x9_1, rfl, HA, HK1, ⟨m1, rfl⟩⟩ := hrel
  cases gk with
  | zero => exact absurd HA.out (by simp [spec_l1Has.l0])
  | succ k1 =>
   have H := HA.out
   clear HA
   simp only [spec_l1Has.l0] at H
   by_cases c3 : x9_1 < (l0.length : Int)
   ·rw [if_pos c3] at H
    have c3b0 : decide (x9_1 < (l0.length : Int)) = true := decide_eq_true c3
    clear c3
    by_cases c4 : 0 ≤ x9_1
    ·rw [if_pos c4] at H
     have c4b0 : decide (0 ≤ x9_1) = true := decide_eq_true c4
     clear c4
     by_cases c5 : x9_1 < (l0.length : Int)
     ·rw [if_pos c5] at H
      have c5b0 : decide (x9_1 < (l0.length : Int)) = true := decide_eq_true c5
      clear c5
      by_cases c6 : (rd l0 x9_1) = a1
      ·rw [if_pos c6] at H
       have c6b0 : ((rd l0 x9_1) == a1) = true := beq_iff_eq.mpr c6
       have c6b1 : ((rd l0 x9_1) != a1) = false := bne_eq_false_iff_eq.mpr c6
       clear c6
       obtain rfl := Option.some.inj H
       have p256 : 0 ≤ (x9_1 : Int) := of_decide_eq_true (by first | (with_reducible assumption) | assumption)
       have q256 : x9_1 < (l0.length : Int) := of_decide_eq_true (by first | (with_reducible assumption) | assumption)
       obtain ⟨ad256, e256, hx256_0⟩ := Kd.at_int HR0.out x9_1 p256 q256
       cases e256
       replace p256 := eq_true p256
       replace q256 := eq_true q256
       go_wp2
       go_ret
       exact ⟨by first | rfl | (simp; done) | (simp [*]; done), by repeat (first | exact Drawn0.refl _ | apply Drawn0.step)⟩
      ·rw [if_neg c6] at H
       have c6b0 : ((rd l0 x9_1) == a1) = false := beq_eq_false_iff_ne.mpr c6
       have c6b1 : ((rd l0 x9_1) != a1) = true := bne_iff_ne.mpr c6
       have H' := Aside0.mk H
       clear H
       have p256 : 0 ≤ (x9_1 : Int) := of_decide_eq_true (by first | (with_reducible assumption) | assumption)
       have q256 : x9_1 < (l0.length : Int) := of_decide_eq_true (by first | (with_reducible assumption) | assumption)
       obtain ⟨ad256, e256, hx256_0⟩ := Kd.at_int HR0.out x9_1 p256 q256
       cases e256
       replace p256 := eq_true p256
       replace q256 := eq_true q256
       go_wp2
       go_roundg k1
       case measure => have := HK1.out; omega
       case rel => exact ⟨(wrap64 (x9_1 + 1)), (by first | rfl | (simp; done) | (simp [*]; done)), H', ⟨by have := HK1.out; omega⟩, by repeat (first | exact Drawn0.refl _ | apply Drawn0.step)⟩
     ·rw [if_neg c5] at H
      exact absurd H (by simp)
    ·rw [if_neg c4] at H
     exact absurd H (by simp)
   ·rw [if_neg c3] at H
    have c3b0 : decide (x9_1 < (l0.length : Int)) = false := decide_eq_false c3
    clear c3
    obtain rfl := Option.some.inj H
    go_wp2
    go_ret
    exact ⟨by first | rfl | (simp; done) | (simp [*]; done), by repeat (first | exact Drawn0.refl _ | apply Drawn0.step)⟩
end Go.Proofs.YtcaohpcbohdkbaaGreat.PFnMapsEnd
end
