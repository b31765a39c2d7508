/- Plain texts of FnCyclesOfPowers, merged by a program: what Go functions compute, lemmas of the walk, and proofs. No conditions. -/
import Derived.Test.YtehhkkbejmhcfaaZFnCyclesOfPowers7
import Derived.Test.YtehhkkbejmhcfaaZFnCyclesOfPowers8
import Derived.Test.YtehhkkbejmhcfaaZFnCyclesOfPowers11
import Derived.Test.YtehhkkbejmhcfaaZFnCyclesOfPowers12
import Derived.Test.YtehhkkbejmhcfaaZFnCyclesOfPowers13
import Derived.Test.YtehhkkbejmhcfaaZFnCyclesOfPowers14
import Derived.Test.YtehhkkbejmhcfaaZFnCyclesOfPowers15
section
namespace Go.Proofs.Ytehhkkbejmhcfaa.PFnCyclesOfPowers
open Go.RowKit Go.Proofs.YtehhkkbejmhcfaaW.PrintWords Go.Proofs.YtehhkkbejmhcfaaW.PrintLast Go.Proofs.YtehhkkbejmhcfaaW.PrintMore
attribute [local go_sem] max2_int min2_int max_two min_two max_three min_three max_four min_four   -- for this text's walks alone
set_option linter.unusedVariables false
set_option linter.unusedSimpArgs false
def laws_FnCyclesOfPowers.c1 : Nat → Int → Int → List Int → Int → Option Bool
  | 0, _, _, _, _ => none
  | k + 1, b, p, c, i => if i < (c.length : Int) then (if 0 ≤ i ∧ 0 ≤ Int.tmod (wrap64 (i + 1)) (c.length : Int) ∧ Int.tmod (wrap64 (i + 1)) (c.length : Int) < (c.length : Int) ∧ ¬ rd c i < rd c 0 then ((impl_PowerSum.f k (rd c i) b p).bind fun s => if s.2 = true ∧ s.1 = rd c (Int.tmod (wrap64 (i + 1)) (c.length : Int)) then laws_FnCyclesOfPowers.c1 k b p c (wrap64 (i + 1)) else none) else none) else some true
def laws_FnCyclesOfPowers.c0 : Nat → Int → Int → List (List Int) → List Int → Int → Option (List Int)
  | 0, _, _, _, _, _ => none
  | k + 1, b, p, cs, first, i => if i < (cs.length : Int) then (if 0 ≤ i ∧ 0 < ((rd_L1 cs i).length : Int) ∧ first.length < 17592186044416 ∧ (i = 0 → rd (rd_L1 cs i) 0 = 0 ∧ ((rd_L1 cs i).length : Int) = 1) then ((laws_FnCyclesOfPowers.c1 k b p (rd_L1 cs i) 0).bind fun _ => laws_FnCyclesOfPowers.c0 k b p cs (first ++ [rd (rd_L1 cs i) 0]) (wrap64 (i + 1))) else none) else some first
def laws_FnCyclesOfPowers.num (n0 n1 : Nat) (i : Int) : Int := Int.tmod (wrap64 (wrap64 (wrap64 (wrap64 (wrap64 (i * i) * i) * 7919) + wrap64 (104729 * (n0 : Int))) + wrap64 (31 * (n1 : Int)))) 1000000
def laws_FnCyclesOfPowers.c2 : Nat → Int → Int → List Int → Nat → Nat → Int → Option Bool
  | 0, _, _, _, _, _, _ => none
  | k + 1, b, p, first, n0, n1, i => if i < 20 then ((impl_EndsIn.f k (laws_FnCyclesOfPowers.num n0 n1 i) b p).bind fun e => (laws_rHas.f k first e.1).bind fun h => if e.2 = true ∧ h = true then laws_FnCyclesOfPowers.c2 k b p first n0 n1 (wrap64 (i + 1)) else none) else some true
def laws_FnCyclesOfPowers.c3 : Nat → Int → Int → Int → Int → Int → Option Bool
  | 0, _, _, _, _, _ => none
  | k + 1, s, c, q, least, m => if m < least ∧ m < 300 then ((impl_PowerSum.f k m c q).bind fun o => if o.2 = true ∧ o.1 ≠ s then laws_FnCyclesOfPowers.c3 k s c q least (wrap64 (m + 1)) else none) else some true
def laws_FnCyclesOfPowers.p1 (k : Nat) (b p : Int) (g : List (List Int)) (n0 n1 : Nat) : Option Bool := (laws_FnCyclesOfPowers.c0 k b p g [] 0).bind fun first => (laws_rRising.f k first).bind fun a => (laws_rHas.f k first 1).bind fun h => if a = true ∧ h = true then laws_FnCyclesOfPowers.c2 k b p first n0 n1 0 else none
def laws_FnCyclesOfPowers.p2 (k : Nat) (l1 : List Int) : Option Bool := (spec_DrawLeastWithSum.f l1).bind fun s => (impl_LeastWithSum.f k s.1 s.2.1 s.2.2).bind fun x => (spec_LeastWithSum.f k s.1 s.2.1 s.2.2).bind fun y => if y.2 = x.2 ∧ y.1 = x.1 then (if x.2 = true then ((impl_PowerSum.f k x.1 s.2.1 s.2.2).bind fun o => if o.2 = true ∧ o.1 = s.1 then laws_FnCyclesOfPowers.c3 k s.1 s.2.1 s.2.2 x.1 0 else none) else some true) else none
def laws_FnCyclesOfPowers.f (k : Nat) (l0 l1 : List Int) : Option Bool := (laws_big.f l0 l1).bind fun t => if t = true then some true else ((spec_DrawCyclesOfPowers.f l0).bind fun d => (impl_CyclesOfPowers.f k d.1 d.2).bind fun g => (spec_CyclesOfPowers.f k d.1 d.2).bind fun w => (laws_rRows.f k g.1 w.1).bind fun e => if w.2 = g.2 ∧ e = true then ((if g.2 = true then laws_FnCyclesOfPowers.p1 k d.1 d.2 g.1 l0.length l1.length else some true).bind fun _ => laws_FnCyclesOfPowers.p2 k l1) else none)
structure CoSt (w : World) (N : Nat) (vg vf : Value) (tg : List (List Int)) (first : List Int) (W : World) : Prop where
  B : Below w.heap.size w W
  hN : w.heap.size ≤ N ∧ N ≤ W.heap.size
  Hg : Kd.S (Kd.slice 3 (Kd.int .i64)) 22 W w.heap.size (fun k => k < N) vg tg
  HF : Kd.R (Kd.int .i64) 3 W w.heap.size (fun k => N ≤ k) vf first
section
variable {w W W2 : World} {N : Nat} {vg vf vc : Value} {tg : List (List Int)} {first cy : List Int}
theorem CoSt.below (h : CoSt w N vg vf tg first W) (hb : Below W.heap.size W W2) : CoSt w N vg vf tg first W2 :=
  ⟨below_step h.B hb, ⟨h.hN.1, Nat.le_trans h.hN.2 hb.size⟩, Kd.S_below h.Hg hb, Kd.R_below h.HF hb⟩
theorem CoSt.drew (h : CoSt w N vg vf tg first W) : CoSt w N vg vf tg first W.drew := h.below (below_drew (Below.refl _ _))
theorem CoSt.drewN (h : CoSt w N vg vf tg first W) (m : Nat) : CoSt w N vg vf tg first (W.drewN m) := h.below (pw_below_drewN (Below.refl _ _) m)
theorem CoSt.app (h : CoSt w N vg vf tg first W) {v1 : Value} {f2 : List Int} (hR : Kd.R (Kd.int .i64) 3 W2 w.heap.size (fun k => N ≤ k) v1 f2) (hb : Below w.heap.size w W2) (hg : W.grownBy W2 vf.ownBlock) : CoSt w N vg v1 tg f2 W2 :=
  ⟨hb, ⟨h.hN.1, Nat.le_trans h.hN.2 hg.size⟩, Kd.S_grown h.Hg hg (fun k hk e => by have := h.HF.1 k e.symm; omega), hR⟩
end
set_option maxHeartbeats 8000000 in
set_option maxRecDepth 100000 in
theorem laws_FnCyclesOfPowers.calls (k : Nat) (A0 : Option Addr) (c0 : Nat) (l0 : List Int) (A1 : Option Addr) (c1 : Nat) (l1 : List Int) (r : Bool) (w : World) (hr0 : Kd.C (Kd.int .u8) w A0 l0.length l0) (hc0 : l0.length ≤ c0) (hr1 : Kd.C (Kd.int .u8) w A1 l1.length l1) (hc1 : l1.length ≤ c1) (h : laws_FnCyclesOfPowers.f k l0 l1 = some r) :
    Calls Try.prog 6 #[.slice A0 l0.length c0, .slice A1 l1.length c1] w fun e w' => e = .returned (.bool r) ∧ Below w.heap.size w w' := by
  have HR0 := Aside0.mk hr0
  have HC0 := Aside0.mk hc0
  have HR1 := Aside0.mk hr1
  have HC1 := Aside0.mk hc1
  clear hr0 hc0 hr1 hc1
  unfold laws_FnCyclesOfPowers.f at h
  obtain ⟨t, a1, h⟩ := Option.bind_eq_some_iff.mp h
  have A1_ := Aside0.mk a1
  clear a1
  have HB := Aside0.mk (Below.refl w.heap.size w)
  cases t with
  | true =>
    rw [if_pos rfl] at h
    obtain rfl := Option.some.inj h
    clear h
    go_enter Try.func6, Try.ntmps6
    go_wp2_with (first | (go_at_call 20; refine (laws_big.calls _ _ l0 _ _ l1 true _ HR0.out HC0.out HR1.out HC1.out A1_.out).mono ?_; rintro e w1 ⟨rfl, hd⟩; clear HB; have HB := Aside0.mk (hd.below : Below w.heap.size w w1); clear hd))
    go_ret
    exact ⟨rfl, HB.out⟩
  | false =>
    rw [if_neg (by decide)] at h
    obtain ⟨⟨b, p⟩, a2, h⟩ := Option.bind_eq_some_iff.mp h
    obtain ⟨⟨tg, bg⟩, a3, h⟩ := Option.bind_eq_some_iff.mp h
    obtain ⟨⟨tW, bW⟩, a4, h⟩ := Option.bind_eq_some_iff.mp h
    obtain ⟨e1, a5, h⟩ := Option.bind_eq_some_iff.mp h
    have hc : (bW = bg ∧ e1 = true) ∧ ((if bg = true then laws_FnCyclesOfPowers.p1 k b p tg l0.length l1.length else some true).bind fun _ => laws_FnCyclesOfPowers.p2 k l1) = some r := by
      by_cases hc : bW = bg ∧ e1 = true
      · rw [if_pos hc] at h; exact ⟨hc, h⟩
      · rw [if_neg hc] at h; cases h
    clear h
    obtain ⟨⟨rfl, rfl⟩, h⟩ := hc
    obtain ⟨u_, a6, h⟩ := Option.bind_eq_some_iff.mp h
    have A2 := Aside0.mk a2
    have A3 := Aside0.mk a3
    have A4 := Aside0.mk a4
    have A5 := Aside0.mk a5
    have A6 := Aside0.mk a6
    have H := Aside0.mk h
    clear a2 a3 a4 a5 a6 h
    go_enter Try.func6, Try.ntmps6
    go_upto_region 6 with (first | (go_at_call 20; refine (laws_big.calls _ _ l0 _ _ l1 false _ HR0.out HC0.out HR1.out HC1.out A1_.out).mono ?_; rintro e w1 ⟨rfl, hd⟩; clear HB; have HB := Aside0.mk (hd.below : Below w.heap.size w w1); clear hd) | (go_at_call 21; refine (spec_DrawCyclesOfPowers.calls _ _ l0 b p _ (Kd.C_below HR0.out HB.out) HC0.out A2.out).mono ?_; rintro e w2 ⟨rfl, hb⟩; have n0_ := Aside0.mk (below_step HB.out hb); clear HB hb; have HB := n0_; clear n0_) | (go_at_call 16; refine (impl_CyclesOfPowers.calls k b p tg bW _ A3.out).mono ?_; rintro e w3 ⟨vg, rfl, ho, hb⟩; obtain ⟨Ag, cg, eg⟩ := Kd.S_slice ho; subst eg; have HG := Aside0.mk (Kd.S_lower ho HB.out.size); have n0_ := Aside0.mk (below_step HB.out hb); clear HB ho hb; have HB := n0_; clear n0_) | (go_at_call 15; refine (spec_CyclesOfPowers.calls k b p tW bW _ A4.out).mono ?_; rintro e w4 ⟨vW, rfl, ho, hb⟩; obtain ⟨AW, cW, eW⟩ := Kd.N_slice ho; subst eW; have HW := Aside0.mk ho; have n0_ := Aside0.mk (Kd.S_below HG.out hb); clear HG; have HG := n0_; clear n0_; have n0_ := Aside0.mk (below_step HB.out hb); clear HB ho hb; have HB := n0_; clear n0_))
    go_cut [62] (fun v62 wc => v62 = .bool false ∧ Aside0 (Below w.heap.size w wc) ∧ Aside0 (Kd.S (Kd.slice 3 (Kd.int .i64)) 22 wc w.heap.size (fun _ => True) (.slice Ag tg.length cg) tg))
    case first =>
      have hbn : (bW != bW) = false := by simp
      go_wp2_with (first | (go_at_call 22; refine (laws_rRows.calls k _ _ tg _ _ tW true _ (Kd.S_reads' HG.out).2.2 (Kd.S_reads' HG.out).2.1 (Kd.N_reads' HW.out).2.2 (Kd.N_reads' HW.out).2.1 A5.out).mono ?_; rintro e w' ⟨rfl, ⟨nd, rfl⟩⟩; (try first | exact ⟨rfl, _, World.drewN_drewN _ _ _⟩)))
      repeat (go_quiet (first | (go_at_call 22; refine (laws_rRows.calls k _ _ tg _ _ tW true _ (Kd.S_reads' HG.out).2.2 (Kd.S_reads' HG.out).2.1 (Kd.N_reads' HW.out).2.2 (Kd.N_reads' HW.out).2.1 A5.out).mono ?_; rintro e w' ⟨rfl, ⟨nd, rfl⟩⟩; (try first | exact ⟨rfl, _, World.drewN_drewN _ _ _⟩))); try go_wp2)
      go_meet
      case rel => exact ⟨rfl, ⟨by repeat (first | (with_reducible first | exact HB.out | apply pw_below_drewN | apply below_drew1) | exact HB.out)⟩, ⟨by (with_reducible repeat (first | apply Kd.S_alloc | apply Kd.S_drewN | apply Kd.S_drew)); exact HG.out⟩⟩
    case rest =>
      obtain ⟨rfl, HB, HG⟩ := hcut
      go_upto_if 63 with (fail)
      go_cut [] (fun wd => Aside0 (Below w.heap.size w wd))
      case first =>
        as_aux_lemma =>
          cases bW with
          | false =>
            go_wp2
            go_meet
            case rel => exact ⟨HB.out⟩
          | true =>
            rw [if_pos rfl] at A6
            unfold laws_FnCyclesOfPowers.p1 at A6
            obtain ⟨first, a7, h⟩ := Option.bind_eq_some_iff.mp A6.out
            obtain ⟨ra, a8, h⟩ := Option.bind_eq_some_iff.mp h
            obtain ⟨rh, a9, h⟩ := Option.bind_eq_some_iff.mp h
            have hc : (ra = true ∧ rh = true) ∧ laws_FnCyclesOfPowers.c2 k b p first l0.length l1.length 0 = some u_ := by
              by_cases hc : ra = true ∧ rh = true
              · rw [if_pos hc] at h; exact ⟨hc, h⟩
              · rw [if_neg hc] at h; cases h
            clear h
            obtain ⟨⟨rfl, rfl⟩, a10⟩ := hc
            have A7 := Aside0.mk a7
            have A8 := Aside0.mk a8
            have A9 := Aside0.mk a9
            have A10 := Aside0.mk a10
            clear a7 a8 a9 a10 A6 H
            have HS := Aside0.mk (show CoSt w wc.heap.size (.slice Ag tg.length cg) (.slice none 0 0) tg [] wc from ⟨HB.out, ⟨HB.out.size, Nat.le_refl _⟩, Kd.S_mono (Kd.S_bound HG.out) (fun k hk => hk.2.2.1), Kd.R_nil _ _ _ _ _⟩)
            generalize wc.heap.size = N at HS
            clear HB HG
            go_wp2
            go_loopg [11, 66] k (fun kq v11 v66 w' => ∃ (fi_1 : List Int) (i_1 : Int), v66 = .int .i64 i_1 ∧ Aside0 (laws_FnCyclesOfPowers.c0 kq b p tg fi_1 i_1 = some first) ∧ Aside0 (kq ≤ k) ∧ Aside0 (CoSt w N (.slice Ag tg.length cg) v11 tg fi_1 w'))
            case atStart => exact ⟨[], 0, rfl, A7, ⟨Nat.le_refl _⟩, ⟨by first | exact HS.out | exact HS.out.drew | exact HS.out.drewN _⟩⟩
            case round =>
              clear A7 HS
              obtain ⟨fi_1, i_1, rfl, HA, HK1, HS⟩ := hrel
              cases gk with
              | zero => exact absurd HA.out (by simp [laws_FnCyclesOfPowers.c0])
              | succ k1 =>
                have h := HA.out
                clear HA
                rw [laws_FnCyclesOfPowers.c0] at h
                by_cases c2 : i_1 < (tg.length : Int)
                · rw [if_pos c2] at h
                  have c2b0 : decide (i_1 < (tg.length : Int)) = true := decide_eq_true c2
                  by_cases c3 : 0 ≤ i_1 ∧ 0 < ((rd_L1 tg i_1).length : Int) ∧ fi_1.length < 17592186044416 ∧ (i_1 = 0 → rd (rd_L1 tg i_1) 0 = 0 ∧ ((rd_L1 tg i_1).length : Int) = 1)
                  · rw [if_pos c3] at h
                    obtain ⟨t1, a11, h⟩ := Option.bind_eq_some_iff.mp h
                    obtain ⟨c3a, c3b, c3c, c3d⟩ := c3
                    obtain ⟨g5, co5, e5, -, -, -⟩ := Kd.S_form HS.out.Hg (by omega)
                    injection e5 with ea_ en_ ec_
                    subst ea_
                    subst ec_
                    obtain ⟨oki, cs, hcl, ⟨v5, rfl, hR5⟩, hcell, hoki, hH⟩ := Kd.S_lend HS.out.Hg ([] : List Int) i_1 c3a c2
                    have hc0 := hcell 0 v5 rfl
                    rw [show i_1.toNat * (Kd.slice 3 (Kd.int .i64)).sz + 0 = i_1.toNat from by show i_1.toNat * 1 + 0 = _; omega] at hc0
                    clear hcell hcl hH
                    obtain ⟨cy, hcy⟩ : ∃ cy, cy = rd_L1 tg i_1 := ⟨_, rfl⟩
                    rw [← hcy] at c3b c3d a11 h
                    have hR6 : Kd.R (Kd.int .i64) 3 wr w.heap.size oki v5 cy := by rw [hcy]; exact hR5
                    clear hR5 hcy
                    have HCY := Aside0.mk (Kd.R_mono hR6 (fun k hk => (hoki k hk).1) : Kd.R (Kd.int .i64) 3 wr w.heap.size (fun k => k < N) v5 cy)
                    clear hR6 hoki
                    obtain ⟨Ac, cc, ec⟩ := Kd.R_slice HCY.out
                    subst ec
                    obtain ⟨ad2, e2, hx0⟩ := Kd.at_int (Kd.R_reads' HCY.out).2.2 0 (by omega) c3b
                    cases e2
                    rw [Int.toNat_zero] at hx0
                    have eadd : ad2.add 0 = ad2 := by first | rfl | (cases ad2; rfl) | (cases ad2; simp [Addr.add])
                    have hx0' : wr.cell? ad2 = some (.int .i64 (rd cy 0)) := by rw [eadd] at hx0; exact hx0
                    clear eadd
                    clear hx0
                    have A11 := Aside0.mk a11
                    have H' := Aside0.mk h
                    have C3d := Aside0.mk c3d
                    have C3c := Aside0.mk c3c
                    have q0 := eq_true c3b
                    have q0b : decide ((0 : Int) < (cy.length : Int)) = true := decide_eq_true c3b
                    have q0n : 0 < cy.length := by omega
                    have q0m := eq_true q0n
                    have q0c : decide (0 < cy.length) = true := decide_eq_true q0n
                    have q0e : (cy = []) = False := eq_false (fun e => by rw [e] at q0n; simp at q0n)
                    have q1 : ((cy.length : Int) = 0) = False := eq_false (by omega)
                    have q2 : ((cy.length : Int) == 0) = false := beq_eq_false_iff_ne.mpr (by omega)
                    have C3b := Aside0.mk c3b
                    replace c2 := eq_true c2
                    have c3e := eq_true c3a
                    clear a11 h c3d c3c c3a c3b
                    go_wp2_with (first | ((with_reducible refine gate_builtin (b := .append) (xs := #[.tmp 71, .tmp 75]) rfl ?_); at_builtin; refine Kd.R_append (Kd.int .i64) (w0 := w) w.heap.size rfl (.tmp 71) (.tmp 75) 22 3 (.int .i64 0) 8 rfl Try.underlying22 info3 rfl (by decide) (by omega) _ fi_1 (rd cy 0) [.int .i64 (rd cy 0)] (fun k => N ≤ k) (fun _ => False) rfl rfl rfl (fun _ h => h.elim) (fun k hk => Nat.le_trans HS.out.hN.2 hk) HS.out.HF HS.out.B HS.out.B.size (by have := C3c.out; omega) ?_; intro v2 w7 ho hb hg hat; have n1_ := Aside0.mk (Kd.R_grown HCY.out hg (fun k hk e => by have := HS.out.HF.1 k e.symm; omega)); have n0_ := Aside0.mk (HS.out.app ho hb hg); clear hat hg ho hb HS HCY; have HS := n0_; have HCY := n1_; clear n0_ n1_ hx0' hc0))
                    go_loopg [79] k1 (fun kq2 v79 w2 => ∃ (j_1 : Int), v79 = .int .i64 j_1 ∧ Aside0 (laws_FnCyclesOfPowers.c1 kq2 b p cy j_1 = some t1) ∧ Aside0 (kq2 ≤ k1) ∧ Aside0 (CoSt w N (.slice (some ⟨g5, 0, none⟩) tg.length cg) v2 tg (fi_1 ++ [rd cy 0]) w2) ∧ Aside0 (Kd.R (Kd.int .i64) 3 w2 w.heap.size (fun k => k < N) (.slice (some ad2) cy.length cc) cy))
                    case atStart => exact ⟨0, rfl, A11, ⟨Nat.le_refl _⟩, ⟨by first | exact HS.out | exact HS.out.drew | exact HS.out.drewN _⟩, ⟨by (with_reducible repeat (first | apply Kd.R_alloc | apply Kd.R_drewN | apply Kd.R_drew)); exact HCY.out⟩⟩
                    case round =>
                      as_aux_lemma =>
                        clear A11 HS HCY
                        obtain ⟨j_1, rfl, HA, HK2, HS, HCY⟩ := hrel
                        cases gk with
                        | zero => exact absurd HA.out (by simp [laws_FnCyclesOfPowers.c1])
                        | succ k2 =>
                          have h := HA.out
                          clear HA
                          rw [laws_FnCyclesOfPowers.c1] at h
                          by_cases d2 : j_1 < (cy.length : Int)
                          · rw [if_pos d2] at h
                            have d2b0 : decide (j_1 < (cy.length : Int)) = true := decide_eq_true d2
                            obtain ⟨ix, hix⟩ : ∃ ix, ix = Int.tmod (wrap64 (j_1 + 1)) (cy.length : Int) := ⟨_, rfl⟩
                            rw [← hix] at h
                            by_cases d3 : 0 ≤ j_1 ∧ 0 ≤ ix ∧ ix < (cy.length : Int) ∧ ¬ rd cy j_1 < rd cy 0
                            · rw [if_pos d3] at h
                              obtain ⟨⟨s1, s2⟩, a12, h⟩ := Option.bind_eq_some_iff.mp h
                              have hc : (s2 = true ∧ s1 = rd cy ix) ∧ laws_FnCyclesOfPowers.c1 k2 b p cy (wrap64 (j_1 + 1)) = some t1 := by
                                by_cases hc : s2 = true ∧ s1 = rd cy ix
                                · rw [if_pos hc] at h; exact ⟨hc, h⟩
                                · rw [if_neg hc] at h; cases h
                              clear h
                              obtain ⟨⟨rfl, rfl⟩, h⟩ := hc
                              obtain ⟨d3a, d3b, d3c, d3d⟩ := d3
                              have A12 := Aside0.mk a12
                              have H'' := Aside0.mk h
                              clear a12 h
                              have hqi := (Kd.R_reads' HCY.out).2.2
                              obtain ⟨ad3, e3, hy1⟩ := Kd.at_int hqi j_1 d3a d2
                              cases e3
                              have D3 := Aside0.mk (And.intro d3b d3c)
                              have d3e : decide (rd cy j_1 < rd cy 0) = false := decide_eq_false d3d
                              have r1 := eq_true d3a
                              have r2 := eq_true d2
                              have r3 := eq_true d3b
                              have r4 := eq_true d3c
                              have r5 : decide (0 ≤ ix) = true := decide_eq_true d3b
                              have r6 : decide (ix < (cy.length : Int)) = true := decide_eq_true d3c
                              clear d3a d3b d3c d3d hqi
                              go_upto_region 18 with (first | (go_at_call 23; refine (impl_PowerSum.calls k2 (rd cy j_1) b p (rd cy ix) true _ A12.out).mono ?_; rintro e w8 ⟨rfl, hb⟩; have n0_ := Aside0.mk (HS.out.below hb); clear HS; have HS := n0_; clear n0_; have n0_ := Aside0.mk (Kd.R_below HCY.out hb); clear HCY hb; have HCY := n0_; clear n0_))
                              go_cut [111] (fun v111 wx => v111 = .bool false ∧ Aside0 (CoSt w N (.slice (some ⟨g5, 0, none⟩) tg.length cg) v2 tg (fi_1 ++ [rd cy 0]) wx) ∧ Aside0 (Kd.R (Kd.int .i64) 3 wx w.heap.size (fun k => k < N) (.slice (some ad2) cy.length cc) cy))
                              case first =>
                                as_aux_lemma =>
                                  obtain ⟨ad4, e4, hz1⟩ := Kd.at_int (Kd.R_reads' HCY.out).2.2 ix D3.out.1 D3.out.2
                                  cases e4
                                  obtain ⟨ad5, e5, hz0⟩ := Kd.at_int (Kd.R_reads' HCY.out).2.2 0 (by omega) C3b.out
                                  cases e5
                                  rw [Int.toNat_zero] at hz0
                                  have eadd : ad2.add 0 = ad2 := by first | rfl | (cases ad2; rfl) | (cases ad2; simp [Addr.add])
                                  rw [eadd] at hz0
                                  clear eadd
                                  have hix' := hix.symm
                                  clear hix
                                  have q3 : ((cy.length : Int) != 0) = true := bne_iff_ne.mpr (by have := C3b.out; omega)
                                  have q4 : ¬ (cy = []) := fun e => by have := C3b.out; rw [e] at this; simp at this
                                  have q5 : cy.length ≠ 0 := by have := C3b.out; omega
                                  have hneq : (rd cy ix != rd cy ix) = false := by simp
                                  go_wp2
                                  repeat (go_quiet (fail); try go_wp2)
                                  go_meet
                                  case rel => exact ⟨by first | rfl | (simp; done), ⟨by first | exact HS.out | exact HS.out.drew | exact HS.out.drewN _⟩, ⟨by (with_reducible repeat (first | apply Kd.R_alloc | apply Kd.R_drewN | apply Kd.R_drew)); exact HCY.out⟩⟩
                              case rest =>
                                obtain ⟨rfl, HS, HCY⟩ := hcut
                                go_wp2
                                go_roundg k2
                                case measure => have := HK2.out; omega
                                case rel => exact ⟨wrap64 (j_1 + 1), (by first | rfl | (simp; done) | (simp [*]; done)), H'', ⟨by have := HK2.out; omega⟩, ⟨by first | exact HS.out | exact HS.out.drew | exact HS.out.drewN _⟩, ⟨by (with_reducible repeat (first | apply Kd.R_alloc | apply Kd.R_drewN | apply Kd.R_drew)); exact HCY.out⟩⟩
                            · rw [if_neg d3] at h
                              cases h
                          · rw [if_neg d2] at h
                            have d2b0 : decide (j_1 < (cy.length : Int)) = false := decide_eq_false d2
                            clear h d2
                            go_upto_region 21 with (fail)
                            go_cut [125] (fun v125 wx => v125 = .bool false ∧ Aside0 (CoSt w N (.slice (some ⟨g5, 0, none⟩) tg.length cg) v2 tg (fi_1 ++ [rd cy 0]) wx))
                            case first =>
                              by_cases hi0 : i_1 = 0
                              · obtain ⟨z0, z1⟩ := C3d.out hi0
                                obtain ⟨ad4, e4, hz0⟩ := Kd.at_int (Kd.R_reads' HCY.out).2.2 0 (by omega) C3b.out
                                cases e4
                                rw [Int.toNat_zero] at hz0
                                have eadd : ad2.add 0 = ad2 := by first | rfl | (cases ad2; rfl) | (cases ad2; simp [Addr.add])
                                rw [eadd, z0] at hz0
                                clear eadd
                                have b1 : (i_1 == 0) = true := beq_iff_eq.mpr hi0
                                have b3 : ((cy.length : Int) != 1) = false := by rw [z1]; rfl
                                have b4 : ((0 : Int) != 0) = false := rfl
                                clear hi0 z0 z1
                                go_wp2
                                repeat (go_quiet (fail); try go_wp2)
                                go_meet
                                case rel => exact ⟨by first | rfl | (simp; done), ⟨by first | exact HS.out | exact HS.out.drew | exact HS.out.drewN _⟩⟩
                              · have b1 : (i_1 == 0) = false := beq_eq_false_iff_ne.mpr hi0
                                clear hi0
                                go_wp2
                                repeat (go_quiet (fail); try go_wp2)
                                go_meet
                                case rel => exact ⟨by first | rfl | (simp; done), ⟨by first | exact HS.out | exact HS.out.drew | exact HS.out.drewN _⟩⟩
                            case rest =>
                              obtain ⟨rfl, HS⟩ := hcut
                              go_wp2
                              go_roundg k1
                              case measure => have := HK1.out; omega
                              case rel => exact ⟨fi_1 ++ [rd cy 0], wrap64 (i_1 + 1), (by first | rfl | (simp; done) | (simp [*]; done)), H', ⟨by have := HK1.out; omega⟩, ⟨by first | exact HS.out | exact HS.out.drew | exact HS.out.drewN _⟩⟩
                  · rw [if_neg c3] at h
                    cases h
                · rw [if_neg c2] at h
                  have c2b0 : decide (i_1 < (tg.length : Int)) = false := decide_eq_false c2
                  have hfi := Option.some.inj h
                  subst hfi
                  clear h c2
                  obtain ⟨Af, cf, ef⟩ := Kd.R_slice HS.out.HF
                  subst ef
                  go_upto_region 24 with (fail)
                  go_cut [134] (fun v134 wx => v134 = .bool false ∧ Aside0 (CoSt w N (.slice Ag tg.length cg) (.slice Af fi_1.length cf) tg fi_1 wx))
                  case first =>
                    go_wp2_with (first | (go_at_call 24; (with_reducible refine (laws_rRising.calls k _ _ fi_1 true _ ?side1 ?side2 A8.out).mono ?_); (case side1 => repeat (first | exact (Kd.R_reads' HS.out.HF).2.2 | (with_reducible refine Kd.C_alloc ?_ _) | (with_reducible refine Kd.C_drewN ?_ _) | (with_reducible refine Kd.C_drew ?_))); (case side2 => exact (Kd.R_reads' HS.out.HF).2.1); rintro e w' ⟨rfl, ⟨nd, rfl⟩⟩) | (go_at_call 25; (with_reducible refine (laws_rHas.calls k _ _ fi_1 1 true _ ?side1 ?side2 A9.out).mono ?_); (case side1 => repeat (first | exact (Kd.R_reads' HS.out.HF).2.2 | (with_reducible refine Kd.C_alloc ?_ _) | (with_reducible refine Kd.C_drewN ?_ _) | (with_reducible refine Kd.C_drew ?_))); (case side2 => exact (Kd.R_reads' HS.out.HF).2.1); rintro e w' ⟨rfl, ⟨nd, rfl⟩⟩))
                    repeat (go_quiet (first | (go_at_call 24; (with_reducible refine (laws_rRising.calls k _ _ fi_1 true _ ?side1 ?side2 A8.out).mono ?_); (case side1 => repeat (first | exact (Kd.R_reads' HS.out.HF).2.2 | (with_reducible refine Kd.C_alloc ?_ _) | (with_reducible refine Kd.C_drewN ?_ _) | (with_reducible refine Kd.C_drew ?_))); (case side2 => exact (Kd.R_reads' HS.out.HF).2.1); rintro e w' ⟨rfl, ⟨nd, rfl⟩⟩) | (go_at_call 25; (with_reducible refine (laws_rHas.calls k _ _ fi_1 1 true _ ?side1 ?side2 A9.out).mono ?_); (case side1 => repeat (first | exact (Kd.R_reads' HS.out.HF).2.2 | (with_reducible refine Kd.C_alloc ?_ _) | (with_reducible refine Kd.C_drewN ?_ _) | (with_reducible refine Kd.C_drew ?_))); (case side2 => exact (Kd.R_reads' HS.out.HF).2.1); rintro e w' ⟨rfl, ⟨nd, rfl⟩⟩)); try go_wp2)
                    go_meet
                    case rel => exact ⟨by first | rfl | (simp; done), ⟨by repeat (first | exact HS.out | apply CoSt.drewN | apply CoSt.drew)⟩⟩
                  case rest =>
                    obtain ⟨rfl, HS⟩ := hcut
                    go_wp2
                    go_loopg [18] k (fun kq v18 w' => ∃ (i_2 : Int), v18 = .int .i64 i_2 ∧ Aside0 (laws_FnCyclesOfPowers.c2 kq b p fi_1 l0.length l1.length i_2 = some u_) ∧ Aside0 (kq ≤ k) ∧ Aside0 (CoSt w N (.slice Ag tg.length cg) (.slice Af fi_1.length cf) tg fi_1 w'))
                    case atStart => exact ⟨0, rfl, A10, ⟨Nat.le_refl _⟩, ⟨by repeat (first | exact HS.out | apply CoSt.drewN | apply CoSt.drew)⟩⟩
                    case round =>
                      as_aux_lemma =>
                        clear A10 HS
                        obtain ⟨i_2, rfl, HA, HK2, HS⟩ := hrel
                        cases gk with
                        | zero => exact absurd HA.out (by simp [laws_FnCyclesOfPowers.c2])
                        | succ k3 =>
                          have h := HA.out
                          clear HA
                          rw [laws_FnCyclesOfPowers.c2] at h
                          by_cases e2 : i_2 < 20
                          · rw [if_pos e2] at h
                            have e2b0 : decide (i_2 < 20) = true := decide_eq_true e2
                            obtain ⟨⟨s1, s2⟩, a13, h⟩ := Option.bind_eq_some_iff.mp h
                            obtain ⟨hh, a14, h⟩ := Option.bind_eq_some_iff.mp h
                            have hc : (s2 = true ∧ hh = true) ∧ laws_FnCyclesOfPowers.c2 k3 b p fi_1 l0.length l1.length (wrap64 (i_2 + 1)) = some u_ := by
                              by_cases hc : s2 = true ∧ hh = true
                              · rw [if_pos hc] at h; exact ⟨hc, h⟩
                              · rw [if_neg hc] at h; cases h
                            clear h
                            obtain ⟨⟨es2, ehh⟩, h3⟩ := hc
                            subst es2
                            subst ehh
                            unfold laws_FnCyclesOfPowers.num at a13
                            have A13 := Aside0.mk a13
                            have A14 := Aside0.mk a14
                            have H'' := Aside0.mk h3
                            clear a13 a14 h3 h e2
                            go_upto_region 31 with (first | (go_at_call 26; with_reducible refine (impl_EndsIn.calls k3 _ b p s1 true _ A13.out).mono ?_; rintro e w8 ⟨rfl, hb⟩; have n0_ := Aside0.mk (HS.out.below hb); clear HS hb; have HS := n0_; clear n0_))
                            go_cut [168] (fun v168 wx => v168 = .bool false ∧ Aside0 (CoSt w N (.slice Ag tg.length cg) (.slice Af fi_1.length cf) tg fi_1 wx))
                            case first =>
                              go_wp2_with (first | (go_at_call 25; (with_reducible refine (laws_rHas.calls k3 _ _ fi_1 s1 true _ ?side1 ?side2 A14.out).mono ?_); (case side1 => repeat (first | exact (Kd.R_reads' HS.out.HF).2.2 | (with_reducible refine Kd.C_alloc ?_ _) | (with_reducible refine Kd.C_drewN ?_ _) | (with_reducible refine Kd.C_drew ?_))); (case side2 => exact (Kd.R_reads' HS.out.HF).2.1); rintro e w' ⟨rfl, ⟨nd, rfl⟩⟩))
                              repeat (go_quiet (first | (go_at_call 25; (with_reducible refine (laws_rHas.calls k3 _ _ fi_1 s1 true _ ?side1 ?side2 A14.out).mono ?_); (case side1 => repeat (first | exact (Kd.R_reads' HS.out.HF).2.2 | (with_reducible refine Kd.C_alloc ?_ _) | (with_reducible refine Kd.C_drewN ?_ _) | (with_reducible refine Kd.C_drew ?_))); (case side2 => exact (Kd.R_reads' HS.out.HF).2.1); rintro e w' ⟨rfl, ⟨nd, rfl⟩⟩)); try go_wp2)
                              go_meet
                              case rel => exact ⟨by first | rfl | (simp; done), ⟨by repeat (first | exact HS.out | apply CoSt.drewN | apply CoSt.drew)⟩⟩
                            case rest =>
                              obtain ⟨rfl, HS⟩ := hcut
                              go_wp2
                              go_roundg k3
                              case measure => have := HK2.out; omega
                              case rel => exact ⟨wrap64 (i_2 + 1), (by first | rfl | (simp; done) | (simp [*]; done)), H'', ⟨by have := HK2.out; omega⟩, ⟨by repeat (first | exact HS.out | apply CoSt.drewN | apply CoSt.drew)⟩⟩
                          · rw [if_neg e2] at h
                            have e2b0 : decide (i_2 < 20) = false := decide_eq_false e2
                            clear h e2
                            go_wp2
                            go_meet
                            case rel => exact ⟨by first | exact HS.out.B | exact HS.out.drew.B | exact (HS.out.drewN _).B⟩
      case rest =>
        as_aux_lemma =>
          clear HB HG
          have HB := hcut
          clear hcut
          have h := H.out
          clear H A6 A2 A3 A4 A5
          unfold laws_FnCyclesOfPowers.p2 at h
          obtain ⟨⟨s, c, q⟩, b1, h⟩ := Option.bind_eq_some_iff.mp h
          obtain ⟨⟨x1, x2⟩, b2, h⟩ := Option.bind_eq_some_iff.mp h
          obtain ⟨⟨y1, y2⟩, b3, h⟩ := Option.bind_eq_some_iff.mp h
          have hc : (y2 = x2 ∧ y1 = x1) ∧ (if x2 = true then ((impl_PowerSum.f k x1 c q).bind fun o => if o.2 = true ∧ o.1 = s then laws_FnCyclesOfPowers.c3 k s c q x1 0 else none) else some true) = some r := by
            by_cases hc : y2 = x2 ∧ y1 = x1
            · rw [if_pos hc] at h; exact ⟨hc, h⟩
            · rw [if_neg hc] at h; cases h
          clear h
          obtain ⟨⟨ey2, ey1⟩, h⟩ := hc
          subst ey2
          subst ey1
          have B1 := Aside0.mk b1
          have B2 := Aside0.mk b2
          have B3 := Aside0.mk b3
          have H := Aside0.mk h
          clear b1 b2 b3 h
          go_upto_region 36 with (first | (go_at_call 27; refine (spec_DrawLeastWithSum.calls _ _ l1 s c q _ (Kd.C_below HR1.out HB.out) HC1.out B1.out).mono ?_; rintro e w2 ⟨rfl, hb⟩; have n0_ := Aside0.mk (below_step HB.out hb); clear HB hb; have HB := n0_; clear n0_) | (go_at_call 28; refine (impl_LeastWithSum.calls k s c q y1 y2 _ B2.out).mono ?_; rintro e w3 ⟨rfl, hb⟩; have n0_ := Aside0.mk (below_step HB.out hb); clear HB hb; have HB := n0_; clear n0_) | (go_at_call 29; refine (spec_LeastWithSum.calls k s c q y1 y2 _ B3.out).mono ?_; rintro e w4 ⟨rfl, hb⟩; have n0_ := Aside0.mk (below_step HB.out hb); clear HB hb; have HB := n0_; clear n0_))
          go_cut [196] (fun v196 wx => v196 = .bool false ∧ Aside0 (Below w.heap.size w wx))
          case first =>
            have hb1 : (y2 != y2) = false := by simp
            have hb2 : (y1 != y1) = false := by simp
            go_wp2
            repeat (go_quiet (fail); try go_wp2)
            go_meet
            case rel => exact ⟨by first | rfl | (simp; done), ⟨by repeat (first | (with_reducible first | exact HB.out | apply pw_below_drewN | apply below_drew1) | exact HB.out)⟩⟩
          case rest =>
            clear HB
            obtain ⟨rfl, HB⟩ := hcut
            cases y2 with
            | false =>
              have h := H.out
              rw [if_neg (by decide)] at h
              obtain rfl := Option.some.inj h
              clear h H
              go_wp2
              go_ret
              exact ⟨rfl, by repeat (first | (with_reducible first | exact HB.out | apply pw_below_drewN | apply below_drew1) | exact HB.out)⟩
            | true =>
              have h := H.out
              rw [if_pos rfl] at h
              obtain ⟨⟨o1, o2⟩, b4, h⟩ := Option.bind_eq_some_iff.mp h
              have hc : (o2 = true ∧ o1 = s) ∧ laws_FnCyclesOfPowers.c3 k s c q y1 0 = some r := by
                by_cases hc : o2 = true ∧ o1 = s
                · rw [if_pos hc] at h; exact ⟨hc, h⟩
                · rw [if_neg hc] at h; cases h
              clear h H
              obtain ⟨⟨eo2, eo1⟩, h⟩ := hc
              subst eo2
              subst eo1
              have B4 := Aside0.mk b4
              have H := Aside0.mk h
              clear b4 h
              go_upto_region 40 with (first | (go_at_call 23; refine (impl_PowerSum.calls k y1 c q o1 true _ B4.out).mono ?_; rintro e w8 ⟨rfl, hb⟩; have n0_ := Aside0.mk (below_step HB.out hb); clear HB hb; have HB := n0_; clear n0_))
              go_cut [211] (fun v211 wx => v211 = .bool false ∧ Aside0 (Below w.heap.size w wx))
              case first =>
                have hb2 : (o1 != o1) = false := by simp
                go_wp2
                repeat (go_quiet (fail); try go_wp2)
                go_meet
                case rel => exact ⟨by first | rfl | (simp; done), ⟨by repeat (first | (with_reducible first | exact HB.out | apply pw_below_drewN | apply below_drew1) | exact HB.out)⟩⟩
              case rest =>
                clear HB
                obtain ⟨rfl, HB⟩ := hcut
                go_wp2
                go_loopg [31] k (fun kq v31 w' => ∃ (m_1 : Int), v31 = .int .i64 m_1 ∧ Aside0 (laws_FnCyclesOfPowers.c3 kq o1 c q y1 m_1 = some r) ∧ Aside0 (kq ≤ k) ∧ Aside0 (Below w.heap.size w w'))
                case atStart => exact ⟨0, rfl, H, ⟨Nat.le_refl _⟩, ⟨by repeat (first | (with_reducible first | exact HB.out | apply pw_below_drewN | apply below_drew1) | exact HB.out)⟩⟩
                case round =>
                  as_aux_lemma =>
                    clear H HB
                    obtain ⟨m_1, rfl, HA, HK1, HB⟩ := hrel
                    cases gk with
                    | zero => exact absurd HA.out (by simp [laws_FnCyclesOfPowers.c3])
                    | succ k1 =>
                      have h := HA.out
                      clear HA
                      rw [laws_FnCyclesOfPowers.c3] at h
                      by_cases g2 : m_1 < y1 ∧ m_1 < 300
                      · rw [if_pos g2] at h
                        obtain ⟨⟨p1, p2⟩, b5, h⟩ := Option.bind_eq_some_iff.mp h
                        have hc : (p2 = true ∧ p1 ≠ o1) ∧ laws_FnCyclesOfPowers.c3 k1 o1 c q y1 (wrap64 (m_1 + 1)) = some r := by
                          by_cases hc : p2 = true ∧ p1 ≠ o1
                          · rw [if_pos hc] at h; exact ⟨hc, h⟩
                          · rw [if_neg hc] at h; cases h
                        clear h
                        obtain ⟨⟨ep2, ep1⟩, h⟩ := hc
                        subst ep2
                        have B5 := Aside0.mk b5
                        have H := Aside0.mk h
                        have G1 : decide (m_1 < y1) = true := decide_eq_true g2.1
                        have G2 : decide (m_1 < 300) = true := decide_eq_true g2.2
                        clear b5 h g2
                        go_upto_region 43 with (fail)
                        go_cut [218] (fun v218 wx => v218 = .bool true ∧ Aside0 (Below w.heap.size w wx))
                        case first =>
                          go_wp2
                          repeat (go_quiet (fail); try go_wp2)
                          go_meet
                          case rel => exact ⟨by first | rfl | (simp; done), ⟨by repeat (first | (with_reducible first | exact HB.out | apply pw_below_drewN | apply below_drew1) | exact HB.out)⟩⟩
                        case rest =>
                          clear HB
                          obtain ⟨rfl, HB⟩ := hcut
                          go_upto_region 46 with (first | (go_at_call 23; refine (impl_PowerSum.calls k1 m_1 c q p1 true _ B5.out).mono ?_; rintro e w8 ⟨rfl, hb⟩; have n0_ := Aside0.mk (below_step HB.out hb); clear HB hb; have HB := n0_; clear n0_))
                          go_cut [234] (fun v234 wx => v234 = .bool false ∧ Aside0 (Below w.heap.size w wx))
                          case first =>
                            have hb2 : (p1 == o1) = false := beq_eq_false_iff_ne.mpr ep1
                            clear ep1
                            go_wp2
                            repeat (go_quiet (fail); try go_wp2)
                            go_meet
                            case rel => exact ⟨by first | rfl | (simp; done), ⟨by repeat (first | (with_reducible first | exact HB.out | apply pw_below_drewN | apply below_drew1) | exact HB.out)⟩⟩
                          case rest =>
                            clear HB
                            obtain ⟨rfl, HB⟩ := hcut
                            go_wp2
                            go_roundg k1
                            case measure => have := HK1.out; omega
                            case rel => exact ⟨wrap64 (m_1 + 1), (by first | rfl | (simp; done) | (simp [*]; done)), H, ⟨by have := HK1.out; omega⟩, ⟨by repeat (first | (with_reducible first | exact HB.out | apply pw_below_drewN | apply below_drew1) | exact HB.out)⟩⟩
                      · rw [if_neg g2] at h
                        obtain rfl := Option.some.inj h
                        clear h
                        go_upto_region 43 with (fail)
                        go_cut [218] (fun v218 wx => v218 = .bool false ∧ Aside0 (Below w.heap.size w wx))
                        case first =>
                          by_cases g3 : m_1 < y1
                          · have G1 : decide (m_1 < y1) = true := decide_eq_true g3
                            have G2 : decide (m_1 < 300) = false := decide_eq_false (fun e => g2 ⟨g3, e⟩)
                            clear g2 g3
                            go_wp2
                            repeat (go_quiet (fail); try go_wp2)
                            go_meet
                            case rel => exact ⟨by first | rfl | (simp; done), ⟨by repeat (first | (with_reducible first | exact HB.out | apply pw_below_drewN | apply below_drew1) | exact HB.out)⟩⟩
                          · have G1 : decide (m_1 < y1) = false := decide_eq_false g3
                            clear g2 g3
                            go_wp2
                            repeat (go_quiet (fail); try go_wp2)
                            go_meet
                            case rel => exact ⟨by first | rfl | (simp; done), ⟨by repeat (first | (with_reducible first | exact HB.out | apply pw_below_drewN | apply below_drew1) | exact HB.out)⟩⟩
                        case rest =>
                          clear HB
                          obtain ⟨rfl, HB⟩ := hcut
                          go_wp2
                          go_ret
                          exact ⟨rfl, by repeat (first | (with_reducible first | exact HB.out | apply pw_below_drewN | apply below_drew1) | exact HB.out)⟩
def laws_FnCyclesOfPowers.Pure : Prop := ∀ (l0 : List Int) (l1 : List Int), l0.length ≤ maxLen → l0.length * 1 ≤ 140737488351232 → (∀ x ∈ l0, (Lit.int .u8 x).wf = true) → l1.length ≤ maxLen → l1.length * 1 ≤ 140737488351232 → (∀ x ∈ l1, (Lit.int .u8 x).wf = true) → ∃ k, laws_FnCyclesOfPowers.f k l0 l1 = some true
theorem laws_FnCyclesOfPowers.walk (P : laws_FnCyclesOfPowers.Pure) (a0 : Option Addr) (len0 cap0 : Nat) (z0 : List Int) (a1 : Option Addr) (len1 cap1 : Nat) (z1 : List Int) (w : World) (w0 : (a0 = none ∧ len0 = 0 ∧ cap0 = 0 ∧ z0 = []) ∨ ∃ x, a0 = some x ∧ len0 ≤ cap0 ∧ cap0 ≤ maxLen ∧ z0.length = cap0 ∧ (∀ i, i < z0.length → w.cell? (x.add i) = some (.int .u8 (z0.getD i 0))) ∧ ∀ n ∈ z0, (Lit.int .u8 n).wf = true) (y0 : len0 * 1 ≤ 140737488351232) (w1 : (a1 = none ∧ len1 = 0 ∧ cap1 = 0 ∧ z1 = []) ∨ ∃ x, a1 = some x ∧ len1 ≤ cap1 ∧ cap1 ≤ maxLen ∧ z1.length = cap1 ∧ (∀ i, i < z1.length → w.cell? (x.add i) = some (.int .u8 (z1.getD i 0))) ∧ ∀ n ∈ z1, (Lit.int .u8 n).wf = true) (y1 : len1 * 1 ≤ 140737488351232) :
    Calls Try.prog 6 #[.slice a0 len0 cap0, .slice a1 len1 cap1] w fun e w' => e = .returned (.bool true) ∧ Below w.heap.size w w' := by
  obtain ⟨l0, rfl, hr0, hm0, hw0, hc0⟩ := ReadsInt.ofRowC w0
  obtain ⟨l1, rfl, hr1, hm1, hw1, hc1⟩ := ReadsInt.ofRowC w1
  obtain ⟨k, h⟩ := P l0 l1 hm0 y0 hw0 hm1 y1 hw1
  refine (laws_FnCyclesOfPowers.calls k _ _ l0 _ _ l1 true w (Kd.C_of_reads (d := (0 : Int)) (h1 := fun _ => rfl) hr0) hc0 (Kd.C_of_reads (d := (0 : Int)) (h1 := fun _ => rfl) hr1) hc1 h).mono ?_
  rintro e w' ⟨rfl, hd⟩
  exact ⟨rfl, hd⟩
end Go.Proofs.Ytehhkkbejmhcfaa.PFnCyclesOfPowers
end
