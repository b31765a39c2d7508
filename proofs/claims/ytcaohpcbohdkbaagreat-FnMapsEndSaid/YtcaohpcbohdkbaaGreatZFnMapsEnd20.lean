/- Plain texts of FnMapsEnd, merged by a program: what Go functions compute, lemmas of the walk, and proofs. No conditions. -/
import Derived.Test.YtcaohpcbohdkbaaGreatZFnMapsEnd8
import Derived.Test.YtcaohpcbohdkbaaGreatZFnMapsEnd9
import Derived.Test.YtcaohpcbohdkbaaGreatZFnMapsEnd11
import Derived.Test.YtcaohpcbohdkbaaGreatZFnMapsEnd12
import Derived.Test.YtcaohpcbohdkbaaGreatZFnMapsEnd13
import Derived.Test.YtcaohpcbohdkbaaGreatZFnMapsEnd14
import Derived.Test.YtcaohpcbohdkbaaGreatZFnMapsEnd15
import Derived.Test.YtcaohpcbohdkbaaGreatZFnMapsEnd16
import Derived.Test.YtcaohpcbohdkbaaGreatZFnMapsEnd17
import Derived.Test.YtcaohpcbohdkbaaGreatZFnMapsEnd18
import Derived.Test.YtcaohpcbohdkbaaGreatZFnMapsEnd19
section
namespace Go.Proofs.YtcaohpcbohdkbaaGreat.PFnMapsEnd
open Go.RowKit Go.Proofs.YtcaohpcbohdkbaaGreatW.PrintWords Go.Proofs.YtcaohpcbohdkbaaGreatW.PrintLast Go.Proofs.YtcaohpcbohdkbaaGreatW.PrintMore
attribute [local go_sem] max2_int min2_int max_two min_two max_three min_three max_four min_four   -- for this text's walks alone
set_option linter.unusedVariables false
set_option linter.unusedSimpArgs false
def laws_FnMapsEnd.k1 (n : List Int) (b d c : List Int) (i j x ix : Int) : Bool := decide (0 ≤ j ∧ (0 ≤ x ∧ x < (n.length : Int) ∧ x < (d.length : Int) ∧ x < (b.length : Int)) ∧ (0 ≤ ix ∧ ix < (c.length : Int)) ∧ (rd n x = rd c ix ∧ rd d x = 0 ∧ rd b x = i ∧ ¬ x < rd c 0))
def laws_FnMapsEnd.k1b (g : List (List Int)) (c : List Int) (i ip : Int) : Bool := decide (0 < i → (0 ≤ ip ∧ ip < (g.length : Int)) ∧ 0 < ((rd_L2 g ip).length : Int) ∧ ¬ rd (rd_L2 g ip) 0 ≥ rd c 0)
def laws_FnMapsEnd.c1 : Nat → List Int → List (List Int) → List Int → List Int → List Int → Int → Int → Option Bool
 | 0, _, _, _, _, _, _, _ => none
 | k + 1, n, g, b, d, c, i, j => if j < (c.length : Int) then (if laws_FnMapsEnd.k1 n b d c i j (rd c j) (Int.tmod (wrap64 (j + 1)) (c.length : Int)) = true ∧ laws_FnMapsEnd.k1b g c i (wrap64 (i - 1)) = true then laws_FnMapsEnd.c1 k n g b d c i (wrap64 (j + 1)) else none) else some true
def laws_FnMapsEnd.c0 : Nat → List Int → List (List Int) → List Int → List Int → Int → Int → Option Int
 | 0, _, _, _, _, _, _ => none
 | k + 1, n, g, b, d, on, i => if i < (g.length : Int) then (if 0 ≤ i then ((laws_FnMapsEnd.c1 k n g b d (rd_L2 g i) i 0).bind fun _ => laws_FnMapsEnd.c0 k n g b d (wrap64 (on + ((rd_L2 g i).length : Int))) (wrap64 (i + 1))) else none) else some on
def laws_FnMapsEnd.k2 (n : List Int) (g : List (List Int)) (b d : List Int) (x y z : Int) (t : Int × Int × Bool) (bf : List Int × Bool) (h : Bool) : Bool := decide ((t.2.2 = true ∧ t.1 = rd d x) ∧ (0 ≤ y ∧ y < (g.length : Int) ∧ t.2.1 = ((rd_L2 g y).length : Int)) ∧ (0 ≤ z ∧ z < (b.length : Int) ∧ rd b z = y) ∧ (0 < rd d x → z < (d.length : Int) ∧ rd d z = wrap64 (rd d x - 1)) ∧ bf.2 = true ∧ (((bf.1.length : Int) == 0) = h))
def laws_FnMapsEnd.c2 : Nat → List Int → List (List Int) → List Int → List Int → List Int → Int → Int → Option Int
 | 0, _, _, _, _, _, _, _ => none
 | k + 1, n, g, b, d, e, dp, x => if x < (d.length : Int) then (if 0 ≤ x ∧ x < (n.length : Int) ∧ x < (b.length : Int) then ((impl_TailAndCycle.f k n x).bind fun t => (impl_BeforeOf.f k n x).bind fun bf => (laws_rHas.f k e x).bind fun h => (laws_rRising.f k bf.1).bind fun ri => if laws_FnMapsEnd.k2 n g b d x (rd b x) (rd n x) t bf h = true ∧ ri = true then laws_FnMapsEnd.c2 k n g b d e (if rd d x > dp then rd d x else dp) (wrap64 (x + 1)) else none) else none) else some dp
def laws_FnMapsEnd.k3 (n e m : List Int) (on dp : Int) : Bool := decide (((m.length : Int) = wrap64 (dp + 1) ∧ 0 < (m.length : Int) ∧ rd m 0 = (n.length : Int)) ∧ (0 ≤ dp ∧ dp < (m.length : Int) ∧ rd m dp = on) ∧ (1 < (n.length : Int) → 0 < dp → 1 < (m.length : Int) ∧ rd m 1 = wrap64 ((n.length : Int) - (e.length : Int))))
def laws_FnMapsEnd.q1 (k : Nat) (n : List Int) (g : List (List Int)) (b d e m : List Int) : Option Bool := (laws_FnMapsEnd.c0 k n g b d 0 0).bind fun on => (laws_FnMapsEnd.c2 k n g b d e 0 0).bind fun dp => if laws_FnMapsEnd.k3 n e m on dp = true then some true else none
def laws_FnMapsEnd.c3 : Nat → List Int → Int → List Int → Int → Int → Option Int
 | 0, _, _, _, _, _ => none
 | k + 1, n, q, pw, ct, x => if x < (pw.length : Int) then (if 0 ≤ x then ((impl_ApplyMap.f k n x q).bind fun z => if z.2 = true ∧ z.1 = rd pw x then laws_FnMapsEnd.c3 k n q pw (if x = rd pw x then wrap64 (ct + 1) else ct) (wrap64 (x + 1)) else none) else none) else some ct
def laws_FnMapsEnd.q3 (k : Nat) (l1 : List Int) : Option Bool := (spec_DrawApplyMap.f k l1).bind fun dr => (impl_ApplyMap.f k dr.1 dr.2.1 dr.2.2).bind fun x => (spec_ApplyMap.f k dr.1 dr.2.1 dr.2.2).bind fun y => (spec_DrawTailAndCycle.f k l1).bind fun dt => (impl_TailAndCycle.f k dt.1 dt.2).bind fun t => (spec_TailAndCycle.f k dt.1 dt.2).bind fun u => (impl_BeforeOf.f k dt.1 dt.2).bind fun bf => (spec_BeforeOf.f k dt.1 dt.2).bind fun bg => (laws_rSame.f k bf.1 bg.1).bind fun s => if (x.1 = y.1 ∧ x.2 = y.2) ∧ (t.1 = u.1 ∧ t.2.1 = u.2.1 ∧ t.2.2 = u.2.2) ∧ bf.2 = bg.2 ∧ s = true then some true else none
def laws_FnMapsEnd.q4 (k : Nat) (n : List Int) (s p : Int) : Option Bool := (impl_PowerOfMap.f k n s).bind fun x => (impl_PowerOfMap.f k n (wrap64 (s + p))).bind fun y => (laws_rSame.f k x.1 y.1).bind fun z => if x.2 = true ∧ y.2 = true ∧ z = true then some true else none
def laws_FnMapsEnd.q5 (k : Nat) (n : List Int) (q : Int) (pw : List Int) (fx : Int) : Option Bool := (laws_FnMapsEnd.c3 k n q pw 0 0).bind fun ct => if ct = fx then some true else none
def laws_FnMapsEnd.q2 (k : Nat) (l1 : List Int) : Option Bool := (spec_DrawPowerOfMap.f k l1).bind fun dr => (impl_PowerOfMap.f k dr.1 dr.2).bind fun pw => (spec_PowerOfMap.f k dr.1 dr.2).bind fun pv => (impl_CountFixedBy.f k dr.1 dr.2).bind fun fx => (spec_CountFixedBy.f k dr.1 dr.2).bind fun fy => (impl_WhenSteady.f k dr.1).bind fun st => (spec_WhenSteady.f k dr.1).bind fun su => (laws_rSame.f k pw.1 pv.1).bind fun s => if (pw.2 = pv.2 ∧ pw.2 = fx.2 ∧ pw.2 = fy.2 ∧ fx.1 = fy.1) ∧ (st.1 = su.1 ∧ st.2.1 = su.2.1 ∧ st.2.2 = su.2.2) ∧ s = true then ((if pw.2 = true then laws_FnMapsEnd.q5 k dr.1 dr.2 pw.1 fx.1 else some true).bind fun _ => (if st.2.2 = true ∧ wrap64 (st.1 + st.2.1) ≤ 1000000 then laws_FnMapsEnd.q4 k dr.1 st.1 st.2.1 else some true).bind fun _ => laws_FnMapsEnd.q3 k l1) else none
def laws_FnMapsEnd.f (k : Nat) (l0 l1 : List Int) : Option Bool := (laws_big.f l0 l1).bind fun t => if t = true then some true else ((spec_DrawCyclesOfMap.f k l0).bind fun n => (impl_CyclesOfMap.f k n).bind fun g => (spec_CyclesOfMap.f k n).bind fun g' => (impl_BasinsOf.f k n).bind fun b => (spec_BasinsOf.f k n).bind fun b' => (impl_DepthsOf.f k n).bind fun d => (spec_DepthsOf.f k n).bind fun d' => (impl_EndsOf.f k n).bind fun e => (spec_EndsOf.f k n).bind fun e' => (impl_ImagesOf.f k n).bind fun m => (spec_ImagesOf.f k n).bind fun m' => (laws_rRows.f k g.1 g'.1).bind fun s1 => (laws_rSame.f k b.1 b'.1).bind fun s2 => (laws_rSame.f k d.1 d'.1).bind fun s3 => (laws_rSame.f k e.1 e'.1).bind fun s4 => (laws_rSame.f k m.1 m'.1).bind fun s5 => (impl_IsMap.f n).bind fun i1 => (spec_IsMap.f k n).bind fun i2 => if (g.2 = g'.2 ∧ g.2 = b.2 ∧ g.2 = b'.2 ∧ g.2 = d.2 ∧ g.2 = d'.2 ∧ g.2 = e.2 ∧ g.2 = e'.2 ∧ g.2 = m.2 ∧ g.2 = m'.2 ∧ g.2 = i1 ∧ g.2 = i2) ∧ (s1 = true ∧ s2 = true ∧ s3 = true ∧ s4 = true ∧ s5 = true) then ((if g.2 = true then laws_FnMapsEnd.q1 k n g.1 b.1 d.1 e.1 m.1 else some true).bind fun _ => laws_FnMapsEnd.q2 k l1) else none)
structure Rw (w : World) (L : List (Value × List Int)) (G : List (Value × List (List Int))) (W : World) : Prop where
 B : Below w.heap.size w W
 R : ∀ p ∈ L, Kd.R (Kd.int .i64) 3 W w.heap.size (fun _ => True) p.1 p.2
 S : ∀ p ∈ G, Kd.S (Kd.slice 3 (Kd.int .i64)) 24 W w.heap.size (fun _ => True) p.1 p.2
section
variable {w W W2 : World} {L : List (Value × List Int)} {G : List (Value × List (List Int))} {v : Value} {l : List Int} {g : List (List Int)}
theorem Rw.start (w : World) : Rw w [] [] w := ⟨Below.refl _ _, by simp, by simp⟩
theorem Rw.r (h : Rw w L G W) (hm : (v, l) ∈ L) : Kd.R (Kd.int .i64) 3 W w.heap.size (fun _ => True) v l := h.R _ hm
theorem Rw.s (h : Rw w L G W) (hm : (v, g) ∈ G) : Kd.S (Kd.slice 3 (Kd.int .i64)) 24 W w.heap.size (fun _ => True) v g := h.S _ hm
theorem Rw.below (h : Rw w L G W) (hb : Below W.heap.size W W2) : Rw w L G W2 := ⟨below_step h.B hb, fun p hp => Kd.R_below (h.R p hp) hb, fun p hp => Kd.S_below (h.S p hp) hb⟩
theorem Rw.drew (h : Rw w L G W) : Rw w L G W.drew := h.below (below_drew (Below.refl _ _))
theorem Rw.drewN (h : Rw w L G W) (m : Nat) : Rw w L G (W.drewN m) := h.below (pw_below_drewN (Below.refl _ _) m)
theorem Rw.drawn (h : Rw w L G W) (hd : Drawn0 W W2) : Rw w L G W2 := h.below hd.below
theorem Rw.put (h : Rw w L G W) (hR : Kd.R (Kd.int .i64) 3 W w.heap.size (fun _ => True) v l) : Rw w ((v, l) :: L) G W := ⟨h.B, fun p hp => by
 rcases List.mem_cons.1 hp with e | e
 ·subst e; exact hR
 ·exact h.R p e, h.S⟩
theorem Rw.putS (h : Rw w L G W) (hR : Kd.S (Kd.slice 3 (Kd.int .i64)) 24 W w.heap.size (fun _ => True) v g) : Rw w L ((v, g) :: G) W := ⟨h.B, h.R, fun p hp => by
 rcases List.mem_cons.1 hp with e | e
 ·subst e; exact hR
 ·exact h.S p e⟩
theorem Rw.addR (h : Rw w L G W) (ho : Kd.R (Kd.int .i64) 3 W2 W.heap.size (fun _ => True) v l) (hb : Below W.heap.size W W2) : Rw w ((v, l) :: L) G W2 := (h.below hb).put (Kd.R_lower ho h.B.size)
theorem Rw.addS (h : Rw w L G W) (ho : Kd.S (Kd.slice 3 (Kd.int .i64)) 24 W2 W.heap.size (fun _ => True) v g) (hb : Below W.heap.size W W2) : Rw w L ((v, g) :: G) W2 := (h.below hb).putS (Kd.S_lower ho h.B.size)
theorem Rw.drop {p : Value × List Int} (h : Rw w (p :: L) G W) : Rw w L G W := ⟨h.B, fun q hq => h.R q (.tail _ hq), h.S⟩
end
set_option maxHeartbeats 16000000 in
set_option maxRecDepth 100000 in
theorem laws_FnMapsEnd.calls (k : Nat) (A0 : Option Addr) (c0 : Nat) (l0 : List Int) (A1 : Option Addr) (c1 : Nat) (l1 : List Int) (r : Bool) (w : World) (hr0 : Kd.C (Kd.int .u8) w A0 l0.length l0) (hc0 : l0.length ≤ c0) (hr1 : Kd.C (Kd.int .u8) w A1 l1.length l1) (hc1 : l1.length ≤ c1) (h : laws_FnMapsEnd.f k l0 l1 = some r) :
  Calls Tryz.prog 3 #[.slice A0 l0.length c0, .slice A1 l1.length c1] w fun e w' => e = .returned (.bool r) ∧ Below w.heap.size w w' := by
 have HR0 := Aside0.mk hr0
 have HC0 := Aside0.mk hc0
 have HR1 := Aside0.mk hr1
 have HC1 := Aside0.mk hc1
 clear hr0 hc0 hr1 hc1
 unfold laws_FnMapsEnd.f at h
 replace h := Option.bind_eq_some_iff.mp h
 obtain ⟨t, a1, h⟩ := h
 have AB := Aside0.mk a1
 clear a1
 have HS := Aside0.mk (Rw.start w)
 cases t with
 | true =>
  rw [if_pos rfl] at h
  obtain rfl := Option.some.inj h
  clear h
  go_enter Tryz.func3, Tryz.ntmps3
  go_wp2_with (first | (go_at_call 4; refine (laws_big.calls _ _ l0 _ _ l1 true _ HR0.out HC0.out HR1.out HC1.out AB.out).mono ?_; rintro e_ w_ ⟨rfl, hd⟩; have n0_ := Aside0.mk (HS.out.drawn hd); clear HS hd; have HS := n0_; clear n0_))
  go_ret
  exact ⟨rfl, HS.out.B⟩
 | false =>
  rw [if_neg (by decide)] at h
  replace h := Option.bind_eq_some_iff.mp h
  obtain ⟨n, an, h⟩ := h
  replace h := Option.bind_eq_some_iff.mp h
  obtain ⟨⟨g, og⟩, ig, h⟩ := h
  replace h := Option.bind_eq_some_iff.mp h
  obtain ⟨⟨g', pg⟩, sg, h⟩ := h
  replace h := Option.bind_eq_some_iff.mp h
  obtain ⟨⟨b, ob⟩, ib, h⟩ := h
  replace h := Option.bind_eq_some_iff.mp h
  obtain ⟨⟨b', pb⟩, sb, h⟩ := h
  replace h := Option.bind_eq_some_iff.mp h
  obtain ⟨⟨d, od⟩, id, h⟩ := h
  replace h := Option.bind_eq_some_iff.mp h
  obtain ⟨⟨d', pd⟩, sd, h⟩ := h
  replace h := Option.bind_eq_some_iff.mp h
  obtain ⟨⟨e, oe⟩, ie, h⟩ := h
  replace h := Option.bind_eq_some_iff.mp h
  obtain ⟨⟨e', pe⟩, se, h⟩ := h
  replace h := Option.bind_eq_some_iff.mp h
  obtain ⟨⟨m, om⟩, im, h⟩ := h
  replace h := Option.bind_eq_some_iff.mp h
  obtain ⟨⟨m', pm⟩, sm, h⟩ := h
  replace h := Option.bind_eq_some_iff.mp h
  obtain ⟨s1, q1, h⟩ := h
  replace h := Option.bind_eq_some_iff.mp h
  obtain ⟨s2, q2, h⟩ := h
  replace h := Option.bind_eq_some_iff.mp h
  obtain ⟨s3, q3, h⟩ := h
  replace h := Option.bind_eq_some_iff.mp h
  obtain ⟨s4, q4, h⟩ := h
  replace h := Option.bind_eq_some_iff.mp h
  obtain ⟨s5, q5, h⟩ := h
  replace h := Option.bind_eq_some_iff.mp h
  obtain ⟨i1, z1, h⟩ := h
  replace h := Option.bind_eq_some_iff.mp h
  obtain ⟨i2, z2, h⟩ := h
  have hc : ((og = pg ∧ og = ob ∧ og = pb ∧ og = od ∧ og = pd ∧ og = oe ∧ og = pe ∧ og = om ∧ og = pm ∧ og = i1 ∧ og = i2) ∧ (s1 = true ∧ s2 = true ∧ s3 = true ∧ s4 = true ∧ s5 = true)) ∧ ((if og = true then laws_FnMapsEnd.q1 k n g b d e m else some true).bind fun _ => laws_FnMapsEnd.q2 k l1) = some r := by
   by_cases hc : (og = pg ∧ og = ob ∧ og = pb ∧ og = od ∧ og = pd ∧ og = oe ∧ og = pe ∧ og = om ∧ og = pm ∧ og = i1 ∧ og = i2) ∧ (s1 = true ∧ s2 = true ∧ s3 = true ∧ s4 = true ∧ s5 = true)
   ·rw [if_pos hc] at h; exact ⟨hc, h⟩
   ·rw [if_neg hc] at h; cases h
  clear h
  obtain ⟨⟨⟨y1, y2, y3, y4, y5, y6, y7, y8, y9, y10, y11⟩, ⟨x1, x2, x3, x4, x5⟩⟩, h⟩ := hc
  subst y1
  subst y2
  subst y3
  subst y4
  subst y5
  subst y6
  subst y7
  subst y8
  subst y9
  subst y10
  subst y11
  subst x1
  subst x2
  subst x3
  subst x4
  subst x5
  replace h := Option.bind_eq_some_iff.mp h
  obtain ⟨u_, a6, h⟩ := h
  have Xan := Aside0.mk an
  have Xa6 := Aside0.mk a6
  have Xz1 := Aside0.mk z1
  have Xz2 := Aside0.mk z2
  have Xig := Aside0.mk ig
  have Xib := Aside0.mk ib
  have Xid := Aside0.mk id
  have Xie := Aside0.mk ie
  have Xim := Aside0.mk im
  have Xsg := Aside0.mk sg
  have Xsb := Aside0.mk sb
  have Xsd := Aside0.mk sd
  have Xse := Aside0.mk se
  have Xsm := Aside0.mk sm
  have Xq1 := Aside0.mk q1
  have Xq2 := Aside0.mk q2
  have Xq3 := Aside0.mk q3
  have Xq4 := Aside0.mk q4
  have Xq5 := Aside0.mk q5
  have XH := Aside0.mk h
  clear an a6 z1 z2 ig ib id ie im sg sb sd se sm q1 q2 q3 q4 q5 h
  go_enter Tryz.func3, Tryz.ntmps3
  go_upto_region 14 with (first | (go_at_call 4; refine (laws_big.calls _ _ l0 _ _ l1 false _ HR0.out HC0.out HR1.out HC1.out AB.out).mono ?_; rintro e_ w_ ⟨rfl, hd⟩; have n0_ := Aside0.mk (HS.out.drawn hd); clear HS hd; have HS := n0_; clear n0_) | (go_at_call 5; refine (spec_DrawCyclesOfMap.calls k _ _ l0 n _ (Kd.C_below HR0.out HS.out.B) HC0.out Xan.out).mono ?_; rintro e_ w_ ⟨v_, rfl, ho, hb⟩; obtain ⟨An, cn, ex_⟩ := Kd.R_slice ho; subst ex_; have n0_ := Aside0.mk (HS.out.addR ho hb); clear HS ho hb; have HS := n0_; clear n0_) | (go_at_call 6; refine (impl_CyclesOfMap.calls k _ _ n g og _ (Kd.R_reads' (HS.out.r (l := n) (.head _))).2.2 (Kd.R_reads' (HS.out.r (l := n) (.head _))).2.1 Xig.out).mono ?_; rintro e_ w_ ⟨v_, rfl, ho, hb⟩; obtain ⟨Ag, cg, ex_⟩ := Kd.S_slice ho; subst ex_; have n0_ := Aside0.mk (HS.out.addS ho hb); clear HS ho hb; have HS := n0_; clear n0_) | (go_at_call 7; refine (spec_CyclesOfMap.calls k _ _ n g' og _ (Kd.R_reads' (HS.out.r (l := n) (.head _))).2.2 (Kd.R_reads' (HS.out.r (l := n) (.head _))).2.1 Xsg.out).mono ?_; rintro e_ w_ ⟨v_, rfl, ho, hb⟩; obtain ⟨Ag2, cg2, ex_⟩ := Kd.S_slice ho; subst ex_; have n0_ := Aside0.mk (HS.out.addS ho hb); clear HS ho hb; have HS := n0_; clear n0_) | (go_at_call 8; refine (impl_BasinsOf.calls k _ _ n b og _ (Kd.R_reads' (HS.out.r (l := n) (.head _))).2.2 (Kd.R_reads' (HS.out.r (l := n) (.head _))).2.1 Xib.out).mono ?_; rintro e_ w_ ⟨v_, rfl, ho, hb⟩; obtain ⟨Ab, cb, ex_⟩ := Kd.R_slice ho; subst ex_; have n0_ := Aside0.mk (HS.out.addR ho hb); clear HS ho hb; have HS := n0_; clear n0_) | (go_at_call 9; refine (spec_BasinsOf.calls k _ _ n b' og _ (Kd.R_reads' (HS.out.r (l := n) (.tail _ (.head _)))).2.2 (Kd.R_reads' (HS.out.r (l := n) (.tail _ (.head _)))).2.1 Xsb.out).mono ?_; rintro e_ w_ ⟨v_, rfl, ho, hb⟩; obtain ⟨Ab2, cb2, ex_⟩ := Kd.R_slice ho; subst ex_; have n0_ := Aside0.mk (HS.out.addR ho hb); clear HS ho hb; have HS := n0_; clear n0_) | (go_at_call 10; refine (impl_DepthsOf.calls k _ _ n d og _ (Kd.R_reads' (HS.out.r (l := n) (.tail _ (.tail _ (.head _))))).2.2 (Kd.R_reads' (HS.out.r (l := n) (.tail _ (.tail _ (.head _))))).2.1 Xid.out).mono ?_; rintro e_ w_ ⟨v_, rfl, ho, hb⟩; obtain ⟨Ad, cd, ex_⟩ := Kd.R_slice ho; subst ex_; have n0_ := Aside0.mk (HS.out.addR ho hb); clear HS ho hb; have HS := n0_; clear n0_) | (go_at_call 11; refine (spec_DepthsOf.calls k _ _ n d' og _ (Kd.R_reads' (HS.out.r (l := n) (.tail _ (.tail _ (.tail _ (.head _)))))).2.2 (Kd.R_reads' (HS.out.r (l := n) (.tail _ (.tail _ (.tail _ (.head _)))))).2.1 Xsd.out).mono ?_; rintro e_ w_ ⟨v_, rfl, ho, hb⟩; obtain ⟨Ad2, cd2, ex_⟩ := Kd.R_slice ho; subst ex_; have n0_ := Aside0.mk (HS.out.addR ho hb); clear HS ho hb; have HS := n0_; clear n0_) | (go_at_call 12; refine (impl_EndsOf.calls k _ _ n e og _ (Kd.R_reads' (HS.out.r (l := n) (.tail _ (.tail _ (.tail _ (.tail _ (.head _))))))).2.2 (Kd.R_reads' (HS.out.r (l := n) (.tail _ (.tail _ (.tail _ (.tail _ (.head _))))))).2.1 Xie.out).mono ?_; rintro e_ w_ ⟨v_, rfl, ho, hb⟩; obtain ⟨Ae, ce, ex_⟩ := Kd.R_slice ho; subst ex_; have n0_ := Aside0.mk (HS.out.addR ho hb); clear HS ho hb; have HS := n0_; clear n0_) | (go_at_call 13; refine (spec_EndsOf.calls k _ _ n e' og _ (Kd.R_reads' (HS.out.r (l := n) (.tail _ (.tail _ (.tail _ (.tail _ (.tail _ (.head _)))))))).2.2 (Kd.R_reads' (HS.out.r (l := n) (.tail _ (.tail _ (.tail _ (.tail _ (.tail _ (.head _)))))))).2.1 Xse.out).mono ?_; rintro e_ w_ ⟨v_, rfl, ho, hb⟩; obtain ⟨Ae2, ce2, ex_⟩ := Kd.R_slice ho; subst ex_; have n0_ := Aside0.mk (HS.out.addR ho hb); clear HS ho hb; have HS := n0_; clear n0_) | (go_at_call 14; refine (impl_ImagesOf.calls k _ _ n m og _ (Kd.R_reads' (HS.out.r (l := n) (.tail _ (.tail _ (.tail _ (.tail _ (.tail _ (.tail _ (.head _))))))))).2.2 (Kd.R_reads' (HS.out.r (l := n) (.tail _ (.tail _ (.tail _ (.tail _ (.tail _ (.tail _ (.head _))))))))).2.1 Xim.out).mono ?_; rintro e_ w_ ⟨v_, rfl, ho, hb⟩; obtain ⟨Am, cm, ex_⟩ := Kd.R_slice ho; subst ex_; have n0_ := Aside0.mk (HS.out.addR ho hb); clear HS ho hb; have HS := n0_; clear n0_) | (go_at_call 15; refine (spec_ImagesOf.calls k _ _ n m' og _ (Kd.R_reads' (HS.out.r (l := n) (.tail _ (.tail _ (.tail _ (.tail _ (.tail _ (.tail _ (.tail _ (.head _)))))))))).2.2 (Kd.R_reads' (HS.out.r (l := n) (.tail _ (.tail _ (.tail _ (.tail _ (.tail _ (.tail _ (.tail _ (.head _)))))))))).2.1 Xsm.out).mono ?_; rintro e_ w_ ⟨v_, rfl, ho, hb⟩; obtain ⟨Am2, cm2, ex_⟩ := Kd.R_slice ho; subst ex_; have n0_ := Aside0.mk (HS.out.addR ho hb); clear HS ho hb; have HS := n0_; clear n0_))
  obtain ⟨L, hL⟩ : ∃ L, L = ([((.slice Am2 m'.length cm2), m'), ((.slice Am m.length cm), m), ((.slice Ae2 e'.length ce2), e'), ((.slice Ae e.length ce), e), ((.slice Ad2 d'.length cd2), d'), ((.slice Ad d.length cd), d), ((.slice Ab2 b'.length cb2), b'), ((.slice Ab b.length cb), b), ((.slice An n.length cn), n)] : List (Value × List Int)) := ⟨_, rfl⟩
  obtain ⟨GG, hG⟩ : ∃ GG, GG = ([((.slice Ag2 g'.length cg2), g'), ((.slice Ag g.length cg), g)] : List (Value × List (List Int))) := ⟨_, rfl⟩
  rw [← hL, ← hG] at HS
  have Mm2 := Aside0.mk (show ((.slice Am2 m'.length cm2), m') ∈ L from by rw [hL]; exact (.head _))
  have Mm := Aside0.mk (show ((.slice Am m.length cm), m) ∈ L from by rw [hL]; exact (.tail _ (.head _)))
  have Me2 := Aside0.mk (show ((.slice Ae2 e'.length ce2), e') ∈ L from by rw [hL]; exact (.tail _ (.tail _ (.head _))))
  have Me := Aside0.mk (show ((.slice Ae e.length ce), e) ∈ L from by rw [hL]; exact (.tail _ (.tail _ (.tail _ (.head _)))))
  have Md2 := Aside0.mk (show ((.slice Ad2 d'.length cd2), d') ∈ L from by rw [hL]; exact (.tail _ (.tail _ (.tail _ (.tail _ (.head _))))))
  have Md := Aside0.mk (show ((.slice Ad d.length cd), d) ∈ L from by rw [hL]; exact (.tail _ (.tail _ (.tail _ (.tail _ (.tail _ (.head _)))))))
  have Mb2 := Aside0.mk (show ((.slice Ab2 b'.length cb2), b') ∈ L from by rw [hL]; exact (.tail _ (.tail _ (.tail _ (.tail _ (.tail _ (.tail _ (.head _))))))))
  have Mb := Aside0.mk (show ((.slice Ab b.length cb), b) ∈ L from by rw [hL]; exact (.tail _ (.tail _ (.tail _ (.tail _ (.tail _ (.tail _ (.tail _ (.head _)))))))))
  have Mn := Aside0.mk (show ((.slice An n.length cn), n) ∈ L from by rw [hL]; exact (.tail _ (.tail _ (.tail _ (.tail _ (.tail _ (.tail _ (.tail _ (.tail _ (.head _))))))))))
  have Mg := Aside0.mk (show ((.slice Ag g.length cg), g) ∈ GG from by rw [hG]; exact .tail _ (.head _))
  have Mg2 := Aside0.mk (show ((.slice Ag2 g'.length cg2), g') ∈ GG from by rw [hG]; exact .head _)
  clear hL hG
  have hbn : (og != og) = false := by simp
  go_upto_if 223 with (first | (go_at_call 16; (with_reducible refine (laws_rRows.calls k _ _ g _ _ g' true _ ?side1 ?side2 ?side3 ?side4 Xq1.out).mono ?_); (case side1 => repeat (first | exact (Kd.S_reads' (HS.out.s Mg.out)).2.2 | (with_reducible refine Kd.C_drewN ?_ _) | (with_reducible refine Kd.C_drew ?_))); (case side2 => exact (Kd.S_reads' (HS.out.s Mg.out)).2.1); (case side3 => repeat (first | exact (Kd.S_reads' (HS.out.s Mg2.out)).2.2 | (with_reducible refine Kd.C_drewN ?_ _) | (with_reducible refine Kd.C_drew ?_))); (case side4 => exact (Kd.S_reads' (HS.out.s Mg2.out)).2.1); rintro e_ w_ ⟨rfl, hd⟩; have n0_ := Aside0.mk (Rw.drawn (by repeat (first | exact HS.out | apply Rw.drewN | apply Rw.drew)) hd); clear HS hd; have HS := n0_; clear n0_) | (go_at_call 17; (with_reducible refine (laws_rSame.calls k _ _ b _ _ b' true _ ?side1 ?side2 ?side3 ?side4 Xq2.out).mono ?_); (case side1 => repeat (first | exact (Kd.R_reads' (HS.out.r (l := b) Mb.out)).2.2 | (with_reducible refine Kd.C_drewN ?_ _) | (with_reducible refine Kd.C_drew ?_) | (with_reducible refine Kd.C_alloc ?_ _))); (case side2 => exact (Kd.R_reads' (HS.out.r (l := b) Mb.out)).2.1); (case side3 => repeat (first | exact (Kd.R_reads' (HS.out.r (l := b') Mb2.out)).2.2 | (with_reducible refine Kd.C_drewN ?_ _) | (with_reducible refine Kd.C_drew ?_) | (with_reducible refine Kd.C_alloc ?_ _))); (case side4 => exact (Kd.R_reads' (HS.out.r (l := b') Mb2.out)).2.1); rintro e_ w_ ⟨rfl, hd⟩; have n0_ := Aside0.mk (Rw.drawn (by repeat (first | exact HS.out | apply Rw.drewN | apply Rw.drew)) hd); clear HS hd; have HS := n0_; clear n0_) | (go_at_call 17; (with_reducible refine (laws_rSame.calls k _ _ d _ _ d' true _ ?side1 ?side2 ?side3 ?side4 Xq3.out).mono ?_); (case side1 => repeat (first | exact (Kd.R_reads' (HS.out.r (l := d) Md.out)).2.2 | (with_reducible refine Kd.C_drewN ?_ _) | (with_reducible refine Kd.C_drew ?_) | (with_reducible refine Kd.C_alloc ?_ _))); (case side2 => exact (Kd.R_reads' (HS.out.r (l := d) Md.out)).2.1); (case side3 => repeat (first | exact (Kd.R_reads' (HS.out.r (l := d') Md2.out)).2.2 | (with_reducible refine Kd.C_drewN ?_ _) | (with_reducible refine Kd.C_drew ?_) | (with_reducible refine Kd.C_alloc ?_ _))); (case side4 => exact (Kd.R_reads' (HS.out.r (l := d') Md2.out)).2.1); rintro e_ w_ ⟨rfl, hd⟩; have n0_ := Aside0.mk (Rw.drawn (by repeat (first | exact HS.out | apply Rw.drewN | apply Rw.drew)) hd); clear HS hd; have HS := n0_; clear n0_) | (go_at_call 17; (with_reducible refine (laws_rSame.calls k _ _ e _ _ e' true _ ?side1 ?side2 ?side3 ?side4 Xq4.out).mono ?_); (case side1 => repeat (first | exact (Kd.R_reads' (HS.out.r (l := e) Me.out)).2.2 | (with_reducible refine Kd.C_drewN ?_ _) | (with_reducible refine Kd.C_drew ?_) | (with_reducible refine Kd.C_alloc ?_ _))); (case side2 => exact (Kd.R_reads' (HS.out.r (l := e) Me.out)).2.1); (case side3 => repeat (first | exact (Kd.R_reads' (HS.out.r (l := e') Me2.out)).2.2 | (with_reducible refine Kd.C_drewN ?_ _) | (with_reducible refine Kd.C_drew ?_) | (with_reducible refine Kd.C_alloc ?_ _))); (case side4 => exact (Kd.R_reads' (HS.out.r (l := e') Me2.out)).2.1); rintro e_ w_ ⟨rfl, hd⟩; have n0_ := Aside0.mk (Rw.drawn (by repeat (first | exact HS.out | apply Rw.drewN | apply Rw.drew)) hd); clear HS hd; have HS := n0_; clear n0_) | (go_at_call 17; (with_reducible refine (laws_rSame.calls k _ _ m _ _ m' true _ ?side1 ?side2 ?side3 ?side4 Xq5.out).mono ?_); (case side1 => repeat (first | exact (Kd.R_reads' (HS.out.r (l := m) Mm.out)).2.2 | (with_reducible refine Kd.C_drewN ?_ _) | (with_reducible refine Kd.C_drew ?_) | (with_reducible refine Kd.C_alloc ?_ _))); (case side2 => exact (Kd.R_reads' (HS.out.r (l := m) Mm.out)).2.1); (case side3 => repeat (first | exact (Kd.R_reads' (HS.out.r (l := m') Mm2.out)).2.2 | (with_reducible refine Kd.C_drewN ?_ _) | (with_reducible refine Kd.C_drew ?_) | (with_reducible refine Kd.C_alloc ?_ _))); (case side4 => exact (Kd.R_reads' (HS.out.r (l := m') Mm2.out)).2.1); rintro e_ w_ ⟨rfl, hd⟩; have n0_ := Aside0.mk (Rw.drawn (by repeat (first | exact HS.out | apply Rw.drewN | apply Rw.drew)) hd); clear HS hd; have HS := n0_; clear n0_) | (go_at_call 18; (with_reducible refine (impl_IsMap.calls _ _ n _ _ ?side1 ?side2 Xz1.out).mono ?_); (case side1 => repeat (first | exact (Kd.R_reads' (HS.out.r (l := n) Mn.out)).2.2 | (with_reducible refine Kd.C_drewN ?_ _) | (with_reducible refine Kd.C_drew ?_) | (with_reducible refine Kd.C_alloc ?_ _))); (case side2 => exact (Kd.R_reads' (HS.out.r (l := n) Mn.out)).2.1); rintro e_ w_ ⟨rfl, hb⟩; have n0_ := Aside0.mk (Rw.below (by repeat (first | exact HS.out | apply Rw.drewN | apply Rw.drew)) hb); clear HS hb; have HS := n0_; clear n0_) | (go_at_call 19; (with_reducible refine (spec_IsMap.calls k _ _ n _ _ ?side1 ?side2 Xz2.out).mono ?_); (case side1 => repeat (first | exact (Kd.R_reads' (HS.out.r (l := n) Mn.out)).2.2 | (with_reducible refine Kd.C_drewN ?_ _) | (with_reducible refine Kd.C_drew ?_) | (with_reducible refine Kd.C_alloc ?_ _))); (case side2 => exact (Kd.R_reads' (HS.out.r (l := n) Mn.out)).2.1); rintro e_ w_ ⟨rfl, hd⟩; have n0_ := Aside0.mk (Rw.drawn (by repeat (first | exact HS.out | apply Rw.drewN | apply Rw.drew)) hd); clear HS hd; have HS := n0_; clear n0_))
  clear Xz1 Xz2 Xig Xsg Xib Xsb Xid Xsd Xie Xse Xim Xsm Xq1 Xq2 Xq3 Xq4 Xq5 Xan
  go_cut [] from 224 to 224 (fun wx => Aside0 (Rw w L GG wx))
  case first =>
   as_aux_lemma =>
    clear XH hbn
    cases og with
    | false =>
     go_wp2
     go_meet
     case rel => exact ⟨(by repeat (first | exact HS.out | apply Rw.drewN | apply Rw.drew))⟩
    | true =>
     have h := Xa6.out
     rw [if_pos rfl] at h
     unfold laws_FnMapsEnd.q1 at h
     replace h := Option.bind_eq_some_iff.mp h
     obtain ⟨on, b1, h⟩ := h
     replace h := Option.bind_eq_some_iff.mp h
     obtain ⟨dp, b2, h⟩ := h
     have hc : laws_FnMapsEnd.k3 n e m on dp = true := by
      by_cases hc : laws_FnMapsEnd.k3 n e m on dp = true
      ·exact hc
      ·rw [if_neg hc] at h; cases h
     clear h
     have B1 := Aside0.mk b1
     have B2 := Aside0.mk b2
     have K3 := Aside0.mk hc
     clear b1 b2 hc Xa6
     go_upto_region 17 with (fail)
     go_wp2
     go_loopg [26, 226] k (fun kq v26 v226 w' => ∃ (on_1 i_1 : Int), v26 = .int .i64 on_1 ∧ v226 = .int .i64 i_1 ∧ Aside0 (laws_FnMapsEnd.c0 kq n g b d on_1 i_1 = some on) ∧ Aside0 (kq ≤ k) ∧ Aside0 (Rw w L GG w'))
     case atStart => exact ⟨0, 0, rfl, rfl, B1, ⟨Nat.le_refl _⟩, ⟨(by repeat (first | exact HS.out | apply Rw.drewN | apply Rw.drew))⟩⟩
     case round =>
      clear B1 HS
      obtain ⟨on_1, i_1, rfl, rfl, HA, HK1, HS⟩ := hrel
      cases gk with
      | zero => exact absurd HA.out (by simp [laws_FnMapsEnd.c0])
      | succ k1 =>
       have h := HA.out
       clear HA
       rw [laws_FnMapsEnd.c0] at h
       by_cases c2 : i_1 < (g.length : Int)
       ·rw [if_pos c2] at h
        have c2b0 : decide (i_1 < (g.length : Int)) = true := decide_eq_true c2
        by_cases c3 : 0 ≤ i_1
        ·rw [if_pos c3] at h
         replace h := Option.bind_eq_some_iff.mp h
         obtain ⟨t1, a11, h⟩ := h
         obtain ⟨ag, Ac, cc, e6, hx6, -, -⟩ := at_L2 (Kd.S_reads' (HS.out.s Mg.out)).2.2 i_1 c3 c2
         cases e6
         obtain ⟨ce, hce, hMe, hcc⟩ := Kd.S_get (HS.out.s Mg.out) ([] : List Int) i_1 c3 c2
         obtain ⟨ve, rfl, ge⟩ := hMe
         have hv := hcc 0 _ rfl
         rw [Nat.add_zero, show ((Kd.slice 3 (Kd.int .i64))).sz = 1 from rfl, Nat.mul_one] at hv
         replace hv := Option.some.inj (hv.symm.trans hx6)
         rw [hv] at ge
         clear hv hce hcc
         obtain ⟨cy, hcy⟩ : ∃ cy, cy = rd_L2 g i_1 := ⟨_, rfl⟩
         have hR7 : Kd.R (Kd.int .i64) 3 wr w.heap.size (fun _ => True) (.slice Ac cy.length cc) cy := by rw [hcy]; exact Kd.R_mono ge (fun _ _ => trivial)
         clear ge
         rw [← hcy] at a11 h hx6
         clear hcy
         have HT := Aside0.mk (HS.out.put hR7)
         clear hR7
         have A11 := Aside0.mk a11
         have H' := Aside0.mk h
         clear a11 h
         replace c2 := eq_true c2
         replace c3 := eq_true c3
         go_wp2
         go_loopg [237] k1 (fun kq2 v237 w2 => ∃ (j_1 : Int), v237 = .int .i64 j_1 ∧ Aside0 (laws_FnMapsEnd.c1 kq2 n g b d cy i_1 j_1 = some t1) ∧ Aside0 (kq2 ≤ k1) ∧ Aside0 (Rw w ((.slice Ac cy.length cc, cy) :: L) GG w2))
         case atStart => exact ⟨0, rfl, A11, ⟨Nat.le_refl _⟩, ⟨(by repeat (first | exact HT.out | apply Rw.drewN | apply Rw.drew))⟩⟩
         case round =>
          clear A11 HS HT hx6 c2 c3 c2b0
          obtain ⟨j_1, rfl, HA, HK2, HT⟩ := hrel
          cases gk with
          | zero => exact absurd HA.out (by simp [laws_FnMapsEnd.c1])
          | succ k2 =>
           have h := HA.out
           clear HA
           rw [laws_FnMapsEnd.c1] at h
           by_cases d2 : j_1 < (cy.length : Int)
           ·rw [if_pos d2] at h
            have d2b0 : decide (j_1 < (cy.length : Int)) = true := decide_eq_true d2
            obtain ⟨ix, hix⟩ : ∃ ix, ix = Int.tmod (wrap64 (j_1 + 1)) (cy.length : Int) := ⟨_, rfl⟩
            obtain ⟨x, hx⟩ : ∃ x, x = rd cy j_1 := ⟨_, rfl⟩
            obtain ⟨ip, hip⟩ : ∃ ip, ip = wrap64 (i_1 - 1) := ⟨_, rfl⟩
            rw [← hix, ← hx, ← hip] at h
            have hc : (laws_FnMapsEnd.k1 n b d cy i_1 j_1 x ix = true ∧ laws_FnMapsEnd.k1b g cy i_1 ip = true) ∧ laws_FnMapsEnd.c1 k2 n g b d cy i_1 (wrap64 (j_1 + 1)) = some t1 := by
             by_cases hc : laws_FnMapsEnd.k1 n b d cy i_1 j_1 x ix = true ∧ laws_FnMapsEnd.k1b g cy i_1 ip = true
             ·rw [if_pos hc] at h; exact ⟨hc, h⟩
             ·rw [if_neg hc] at h; cases h
            clear h
            obtain ⟨⟨o1, o2⟩, h⟩ := hc
            have H'' := Aside0.mk h
            clear h
            obtain ⟨o3, ⟨o4, o5, o6, o7⟩, ⟨o8, o9⟩, o10, o11, o12, o13⟩ := of_decide_eq_true o1
            have O2 := of_decide_eq_true o2
            clear o1 o2
            have hpos : 0 < (cy.length : Int) := by omega
            obtain ⟨ac, e_, hy1⟩ := Kd.at_int (Kd.R_reads' (HT.out.r (.head _))).2.2 j_1 o3 d2
            cases e_
            rw [← hx] at hy1
            clear hx
            replace o3 := eq_true o3
            replace d2 := eq_true d2
            go_upto_region 25 with (fail)
            obtain ⟨an, e_, hn1⟩ := Kd.at_int (Kd.R_reads' (HT.out.r (.tail _ Mn.out))).2.2 x o4 o5
            cases e_
            obtain ⟨ac2, e_, hc1⟩ := Kd.at_int (Kd.R_reads' (HT.out.r (.head _))).2.2 ix o8 o9
            cases e_
            obtain ⟨ad, e_, hd1⟩ := Kd.at_int (Kd.R_reads' (HT.out.r (.tail _ Md.out))).2.2 x o4 o6
            cases e_
            obtain ⟨ab, e_, hb1⟩ := Kd.at_int (Kd.R_reads' (HT.out.r (.tail _ Mb.out))).2.2 x o4 o7
            cases e_
            obtain ⟨ac3, e_, hc3⟩ := Kd.at_int (Kd.R_reads' (HT.out.r (.head _))).2.2 0 (by omega) hpos
            cases e_
            rw [Int.toNat_zero] at hc3
            have eadd : ∀ (a : Addr), a.add 0 = a := fun a => by first | rfl | (cases a; rfl) | (cases a; simp [Addr.add])
            rw [eadd] at hc3
            rw [o10] at hn1
            rw [o11] at hd1
            rw [o12] at hb1
            clear o10 o11 o12
            have o13b : decide (x < rd cy 0) = false := decide_eq_false o13
            clear o13
            have hix' := hix.symm
            clear hix
            have hip' := hip.symm
            clear hip
            obtain ⟨y, hy⟩ : ∃ y, y = rd cy ix := ⟨_, rfl⟩
            rw [← hy] at hn1 hc1
            clear hy
            obtain ⟨z0, hz0⟩ : ∃ z0, z0 = rd cy 0 := ⟨_, rfl⟩
            rw [← hz0] at hc3 o13b O2
            clear hz0
            have yy : (y != y) = false := by simp
            have ii : (i_1 != i_1) = false := by simp
            have zz : ((0 : Int) != 0) = false := rfl
            have u0 : decide (0 ≤ x) = true := decide_eq_true o4
            have u1 : decide (x < (n.length : Int)) = true := decide_eq_true o5
            have u2 : decide (x < (d.length : Int)) = true := decide_eq_true o6
            have u3 : decide (x < (b.length : Int)) = true := decide_eq_true o7
            have u4 : decide (0 ≤ ix) = true := decide_eq_true o8
            have u5 : decide (ix < (cy.length : Int)) = true := decide_eq_true o9
            replace o4 := eq_true o4
            replace o5 := eq_true o5
            replace o6 := eq_true o6
            replace o7 := eq_true o7
            replace o8 := eq_true o8
            replace o9 := eq_true o9
            have q1 : ((cy.length : Int) == 0) = false := beq_eq_false_iff_ne.mpr (by omega)
            have q2 : ((cy.length : Int) != 0) = true := bne_iff_ne.mpr (by omega)
            have q3 : ((cy.length : Int) = 0) = False := eq_false (by omega)
            have q4 : 0 < cy.length := by omega
            have q5 : decide ((0 : Int) < (cy.length : Int)) = true := decide_eq_true hpos
            have q6 : (cy = []) = False := eq_false (fun e => by rw [e] at q4; simp at q4)
            have q7 : decide (0 < cy.length) = true := decide_eq_true q4
            replace hpos := eq_true hpos
            replace q4 := eq_true q4
            by_cases i0 : 0 < i_1
            ·obtain ⟨⟨p1, p2⟩, p3, p4⟩ := O2 i0
             clear O2
             obtain ⟨ag2, A6, c6, e6, hg6, -, hr6⟩ := at_L2 (Kd.S_reads' (HT.out.s Mg.out)).2.2 ip p1 p2
             cases e6
             obtain ⟨ar, e7, hr7⟩ := Kd.at_int hr6 0 (by omega) p3
             subst e7
             rw [Int.toNat_zero, eadd] at hr7
             clear hr6
             obtain ⟨rw6, hrw6⟩ : ∃ r_, r_ = rd_L2 g ip := ⟨_, rfl⟩
             rw [← hrw6] at hg6 hr7 p3 p4
             clear hrw6
             obtain ⟨z1, hz1⟩ : ∃ z1, z1 = rd rw6 0 := ⟨_, rfl⟩
             rw [← hz1] at hr7 p4
             clear hz1
             have v1 : decide (i_1 > 0) = true := decide_eq_true i0
             have v2 : decide (z1 ≥ z0) = false := decide_eq_false p4
             have v3 : decide (0 ≤ ip) = true := decide_eq_true p1
             have v4 : decide (ip < (g.length : Int)) = true := decide_eq_true p2
             have v5 : 0 < rw6.length := by omega
             have v6 : decide (0 < rw6.length) = true := decide_eq_true v5
             have v7 : decide ((0 : Int) < (rw6.length : Int)) = true := decide_eq_true p3
             have v8 : (rw6 = []) = False := eq_false (fun e => by rw [e] at v5; simp at v5)
             replace v5 := eq_true v5
             replace p1 := eq_true p1
             replace p2 := eq_true p2
             replace p3 := eq_true p3
             clear p4 i0 eadd
             as_aux_lemma =>
              repeat (go_quiet (fail); try go_wp2)
              go_roundg k2
              case measure => have := HK2.out; omega
              case rel => exact ⟨wrap64 (j_1 + 1), (by first | rfl | (simp; done) | (simp [*]; done)), H'', ⟨by have := HK2.out; omega⟩, ⟨(by repeat (first | exact HT.out | apply Rw.drewN | apply Rw.drew))⟩⟩
            ·have v1 : decide (i_1 > 0) = false := decide_eq_false i0
             clear O2 i0 eadd
             as_aux_lemma =>
              repeat (go_quiet (fail); try go_wp2)
              go_roundg k2
              case measure => have := HK2.out; omega
              case rel => exact ⟨wrap64 (j_1 + 1), (by first | rfl | (simp; done) | (simp [*]; done)), H'', ⟨by have := HK2.out; omega⟩, ⟨(by repeat (first | exact HT.out | apply Rw.drewN | apply Rw.drew))⟩⟩
           ·rw [if_neg d2] at h
            have d2b0 : decide (j_1 < (cy.length : Int)) = false := decide_eq_false d2
            clear h d2
            have HS := Aside0.mk HT.out.drop
            clear HT
            go_wp2
            go_roundg k1
            case measure => have := HK1.out; omega
            case rel => exact ⟨wrap64 (on_1 + (cy.length : Int)), wrap64 (i_1 + 1), (by first | rfl | (simp; done) | (simp [*]; done)), (by first | rfl | (simp; done) | (simp [*]; done)), H', ⟨by have := HK1.out; omega⟩, ⟨(by repeat (first | exact HS.out | apply Rw.drewN | apply Rw.drew))⟩⟩
        ·rw [if_neg c3] at h
         cases h
       ·rw [if_neg c2] at h
        have c2b0 : decide (i_1 < (g.length : Int)) = false := decide_eq_false c2
        have hon := Option.some.inj h
        subst hon
        clear h c2
        go_wp2
        go_loopg [31, 298] k (fun kq v31 v298 w' => ∃ (dp_1 x_1 : Int), v31 = .int .i64 dp_1 ∧ v298 = .int .i64 x_1 ∧ Aside0 (laws_FnMapsEnd.c2 kq n g b d e dp_1 x_1 = some dp) ∧ Aside0 (kq ≤ k) ∧ Aside0 (Rw w L GG w'))
        case atStart => exact ⟨0, 0, rfl, rfl, B2, ⟨Nat.le_refl _⟩, ⟨(by repeat (first | exact HS.out | apply Rw.drewN | apply Rw.drew))⟩⟩
        case round =>
         as_aux_lemma =>
          clear B2 HS
          obtain ⟨dp_1, x_1, rfl, rfl, HA, HK3, HS⟩ := hrel
          cases gk with
          | zero => exact absurd HA.out (by simp [laws_FnMapsEnd.c2])
          | succ k3 =>
           have h := HA.out
           clear HA
           rw [laws_FnMapsEnd.c2] at h
           by_cases c4 : x_1 < (d.length : Int)
           ·rw [if_pos c4] at h
            have c4b0 : decide (x_1 < (d.length : Int)) = true := decide_eq_true c4
            have hc : (0 ≤ x_1 ∧ x_1 < (n.length : Int) ∧ x_1 < (b.length : Int)) := by
             by_cases hc : 0 ≤ x_1 ∧ x_1 < (n.length : Int) ∧ x_1 < (b.length : Int)
             ·exact hc
             ·rw [if_neg hc] at h; cases h
            rw [if_pos hc] at h
            obtain ⟨c5, c6, c7⟩ := hc
            replace h := Option.bind_eq_some_iff.mp h
            obtain ⟨⟨t1, t2, t3⟩, a21, h⟩ := h
            replace h := Option.bind_eq_some_iff.mp h
            obtain ⟨⟨bf, bo⟩, a22, h⟩ := h
            replace h := Option.bind_eq_some_iff.mp h
            obtain ⟨hh, a23, h⟩ := h
            replace h := Option.bind_eq_some_iff.mp h
            obtain ⟨ri, a24, h⟩ := h
            obtain ⟨y, hy⟩ : ∃ y, y = rd b x_1 := ⟨_, rfl⟩
            obtain ⟨z, hz⟩ : ∃ z, z = rd n x_1 := ⟨_, rfl⟩
            obtain ⟨dx, hdx⟩ : ∃ dx, dx = rd d x_1 := ⟨_, rfl⟩
            rw [← hy, ← hz, ← hdx] at h
            have hc : (laws_FnMapsEnd.k2 n g b d x_1 y z (t1, t2, t3) (bf, bo) hh = true ∧ ri = true) ∧ laws_FnMapsEnd.c2 k3 n g b d e (if dx > dp_1 then dx else dp_1) (wrap64 (x_1 + 1)) = some dp := by
             by_cases hc : laws_FnMapsEnd.k2 n g b d x_1 y z (t1, t2, t3) (bf, bo) hh = true ∧ ri = true
             ·rw [if_pos hc] at h; exact ⟨hc, h⟩
             ·rw [if_neg hc] at h; cases h
            clear h
            obtain ⟨⟨o1, o2⟩, h⟩ := hc
            obtain ⟨⟨w1, w2⟩, ⟨w3, w4, w5⟩, ⟨w6, w7, w8⟩, w9, w10, w11⟩ := of_decide_eq_true o1
            replace w1 : t3 = true := w1
            replace w2 : t1 = dx := w2.trans hdx.symm
            replace w5 : t2 = ((rd_L2 g y).length : Int) := w5
            replace w10 : bo = true := w10
            replace w11 : ((bf.length : Int) == 0) = hh := w11
            rw [← hdx] at w9
            subst w1
            subst w2
            subst w10
            subst w11
            subst o2
            clear o1
            have A21 := Aside0.mk a21
            have A22 := Aside0.mk a22
            have A23 := Aside0.mk a23
            have A24 := Aside0.mk a24
            have H'' := Aside0.mk h
            clear a21 a22 a23 a24 h
            obtain ⟨ad, e_, hd0⟩ := Kd.at_int (Kd.R_reads' (HS.out.r Md.out)).2.2 x_1 c5 c4
            cases e_
            rw [← hdx] at hd0
            have C4 := Aside0.mk c4
            have C5 := Aside0.mk c5
            have C6 := Aside0.mk c6
            have C7 := Aside0.mk c7
            have cb5 : decide (0 ≤ x_1) = true := decide_eq_true c5
            have cb6 : decide (x_1 < (n.length : Int)) = true := decide_eq_true c6
            have cb7 : decide (x_1 < (b.length : Int)) = true := decide_eq_true c7
            replace c4 := eq_true c4
            replace c5 := eq_true c5
            replace c6 := eq_true c6
            replace c7 := eq_true c7
            have DX := Aside0.mk hdx
            have W9 := Aside0.mk w9
            have W5 := Aside0.mk w5
            have HY := Aside0.mk hy
            have HZ := Aside0.mk hz
            have W8 := Aside0.mk w8
            clear hdx w9 w5 hy hz w8
            go_upto_region 34 with (first | (go_at_call 20; refine (impl_TailAndCycle.calls k3 _ _ n x_1 t1 t2 true _ (Kd.R_reads' (HS.out.r Mn.out)).2.2 (Kd.R_reads' (HS.out.r Mn.out)).2.1 A21.out).mono ?_; rintro e_ w_ ⟨rfl, hb⟩; have n0_ := Aside0.mk (HS.out.below hb); clear HS hb; have HS := n0_; clear n0_))
            clear hd0
            go_upto_region 35 with (first | (go_at_call 21; refine (impl_BeforeOf.calls k3 _ _ n x_1 bf true _ (Kd.R_reads' (HS.out.r Mn.out)).2.2 (Kd.R_reads' (HS.out.r Mn.out)).2.1 A22.out).mono ?_; rintro e_ w_ ⟨v_, rfl, ho, hb⟩; obtain ⟨Af, cf, ex_⟩ := Kd.R_slice ho; subst ex_; have n0_ := Aside0.mk (HS.out.addR ho hb); clear HS ho hb; have HT := n0_; clear n0_))
            obtain ⟨ab, e_, hb0⟩ := Kd.at_int (Kd.R_reads' (HT.out.r (.tail _ Mb.out))).2.2 x_1 C5.out C7.out
            cases e_
            rw [← HY.out] at hb0
            obtain ⟨an, e_, hn0⟩ := Kd.at_int (Kd.R_reads' (HT.out.r (.tail _ Mn.out))).2.2 x_1 C5.out C6.out
            cases e_
            rw [← HZ.out] at hn0
            obtain ⟨ab2, e_, hb2⟩ := Kd.at_int (Kd.R_reads' (HT.out.r (.tail _ Mb.out))).2.2 z w6 w7
            cases e_
            rw [W8.out] at hb2
            obtain ⟨ag, A6, cg6, e6, hg6, -, -⟩ := at_L2 (Kd.S_reads' (HT.out.s Mg.out)).2.2 y w3 w4
            cases e6
            obtain ⟨row6, hrow6⟩ : ∃ r_, r_ = rd_L2 g y := ⟨_, rfl⟩
            rw [← hrow6] at hg6
            have w5 : t2 = (row6.length : Int) := by rw [hrow6]; exact W5.out
            clear hrow6
            have w5b : (t2 != (row6.length : Int)) = false := by rw [w5]; simp
            subst w5
            have yy : (y != y) = false := by simp
            have dd : (t1 != t1) = false := by simp
            have tt : ((((bf.length : Int) == 0)) != ((bf.length : Int) == 0)) = false := by simp
            have u1 : decide (0 ≤ y) = true := decide_eq_true w3
            have u2 : decide (y < (g.length : Int)) = true := decide_eq_true w4
            have u3 : decide (0 ≤ z) = true := decide_eq_true w6
            have u4 : decide (z < (b.length : Int)) = true := decide_eq_true w7
            have W6 := Aside0.mk w6
            replace w3 := eq_true w3
            replace w4 := eq_true w4
            replace w6 := eq_true w6
            replace w7 := eq_true w7
            simp only [List.append_eq, List.cons_append, List.nil_append]
            by_cases d0 : 0 < t1
            ·obtain ⟨p1, p2⟩ := W9.out d0
             obtain ⟨ad2, e_, hd2⟩ := Kd.at_int (Kd.R_reads' (HT.out.r (.tail _ Md.out))).2.2 z W6.out p1
             cases e_
             obtain ⟨wd, hwd⟩ : ∃ wd, wd = wrap64 (t1 - 1) := ⟨_, rfl⟩
             rw [p2, ← hwd] at hd2
             have hwd' := hwd.symm
             have hwd2 : IntKind.i64.wrap (t1 - 1) = wd := by rw [i64_w]; exact hwd'
             clear hwd
             have v1 : decide (t1 > 0) = true := decide_eq_true d0
             have v2 : decide (z < (d.length : Int)) = true := decide_eq_true p1
             have v3 : (wd != wd) = false := by simp
             replace p1 := eq_true p1
             clear p2 d0
             by_cases d1 : t1 > dp_1
             ·have x1 : decide (t1 > dp_1) = true := decide_eq_true d1
              have H3 := Aside0.mk (show laws_FnMapsEnd.c2 k3 n g b d e t1 (wrap64 (x_1 + 1)) = some dp from by have := H''.out; rw [if_pos d1] at this; exact this)
              clear d1 H''
              as_aux_lemma =>
               repeat (go_quiet (first | (go_at_call 22; (with_reducible refine (laws_rHas.calls k3 _ _ e x_1 ((bf.length : Int) == 0) _ ?side1 ?side2 A23.out).mono ?_); (case side1 => repeat (first | exact (Kd.R_reads' (HT.out.r (.tail _ Me.out))).2.2 | (with_reducible refine Kd.C_drewN ?_ _) | (with_reducible refine Kd.C_drew ?_))); (case side2 => exact (Kd.R_reads' (HT.out.r (.tail _ Me.out))).2.1); rintro e_ w_ ⟨rfl, ⟨nd_, rfl⟩⟩; (try first | exact ⟨rfl, _, World.drewN_drewN _ _ _⟩ | exact ⟨rfl, _, Eq.trans (World.drewN_drewN _ _ _) (congrArg (World.drewN _) (Nat.add_assoc _ _ _))⟩)) | (go_at_call 23; (with_reducible refine (laws_rRising.calls k3 _ _ bf true _ ?side1 ?side2 A24.out).mono ?_); (case side1 => repeat (first | exact (Kd.R_reads' (HT.out.r (.head _))).2.2 | (with_reducible refine Kd.C_drewN ?_ _) | (with_reducible refine Kd.C_drew ?_))); (case side2 => exact (Kd.R_reads' (HT.out.r (.head _))).2.1); rintro e_ w_ ⟨rfl, ⟨nd_, rfl⟩⟩; (try first | exact ⟨rfl, _, World.drewN_drewN _ _ _⟩ | exact ⟨rfl, _, Eq.trans (World.drewN_drewN _ _ _) (congrArg (World.drewN _) (Nat.add_assoc _ _ _))⟩))); try go_wp2)
               go_roundg k3
               case measure => have := HK3.out; omega
               case rel => exact ⟨t1, wrap64 (x_1 + 1), (by first | rfl | (simp; done) | (simp [*]; done)), (by first | rfl | (simp; done) | (simp [*]; done)), H3, ⟨by have := HK3.out; omega⟩, ⟨(by repeat (first | exact HT.out.drop | apply Rw.drewN | apply Rw.drew))⟩⟩
             ·have x1 : decide (t1 > dp_1) = false := decide_eq_false d1
              have H3 := Aside0.mk (show laws_FnMapsEnd.c2 k3 n g b d e dp_1 (wrap64 (x_1 + 1)) = some dp from by have := H''.out; rw [if_neg d1] at this; exact this)
              clear d1 H''
              as_aux_lemma =>
               repeat (go_quiet (first | (go_at_call 22; (with_reducible refine (laws_rHas.calls k3 _ _ e x_1 ((bf.length : Int) == 0) _ ?side1 ?side2 A23.out).mono ?_); (case side1 => repeat (first | exact (Kd.R_reads' (HT.out.r (.tail _ Me.out))).2.2 | (with_reducible refine Kd.C_drewN ?_ _) | (with_reducible refine Kd.C_drew ?_))); (case side2 => exact (Kd.R_reads' (HT.out.r (.tail _ Me.out))).2.1); rintro e_ w_ ⟨rfl, ⟨nd_, rfl⟩⟩; (try first | exact ⟨rfl, _, World.drewN_drewN _ _ _⟩ | exact ⟨rfl, _, Eq.trans (World.drewN_drewN _ _ _) (congrArg (World.drewN _) (Nat.add_assoc _ _ _))⟩)) | (go_at_call 23; (with_reducible refine (laws_rRising.calls k3 _ _ bf true _ ?side1 ?side2 A24.out).mono ?_); (case side1 => repeat (first | exact (Kd.R_reads' (HT.out.r (.head _))).2.2 | (with_reducible refine Kd.C_drewN ?_ _) | (with_reducible refine Kd.C_drew ?_))); (case side2 => exact (Kd.R_reads' (HT.out.r (.head _))).2.1); rintro e_ w_ ⟨rfl, ⟨nd_, rfl⟩⟩; (try first | exact ⟨rfl, _, World.drewN_drewN _ _ _⟩ | exact ⟨rfl, _, Eq.trans (World.drewN_drewN _ _ _) (congrArg (World.drewN _) (Nat.add_assoc _ _ _))⟩))); try go_wp2)
               go_roundg k3
               case measure => have := HK3.out; omega
               case rel => exact ⟨dp_1, wrap64 (x_1 + 1), (by first | rfl | (simp; done) | (simp [*]; done)), (by first | rfl | (simp; done) | (simp [*]; done)), H3, ⟨by have := HK3.out; omega⟩, ⟨(by repeat (first | exact HT.out.drop | apply Rw.drewN | apply Rw.drew))⟩⟩
            ·have v1 : decide (t1 > 0) = false := decide_eq_false d0
             clear d0
             by_cases d1 : t1 > dp_1
             ·have x1 : decide (t1 > dp_1) = true := decide_eq_true d1
              have H3 := Aside0.mk (show laws_FnMapsEnd.c2 k3 n g b d e t1 (wrap64 (x_1 + 1)) = some dp from by have := H''.out; rw [if_pos d1] at this; exact this)
              clear d1 H''
              as_aux_lemma =>
               repeat (go_quiet (first | (go_at_call 22; (with_reducible refine (laws_rHas.calls k3 _ _ e x_1 ((bf.length : Int) == 0) _ ?side1 ?side2 A23.out).mono ?_); (case side1 => repeat (first | exact (Kd.R_reads' (HT.out.r (.tail _ Me.out))).2.2 | (with_reducible refine Kd.C_drewN ?_ _) | (with_reducible refine Kd.C_drew ?_))); (case side2 => exact (Kd.R_reads' (HT.out.r (.tail _ Me.out))).2.1); rintro e_ w_ ⟨rfl, ⟨nd_, rfl⟩⟩; (try first | exact ⟨rfl, _, World.drewN_drewN _ _ _⟩ | exact ⟨rfl, _, Eq.trans (World.drewN_drewN _ _ _) (congrArg (World.drewN _) (Nat.add_assoc _ _ _))⟩)) | (go_at_call 23; (with_reducible refine (laws_rRising.calls k3 _ _ bf true _ ?side1 ?side2 A24.out).mono ?_); (case side1 => repeat (first | exact (Kd.R_reads' (HT.out.r (.head _))).2.2 | (with_reducible refine Kd.C_drewN ?_ _) | (with_reducible refine Kd.C_drew ?_))); (case side2 => exact (Kd.R_reads' (HT.out.r (.head _))).2.1); rintro e_ w_ ⟨rfl, ⟨nd_, rfl⟩⟩; (try first | exact ⟨rfl, _, World.drewN_drewN _ _ _⟩ | exact ⟨rfl, _, Eq.trans (World.drewN_drewN _ _ _) (congrArg (World.drewN _) (Nat.add_assoc _ _ _))⟩))); try go_wp2)
               go_roundg k3
               case measure => have := HK3.out; omega
               case rel => exact ⟨t1, wrap64 (x_1 + 1), (by first | rfl | (simp; done) | (simp [*]; done)), (by first | rfl | (simp; done) | (simp [*]; done)), H3, ⟨by have := HK3.out; omega⟩, ⟨(by repeat (first | exact HT.out.drop | apply Rw.drewN | apply Rw.drew))⟩⟩
             ·have x1 : decide (t1 > dp_1) = false := decide_eq_false d1
              have H3 := Aside0.mk (show laws_FnMapsEnd.c2 k3 n g b d e dp_1 (wrap64 (x_1 + 1)) = some dp from by have := H''.out; rw [if_neg d1] at this; exact this)
              clear d1 H''
              as_aux_lemma =>
               repeat (go_quiet (first | (go_at_call 22; (with_reducible refine (laws_rHas.calls k3 _ _ e x_1 ((bf.length : Int) == 0) _ ?side1 ?side2 A23.out).mono ?_); (case side1 => repeat (first | exact (Kd.R_reads' (HT.out.r (.tail _ Me.out))).2.2 | (with_reducible refine Kd.C_drewN ?_ _) | (with_reducible refine Kd.C_drew ?_))); (case side2 => exact (Kd.R_reads' (HT.out.r (.tail _ Me.out))).2.1); rintro e_ w_ ⟨rfl, ⟨nd_, rfl⟩⟩; (try first | exact ⟨rfl, _, World.drewN_drewN _ _ _⟩ | exact ⟨rfl, _, Eq.trans (World.drewN_drewN _ _ _) (congrArg (World.drewN _) (Nat.add_assoc _ _ _))⟩)) | (go_at_call 23; (with_reducible refine (laws_rRising.calls k3 _ _ bf true _ ?side1 ?side2 A24.out).mono ?_); (case side1 => repeat (first | exact (Kd.R_reads' (HT.out.r (.head _))).2.2 | (with_reducible refine Kd.C_drewN ?_ _) | (with_reducible refine Kd.C_drew ?_))); (case side2 => exact (Kd.R_reads' (HT.out.r (.head _))).2.1); rintro e_ w_ ⟨rfl, ⟨nd_, rfl⟩⟩; (try first | exact ⟨rfl, _, World.drewN_drewN _ _ _⟩ | exact ⟨rfl, _, Eq.trans (World.drewN_drewN _ _ _) (congrArg (World.drewN _) (Nat.add_assoc _ _ _))⟩))); try go_wp2)
               go_roundg k3
               case measure => have := HK3.out; omega
               case rel => exact ⟨dp_1, wrap64 (x_1 + 1), (by first | rfl | (simp; done) | (simp [*]; done)), (by first | rfl | (simp; done) | (simp [*]; done)), H3, ⟨by have := HK3.out; omega⟩, ⟨(by repeat (first | exact HT.out.drop | apply Rw.drewN | apply Rw.drew))⟩⟩
           ·rw [if_neg c4] at h
            have c4b0 : decide (x_1 < (d.length : Int)) = false := decide_eq_false c4
            have hdp := Option.some.inj h
            subst hdp
            clear h c4
            obtain ⟨⟨f1, f2, f3⟩, ⟨f4, f5, f6⟩, f7⟩ := of_decide_eq_true K3.out
            have F7 := Aside0.mk f7
            clear f7 K3
            go_upto_region 40 with (fail)
            obtain ⟨am, e_, hm0⟩ := Kd.at_int (Kd.R_reads' (HS.out.r Mm.out)).2.2 0 (by omega) f2
            cases e_
            rw [Int.toNat_zero] at hm0
            have eadd : ∀ (a : Addr), a.add 0 = a := fun a => by first | rfl | (cases a; rfl) | (cases a; simp [Addr.add])
            rw [eadd, f3] at hm0
            obtain ⟨am2, e_, hm1⟩ := Kd.at_int (Kd.R_reads' (HS.out.r Mm.out)).2.2 dp_1 f4 f5
            cases e_
            rw [f6] at hm1
            have v1 : ((m.length : Int) != wrap64 (dp_1 + 1)) = false := by rw [f1]; simp
            have v2 : ((n.length : Int) != (n.length : Int)) = false := by simp
            have v3 : (on_1 != on_1) = false := by simp
            have v4 : 0 < m.length := by omega
            have v5 : decide (0 < m.length) = true := decide_eq_true v4
            have v6 : decide ((0 : Int) < (m.length : Int)) = true := decide_eq_true f2
            have v7 : (m = []) = False := eq_false (fun e => by rw [e] at v4; simp at v4)
            have v8 : decide (0 ≤ dp_1) = true := decide_eq_true f4
            have v9 : decide (dp_1 < (m.length : Int)) = true := decide_eq_true f5
            replace v4 := eq_true v4
            replace f2 := eq_true f2
            replace f4 := eq_true f4
            replace f5 := eq_true f5
            clear f1 f3 f6
            by_cases g1 : 1 < (n.length : Int)
            ·have x1 : decide ((n.length : Int) > 1) = true := decide_eq_true g1
             have x1n : decide (n.length > 1) = true := decide_eq_true (by omega)
             by_cases g2 : 0 < dp_1
             ·obtain ⟨p1, p2⟩ := F7.out g1 g2
              obtain ⟨am3, e_, hm3⟩ := Kd.at_int (Kd.R_reads' (HS.out.r Mm.out)).2.2 1 (by omega) p1
              cases e_
              rw [p2] at hm3
              simp only [show (1 : Int).toNat = 1 from rfl, Nat.reduceMul, Nat.reduceEqDiff, Go.Addr.add, ↓reduceIte] at hm3
              have x2 : decide (dp_1 > 0) = true := decide_eq_true g2
              have x3 : (wrap64 ((n.length : Int) - (e.length : Int)) != wrap64 ((n.length : Int) - (e.length : Int))) = false := by simp
              have x4 : decide ((1 : Int) < (m.length : Int)) = true := decide_eq_true p1
              have x5 : 1 < m.length := by omega
              have x6 : decide (1 < m.length) = true := decide_eq_true x5
              replace x5 := eq_true x5
              replace p1 := eq_true p1
              clear p2 g1 g2 eadd
              as_aux_lemma =>
               go_wp2
               go_meet
               case rel => exact ⟨(by repeat (first | exact HS.out | apply Rw.drewN | apply Rw.drew))⟩
             ·have x2 : decide (dp_1 > 0) = false := decide_eq_false g2
              clear g1 g2 eadd
              as_aux_lemma =>
               go_wp2
               go_meet
               case rel => exact ⟨(by repeat (first | exact HS.out | apply Rw.drewN | apply Rw.drew))⟩
            ·have x1 : decide ((n.length : Int) > 1) = false := decide_eq_false g1
             have x1n : decide (n.length > 1) = false := decide_eq_false (by omega)
             clear g1 eadd
             as_aux_lemma =>
              go_wp2
              go_meet
              case rel => exact ⟨(by repeat (first | exact HS.out | apply Rw.drewN | apply Rw.drew))⟩
  case rest =>
   as_aux_lemma =>
    clear HS hbn Xa6
    have HS := hcut
    clear hcut
    have h := XH.out
    unfold laws_FnMapsEnd.q2 at h
    replace h := Option.bind_eq_some_iff.mp h
    obtain ⟨⟨n, q⟩, an, h⟩ := h
    replace h := Option.bind_eq_some_iff.mp h
    obtain ⟨⟨pw, po⟩, a1, h⟩ := h
    replace h := Option.bind_eq_some_iff.mp h
    obtain ⟨⟨pv, pp⟩, a2, h⟩ := h
    replace h := Option.bind_eq_some_iff.mp h
    obtain ⟨⟨fx, fo⟩, a3, h⟩ := h
    replace h := Option.bind_eq_some_iff.mp h
    obtain ⟨⟨fy, fp⟩, a4, h⟩ := h
    replace h := Option.bind_eq_some_iff.mp h
    obtain ⟨⟨s1, s2, s3⟩, a5, h⟩ := h
    replace h := Option.bind_eq_some_iff.mp h
    obtain ⟨⟨r1, r2, r3⟩, a6, h⟩ := h
    replace h := Option.bind_eq_some_iff.mp h
    obtain ⟨sm, a7, h⟩ := h
    have hc : ((po = pp ∧ po = fo ∧ po = fp ∧ fx = fy) ∧ (s1 = r1 ∧ s2 = r2 ∧ s3 = r3) ∧ sm = true) ∧ ((if po = true then laws_FnMapsEnd.q5 k n q pw fx else some true).bind fun _ => (if s3 = true ∧ wrap64 (s1 + s2) ≤ 1000000 then laws_FnMapsEnd.q4 k n s1 s2 else some true).bind fun _ => laws_FnMapsEnd.q3 k l1) = some r := by
     by_cases hc : (po = pp ∧ po = fo ∧ po = fp ∧ fx = fy) ∧ (s1 = r1 ∧ s2 = r2 ∧ s3 = r3) ∧ sm = true
     ·rw [if_pos hc] at h; exact ⟨hc, h⟩
     ·rw [if_neg hc] at h; cases h
    clear h
    obtain ⟨⟨⟨y1, y2, y3, y4⟩, ⟨y5, y6, y7⟩, y8⟩, h⟩ := hc
    subst y1
    subst y2
    subst y3
    subst y4
    subst y5
    subst y6
    subst y7
    subst y8
    replace h := Option.bind_eq_some_iff.mp h
    obtain ⟨u5, a8, h⟩ := h
    replace h := Option.bind_eq_some_iff.mp h
    obtain ⟨u4, a9, h⟩ := h
    obtain ⟨sp, hsp⟩ : ∃ sp, sp = wrap64 (s1 + s2) := ⟨_, rfl⟩
    rw [← hsp] at a9
    unfold laws_FnMapsEnd.q4 at a9
    rw [← hsp] at a9
    have a9' : (if s3 = true ∧ sp ≤ 1000000 then ((impl_PowerOfMap.f k n s1).bind fun x => (impl_PowerOfMap.f k n sp).bind fun y => (laws_rSame.f k x.1 y.1).bind fun z => if x.2 = true ∧ y.2 = true ∧ z = true then some true else none) else some true) = some u4 := a9
    clear a9
    have hsp' := hsp.symm
    clear hsp
    have Yn := Aside0.mk an
    have Y1 := Aside0.mk a1
    have Y2 := Aside0.mk a2
    have Y3 := Aside0.mk a3
    have Y4 := Aside0.mk a4
    have Y5 := Aside0.mk a5
    have Y6 := Aside0.mk a6
    have Y7 := Aside0.mk a7
    have Y8 := Aside0.mk a8
    have Y9 := Aside0.mk a9'
    have XT := Aside0.mk h
    clear an a1 a2 a3 a4 a5 a6 a7 a8 a9' h
    go_upto_region 49 with (first | (go_at_call 24; refine (spec_DrawPowerOfMap.calls k _ _ l1 n q _ (Kd.C_below HR1.out HS.out.B) HC1.out Yn.out).mono ?_; rintro e_ w_ ⟨v_, rfl, ho, hb⟩; obtain ⟨An, cn, ex_⟩ := Kd.R_slice ho; subst ex_; have n0_ := Aside0.mk (HS.out.addR ho hb); clear HS ho hb; have HS := n0_; clear n0_) | (go_at_call 25; refine (impl_PowerOfMap.calls k _ _ n q pw po _ (Kd.R_reads' (HS.out.r (l := n) (.head _))).2.2 (Kd.R_reads' (HS.out.r (l := n) (.head _))).2.1 Y1.out).mono ?_; rintro e_ w_ ⟨v_, rfl, ho, hb⟩; obtain ⟨Apw, cpw, ex_⟩ := Kd.R_slice ho; subst ex_; have n0_ := Aside0.mk (HS.out.addR ho hb); clear HS ho hb; have HS := n0_; clear n0_) | (go_at_call 26; refine (spec_PowerOfMap.calls k _ _ n q pv po _ (Kd.R_reads' (HS.out.r (l := n) (.tail _ (.head _)))).2.2 (Kd.R_reads' (HS.out.r (l := n) (.tail _ (.head _)))).2.1 Y2.out).mono ?_; rintro e_ w_ ⟨v_, rfl, ho, hb⟩; obtain ⟨Apv, cpv, ex_⟩ := Kd.R_slice ho; subst ex_; have n0_ := Aside0.mk (HS.out.addR ho hb); clear HS ho hb; have HS := n0_; clear n0_) | (go_at_call 27; refine (impl_CountFixedBy.calls k _ _ n q fx po _ (Kd.R_reads' (HS.out.r (l := n) (.tail _ (.tail _ (.head _))))).2.2 (Kd.R_reads' (HS.out.r (l := n) (.tail _ (.tail _ (.head _))))).2.1 Y3.out).mono ?_; rintro e_ w_ ⟨rfl, hb⟩; have n0_ := Aside0.mk (HS.out.below hb); clear HS hb; have HS := n0_; clear n0_) | (go_at_call 28; refine (spec_CountFixedBy.calls k _ _ n q fx po _ (Kd.R_reads' (HS.out.r (l := n) (.tail _ (.tail _ (.head _))))).2.2 (Kd.R_reads' (HS.out.r (l := n) (.tail _ (.tail _ (.head _))))).2.1 Y4.out).mono ?_; rintro e_ w_ ⟨rfl, hb⟩; have n0_ := Aside0.mk (HS.out.below hb); clear HS hb; have HS := n0_; clear n0_) | (go_at_call 29; refine (impl_WhenSteady.calls k _ _ n s1 s2 s3 _ (Kd.R_reads' (HS.out.r (l := n) (.tail _ (.tail _ (.head _))))).2.2 (Kd.R_reads' (HS.out.r (l := n) (.tail _ (.tail _ (.head _))))).2.1 Y5.out).mono ?_; rintro e_ w_ ⟨rfl, hb⟩; have n0_ := Aside0.mk (HS.out.below hb); clear HS hb; have HS := n0_; clear n0_) | (go_at_call 30; refine (spec_WhenSteady.calls k _ _ n s1 s2 s3 _ (Kd.R_reads' (HS.out.r (l := n) (.tail _ (.tail _ (.head _))))).2.2 (Kd.R_reads' (HS.out.r (l := n) (.tail _ (.tail _ (.head _))))).2.1 Y6.out).mono ?_; rintro e_ w_ ⟨rfl, hb⟩; have n0_ := Aside0.mk (HS.out.below hb); clear HS hb; have HS := n0_; clear n0_))
    obtain ⟨L2, hL⟩ : ∃ L2, L2 = (((.slice Apv pv.length cpv), pv) :: ((.slice Apw pw.length cpw), pw) :: ((.slice An n.length cn), n) :: L : List (Value × List Int)) := ⟨_, rfl⟩
    rw [← hL] at HS
    have Mpv := Aside0.mk (show ((.slice Apv pv.length cpv), pv) ∈ L2 from by rw [hL]; exact (.head _))
    have Mpw := Aside0.mk (show ((.slice Apw pw.length cpw), pw) ∈ L2 from by rw [hL]; exact (.tail _ (.head _)))
    have Mn := Aside0.mk (show ((.slice An n.length cn), n) ∈ L2 from by rw [hL]; exact (.tail _ (.tail _ (.head _))))
    clear hL
    have hb2 : (fx != fx) = false := by simp
    have hb3 : (s1 != s1) = false := by simp
    have hb4 : (s2 != s2) = false := by simp
    have hb5 : (s3 != s3) = false := by simp
    have hbn : (po != po) = false := by simp
    go_upto_if 509 with (first | (go_at_call 17; (with_reducible refine (laws_rSame.calls k _ _ pw _ _ pv true _ ?side1 ?side2 ?side3 ?side4 Y7.out).mono ?_); (case side1 => repeat (first | exact (Kd.R_reads' (HS.out.r (l := pw) Mpw.out)).2.2 | (with_reducible refine Kd.C_drewN ?_ _) | (with_reducible refine Kd.C_drew ?_) | (with_reducible refine Kd.C_alloc ?_ _))); (case side2 => exact (Kd.R_reads' (HS.out.r (l := pw) Mpw.out)).2.1); (case side3 => repeat (first | exact (Kd.R_reads' (HS.out.r (l := pv) Mpv.out)).2.2 | (with_reducible refine Kd.C_drewN ?_ _) | (with_reducible refine Kd.C_drew ?_) | (with_reducible refine Kd.C_alloc ?_ _))); (case side4 => exact (Kd.R_reads' (HS.out.r (l := pv) Mpv.out)).2.1); rintro e_ w_ ⟨rfl, hd⟩; have n0_ := Aside0.mk (Rw.drawn (by repeat (first | exact HS.out | apply Rw.drewN | apply Rw.drew)) hd); clear HS hd; have HS := n0_; clear n0_))
    clear Y1 Y2 Y3 Y4 Y5 Y6 Y7 Yn
    go_cut [] from 509 to 509 (fun wx => Aside0 (Rw w L2 GG wx))
    case first =>
     as_aux_lemma =>
      clear XT Y9 hbn hb2 hb3 hb4 hb5
      cases po with
      | false =>
       go_wp2
       go_meet
       case rel => exact ⟨(by repeat (first | exact HS.out | apply Rw.drewN | apply Rw.drew))⟩
      | true =>
       have h := Y8.out
       rw [if_pos rfl] at h
       unfold laws_FnMapsEnd.q5 at h
       replace h := Option.bind_eq_some_iff.mp h
       obtain ⟨ct, b1, h⟩ := h
       have hc : ct = fx := by
        by_cases hc : ct = fx
        ·exact hc
        ·rw [if_neg hc] at h; cases h
       clear h
       subst hc
       have B1 := Aside0.mk b1
       clear b1 Y8
       go_upto_region 52 with (fail)
       go_wp2
       go_loopg [55, 512] k (fun kq v55 v512 w' => ∃ (ct_1 x_1 : Int), v55 = .int .i64 ct_1 ∧ v512 = .int .i64 x_1 ∧ Aside0 (laws_FnMapsEnd.c3 kq n q pw ct_1 x_1 = some ct) ∧ Aside0 (kq ≤ k) ∧ Aside0 (Rw w L2 GG w'))
       case atStart => exact ⟨0, 0, rfl, rfl, B1, ⟨Nat.le_refl _⟩, ⟨(by repeat (first | exact HS.out | apply Rw.drewN | apply Rw.drew))⟩⟩
       case round =>
        clear B1 HS
        obtain ⟨ct_1, x_1, rfl, rfl, HA, HK1, HS⟩ := hrel
        cases gk with
        | zero => exact absurd HA.out (by simp [laws_FnMapsEnd.c3])
        | succ k1 =>
         have h := HA.out
         clear HA
         rw [laws_FnMapsEnd.c3] at h
         by_cases c4 : x_1 < (pw.length : Int)
         ·rw [if_pos c4] at h
          have c4b0 : decide (x_1 < (pw.length : Int)) = true := decide_eq_true c4
          by_cases c5 : 0 ≤ x_1
          ·rw [if_pos c5] at h
           replace h := Option.bind_eq_some_iff.mp h
           obtain ⟨⟨z1, z2⟩, b5, h⟩ := h
           obtain ⟨px, hpx⟩ : ∃ px, px = rd pw x_1 := ⟨_, rfl⟩
           rw [← hpx] at h
           have hc : (z2 = true ∧ z1 = px) ∧ laws_FnMapsEnd.c3 k1 n q pw (if x_1 = px then wrap64 (ct_1 + 1) else ct_1) (wrap64 (x_1 + 1)) = some ct := by
            by_cases hc : z2 = true ∧ z1 = px
            ·rw [if_pos hc] at h; exact ⟨hc, h⟩
            ·rw [if_neg hc] at h; cases h
           clear h
           obtain ⟨⟨e1, e2⟩, h⟩ := hc
           subst e1
           subst e2
           have B5 := Aside0.mk b5
           have H'' := Aside0.mk h
           clear b5 h
           obtain ⟨ap, e_, hp0⟩ := Kd.at_int (Kd.R_reads' (HS.out.r Mpw.out)).2.2 x_1 c5 c4
           cases e_
           rw [← hpx] at hp0
           clear hpx
           have c5b0 : decide (0 ≤ x_1) = true := decide_eq_true c5
           replace c4 := eq_true c4
           replace c5 := eq_true c5
           have hb6 : (z1 != z1) = false := by simp
           by_cases d1 : x_1 = z1
           ·have v1 : (x_1 == z1) = true := beq_iff_eq.mpr d1
            have H3 := Aside0.mk (show laws_FnMapsEnd.c3 k1 n q pw (wrap64 (ct_1 + 1)) (wrap64 (x_1 + 1)) = some ct from by have := H''.out; rw [if_pos d1] at this; exact this)
            clear d1 H''
            go_wp2_with (first | (go_at_call 31; refine (impl_ApplyMap.calls k1 _ _ n x_1 q z1 true _ (Kd.R_reads' (HS.out.r Mn.out)).2.2 (Kd.R_reads' (HS.out.r Mn.out)).2.1 B5.out).mono ?_; rintro e_ w_ ⟨rfl, hb⟩; have n0_ := Aside0.mk (HS.out.below hb); clear HS hb; have HS := n0_; clear n0_))
            repeat (go_quiet (fail); try go_wp2)
            go_roundg k1
            case measure => have := HK1.out; omega
            case rel => exact ⟨wrap64 (ct_1 + 1), wrap64 (x_1 + 1), (by first | rfl | (simp; done) | (simp [*]; done)), (by first | rfl | (simp; done) | (simp [*]; done)), H3, ⟨by have := HK1.out; omega⟩, ⟨(by repeat (first | exact HS.out | apply Rw.drewN | apply Rw.drew))⟩⟩
           ·have v1 : (x_1 == z1) = false := beq_eq_false_iff_ne.mpr d1
            have H3 := Aside0.mk (show laws_FnMapsEnd.c3 k1 n q pw ct_1 (wrap64 (x_1 + 1)) = some ct from by have := H''.out; rw [if_neg d1] at this; exact this)
            clear d1 H''
            go_wp2_with (first | (go_at_call 31; refine (impl_ApplyMap.calls k1 _ _ n x_1 q z1 true _ (Kd.R_reads' (HS.out.r Mn.out)).2.2 (Kd.R_reads' (HS.out.r Mn.out)).2.1 B5.out).mono ?_; rintro e_ w_ ⟨rfl, hb⟩; have n0_ := Aside0.mk (HS.out.below hb); clear HS hb; have HS := n0_; clear n0_))
            repeat (go_quiet (fail); try go_wp2)
            go_roundg k1
            case measure => have := HK1.out; omega
            case rel => exact ⟨ct_1, wrap64 (x_1 + 1), (by first | rfl | (simp; done) | (simp [*]; done)), (by first | rfl | (simp; done) | (simp [*]; done)), H3, ⟨by have := HK1.out; omega⟩, ⟨(by repeat (first | exact HS.out | apply Rw.drewN | apply Rw.drew))⟩⟩
          ·rw [if_neg c5] at h
           cases h
         ·rw [if_neg c4] at h
          have c4b0 : decide (x_1 < (pw.length : Int)) = false := decide_eq_false c4
          have hct := Option.some.inj h
          subst hct
          have hb6 : (ct_1 != ct_1) = false := by simp
          clear h c4
          go_wp2
          go_meet
          case rel => exact ⟨(by repeat (first | exact HS.out | apply Rw.drewN | apply Rw.drew))⟩
    case rest =>
     clear HS hbn Y8
     have HS := hcut
     clear hcut
     obtain ⟨lb, hlb⟩ : ∃ lb, lb = decide (s3 = true ∧ sp ≤ 1000000) := ⟨_, rfl⟩
     have HLB := Aside0.mk hlb
     clear hlb
     go_upto_region 64 with (fail)
     go_cut [546] from 540 to 546 (fun v546 wx => v546 = .bool lb ∧ Aside0 (Rw w L2 GG wx))
     case first =>
      clear XT Y9
      cases s3 with
      | false =>
       go_wp2
       go_meet
       case rel => exact ⟨(by rw [HLB.out]; simp), ⟨(by repeat (first | exact HS.out | apply Rw.drewN | apply Rw.drew))⟩⟩
      | true =>
       go_wp2
       go_meet
       case rel => exact ⟨(by rw [HLB.out]; simp), ⟨(by repeat (first | exact HS.out | apply Rw.drewN | apply Rw.drew))⟩⟩
     case rest =>
      clear HS
      obtain ⟨rfl, HS⟩ := hcut
      go_upto_if 546 with (fail)
      go_cut [] from 546 to 546 (fun wx => Aside0 (Rw w L2 GG wx))
      case first =>
       as_aux_lemma =>
        clear XT
        cases lb with
        | false =>
         go_wp2
         go_meet
         case rel => exact ⟨(by repeat (first | exact HS.out | apply Rw.drewN | apply Rw.drew))⟩
        | true =>
         obtain ⟨l1_, l2_⟩ := of_decide_eq_true HLB.out.symm
         subst l1_
         have h := Y9.out
         rw [if_pos ⟨rfl, l2_⟩] at h
         clear l2_ HLB Y9
         replace h := Option.bind_eq_some_iff.mp h
         obtain ⟨⟨ea, eo⟩, b1, h⟩ := h
         replace h := Option.bind_eq_some_iff.mp h
         obtain ⟨⟨la, lo⟩, b2, h⟩ := h
         replace h := Option.bind_eq_some_iff.mp h
         obtain ⟨sm, b3, h⟩ := h
         have hc : eo = true ∧ lo = true ∧ sm = true := by
          by_cases hc : eo = true ∧ lo = true ∧ sm = true
          ·exact hc
          ·rw [if_neg hc] at h; cases h
         clear h
         obtain ⟨e1, e2, e3⟩ := hc
         subst e1
         subst e2
         subst e3
         have B1 := Aside0.mk b1
         have B2 := Aside0.mk b2
         have B3 := Aside0.mk b3
         clear b1 b2 b3
         go_wp2_with (first | (go_at_call 25; refine (impl_PowerOfMap.calls k _ _ n s1 ea true _ (Kd.R_reads' (HS.out.r Mn.out)).2.2 (Kd.R_reads' (HS.out.r Mn.out)).2.1 B1.out).mono ?_; rintro e_ w_ ⟨v_, rfl, ho, hb⟩; obtain ⟨Aea, cea, ex_⟩ := Kd.R_slice ho; subst ex_; have n0_ := Aside0.mk (HS.out.addR ho hb); clear HS ho hb; have HS := n0_; clear n0_ B1) | (go_at_call 25; refine (impl_PowerOfMap.calls k _ _ n sp la true _ (Kd.R_reads' (HS.out.r (.tail _ Mn.out))).2.2 (Kd.R_reads' (HS.out.r (.tail _ Mn.out))).2.1 B2.out).mono ?_; rintro e_ w_ ⟨v_, rfl, ho, hb⟩; obtain ⟨Ala, cla, ex_⟩ := Kd.R_slice ho; subst ex_; have n0_ := Aside0.mk (HS.out.addR ho hb); clear HS ho hb; have HS := n0_; clear n0_) | (go_at_call 17; (with_reducible refine (laws_rSame.calls k _ _ ea _ _ la true _ ?side1 ?side2 ?side3 ?side4 B3.out).mono ?_); (case side1 => repeat (first | exact (Kd.R_reads' (HS.out.r (l := ea) (.tail _ (.head _)))).2.2 | (with_reducible refine Kd.C_drewN ?_ _) | (with_reducible refine Kd.C_drew ?_) | (with_reducible refine Kd.C_alloc ?_ _))); (case side2 => exact (Kd.R_reads' (HS.out.r (l := ea) (.tail _ (.head _)))).2.1); (case side3 => repeat (first | exact (Kd.R_reads' (HS.out.r (l := la) (.head _))).2.2 | (with_reducible refine Kd.C_drewN ?_ _) | (with_reducible refine Kd.C_drew ?_) | (with_reducible refine Kd.C_alloc ?_ _))); (case side4 => exact (Kd.R_reads' (HS.out.r (l := la) (.head _))).2.1); rintro e_ w_ ⟨rfl, hd⟩; have n0_ := Aside0.mk (Rw.drawn (by repeat (first | exact HS.out | apply Rw.drewN | apply Rw.drew)) hd); clear HS hd; have HS := n0_; clear n0_))
         go_meet
         case rel => exact ⟨(by repeat (first | exact HS.out.drop.drop | apply Rw.drewN | apply Rw.drew))⟩
      case rest =>
       clear HS HLB Y9
       have HS := hcut
       clear hcut
       have h := XT.out
       unfold laws_FnMapsEnd.q3 at h
       replace h := Option.bind_eq_some_iff.mp h
       obtain ⟨⟨x1, x2, x3⟩, b1, h⟩ := h
       replace h := Option.bind_eq_some_iff.mp h
       obtain ⟨⟨z1, z2⟩, b2, h⟩ := h
       replace h := Option.bind_eq_some_iff.mp h
       obtain ⟨⟨y1, y2⟩, b3, h⟩ := h
       replace h := Option.bind_eq_some_iff.mp h
       obtain ⟨⟨h1, h2⟩, b4, h⟩ := h
       replace h := Option.bind_eq_some_iff.mp h
       obtain ⟨⟨t1, t2, t3⟩, b5, h⟩ := h
       replace h := Option.bind_eq_some_iff.mp h
       obtain ⟨⟨u1, u2, u3⟩, b6, h⟩ := h
       replace h := Option.bind_eq_some_iff.mp h
       obtain ⟨⟨bf, bo⟩, b7, h⟩ := h
       replace h := Option.bind_eq_some_iff.mp h
       obtain ⟨⟨bg, bp⟩, b8, h⟩ := h
       replace h := Option.bind_eq_some_iff.mp h
       obtain ⟨sm, b9, h⟩ := h
       have hc : ((z1 = y1 ∧ z2 = y2) ∧ (t1 = u1 ∧ t2 = u2 ∧ t3 = u3) ∧ bo = bp ∧ sm = true) ∧ some true = some r := by
        by_cases hc : (z1 = y1 ∧ z2 = y2) ∧ (t1 = u1 ∧ t2 = u2 ∧ t3 = u3) ∧ bo = bp ∧ sm = true
        ·rw [if_pos hc] at h; exact ⟨hc, h⟩
        ·rw [if_neg hc] at h; cases h
       clear h
       obtain ⟨⟨⟨y3, y4⟩, ⟨y5, y6, y7⟩, y8, y9⟩, h⟩ := hc
       subst y3
       subst y4
       subst y5
       subst y6
       subst y7
       subst y8
       subst y9
       have hr := Option.some.inj h
       subst hr
       clear h
       have B1 := Aside0.mk b1
       have B2 := Aside0.mk b2
       have B3 := Aside0.mk b3
       have B4 := Aside0.mk b4
       have B5 := Aside0.mk b5
       have B6 := Aside0.mk b6
       have B7 := Aside0.mk b7
       have B8 := Aside0.mk b8
       have B9 := Aside0.mk b9
       clear b1 b2 b3 b4 b5 b6 b7 b8 b9
       go_upto_region 77 with (first | (go_at_call 32; refine (spec_DrawApplyMap.calls k _ _ l1 x1 x2 x3 _ (Kd.C_below HR1.out HS.out.B) HC1.out B1.out).mono ?_; rintro e_ w_ ⟨v_, rfl, ho, hb⟩; obtain ⟨Ax1, cx1, ex_⟩ := Kd.R_slice ho; subst ex_; have n0_ := Aside0.mk (HS.out.addR ho hb); clear HS ho hb; have HS := n0_; clear n0_) | (go_at_call 31; refine (impl_ApplyMap.calls k _ _ x1 x2 x3 z1 z2 _ (Kd.R_reads' (HS.out.r (.head _))).2.2 (Kd.R_reads' (HS.out.r (.head _))).2.1 B2.out).mono ?_; rintro e_ w_ ⟨rfl, hb⟩; have n0_ := Aside0.mk (HS.out.below hb); clear HS hb; have HS := n0_; clear n0_) | (go_at_call 33; refine (spec_ApplyMap.calls k _ _ x1 x2 x3 z1 z2 _ (Kd.R_reads' (HS.out.r (.head _))).2.2 (Kd.R_reads' (HS.out.r (.head _))).2.1 B3.out).mono ?_; rintro e_ w_ ⟨rfl, hd⟩; have n0_ := Aside0.mk (HS.out.drawn hd); clear HS hd; have HS := n0_; clear n0_) | (go_at_call 34; refine (spec_DrawTailAndCycle.calls k _ _ l1 h1 h2 _ (Kd.C_below HR1.out HS.out.B) HC1.out B4.out).mono ?_; rintro e_ w_ ⟨v_, rfl, ho, hb⟩; obtain ⟨Ah1, ch1, ex_⟩ := Kd.R_slice ho; subst ex_; have n0_ := Aside0.mk (HS.out.addR ho hb); clear HS ho hb; have HS := n0_; clear n0_) | (go_at_call 20; refine (impl_TailAndCycle.calls k _ _ h1 h2 t1 t2 t3 _ (Kd.R_reads' (HS.out.r (.head _))).2.2 (Kd.R_reads' (HS.out.r (.head _))).2.1 B5.out).mono ?_; rintro e_ w_ ⟨rfl, hb⟩; have n0_ := Aside0.mk (HS.out.below hb); clear HS hb; have HS := n0_; clear n0_) | (go_at_call 35; refine (spec_TailAndCycle.calls k _ _ h1 h2 t1 t2 t3 _ (Kd.R_reads' (HS.out.r (.head _))).2.2 (Kd.R_reads' (HS.out.r (.head _))).2.1 B6.out).mono ?_; rintro e_ w_ ⟨rfl, hb⟩; have n0_ := Aside0.mk (HS.out.below hb); clear HS hb; have HS := n0_; clear n0_) | (go_at_call 21; refine (impl_BeforeOf.calls k _ _ h1 h2 bf bo _ (Kd.R_reads' (HS.out.r (l := h1) (.head _))).2.2 (Kd.R_reads' (HS.out.r (l := h1) (.head _))).2.1 B7.out).mono ?_; rintro e_ w_ ⟨v_, rfl, ho, hb⟩; obtain ⟨Abf, cbf, ex_⟩ := Kd.R_slice ho; subst ex_; have n0_ := Aside0.mk (HS.out.addR ho hb); clear HS ho hb; have HS := n0_; clear n0_) | (go_at_call 36; refine (spec_BeforeOf.calls k _ _ h1 h2 bg bo _ (Kd.R_reads' (HS.out.r (l := h1) (.tail _ (.head _)))).2.2 (Kd.R_reads' (HS.out.r (l := h1) (.tail _ (.head _)))).2.1 B8.out).mono ?_; rintro e_ w_ ⟨v_, rfl, ho, hb⟩; obtain ⟨Abg, cbg, ex_⟩ := Kd.R_slice ho; subst ex_; have n0_ := Aside0.mk (HS.out.addR ho hb); clear HS ho hb; have HS := n0_; clear n0_))
       have e1 : (z2 == z2) = true := by simp
       have e2 : (z1 == z1) = true := by simp
       have e3 : (t3 == t3) = true := by simp
       have e4 : (t1 == t1) = true := by simp
       have e5 : (t2 == t2) = true := by simp
       have e6 : (bo == bo) = true := by simp
       go_wp2_with (first | (go_at_call 17; (with_reducible refine (laws_rSame.calls k _ _ bf _ _ bg true _ ?side1 ?side2 ?side3 ?side4 B9.out).mono ?_); (case side1 => repeat (first | exact (Kd.R_reads' (HS.out.r (l := bf) (.tail _ (.head _)))).2.2 | (with_reducible refine Kd.C_drewN ?_ _) | (with_reducible refine Kd.C_drew ?_) | (with_reducible refine Kd.C_alloc ?_ _))); (case side2 => exact (Kd.R_reads' (HS.out.r (l := bf) (.tail _ (.head _)))).2.1); (case side3 => repeat (first | exact (Kd.R_reads' (HS.out.r (l := bg) (.head _))).2.2 | (with_reducible refine Kd.C_drewN ?_ _) | (with_reducible refine Kd.C_drew ?_) | (with_reducible refine Kd.C_alloc ?_ _))); (case side4 => exact (Kd.R_reads' (HS.out.r (l := bg) (.head _))).2.1); rintro e_ w_ ⟨rfl, hd⟩; have n0_ := Aside0.mk (Rw.drawn (by repeat (first | exact HS.out | apply Rw.drewN | apply Rw.drew)) hd); clear HS hd; have HS := n0_; clear n0_))
       repeat (go_quiet (first | (go_at_call 17; (with_reducible refine (laws_rSame.calls k _ _ bf _ _ bg true _ ?side1 ?side2 ?side3 ?side4 B9.out).mono ?_); (case side1 => repeat (first | exact (Kd.R_reads' (HS.out.r (l := bf) (.tail _ (.head _)))).2.2 | (with_reducible refine Kd.C_drewN ?_ _) | (with_reducible refine Kd.C_drew ?_) | (with_reducible refine Kd.C_alloc ?_ _))); (case side2 => exact (Kd.R_reads' (HS.out.r (l := bf) (.tail _ (.head _)))).2.1); (case side3 => repeat (first | exact (Kd.R_reads' (HS.out.r (l := bg) (.head _))).2.2 | (with_reducible refine Kd.C_drewN ?_ _) | (with_reducible refine Kd.C_drew ?_) | (with_reducible refine Kd.C_alloc ?_ _))); (case side4 => exact (Kd.R_reads' (HS.out.r (l := bg) (.head _))).2.1); rintro e_ w_ ⟨rfl, hd⟩; have n0_ := Aside0.mk (Rw.drawn (by repeat (first | exact HS.out | apply Rw.drewN | apply Rw.drew)) hd); clear HS hd; have HS := n0_; clear n0_)); try go_wp2)
       go_ret
       exact ⟨by first | rfl | (simp; done), (by repeat (first | exact HS.out.B | apply pw_below_drewN | apply below_drew1))⟩
def laws_FnMapsEnd.Pure : Prop := ∀ (l0 : List Int) (l1 : List Int), l0.length ≤ maxLen → l0.length * 1 ≤ 140737488351232 → (∀ x ∈ l0, (Lit.int .u8 x).wf = true) → l1.length ≤ maxLen → l1.length * 1 ≤ 140737488351232 → (∀ x ∈ l1, (Lit.int .u8 x).wf = true) → ∃ k, laws_FnMapsEnd.f k l0 l1 = some true
theorem laws_FnMapsEnd.walk (P : laws_FnMapsEnd.Pure) (a0 : Option Addr) (len0 cap0 : Nat) (z0 : List Int) (a1 : Option Addr) (len1 cap1 : Nat) (z1 : List Int) (w : World) (w0 : (a0 = none ∧ len0 = 0 ∧ cap0 = 0 ∧ z0 = []) ∨ ∃ x, a0 = some x ∧ len0 ≤ cap0 ∧ cap0 ≤ maxLen ∧ z0.length = cap0 ∧ (∀ i, i < z0.length → w.cell? (x.add i) = some (.int .u8 (z0.getD i 0))) ∧ ∀ n ∈ z0, (Lit.int .u8 n).wf = true) (y0 : len0 * 1 ≤ 140737488351232) (w1 : (a1 = none ∧ len1 = 0 ∧ cap1 = 0 ∧ z1 = []) ∨ ∃ x, a1 = some x ∧ len1 ≤ cap1 ∧ cap1 ≤ maxLen ∧ z1.length = cap1 ∧ (∀ i, i < z1.length → w.cell? (x.add i) = some (.int .u8 (z1.getD i 0))) ∧ ∀ n ∈ z1, (Lit.int .u8 n).wf = true) (y1 : len1 * 1 ≤ 140737488351232) :
  Calls Tryz.prog 3 #[.slice a0 len0 cap0, .slice a1 len1 cap1] w fun e w' => e = .returned (.bool true) ∧ Below w.heap.size w w' := by
 obtain ⟨l0, rfl, hr0, hm0, hw0, hc0⟩ := ReadsInt.ofRowC w0
 obtain ⟨l1, rfl, hr1, hm1, hw1, hc1⟩ := ReadsInt.ofRowC w1
 obtain ⟨k, h⟩ := P l0 l1 hm0 y0 hw0 hm1 y1 hw1
 refine (laws_FnMapsEnd.calls k _ _ l0 _ _ l1 true w (Kd.C_of_reads (d := (0 : Int)) (h1 := fun _ => rfl) hr0) hc0 (Kd.C_of_reads (d := (0 : Int)) (h1 := fun _ => rfl) hr1) hc1 h).mono ?_
 rintro e w' ⟨rfl, hd⟩
 exact ⟨rfl, hd⟩
end Go.Proofs.YtcaohpcbohdkbaaGreat.PFnMapsEnd
end
