/- Plain texts of FnOwnPowers, merged by a program: what Go functions compute, lemmas of the walk, and proofs. No conditions. -/
import Derived.Test.YtehhkkbejmhcfaaZFnOwnPowers7
import Derived.Test.YtehhkkbejmhcfaaZFnOwnPowers8
section
namespace Go.Proofs.Ytehhkkbejmhcfaa.PFnOwnPowers
open Go.RowKit Go.Proofs.YtehhkkbejmhcfaaW.PrintWords Go.Proofs.YtehhkkbejmhcfaaW.PrintLast Go.Proofs.YtehhkkbejmhcfaaW.PrintMore
attribute [local go_sem] max2_int min2_int max_two min_two max_three min_three max_four min_four   -- for this text's walks alone
set_option linter.unusedVariables false
set_option linter.unusedSimpArgs false
def impl_own1.l0 : Nat → Int → List Int → Int → Int → Option Int
  | 0, _, _, _, _ => none
  | k + 1, p, list, n, i => if i < (list.length : Int) then (if 0 ≤ i then ((impl_toPower.f k (rd list i) p).bind fun t => impl_own1.l0 k p list (wrap64 (n + t)) (wrap64 (i + 1))) else none) else some n
def impl_own1.f (k : Nat) (b p : Int) (list out : List Int) : Option (List Int) := (impl_own1.l0 k p list 0 0).bind fun n => (impl_sorted.f k n b).bind fun s => (slices_Equal_int_int.f k s list).bind fun e => if e = true then (if out.length < 17592186044416 then some (out ++ [n]) else none) else some out
mutual
def impl_on.f : Nat → Int → Int → Int → Int → List Int → Int → List Int → Option (List Int)
  | 0, _, _, _, _, _, _, _ => none
  | k + 1, b, p, many, most, list, least, out => if (list.length : Int) = many then impl_own1.f k b p list out else impl_on.l0 k b p many most list out least
def impl_on.l0 : Nat → Int → Int → Int → Int → List Int → List Int → Int → Option (List Int)
  | 0, _, _, _, _, _, _, _ => none
  | k + 1, b, p, many, most, list, out, d => if d ≤ most then (if list.length < 17592186044415 then (impl_on.f k b p many most (list ++ [d]) d out).bind fun fo => impl_on.l0 k b p many most list fo (wrap64 (d + 1)) else none) else some out
end
def impl_owns.f (k : Nat) (a0 a1 a2 : Int) : Option (List Int) := (impl_on.f k a1 a2 a0 (wrap64 (a1 - 1)) [] 0 []).bind fun o => slices_Sort_int_int.f o
theorem impl_own1.mono_l : ∀ k y0 y1 y2 y3, LeO (impl_own1.l0 k y0 y1 y2 y3) (impl_own1.l0 (k + 1) y0 y1 y2 y3)
  | 0, _, _, _, _ => fun r h => by simp [impl_own1.l0] at h
  | k + 1, y0, y1, y2, y3 => by
    rw [impl_own1.l0, impl_own1.l0]
    exact LeO.ite (LeO.ite (LeO.bind (impl_toPower.mono _ _ k) (fun t => impl_own1.mono_l k _ _ _ _)) (LeO.none _)) (LeO.refl _)
theorem impl_own1.mono (k : Nat) (b p : Int) (list out : List Int) : LeO (impl_own1.f k b p list out) (impl_own1.f (k + 1) b p list out) := by
  unfold impl_own1.f
  exact LeO.bind (impl_own1.mono_l k _ _ _ _) (fun n => LeO.bind (impl_sorted.mono _ _ k) (fun s => LeO.bind (slices_Equal_int_int.mono _ _ k) (fun e => LeO.refl _)))
theorem impl_on.mono_l : ∀ k, (∀ b p many most list least out, LeO (impl_on.f k b p many most list least out) (impl_on.f (k + 1) b p many most list least out)) ∧ (∀ b p many most list out d, LeO (impl_on.l0 k b p many most list out d) (impl_on.l0 (k + 1) b p many most list out d))
  | 0 => ⟨fun _ _ _ _ _ _ _ r h => by simp [impl_on.f] at h, fun _ _ _ _ _ _ _ r h => by simp [impl_on.l0] at h⟩
  | k + 1 => by
    obtain ⟨ih1, ih2⟩ := impl_on.mono_l k
    refine ⟨fun b p many most list least out => ?_, fun b p many most list out d => ?_⟩
    · rw [impl_on.f, impl_on.f]
      exact LeO.ite (impl_own1.mono k _ _ _ _) (ih2 _ _ _ _ _ _ _)
    · rw [impl_on.l0, impl_on.l0]
      exact LeO.ite (LeO.ite (LeO.bind (ih1 _ _ _ _ _ _ _) (fun fo => ih2 _ _ _ _ _ _ _)) (LeO.none _)) (LeO.refl _)
theorem impl_owns.mono : ∀ a0 a1 a2 k, LeO (impl_owns.f k a0 a1 a2) (impl_owns.f (k + 1) a0 a1 a2) := fun a0 a1 a2 k => LeO.bind ((impl_on.mono_l k).1 _ _ _ _ _ _ _) (fun _ => LeO.refl _)
structure NfB where
  bp : Nat
  bb : Nat
  bo : Nat
  bm : Nat
  be : Nat
  bq : Nat
  bon : Nat
  many : Int
  base : Int
  p : Int
  most : Int
def NfB.eachV (β : NfB) : Value := .func (.func 74) #[] #[.pointer (some ⟨β.bp, 0, none⟩), .pointer (some ⟨β.bb, 0, none⟩), .pointer (some ⟨β.bo, 0, none⟩)]
def NfB.onV (β : NfB) : Value := .func (.func 87) #[] #[.pointer (some ⟨β.bm, 0, none⟩), .pointer (some ⟨β.be, 0, none⟩), .pointer (some ⟨β.bq, 0, none⟩), .pointer (some ⟨β.bon, 0, none⟩)]
structure NfB.At (β : NfB) (W : World) : Prop where
  hp : W.heap[β.bp]? = some (.cells #[.int .i64 β.p] 3 (0, 0))
  hb : W.heap[β.bb]? = some (.cells #[.int .i64 β.base] 3 (0, 0))
  hm : W.heap[β.bm]? = some (.cells #[.int .i64 β.many] 3 (0, 0))
  hq : W.heap[β.bq]? = some (.cells #[.int .i64 β.most] 3 (0, 0))
  he : W.heap[β.be]? = some (.cells #[β.eachV] 69 (0, 0))
  hon : W.heap[β.bon]? = some (.cells #[β.onV] 75 (0, 0))
structure NfB.Off (β : NfB) (S : Nat → Prop) : Prop where
  hp : ¬ S β.bp
  hb : ¬ S β.bb
  hm : ¬ S β.bm
  hq : ¬ S β.bq
  he : ¬ S β.be
  hon : ¬ S β.bon
theorem NfB.At.kept {β : NfB} {W W2 : World} {S : Nat → Prop} (h : β.At W) (hk : Kept W W2 S) (ho : β.Off S) : β.At W2 :=
  ⟨blk_kept h.hp hk ho.hp, blk_kept h.hb hk ho.hb, blk_kept h.hm hk ho.hm, blk_kept h.hq hk ho.hq, blk_kept h.he hk ho.he, blk_kept h.hon hk ho.hon⟩
theorem NfB.At.off {β : NfB} {W : World} (h : β.At W) {S S' : Nat → Prop} (ho : β.Off S) (hs : ∀ k, k < W.heap.size → S' k → S k) : β.Off S' :=
  ⟨fun x => ho.hp (hs _ (blk_lt h.hp) x), fun x => ho.hb (hs _ (blk_lt h.hb) x), fun x => ho.hm (hs _ (blk_lt h.hm) x), fun x => ho.hq (hs _ (blk_lt h.hq) x), fun x => ho.he (hs _ (blk_lt h.he) x), fun x => ho.hon (hs _ (blk_lt h.hon) x)⟩
structure NfSt (w0 w : World) (β : NfB) (P okc : Nat → Prop) (vc : Value) (list out : List Int) (W : World) : Prop where
  B : Below w0.heap.size w0 W
  g0 : w0.heap.size ≤ β.bo
  K : Kept w W (fun k => P k ∨ k = β.bo)
  F : ∃ vo, W.heap[β.bo]? = some (.cells #[vo] 22 (0, 0)) ∧ Kd.R (Kd.int .i64) 3 W w0.heap.size (fun k => P k ∨ w.heap.size ≤ k) vo out
  C : Kd.R (Kd.int .i64) 3 W w0.heap.size okc vc list
  dis : ∀ k, okc k → k < w.heap.size ∧ ¬ P k ∧ k ≠ β.bo
  gP : ¬ P β.bo ∧ β.bo < w.heap.size
  bx : β.At w
  off : β.Off (fun k => P k ∨ k = β.bo)
theorem below_of_grown_none {W W2 : World} (hg : W.grownBy W2 none) : Below W.heap.size W W2 := ⟨hg.os, hg.tape, hg.output, hg.size, fun k hk => hg.block k hk (by simp)⟩
section
variable {w0 w W W2 : World} {β : NfB} {P okc : Nat → Prop} {vc : Value} {list out : List Int}
theorem NfSt.below (h : NfSt w0 w β P okc vc list out W) (hb : Below W.heap.size W W2) : NfSt w0 w β P okc vc list out W2 := by
  obtain ⟨vf, hg, hR⟩ := h.F
  exact ⟨below_step h.B hb, h.g0, h.K.below hb, ⟨vf, (hb.block _ (blk_lt hg)).trans hg, Kd.R_below hR hb⟩, Kd.R_below h.C hb, h.dis, h.gP, h.bx, h.off⟩
theorem NfSt.drew (h : NfSt w0 w β P okc vc list out W) : NfSt w0 w β P okc vc list out W.drew := h.below (below_drew (Below.refl _ _))
theorem NfSt.drewN (h : NfSt w0 w β P okc vc list out W) (m : Nat) : NfSt w0 w β P okc vc list out (W.drewN m) := h.below (pw_below_drewN (Below.refl _ _) m)
theorem NfSt.at_ (h : NfSt w0 w β P okc vc list out W) : β.At W := h.bx.kept h.K h.off
theorem NfSt.cP (h : NfSt w0 w β P okc vc list out W) : W.cell? ⟨β.bp, 0, none⟩ = some (.int .i64 β.p) := (blk_cell h.at_.hp 0).trans rfl
theorem NfSt.cB (h : NfSt w0 w β P okc vc list out W) : W.cell? ⟨β.bb, 0, none⟩ = some (.int .i64 β.base) := (blk_cell h.at_.hb 0).trans rfl
theorem NfSt.cM (h : NfSt w0 w β P okc vc list out W) : W.cell? ⟨β.bm, 0, none⟩ = some (.int .i64 β.many) := (blk_cell h.at_.hm 0).trans rfl
theorem NfSt.cQ (h : NfSt w0 w β P okc vc list out W) : W.cell? ⟨β.bq, 0, none⟩ = some (.int .i64 β.most) := (blk_cell h.at_.hq 0).trans rfl
theorem NfSt.cE (h : NfSt w0 w β P okc vc list out W) : W.cell? ⟨β.be, 0, none⟩ = some β.eachV := (blk_cell h.at_.he 0).trans rfl
theorem NfSt.cOn (h : NfSt w0 w β P okc vc list out W) : W.cell? ⟨β.bon, 0, none⟩ = some β.onV := (blk_cell h.at_.hon 0).trans rfl
theorem NfSt.put (h : NfSt w0 w β P okc vc list out W) {vf v : Value} {r : List Int} (hg : W.heap[β.bo]? = some (.cells #[vf] 22 (0, 0))) (hvf : ∀ k, vf.ownBlock = some k → P k ∨ w.heap.size ≤ k) (hR : Kd.R (Kd.int .i64) 3 W2 w0.heap.size (fun k => P k ∨ w.heap.size ≤ k) v r) (hb : Below w0.heap.size w0 W2) (hgr : W.grownBy W2 vf.ownBlock) :
    NfSt w0 w β P okc vc list r (W2.setCell ⟨β.bo, 0, none⟩ v) := by
  have hgw := h.gP.2
  have hW := h.K.1
  have hg2 : W2.heap[β.bo]? = some (.cells #[vf] 22 (0, 0)) := blk_grown hg hgr (fun e => by
    rcases hvf _ e.symm with h1 | h1
    · exact h.gP.1 h1
    · omega)
  refine ⟨below_set hb h.g0, h.g0, ?_, ⟨v, ?_, ?_⟩, ?_, h.dis, h.gP, h.bx, h.off⟩
  · refine Kept.setCell (Kept.of_grown hgr h.K (fun k hk => ?_)) (.inl (.inr rfl)) _
    rcases hvf k hk with h1 | h1
    · exact .inl (.inl h1)
    · exact .inr h1
  · simp [World.setCell, Array.getElem?_modify, hg2]
  · refine Kd.R_far (p := ⟨β.bo, 0, none⟩) hR (fun k hk e => ?_) v
    replace e : k = β.bo := e
    rcases hk with h1 | h1
    · exact h.gP.1 (e ▸ h1)
    · omega
  · refine Kd.R_far (p := ⟨β.bo, 0, none⟩) (Kd.R_grown h.C hgr (fun k hk e => ?_)) (fun k hk => (h.dis k hk).2.2) v
    rcases hvf k e.symm with h1 | h1
    · exact (h.dis k hk).2.1 h1
    · have := (h.dis k hk).1; omega
theorem NfSt.enter (h : NfSt w0 w β P okc vc list out W) {vn : Value} {nx : List Int} (ho : Kd.R (Kd.int .i64) 3 W2 W.heap.size (fun _ => True) vn nx) (hb : Below W.heap.size W W2) : NfSt w0 W2 β (fun k => (P k ∨ w.heap.size ≤ k) ∧ k < W.heap.size) (fun k => W.heap.size ≤ k ∧ k < W2.heap.size) vn nx out W2 := by
  obtain ⟨vf, hg, hR⟩ := h.F
  have hgw := h.gP.2
  have hW := h.K.1
  have hsz := hb.size
  refine ⟨below_step h.B hb, h.g0, Kept.refl _ _, ⟨vf, (hb.block _ (blk_lt hg)).trans hg, Kd.R_below (Kd.R_mono (Kd.R_bound hR) (fun k hk => .inl ⟨hk.1, hk.2.2.1⟩)) hb⟩, Kd.R_lower (Kd.R_mono (Kd.R_bound ho) (fun k hk => ⟨hk.2.1, hk.2.2.1⟩)) h.B.size, fun k hk => ⟨hk.2, fun h2 => by omega, by omega⟩, ⟨fun h2 => ?_, by omega⟩, (h.below hb).at_, h.bx.off h.off (fun k hk h2 => ?_)⟩
  · rcases h2.1 with h3 | h3
    · exact h.gP.1 h3
    · omega
  · rcases h2 with h2 | h2
    · rcases h2.1 with h3 | h3
      · exact .inl h3
      · omega
    · exact .inr h2
theorem NfSt.back (h : NfSt w0 w β P okc vc list out W) (hb : Below W.heap.size W W2) {okn : Nat → Prop} {vn : Value} {nx r : List Int} {W3 : World} (h2 : NfSt w0 W2 β (fun k => (P k ∨ w.heap.size ≤ k) ∧ k < W.heap.size) okn vn nx r W3) : NfSt w0 w β P okc vc list r W3 := by
  obtain ⟨vf, hg, hR⟩ := h2.F
  have hgw := h.gP.2
  have hW := h.K.1
  have hsz := hb.size
  refine ⟨h2.B, h.g0, (h.K.below hb).then_ h2.K (fun k hk => ?_), ⟨vf, hg, Kd.R_mono hR (fun k hk => ?_)⟩, Kd.R_kept (Kd.R_below h.C hb) h2.K (fun k hk h3 => ?_), h.dis, h.gP, h.bx, h.off⟩
  · rcases hk with hk | rfl
    · rcases hk.1 with h3 | h3
      · exact .inl (.inl h3)
      · exact .inr h3
    · exact .inl (.inr rfl)
  · rcases hk with hk | hk
    · exact hk.1
    · exact .inr (by omega)
  · have h4 := h.dis k hk
    rcases h3 with h3 | h3
    · rcases h3.1 with h5 | h5
      · exact h4.2.1 h5
      · omega
    · exact h4.2.2 h3
end
set_option maxHeartbeats 8000000 in
set_option maxRecDepth 100000 in
theorem impl_own1.calls (k : Nat) (w0 w : World) (β : NfB) (P okc : Nat → Prop) (Ac : Option Addr) (nc cc : Nat) (list out r : List Int) (hS : NfSt w0 w β P okc (.slice Ac nc cc) list out w) (h : impl_own1.f k β.base β.p list out = some r) :
    Calls Try.prog 74 #[.slice Ac nc cc, .pointer (some ⟨β.bp, 0, none⟩), .pointer (some ⟨β.bb, 0, none⟩), .pointer (some ⟨β.bo, 0, none⟩)] w fun e w' => e = .returned (.tuple #[]) ∧ NfSt w0 w β P okc (.slice Ac nc cc) list r w' := by
  obtain rfl := (Kd.R_reads' hS.C).1
  have HS := Aside0.mk hS
  clear hS
  unfold impl_own1.f at h
  obtain ⟨n, a1, h⟩ := Option.bind_eq_some_iff.mp h
  obtain ⟨s, a2, h⟩ := Option.bind_eq_some_iff.mp h
  obtain ⟨e_, a3, h⟩ := Option.bind_eq_some_iff.mp h
  have H' := Aside0.mk a1
  have A2 := Aside0.mk a2
  have A3 := Aside0.mk a3
  have A4 := Aside0.mk h
  clear a1 a2 a3 h
  go_enter Try.func74, Try.ntmps74
  go_wp2
  go_loopg [5, 10] k (fun kq v5 v10 w' => ∃ (n_1 : Int) (i_1 : Int), v5 = .int .i64 n_1 ∧ v10 = .int .i64 i_1 ∧ Aside0 (impl_own1.l0 kq β.p list n_1 i_1 = some n) ∧ Aside0 (kq ≤ k) ∧ Aside0 (NfSt w0 w β P okc (.slice Ac list.length cc) list out w'))
  case atStart => exact ⟨0, 0, rfl, rfl, H', ⟨Nat.le_refl _⟩, ⟨by first | exact HS.out | exact HS.out.drew | exact HS.out.drewN _⟩⟩
  case round =>
    clear H' HS
    obtain ⟨n_1, i_1, rfl, rfl, HA, HK1, HS⟩ := hrel
    cases gk with
    | zero => exact absurd HA.out (by simp [impl_own1.l0])
    | succ k1 =>
      have h := HA.out
      clear HA
      rw [impl_own1.l0] at h
      by_cases c2 : i_1 < (list.length : Int)
      · rw [if_pos c2] at h
        have c2b0 : decide (i_1 < (list.length : Int)) = true := decide_eq_true c2
        by_cases c3 : 0 ≤ i_1
        · rw [if_pos c3] at h
          have c3b0 : decide (0 ≤ i_1) = true := decide_eq_true c3
          obtain ⟨t, a1, h⟩ := Option.bind_eq_some_iff.mp h
          have A1 := Aside0.mk a1
          have H' := Aside0.mk h
          clear a1 h
          obtain ⟨ad, ead, hx0⟩ := Kd.at_int (Kd.R_reads' HS.out.C).2.2 i_1 c3 c2
          cases ead
          replace c2 := eq_true c2
          replace c3 := eq_true c3
          have hcp := HS.out.cP
          go_wp2_with (first | (go_at_call 61; refine (impl_toPower.calls k1 (rd list i_1) β.p t _ A1.out).mono ?_; rintro e w5 ⟨rfl, hd⟩; have n0_ := Aside0.mk (HS.out.below hd.below); clear HS hd; have HS := n0_; clear n0_))
          go_roundg k1
          case measure => have := HK1.out; omega
          case rel => exact ⟨wrap64 (n_1 + t), wrap64 (i_1 + 1), (by first | rfl | (simp; done) | (simp [*]; done)), (by first | rfl | (simp; done) | (simp [*]; done)), H', ⟨by have := HK1.out; omega⟩, ⟨by first | exact HS.out | exact HS.out.drew | exact HS.out.drewN _⟩⟩
        · rw [if_neg c3] at h
          cases h
      · rw [if_neg c2] at h
        have c2b0 : decide (i_1 < (list.length : Int)) = false := decide_eq_false c2
        clear c2
        obtain rfl := Option.some.inj h
        clear h
        have hcb := HS.out.cB
        cases e_ with
        | false =>
          have h := A4.out
          rw [if_neg (by decide)] at h
          obtain rfl := Option.some.inj h
          clear h A4
          go_wp2_with (first | (go_at_call 76; refine (impl_sorted.calls k n_1 β.base s _ A2.out).mono ?_; rintro e w5 ⟨v1, rfl, ho, hb⟩; obtain ⟨Ao1, co1, eo1⟩ := Kd.R_slice ho; subst eo1; have HO1 := Aside0.mk ho; have n0_ := Aside0.mk (HS.out.below hb); clear HS ho hb; have HS := n0_; clear n0_) | (go_at_call 75; refine (slices_Equal_int_int.calls k _ _ s _ _ list false _ (Kd.R_reads' HO1.out).2.2 (Kd.R_reads' HO1.out).2.1 (Kd.R_reads' HS.out.C).2.2 (Kd.R_reads' HS.out.C).2.1 A3.out).mono ?_; rintro e w6 ⟨rfl, hd⟩; have n0_ := Aside0.mk (HS.out.below hd.below); clear HS hd HO1; have HS := n0_; clear n0_))
          go_end0
          exact ⟨rfl, by first | exact HS.out | exact HS.out.drew | exact HS.out.drewN _⟩
        | true =>
          have h := A4.out
          rw [if_pos rfl] at h
          by_cases c5 : out.length < 17592186044416
          · rw [if_pos c5] at h
            obtain rfl := Option.some.inj h
            have c5b := Aside0.mk c5
            clear h A4 c5
            go_wp2_with (first | (go_at_call 76; refine (impl_sorted.calls k n_1 β.base s _ A2.out).mono ?_; rintro e w5 ⟨v1, rfl, ho, hb⟩; obtain ⟨Ao1, co1, eo1⟩ := Kd.R_slice ho; subst eo1; have HO1 := Aside0.mk ho; have n0_ := Aside0.mk (HS.out.below hb); clear HS ho hb; have HS := n0_; clear n0_) | (go_at_call 75; refine (slices_Equal_int_int.calls k _ _ s _ _ list true _ (Kd.R_reads' HO1.out).2.2 (Kd.R_reads' HO1.out).2.1 (Kd.R_reads' HS.out.C).2.2 (Kd.R_reads' HS.out.C).2.1 A3.out).mono ?_; rintro e w6 ⟨rfl, hd⟩; have n0_ := Aside0.mk (HS.out.below hd.below); clear HS hd HO1; have HS := n0_; clear n0_; obtain ⟨vf, hgf, hRf⟩ := HS.out.F; obtain ⟨Af, cf, ef⟩ := Kd.R_slice hRf; subst ef; have hc2 := (blk_cell hgf 0).trans (rfl : _ = some _); have HG := Aside0.mk hgf; have HR := Aside0.mk hRf; clear hgf hRf) | ((with_reducible refine gate_builtin (b := .append) (xs := #[.tmp 25, .tmp 27]) rfl ?_); at_builtin; refine Kd.R_append (Kd.int .i64) (w0 := w0) w0.heap.size rfl (.tmp 25) (.tmp 27) 22 3 (.int .i64 0) 8 rfl Try.underlying22 info3 rfl (by decide) (by omega) _ out n_1 [.int .i64 n_1] (fun k => P k ∨ w.heap.size ≤ k) (fun _ => False) rfl rfl rfl (fun _ h => h.elim) (fun k hk => .inr (Nat.le_trans HS.out.K.1 hk)) HR.out HS.out.B HS.out.B.size (by have := c5b.out; omega) ?_; intro v2 w7 ho hb hg hat; have hbk := blk_grown HG.out hg (fun e => by have := HS.out.gP.2; rcases HR.out.1 _ e.symm with h1 | h1; exact HS.out.gP.1 h1; omega); have hfz := blk_frozen hbk 0; have hcz := (blk_cell hbk 0).trans (rfl : _ = some _); obtain ⟨Ao3, co3, eo3⟩ := Kd.R_slice ho; subst eo3; have n0_ := Aside0.mk (HS.out.put HG.out HR.out.1 ho hb hg); clear hat hg ho hb HG HR HS hbk; have HS := n0_; clear n0_))
            go_end0
            exact ⟨rfl, by first | exact HS.out | (have h9 := HS.out; simp only [List.length_append, List.length_cons, List.length_nil, Nat.zero_add] at h9; exact h9)⟩
          · rw [if_neg c5] at h
            cases h
theorem onRun (β : NfB) (t27 t28 : Value) (ts : Array TypeId) (a : Act) (oi : Oper) (w : World) (hop : oi.op = .call { callee := .value (.tmp 22), args := #[.tmp 27, .tmp 28], argTypes := ts }) (h22 : a.eval (.tmp 22) = β.onV) (h27 : a.eval (.tmp 27) = t27) (h28 : a.eval (.tmp 28) = t28) :
    (execOp a.eval oi).run Try.prog w = .ok (.enter 87 #[t27, t28, .pointer (some ⟨β.bm, 0, none⟩), .pointer (some ⟨β.be, 0, none⟩), .pointer (some ⟨β.bq, 0, none⟩), .pointer (some ⟨β.bon, 0, none⟩)]) w := by
  have he := enters_ Try.func87 (by kernel_rfl) rfl #[t27, t28, .pointer (some ⟨β.bm, 0, none⟩), .pointer (some ⟨β.be, 0, none⟩), .pointer (some ⟨β.bq, 0, none⟩), .pointer (some ⟨β.bon, 0, none⟩)] w
  unfold execOp
  simp [hop, resolve, Deferred.ofValue, invoke, h22, h27, h28, NfB.onV, he]
set_option maxHeartbeats 8000000 in
set_option maxRecDepth 100000 in
theorem impl_on.calls : ∀ (k : Nat) (w0 w : World) (β : NfB) (P okc : Nat → Prop) (Ac : Option Addr) (nc cc : Nat) (list out : List Int) (least : Int) (r : List Int) (_ : NfSt w0 w β P okc (.slice Ac nc cc) list out w) (_ : impl_on.f k β.base β.p β.many β.most list least out = some r),
    Calls Try.prog 87 #[.slice Ac nc cc, .int .i64 least, .pointer (some ⟨β.bm, 0, none⟩), .pointer (some ⟨β.be, 0, none⟩), .pointer (some ⟨β.bq, 0, none⟩), .pointer (some ⟨β.bon, 0, none⟩)] w fun e w' => e = .returned (.tuple #[]) ∧ NfSt w0 w β P okc (.slice Ac nc cc) list r w' := by
  intro k
  induction k using Nat.strongRecOn with
  | ind k IH =>
  intro w0 w β P okc Ac nc cc list out least r hS h
  obtain rfl := (Kd.R_reads' hS.C).1
  have HS := Aside0.mk hS
  clear hS
  cases k with
  | zero => exact absurd h (by simp [impl_on.f])
  | succ k =>
  have HIH := Aside0.mk IH
  clear IH
  rw [impl_on.f] at h
  have hcm := HS.out.cM
  by_cases c0 : (list.length : Int) = β.many
  · rw [if_pos c0] at h
    have c0b0 : decide ((list.length : Int) = β.many) = true := decide_eq_true c0
    have c0b1 : ((list.length : Int) == β.many) = true := by simpa using c0
    clear c0
    have A1 := Aside0.mk h
    have hce := HS.out.cE
    unfold NfB.eachV at hce
    clear h HIH
    go_enter Try.func87, Try.ntmps87
    go_wp2_with (first | (go_at_call 74; refine (impl_own1.calls k w0 _ β P okc Ac list.length cc list out r HS.out A1.out).mono ?_; rintro e w1 ⟨rfl, h2⟩; clear HS; have HS := Aside0.mk h2; clear h2))
    (try simp only [Exit.inBlock, Exit.then]); refine bodyPost_ret (results_none rfl _ _ _) rfl ?_
    exact ⟨rfl, HS.out⟩
  · rw [if_neg c0] at h
    have c0b0 : decide ((list.length : Int) = β.many) = false := decide_eq_false c0
    have c0b1 : ((list.length : Int) == β.many) = false := by simpa using c0
    clear c0
    have H' := Aside0.mk h
    clear h
    go_enter Try.func87, Try.ntmps87
    go_wp2
    go_loopg [8] k (fun kq v8 w' => ∃ (fo_1 : List Int) (d_1 : Int), v8 = .int .i64 d_1 ∧ Aside0 (impl_on.l0 kq β.base β.p β.many β.most list fo_1 d_1 = some r) ∧ Aside0 (kq ≤ k) ∧ Aside0 (NfSt w0 w β P okc (.slice Ac list.length cc) list fo_1 w'))
    case atStart => exact ⟨out, least, rfl, H', ⟨Nat.le_refl _⟩, ⟨by first | exact HS.out | exact HS.out.drew | exact HS.out.drewN _⟩⟩
    case round =>
      clear H' HS hcm
      obtain ⟨fo_1, d_1, rfl, HA, HK1, HS⟩ := hrel
      have hcq := HS.out.cQ
      cases gk with
      | zero => exact absurd HA.out (by simp [impl_on.l0])
      | succ k1 =>
        have h := HA.out
        clear HA
        rw [impl_on.l0] at h
        by_cases c2 : d_1 ≤ β.most
        · rw [if_pos c2] at h
          have c2b0 : decide (d_1 ≤ β.most) = true := decide_eq_true c2
          clear c2
          by_cases c5 : list.length < 17592186044415
          · rw [if_pos c5] at h
            obtain ⟨fo, a3, h⟩ := Option.bind_eq_some_iff.mp h
            have c5b := Aside0.mk c5
            have A1 := Aside0.mk (show slices_Clone_int_int.f list = some list from by unfold slices_Clone_int_int.f; rw [if_pos (by omega)])
            have A3 := Aside0.mk a3
            have H' := Aside0.mk h
            clear a3 h c5
            go_upto_region 5 with (fail)
            have CR := Aside0.mk HS.out.drew.C
            refine start_ (n := 8) (S := fun w' => w'.cell? ⟨β.bon, 0, none⟩ = some (β.onV)) (ds := []) #[false, false, false, false, false, false, false, false] (by kernel_rfl) rfl rfl (HS.out.drew.cOn) (fun hHeld => ?_)
            have n0_ := Aside0.mk HS.out.drew
            clear HS
            have HS := n0_
            clear n0_
            generalize wr.drew = w10 at HS CR hHeld ⊢
            refine take_ (i := 0) (N := some 22) (v := ?_) (a' := ?_) #[true, false, false, false, false, false, false, false] rfl rfl (by kernel_rfl) (fun _ _ _ h => h) (Or.inl ⟨by rfl, ?_⟩) hHeld ?_ ?_
            rotate_left
            · intro w' s0
              go_simp
              with_reducible rfl
            rotate_left
            · simp only [Act.put, List.setIfInBounds_toArray, List.set_cons_zero, List.set_cons_succ, i64_w, i32_w]
              rfl
            refine pure_ (i := 1) (N := some 23) (v := ?_) (a' := ?_) #[true, true, false, false, false, false, false, false] rfl rfl (by kernel_rfl) (fun _ _ _ h => h) (Or.inl ⟨by rfl, ?_⟩) ?_ ?_
            rotate_left
            · intro w'
              go_simp
              with_reducible rfl
            rotate_left
            · simp only [Act.put, List.setIfInBounds_toArray, List.set_cons_zero, List.set_cons_succ, i64_w, i32_w]
              rfl
            refine pure_ (i := 3) (N := some 25) (v := ?_) (a' := ?_) #[true, true, false, true, false, false, false, false] rfl rfl (by kernel_rfl) (fun _ _ _ h => h) (Or.inl ⟨by rfl, ?_⟩) ?_ ?_
            rotate_left
            · intro w'
              go_simp
              with_reducible rfl
            rotate_left
            · simp only [Act.put, List.setIfInBounds_toArray, List.set_cons_zero, List.set_cons_succ, i64_w, i32_w]
              rfl
            refine pure_ (i := 6) (N := some 28) (v := ?_) (a' := ?_) #[true, true, false, true, false, false, true, false] rfl rfl (by kernel_rfl) (fun _ _ _ h => h) (Or.inl ⟨by rfl, ?_⟩) ?_ ?_
            rotate_left
            · intro w'
              go_simp
              with_reducible rfl
            rotate_left
            · simp only [Act.put, List.setIfInBounds_toArray, List.set_cons_zero, List.set_cons_succ, i64_w, i32_w]
              rfl
            refine two_ (i := 2) (j := 4) (Ni := some 24) (Nj := some 26) #[true, true, true, true, false, false, true, false] #[true, true, false, true, true, false, true, false] rfl rfl rfl rfl (by kernel_rfl) (by decide) (by decide) (fun K hK => ?_) (fun K hK => ?_)
            · refine goes_ Try.func88 (by kernel_rfl) rfl #[.slice Ac list.length cc] (by rfl) rfl rfl (by (try simp only [List.map_toArray, List.map_cons, List.map_nil]); first | done | rfl | (simp only [List.length_drop, List.length_take]; rfl)) ?_
              refine (slices_Clone_int_int.calls _ _ list list _ (Kd.R_reads' CR.out).2.2 (Kd.R_reads' CR.out).2.1 A1.out).mono ?_
              rintro e w11 ⟨v1, rfl, ho, hb⟩
              obtain ⟨Ao1, co1, eo1⟩ := Kd.R_slice ho
              subst eo1
              refine ⟨_, rfl, ?_⟩
              have hh_ := (hb.cell (World.block_lt_of_cell? _ _ hHeld)).trans hHeld
              have HO1_ := Aside0.mk ho
              have HB10 := Aside0.mk hb
              clear ho hb hHeld
              refine hK.out _ _ (hh_) (fun hHeld => ?_)
              clear hK K
              refine norm_ (a' := ?_) ?_ ?_
              rotate_left
              · show Act.put _ (some 24) _ = _
                simp only [Act.put, List.setIfInBounds_toArray, List.set_cons_zero, List.set_cons_succ, i64_w, i32_w]
                rfl
              refine one_ (i := 4) (N := some 26) #[true, true, true, true, true, false, true, false] rfl rfl (by kernel_rfl) (by decide) (fun K hK => ?_)
              refine Kd.R_lit_step (Kd.int .i64) w10.heap.size 3 (by rfl) (N := 26) rfl (xs := [d_1]) (inner := [.int .i64 d_1]) (ok := fun _ => True) (okp := fun _ => True) ?hr ?hp (fun _ hk => hk) trivial HB10.out HB10.out.size (by simp) ?_
              case hr => first | (go_simp; done) | (go_simp; rfl)
              case hp => exact (Reps.one (show Kd.M (Kd.int .i64) _ _ _ d_1 [.int .i64 d_1] from rfl) (Reps.none _ _))
              intro v2 w12 ho2 hb2 hg2 hnew2
              have hbx := below_of_grown_none hg2
              have hh_ := (hbx.cell (World.block_lt_of_cell? _ _ hHeld)).trans hHeld
              have HO1 := Aside0.mk (Kd.R_below HO1_.out hbx)
              have HO2 := Aside0.mk ho2
              have n0_ := Aside0.mk hb2
              clear HO1_ HB10 ho2 hb2 hg2 hnew2 hbx hHeld
              have HB10 := n0_
              clear n0_
              refine hK.out _ _ (hh_) (fun hHeld => ?_)
              clear hK K
              refine norm_ (a' := ?_) ?_ ?_
              rotate_left
              · show Act.put _ (some 26) _ = _
                simp only [Act.put, List.setIfInBounds_toArray, List.set_cons_zero, List.set_cons_succ, i64_w, i32_w]
                rfl
              obtain ⟨Ao2, co2, eo2⟩ := Kd.R_slice HO2.out
              subst eo2
              refine one_ (i := 5) (N := some 27) #[true, true, true, true, true, true, true, false] rfl rfl (by kernel_rfl) (by decide) (fun K hK => ?_)
              refine Kd.R_append_rows_step (Kd.int .i64) (w0 := w10) w10.heap.size (by rfl) (.tmp 24) (.tmp 26) 22 3 (.int .i64 0) 8 rfl Try.underlying22 info3 rfl (by decide) (by omega) _ list [d_1] _ _ _ (fun _ => True) (fun _ => False) rfl rfl HO1.out ((Kd.R_reads' HO2.out).2.2) (fun _ _ h => h) (fun _ h => h.elim) (fun _ _ => trivial) HB10.out HB10.out.size (by have := c5b.out; simp only [List.length_singleton]; omega) ?_
              intro v3 w13 ho3 hb3 hg3 hat3
              clear hg3 hat3 HO1 HO2 HB10
              have HO3 := Aside0.mk ho3
              have HB3 := Aside0.mk hb3
              have HN := Aside0.mk (HS.out.enter ho3 hb3)
              obtain ⟨Ao3, co3, eo3⟩ := Kd.R_slice ho3
              subst eo3
              have hh_ := HN.out.cOn
              clear ho3 hb3 hHeld
              refine hK.out _ _ (hh_) (fun hHeld => ?_)
              clear hK K
              refine norm_ (a' := ?_) ?_ ?_
              rotate_left
              · show Act.put _ (some 27) _ = _
                simp only [Act.put, List.setIfInBounds_toArray, List.set_cons_zero, List.set_cons_succ, i64_w, i32_w]
                rfl
              refine one_ (i := 7) (N := some 29) #[true, true, true, true, true, true, true, true] rfl rfl (by kernel_rfl) (by decide) (fun K hK => ?_)
              refine call_ 87 #[.slice Ao3 (list ++ [d_1]).length co3, .int .i64 d_1, .pointer (some ⟨β.bm, 0, none⟩), .pointer (some ⟨β.be, 0, none⟩), .pointer (some ⟨β.bq, 0, none⟩), .pointer (some ⟨β.bon, 0, none⟩)] (by rfl) rfl ?hrun ?_
              case hrun => exact onRun β _ _ _ _ _ _ rfl rfl rfl rfl
              refine (HIH.out k1 (by have := HK1.out; omega) w0 _ β _ _ _ _ _ _ _ _ fo HN.out A3.out).mono ?_
              rintro e w7 ⟨rfl, h2⟩
              refine ⟨_, rfl, ?_⟩
              have hh_ := h2.cOn
              have n0_ := Aside0.mk (HS.out.back HB3.out h2)
              clear HN HO3 HB3 h2 HS hHeld
              have HS := n0_
              clear n0_
              refine hK.out _ _ (hh_) (fun hHeld => ?_)
              clear hK K
              refine norm_ (a' := ?_) ?_ ?_
              rotate_left
              · show Act.put _ (some 29) _ = _
                simp only [Act.put, List.setIfInBounds_toArray, List.set_cons_zero, List.set_cons_succ, i64_w, i32_w]
                rfl
              refine done_ (by kernel_rfl) ?_
              go_wp2
              go_roundg k1
              case measure => have := HK1.out; omega
              case rel => exact ⟨fo, wrap64 (d_1 + 1), (by first | rfl | (simp; done) | (simp [*]; done)), H', ⟨by have := HK1.out; omega⟩, ⟨by first | exact HS.out | exact HS.out.drew | exact HS.out.drewN _⟩⟩
            · have HB10 := Aside0.mk (Below.refl w10.heap.size w10)
              refine Kd.R_lit_step (Kd.int .i64) w10.heap.size 3 (by rfl) (N := 26) rfl (xs := [d_1]) (inner := [.int .i64 d_1]) (ok := fun _ => True) (okp := fun _ => True) ?hr ?hp (fun _ hk => hk) trivial HB10.out HB10.out.size (by simp) ?_
              case hr => first | (go_simp; done) | (go_simp; rfl)
              case hp => exact (Reps.one (show Kd.M (Kd.int .i64) _ _ _ d_1 [.int .i64 d_1] from rfl) (Reps.none _ _))
              intro v2 w12 ho2 hb2 hg2 hnew2
              have hbx := below_of_grown_none hg2
              have hh_ := (hbx.cell (World.block_lt_of_cell? _ _ hHeld)).trans hHeld
              have HO2_ := Aside0.mk ho2
              have n0_ := Aside0.mk hb2
              clear HB10 ho2 hb2 hg2 hnew2 hHeld
              have HB10 := n0_
              clear n0_
              have n0_ := Aside0.mk (Kd.R_below CR.out hbx)
              clear CR hbx
              have CR := n0_
              clear n0_
              refine hK.out _ _ (hh_) (fun hHeld => ?_)
              clear hK K
              refine norm_ (a' := ?_) ?_ ?_
              rotate_left
              · show Act.put _ (some 26) _ = _
                simp only [Act.put, List.setIfInBounds_toArray, List.set_cons_zero, List.set_cons_succ, i64_w, i32_w]
                rfl
              refine one_ (i := 2) (N := some 24) #[true, true, true, true, true, false, true, false] rfl rfl (by kernel_rfl) (by decide) (fun K hK => ?_)
              refine goes_ Try.func88 (by kernel_rfl) rfl #[.slice Ac list.length cc] (by rfl) rfl rfl (by (try simp only [List.map_toArray, List.map_cons, List.map_nil]); first | done | rfl | (simp only [List.length_drop, List.length_take]; rfl)) ?_
              refine (slices_Clone_int_int.calls _ _ list list _ (Kd.R_reads' CR.out).2.2 (Kd.R_reads' CR.out).2.1 A1.out).mono ?_
              rintro e w11 ⟨v1, rfl, ho, hb⟩
              obtain ⟨Ao1, co1, eo1⟩ := Kd.R_slice ho
              subst eo1
              refine ⟨_, rfl, ?_⟩
              have hh_ := (hb.cell (World.block_lt_of_cell? _ _ hHeld)).trans hHeld
              have HO1 := Aside0.mk (Kd.R_lower ho HB10.out.size)
              have HO2 := Aside0.mk (Kd.R_below HO2_.out hb)
              have n0_ := Aside0.mk (below_step HB10.out hb)
              clear HO2_ HB10 ho hb hHeld
              have HB10 := n0_
              clear n0_
              refine hK.out _ _ (hh_) (fun hHeld => ?_)
              clear hK K
              refine norm_ (a' := ?_) ?_ ?_
              rotate_left
              · show Act.put _ (some 24) _ = _
                simp only [Act.put, List.setIfInBounds_toArray, List.set_cons_zero, List.set_cons_succ, i64_w, i32_w]
                rfl
              obtain ⟨Ao2, co2, eo2⟩ := Kd.R_slice HO2.out
              subst eo2
              refine one_ (i := 5) (N := some 27) #[true, true, true, true, true, true, true, false] rfl rfl (by kernel_rfl) (by decide) (fun K hK => ?_)
              refine Kd.R_append_rows_step (Kd.int .i64) (w0 := w10) w10.heap.size (by rfl) (.tmp 24) (.tmp 26) 22 3 (.int .i64 0) 8 rfl Try.underlying22 info3 rfl (by decide) (by omega) _ list [d_1] _ _ _ (fun _ => True) (fun _ => False) rfl rfl HO1.out ((Kd.R_reads' HO2.out).2.2) (fun _ _ h => h) (fun _ h => h.elim) (fun _ _ => trivial) HB10.out HB10.out.size (by have := c5b.out; simp only [List.length_singleton]; omega) ?_
              intro v3 w13 ho3 hb3 hg3 hat3
              clear hg3 hat3 HO1 HO2 HB10
              have HO3 := Aside0.mk ho3
              have HB3 := Aside0.mk hb3
              have HN := Aside0.mk (HS.out.enter ho3 hb3)
              obtain ⟨Ao3, co3, eo3⟩ := Kd.R_slice ho3
              subst eo3
              have hh_ := HN.out.cOn
              clear ho3 hb3 hHeld
              refine hK.out _ _ (hh_) (fun hHeld => ?_)
              clear hK K
              refine norm_ (a' := ?_) ?_ ?_
              rotate_left
              · show Act.put _ (some 27) _ = _
                simp only [Act.put, List.setIfInBounds_toArray, List.set_cons_zero, List.set_cons_succ, i64_w, i32_w]
                rfl
              refine one_ (i := 7) (N := some 29) #[true, true, true, true, true, true, true, true] rfl rfl (by kernel_rfl) (by decide) (fun K hK => ?_)
              refine call_ 87 #[.slice Ao3 (list ++ [d_1]).length co3, .int .i64 d_1, .pointer (some ⟨β.bm, 0, none⟩), .pointer (some ⟨β.be, 0, none⟩), .pointer (some ⟨β.bq, 0, none⟩), .pointer (some ⟨β.bon, 0, none⟩)] (by rfl) rfl ?hrun ?_
              case hrun => exact onRun β _ _ _ _ _ _ rfl rfl rfl rfl
              refine (HIH.out k1 (by have := HK1.out; omega) w0 _ β _ _ _ _ _ _ _ _ fo HN.out A3.out).mono ?_
              rintro e w7 ⟨rfl, h2⟩
              refine ⟨_, rfl, ?_⟩
              have hh_ := h2.cOn
              have n0_ := Aside0.mk (HS.out.back HB3.out h2)
              clear HN HO3 HB3 h2 HS hHeld
              have HS := n0_
              clear n0_
              refine hK.out _ _ (hh_) (fun hHeld => ?_)
              clear hK K
              refine norm_ (a' := ?_) ?_ ?_
              rotate_left
              · show Act.put _ (some 29) _ = _
                simp only [Act.put, List.setIfInBounds_toArray, List.set_cons_zero, List.set_cons_succ, i64_w, i32_w]
                rfl
              refine done_ (by kernel_rfl) ?_
              go_wp2
              go_roundg k1
              case measure => have := HK1.out; omega
              case rel => exact ⟨fo, wrap64 (d_1 + 1), (by first | rfl | (simp; done) | (simp [*]; done)), H', ⟨by have := HK1.out; omega⟩, ⟨by first | exact HS.out | exact HS.out.drew | exact HS.out.drewN _⟩⟩
          · rw [if_neg c5] at h
            cases h
        · rw [if_neg c2] at h
          have c2b0 : decide (d_1 ≤ β.most) = false := decide_eq_false c2
          clear c2
          obtain rfl := Option.some.inj h
          go_wp2
          go_end0
          exact ⟨rfl, by first | exact HS.out | exact HS.out.drew | exact HS.out.drewN _⟩
theorem alloc_size (W : World) (o : Obj) : (W.alloc o).heap.size = W.heap.size + 1 := by simp
theorem NfSt.init {w0 w : World} {bp bb bo : Nat} {base p many most : Int} {vo : Value} (hB : Below w0.heap.size w0 w) (hbp : w.heap[bp]? = some (.cells #[.int .i64 p] 3 (0, 0))) (hbb : w.heap[bb]? = some (.cells #[.int .i64 base] 3 (0, 0))) (hbo : w.heap[bo]? = some (.cells #[vo] 22 (0, 0)))
    (hR : Kd.R (Kd.int .i64) 3 w w0.heap.size (fun k => some k = vo.ownBlock) vo []) (g0 : w0.heap.size ≤ bo) (hv : ∀ k, vo.ownBlock = some k → k ≠ bp ∧ k ≠ bb ∧ k ≠ bo) (hn : bp ≠ bo ∧ bb ≠ bo)
    (β : NfB) (hβ : β = ⟨bp, bb, bo, w.heap.size, w.heap.size + 1 + 1, w.heap.size + 1, w.heap.size + 1 + 1 + 1, many, base, p, most⟩) (W5 : World)
    (hW : W5 = (((w.alloc (.cells #[.int .i64 many] 3)).alloc (.cells #[.int .i64 most] 3)).alloc (.cells #[β.eachV] 69)).alloc (.cells #[β.onV] 75)) :
    NfSt w0 W5 β (fun k => some k = vo.ownBlock) (fun _ => False) (.slice none 0 0) [] [] W5 := by
  obtain ⟨W1, h1⟩ : ∃ W1, W1 = w.alloc (.cells #[.int .i64 many] 3) := ⟨_, rfl⟩
  obtain ⟨W2, h2⟩ : ∃ W2, W2 = W1.alloc (.cells #[.int .i64 most] 3) := ⟨_, rfl⟩
  obtain ⟨W3, h3⟩ : ∃ W3, W3 = W2.alloc (.cells #[β.eachV] 69) := ⟨_, rfl⟩
  rw [← h1, ← h2, ← h3] at hW
  have s1 : W1.heap.size = w.heap.size + 1 := by rw [h1, alloc_size]
  have s2 : W2.heap.size = w.heap.size + 1 + 1 := by rw [h2, alloc_size, s1]
  have s3 : W3.heap.size = w.heap.size + 1 + 1 + 1 := by rw [h3, alloc_size, s2]
  have e1 : W1.heap[w.heap.size]? = some (.cells #[.int .i64 many] 3 (0, 0)) := by rw [h1]; simpa using heap_alloc_new w _
  have e2 : W2.heap[W1.heap.size]? = some (.cells #[.int .i64 most] 3 (0, 0)) := by rw [h2]; simpa using heap_alloc_new W1 _
  have e3 : W3.heap[W2.heap.size]? = some (.cells #[β.eachV] 69 (0, 0)) := by rw [h3]; simpa using heap_alloc_new W2 _
  have b35 : Below W3.heap.size W3 W5 := by rw [hW]; exact below_alloc (Below.refl _ _) _
  have b25 : Below W2.heap.size W2 W5 := below_step (by rw [h3]; exact below_alloc (Below.refl _ _) _) b35
  have b15 : Below W1.heap.size W1 W5 := below_step (by rw [h2]; exact below_alloc (Below.refl _ _) _) b25
  have b05 : Below w.heap.size w W5 := below_step (by rw [h1]; exact below_alloc (Below.refl _ _) _) b15
  have f1 := (b15.block _ (blk_lt e1)).trans e1
  have f2 := (b25.block _ (blk_lt e2)).trans e2
  have f3 := (b35.block _ (blk_lt e3)).trans e3
  have f4 : W5.heap[W3.heap.size]? = some (.cells #[β.onV] 75 (0, 0)) := by rw [hW]; simpa using heap_alloc_new W3 _
  have fp := (b05.block _ (blk_lt hbp)).trans hbp
  have fb := (b05.block _ (blk_lt hbb)).trans hbb
  have fo := (b05.block _ (blk_lt hbo)).trans hbo
  rw [s1] at f2
  rw [s2] at f3
  rw [s3] at f4
  have lo := blk_lt hbo
  have lv : ∀ k, vo.ownBlock = some k → k < w.heap.size := Kd.R_lt hR
  have l5 := blk_lt fo
  subst hβ
  refine ⟨below_step hB b05, g0, Kept.refl _ _, ⟨vo, fo, Kd.R_mono (Kd.R_below hR b05) (fun k hk => .inl hk)⟩, Kd.R_nil _ _ _ _ _, fun k hk => hk.elim, ⟨fun e => (hv _ e.symm).2.2 rfl, l5⟩, ⟨fp, fb, f1, f2, f3, f4⟩, ⟨?_, ?_, ?_, ?_, ?_, ?_⟩⟩
  · rintro (h | h)
    · exact (hv _ h.symm).1 rfl
    · exact hn.1 h
  · rintro (h | h)
    · exact (hv _ h.symm).2.1 rfl
    · exact hn.2 h
  · rintro (h | h)
    · have := lv _ h.symm; simp at this
    · have h : w.heap.size = bo := h; omega
  · rintro (h | h)
    · have := lv _ h.symm; simp only at this; omega
    · have h : w.heap.size + 1 = bo := h; omega
  · rintro (h | h)
    · have := lv _ h.symm; simp only at this; omega
    · have h : w.heap.size + 1 + 1 = bo := h; omega
  · rintro (h | h)
    · have := lv _ h.symm; simp only at this; omega
    · have h : w.heap.size + 1 + 1 + 1 = bo := h; omega
set_option maxHeartbeats 8000000 in
set_option maxRecDepth 100000 in
theorem impl_notFalling.calls (k : Nat) (w0 w : World) (bp bb bo : Nat) (base p many least most : Int) (vo : Value) (r : List Int) (hB : Below w0.heap.size w0 w) (hbp : w.heap[bp]? = some (.cells #[.int .i64 p] 3 (0, 0))) (hbb : w.heap[bb]? = some (.cells #[.int .i64 base] 3 (0, 0))) (hbo : w.heap[bo]? = some (.cells #[vo] 22 (0, 0)))
    (hR : Kd.R (Kd.int .i64) 3 w w0.heap.size (fun k => some k = vo.ownBlock) vo []) (g0 : w0.heap.size ≤ bo) (hv : ∀ k, vo.ownBlock = some k → k ≠ bp ∧ k ≠ bb ∧ k ≠ bo) (hn : bp ≠ bo ∧ bb ≠ bo) (h : impl_on.f k base p many most [] least [] = some r) :
    Calls Try.prog 73 #[.int .i64 many, .int .i64 least, .int .i64 most, .func (.func 74) #[] #[.pointer (some ⟨bp, 0, none⟩), .pointer (some ⟨bb, 0, none⟩), .pointer (some ⟨bo, 0, none⟩)]] w fun e w' => e = .returned (.tuple #[]) ∧ Below w0.heap.size w0 w' ∧ ∃ v', w'.heap[bo]? = some (.cells #[v'] 22 (0, 0)) ∧ Kd.R (Kd.int .i64) 3 w' w0.heap.size (fun k => k ≠ bo) v' r := by
  have hlo := blk_lt hbo
  have HV := Aside0.mk hv
  obtain ⟨β, hβ⟩ : ∃ β : NfB, β = ⟨bp, bb, bo, w.heap.size, w.heap.size + 1 + 1, w.heap.size + 1, w.heap.size + 1 + 1 + 1, many, base, p, most⟩ := ⟨_, rfl⟩
  have hI := NfSt.init hB hbp hbb hbo hR g0 hv hn β hβ _ rfl
  have hnew : ((((w.alloc (.cells #[.int .i64 many] 3)).alloc (.cells #[.int .i64 most] 3)).alloc (.cells #[.func (.func 74) #[] #[.pointer (some ⟨bp, 0, none⟩), .pointer (some ⟨bb, 0, none⟩), .pointer (some ⟨bo, 0, none⟩)]] 69)).alloc (.cells #[.nilFunc] 75)).heap[w.heap.size + 1 + 1 + 1]? = some (.cells #[.nilFunc] 75 (0, 0)) := by
    have := heap_alloc_new (((w.alloc (.cells #[.int .i64 many] 3)).alloc (.cells #[.int .i64 most] 3)).alloc (.cells #[.func (.func 74) #[] #[.pointer (some ⟨bp, 0, none⟩), .pointer (some ⟨bb, 0, none⟩), .pointer (some ⟨bo, 0, none⟩)]] 69)) (.cells #[.nilFunc] 75)
    rw [alloc_size, alloc_size, alloc_size] at this
    exact this
  have hfz := blk_frozen hnew 0
  have hcz := (blk_cell hnew 0).trans (rfl : _ = some _)
  have hO := hI.cOn
  have hE : β.eachV = .func (.func 74) #[] #[.pointer (some ⟨bp, 0, none⟩), .pointer (some ⟨bb, 0, none⟩), .pointer (some ⟨bo, 0, none⟩)] := by rw [hβ]; rfl
  have hV : β.onV = .func (.func 87) #[] #[.pointer (some ⟨w.heap.size, 0, none⟩), .pointer (some ⟨w.heap.size + 1 + 1, 0, none⟩), .pointer (some ⟨w.heap.size + 1, 0, none⟩), .pointer (some ⟨w.heap.size + 1 + 1 + 1, 0, none⟩)] := by rw [hβ]; rfl
  have hbon : β.bon = w.heap.size + 1 + 1 + 1 := by rw [hβ]
  have H := Aside0.mk (show impl_on.f k β.base β.p β.many β.most [] least [] = some r by rw [hβ]; exact h)
  have HM := Aside0.mk (show β.bm = w.heap.size ∧ β.be = w.heap.size + 1 + 1 ∧ β.bq = w.heap.size + 1 ∧ β.bon = w.heap.size + 1 + 1 + 1 ∧ β.bo = bo by rw [hβ]; exact ⟨rfl, rfl, rfl, rfl, rfl⟩)
  rw [hE, hV] at hI
  rw [hbon, hE, hV] at hO
  have HS := Aside0.mk hI
  have hst : ∀ (a : Addr) (m : Mode) (w_ : World), Sem.run Try.prog (store a (.func (.func 87) #[] #[.pointer (some ⟨w.heap.size, 0, none⟩), .pointer (some ⟨w.heap.size + 1 + 1, 0, none⟩), .pointer (some ⟨w.heap.size + 1, 0, none⟩), .pointer (some ⟨w.heap.size + 1 + 1 + 1, 0, none⟩)]) m) w_ = stored Try.prog w_ a (.func (.func 87) #[] #[.pointer (some ⟨w.heap.size, 0, none⟩), .pointer (some ⟨w.heap.size + 1 + 1, 0, none⟩), .pointer (some ⟨w.heap.size + 1, 0, none⟩), .pointer (some ⟨w.heap.size + 1 + 1 + 1, 0, none⟩)]) m := fun a m w_ => run_store _ w_ a _ m rfl
  clear hI hnew hB hbp hbb hR g0 hv hn h hbo hE hV hbon hβ
  have hc := impl_on.calls k w0 _ β _ _ none 0 0 [] [] least r HS.out H.out
  rw [HM.out.1, HM.out.2.1, HM.out.2.2.1, HM.out.2.2.2.1] at hc
  have HC := Aside0.mk hc
  clear hc
  go_enter Try.func73, Try.ntmps73
  go_wp2_with (first | (go_at_call 87; refine HC.out.mono ?_; rintro e w1 ⟨rfl, h2⟩; have H2 := Aside0.mk h2; clear h2))
  go_end0
  obtain ⟨v', hg, hR⟩ := H2.out.F
  rw [HM.out.2.2.2.2] at hg
  refine ⟨rfl, H2.out.B, v', hg, Kd.R_mono hR (fun k hk => ?_)⟩
  rcases hk with hk | hk
  · exact (HV.out k hk.symm).2.2
  · have := H2.out.gP.2
    rw [HM.out.2.2.2.2] at this
    omega
theorem own_pre {w W2 w5 : World} {base p : Int} {v8 : Value} (h2 : W2 = (w.alloc (.cells #[.int .i64 base] 3)).alloc (.cells #[.int .i64 p] 3)) (ho : Kd.R (Kd.int .i64) 3 w5 W2.heap.size (fun _ => True) v8 []) (hb : Below W2.heap.size W2 w5) :
    Below w.heap.size w (w5.alloc (.cells #[v8] 22)) ∧ (w5.alloc (.cells #[v8] 22)).heap[w.heap.size + 1]? = some (.cells #[.int .i64 p] 3 (0, 0)) ∧ (w5.alloc (.cells #[v8] 22)).heap[w.heap.size]? = some (.cells #[.int .i64 base] 3 (0, 0)) ∧ (w5.alloc (.cells #[v8] 22)).heap[w5.heap.size]? = some (.cells #[v8] 22 (0, 0)) ∧
    Kd.R (Kd.int .i64) 3 (w5.alloc (.cells #[v8] 22)) w.heap.size (fun k => some k = v8.ownBlock) v8 [] ∧ w.heap.size ≤ w5.heap.size ∧ (∀ k, v8.ownBlock = some k → k ≠ w.heap.size + 1 ∧ k ≠ w.heap.size ∧ k ≠ w5.heap.size) ∧ (w.heap.size + 1 ≠ w5.heap.size ∧ w.heap.size ≠ w5.heap.size) := by
  have s2 : W2.heap.size = w.heap.size + 1 + 1 := by rw [h2, alloc_size, alloc_size]
  have hsz := hb.size
  have b1 : Below W2.heap.size W2 (w5.alloc (.cells #[v8] 22)) := below_alloc hb _
  have eb : (w.alloc (.cells #[.int .i64 base] 3)).heap[w.heap.size]? = some (.cells #[.int .i64 base] 3 (0, 0)) := by simpa using heap_alloc_new w _
  have ep : W2.heap[w.heap.size + 1]? = some (.cells #[.int .i64 p] 3 (0, 0)) := by
    rw [h2]
    have := heap_alloc_new (w.alloc (.cells #[.int .i64 base] 3)) (.cells #[.int .i64 p] 3)
    rw [alloc_size] at this
    exact this
  have b2 : Below (w.alloc (.cells #[.int .i64 base] 3)).heap.size (w.alloc (.cells #[.int .i64 base] 3)) (w5.alloc (.cells #[v8] 22)) := below_step (by rw [h2]; exact below_alloc (Below.refl _ _) _) b1
  have b3 : Below w.heap.size w (w5.alloc (.cells #[v8] 22)) := below_step (below_alloc (Below.refl _ _) _) b2
  have hlt := Kd.R_lt ho
  have hbs := Kd.R_base ho
  refine ⟨b3, (b1.block _ (by omega)).trans ep, (b2.block _ (by rw [alloc_size]; omega)).trans eb, by simpa using heap_alloc_new w5 _, Kd.R_lower (Kd.R_tight rfl (Kd.R_alloc ho _)) (by omega), by omega, fun k hk => ?_, by omega⟩
  have := hlt k hk
  have := hbs k hk
  omega
set_option maxHeartbeats 8000000 in
set_option maxRecDepth 100000 in
theorem impl_owns.calls (k : Nat) (a0 a1 a2 : Int) (r : List Int) (w : World) (h : impl_owns.f k a0 a1 a2 = some r) :
    Calls Try.prog 38 #[.int .i64 a0, .int .i64 a1, .int .i64 a2] w fun e w' => ∃ v0_ : Value, e = .returned (v0_) ∧ Kd.R (Kd.int .i64) 3 w' w.heap.size (fun _ => True) v0_ r ∧ Below w.heap.size w w' := by
  obtain ⟨o, a1_, a2_⟩ := Option.bind_eq_some_iff.mp h
  have A1 := Aside0.mk a1_
  have A2 := Aside0.mk a2_
  clear h a1_ a2_
  go_enter Try.func38, Try.ntmps38
  go_wp2_with (first | ((with_reducible refine gate_dst (N := 8) rfl ?_); refine Kd.R_lit (Kd.int .i64) _ 3 ?hg (N := 8) ?hd (xs := ([] : List Int)) (inner := []) (ok := fun _ => True) (okp := fun _ => True) ?hr ?hp (fun _ hk => hk) trivial (Below.refl _ _) (Nat.le_refl _) (by simp) ?_; (case hd => rfl); (case hg => rfl); (case hr => first | (go_simp; done) | (go_simp; rfl)); (case hp => exact (Reps.none _ _)); intro v8 w5 ho5 hb5 hg_ hnew_; clear hg_ hnew_; have HP := Aside0.mk (own_pre (base := a1) (p := a2) rfl ho5 hb5); obtain ⟨Ay, cy, ey⟩ := Kd.R_slice ho5; subst ey; simp only [List.length_nil] at HP; have hcb := (blk_cell HP.out.2.2.1 0).trans (rfl : _ = some _); clear ho5 hb5) | (go_at_call 73; refine (impl_notFalling.calls k w _ (w.heap.size + 1) w.heap.size w5.heap.size a1 a2 a0 0 (wrap64 (a1 - 1)) _ o HP.out.1 HP.out.2.1 HP.out.2.2.1 HP.out.2.2.2.1 HP.out.2.2.2.2.1 HP.out.2.2.2.2.2.1 HP.out.2.2.2.2.2.2.1 HP.out.2.2.2.2.2.2.2 A1.out).mono ?_; rintro e w7 ⟨rfl, hb, v', hg, hR⟩; obtain ⟨Af, cf, ef⟩ := Kd.R_slice hR; subst ef; have hc2 := (blk_cell hg 0).trans (rfl : _ = some _); have HB := Aside0.mk hb; have HG := Aside0.mk hg; have HR := Aside0.mk hR; clear hb hg hR) | (go_at_call 77; refine (slices_Sort_int_int.calls (fun k => k ≠ w5.heap.size) _ o r w _ HB.out HR.out A2.out).mono ?_; rintro e w8 ⟨rfl, ho, hb, hk⟩; have hc3 := (blk_cell (blk_kept HG.out hk (fun hn => hn rfl)) 0).trans (rfl : _ = some _); have HO := Aside0.mk ho; have HB8 := Aside0.mk hb; clear ho hb hk))
  go_ret
  exact ⟨_, rfl, Kd.R_mono HO.out (fun _ _ => trivial), HB8.out⟩
def impl_Narcissistic.f (k : Nat) (a0 : Int) (a1 : Int) : Option (List Int × Bool) := (impl_isSmallBase.f a1).bind fun t184 => (if t184 = true then ((impl_in.f a0 1 6).bind fun t185 => (if t185 = true then ((impl_owns.f k a0 a1 a0).bind fun t186 => (some (t186, true))) else (some (([] : List Int), false)))) else (some (([] : List Int), false)))
theorem impl_Narcissistic.mono : ∀ a0 a1 k, LeO (impl_Narcissistic.f k a0 a1) (impl_Narcissistic.f (k + 1) a0 a1) := by
  intro a0 a1 k
  unfold impl_Narcissistic.f
  repeat' first
      | (with_reducible exact impl_owns.mono _ _ _ _)
      | (with_reducible exact LeO.refl _)
      | (with_reducible exact LeO.none _)
      | (with_reducible refine LeO.ite ?_ ?_)
      | (with_reducible refine LeO.bind ?_ (fun _ => ?_))
      | exact impl_owns.mono _ _ _ _
      | exact LeO.none _
      | refine LeO.ite ?_ ?_
      | refine LeO.bind ?_ (fun _ => ?_)
set_option maxHeartbeats 8000000 in
set_option maxRecDepth 100000 in
theorem impl_Narcissistic.calls (k : Nat) (a0 : Int) (a1 : Int) (r1 : List Int) (r2 : Bool) (w : World) (h : impl_Narcissistic.f k a0 a1 = some (r1, r2)) :
    Calls Try.prog 9 #[.int .i64 a0, .int .i64 a1] w fun e w' => ∃ v0_ : Value, e = .returned (.tuple #[v0_, .bool r2]) ∧ Kd.R (Kd.int .i64) 3 w' w.heap.size (fun _ => True) v0_ r1 ∧ Below w.heap.size w w' := by
  have HB := Aside0.mk (Below.refl w.heap.size w)
  have H : ((impl_isSmallBase.f a1).bind fun t184 => (if t184 = true then ((impl_in.f a0 1 6).bind fun t185 => (if t185 = true then ((impl_owns.f k a0 a1 a0).bind fun t186 => (some (t186, true))) else (some (([] : List Int), false)))) else (some (([] : List Int), false)))) = some (r1, r2) := h
  clear h
  replace H := Option.bind_eq_some_iff.mp H
  obtain ⟨t184, A30, H⟩ := H
  replace H : (if t184 = true then ((impl_in.f a0 1 6).bind fun t185 => (if t185 = true then ((impl_owns.f k a0 a1 a0).bind fun t186 => (some (t186, true))) else (some (([] : List Int), false)))) else (some (([] : List Int), false))) = some (r1, r2) := H
  have A3 := Aside0.mk A30
  clear A30
  by_cases c4 : t184 = true
  · subst c4
    have H1 : ((impl_in.f a0 1 6).bind fun t185 => (if t185 = true then ((impl_owns.f k a0 a1 a0).bind fun t186 => (some (t186, true))) else (some (([] : List Int), false)))) = some (r1, r2) := by rw [if_pos rfl] at H; exact H
    clear H
    have H := H1
    clear H1
    replace H := Option.bind_eq_some_iff.mp H
    obtain ⟨t185, A50, H⟩ := H
    replace H : (if t185 = true then ((impl_owns.f k a0 a1 a0).bind fun t186 => (some (t186, true))) else (some (([] : List Int), false))) = some (r1, r2) := H
    have A5 := Aside0.mk A50
    clear A50
    by_cases c6 : t185 = true
    · subst c6
      have H1 : ((impl_owns.f k a0 a1 a0).bind fun t186 => (some (t186, true))) = some (r1, r2) := by rw [if_pos rfl] at H; exact H
      clear H
      have H := H1
      clear H1
      replace H := Option.bind_eq_some_iff.mp H
      obtain ⟨t186, A70, H⟩ := H
      replace H : (some (t186, true)) = some (r1, r2) := H
      have A7 := Aside0.mk A70
      clear A70
      simp only [Option.some.injEq, Prod.mk.injEq] at H
      obtain ⟨rfl, rfl⟩ := H
      go_enter Try.func9, Try.ntmps9
      go_wp2_with (first | ((with_reducible refine gate_callee (f := 36) rfl ?_); refine goesL_ (some 7) rfl rfl Try.func36 (by kernel_rfl) rfl #[.int .i64 a1] rfl (by (try simp only [List.map_toArray, List.map_cons, List.map_nil]); first | done | rfl | (simp only [List.length_drop, List.length_take]; rfl)) ?_; (with_reducible refine (impl_isSmallBase.calls a1 true _ A3.out).mono ?_); rintro e w' ⟨rfl, ⟨nd, rfl⟩⟩; refine ⟨_, rfl, ?_⟩) | (go_at_call 37; (with_reducible refine (impl_in.calls a0 1 6 true _ A5.out).mono ?_); rintro e w' ⟨rfl, ⟨nd, rfl⟩⟩) | ((with_reducible refine gate_callee (f := 38) rfl ?_); refine goesL_ (some 17) rfl rfl Try.func38 (by kernel_rfl) rfl #[.int .i64 a0, .int .i64 a1, .int .i64 a0] rfl (by (try simp only [List.map_toArray, List.map_cons, List.map_nil]); first | done | rfl | (simp only [List.length_drop, List.length_take]; rfl)) ?_; (with_reducible refine (impl_owns.calls k a0 a1 a0 t186 _ A7.out).mono ?_); rintro e w8 ⟨v187, rfl, ho0, hb⟩; refine ⟨_, rfl, ?_⟩; have n0_ := Aside0.mk (Kd.R_lower ho0 (below_size (by repeat (first | (with_reducible first | exact HB.out | apply below_alloc | apply pw_below_drewN | apply below_drew1) | exact HB.out)))); have n1_ := Aside0.mk (below_step (by repeat (first | (with_reducible first | exact HB.out | apply below_alloc | apply pw_below_drewN | apply below_drew1) | exact HB.out)) hb); clear HB; have HO188 := n0_; have HB := n1_; clear n0_ n1_; (try clear hb); (try clear hb2); (try clear hk); (try clear hi); (try clear ho0)))
      go_ret2
      exact ⟨_, by first | rfl | (simp [errW_none, errW_some] <;> rfl) | (simp [*, errW_none, errW_some] <;> rfl), by (with_reducible repeat (first | apply Kd.R_alloc | apply Kd.R_drewN | apply Kd.R_drew)); exact HO188.out, by repeat (first | (with_reducible first | exact HB.out | apply below_alloc | apply pw_below_drewN | apply below_drew1) | exact HB.out)⟩
    · replace c6 := Bool.eq_false_iff.mpr c6
      subst c6
      have H1 : (some (([] : List Int), false)) = some (r1, r2) := by rw [if_neg (show ¬ (false = true) by decide)] at H; exact H
      clear H
      have H := H1
      clear H1
      simp only [Option.some.injEq, Prod.mk.injEq] at H
      obtain ⟨rfl, rfl⟩ := H
      go_enter Try.func9, Try.ntmps9
      go_wp2_with (first | ((with_reducible refine gate_callee (f := 36) rfl ?_); refine goesL_ (some 7) rfl rfl Try.func36 (by kernel_rfl) rfl #[.int .i64 a1] rfl (by (try simp only [List.map_toArray, List.map_cons, List.map_nil]); first | done | rfl | (simp only [List.length_drop, List.length_take]; rfl)) ?_; (with_reducible refine (impl_isSmallBase.calls a1 true _ A3.out).mono ?_); rintro e w' ⟨rfl, ⟨nd, rfl⟩⟩; refine ⟨_, rfl, ?_⟩) | (go_at_call 37; (with_reducible refine (impl_in.calls a0 1 6 false _ A5.out).mono ?_); rintro e w' ⟨rfl, ⟨nd, rfl⟩⟩))
      go_ret2
      exact ⟨_, by first | rfl | (simp [errW_none, errW_some] <;> rfl) | (simp [*, errW_none, errW_some] <;> rfl), by first | exact Kd.R_nil _ _ _ _ _ | exact Kd.N_nil _ _ _ _ _ | exact Kd.V_nil _ _ _ _ _ | exact Kd.Q_nil _ _ _ _ _ | exact Kd.S_nil _ _ _ _ _, by repeat (first | (with_reducible first | exact HB.out | apply below_alloc | apply pw_below_drewN | apply below_drew1) | exact HB.out)⟩
  · replace c4 := Bool.eq_false_iff.mpr c4
    subst c4
    have H1 : (some (([] : List Int), false)) = some (r1, r2) := by rw [if_neg (show ¬ (false = true) by decide)] at H; exact H
    clear H
    have H := H1
    clear H1
    simp only [Option.some.injEq, Prod.mk.injEq] at H
    obtain ⟨rfl, rfl⟩ := H
    go_enter Try.func9, Try.ntmps9
    go_wp2_with (first | ((with_reducible refine gate_callee (f := 36) rfl ?_); refine goesL_ (some 7) rfl rfl Try.func36 (by kernel_rfl) rfl #[.int .i64 a1] rfl (by (try simp only [List.map_toArray, List.map_cons, List.map_nil]); first | done | rfl | (simp only [List.length_drop, List.length_take]; rfl)) ?_; (with_reducible refine (impl_isSmallBase.calls a1 false _ A3.out).mono ?_); rintro e w' ⟨rfl, ⟨nd, rfl⟩⟩; refine ⟨_, rfl, ?_⟩))
    go_ret2
    exact ⟨_, by first | rfl | (simp [errW_none, errW_some] <;> rfl) | (simp [*, errW_none, errW_some] <;> rfl), by first | exact Kd.R_nil _ _ _ _ _ | exact Kd.N_nil _ _ _ _ _ | exact Kd.V_nil _ _ _ _ _ | exact Kd.Q_nil _ _ _ _ _ | exact Kd.S_nil _ _ _ _ _, by repeat (first | (with_reducible first | exact HB.out | apply below_alloc | apply pw_below_drewN | apply below_drew1) | exact HB.out)⟩
def spec_pwPower.f (a0 : Int) (a1 : Int) : Option (Bool) := (spec_l1In.f a0 1 a1).bind fun t189 => (some t189)
set_option maxHeartbeats 8000000 in
set_option maxRecDepth 100000 in
theorem spec_pwPower.calls (a0 : Int) (a1 : Int) (r : Bool) (w : World) (h : spec_pwPower.f a0 a1 = some r) :
    Calls Try.prog 39 #[.int .i64 a0, .int .i64 a1] w fun e w' => e = .returned (.bool r) ∧ Drawn0 w w' := by
  have H : ((spec_l1In.f a0 1 a1).bind fun t189 => (some t189)) = some r := h
  clear h
  replace H := Option.bind_eq_some_iff.mp H
  obtain ⟨t189, A30, H⟩ := H
  replace H : (some t189) = some r := H
  have A3 := Aside0.mk A30
  clear A30
  obtain rfl := Option.some.inj H
  go_enter Try.func39, Try.ntmps39
  go_wp2_with (first | ((with_reducible refine gate_callee (f := 34) rfl ?_); refine goesL_ (some 7) rfl rfl Try.func34 (by kernel_rfl) rfl #[.int .i64 a0, .int .i64 1, .int .i64 a1] rfl (by (try simp only [List.map_toArray, List.map_cons, List.map_nil]); first | done | rfl | (simp only [List.length_drop, List.length_take]; rfl)) ?_; (with_reducible refine (spec_l1In.calls a0 1 a1 t189 _ A3.out).mono ?_); rintro e w' ⟨rfl, ⟨nd, rfl⟩⟩; refine ⟨_, rfl, ?_⟩))
  go_ret
  exact ⟨by first | rfl | (simp; done) | (simp [*]; done), by repeat (first | exact Drawn0.refl _ | apply Drawn0.step)⟩
def spec_pwLimited.l0 : Nat → Int → Int → Int → Option (Int)
  | 0, _, _, _ => none
  | k + 1, x0, x1, x5 => if x1 > 0 then (if x0 = 0 then (none) else (if x5 > (wrap64 (Int.tdiv (1000000000000000000 : Int) x0)) then (some 1000000000000000000) else (spec_pwLimited.l0 k x0 (wrap64 (x1 - 1)) (wrap64 (x5 * x0))))) else (some x5)
def spec_pwLimited.f (k : Nat) (a0 : Int) (a1 : Int) : Option (Int) := spec_pwLimited.l0 k a0 a1 1
theorem spec_pwLimited.mono_l : ∀ k, (∀ y0 y1 y2, LeO (spec_pwLimited.l0 k y0 y1 y2) (spec_pwLimited.l0 (k + 1) y0 y1 y2))
  | 0 => fun _ _ _ r h => by simp [spec_pwLimited.l0] at h
  | k + 1 => by
    have ih0 := spec_pwLimited.mono_l k
    · intro y0 y1 y2
      unfold spec_pwLimited.l0
      repeat' first
      | (with_reducible exact ih0 _ _ _)
      | (with_reducible exact LeO.refl _)
      | (with_reducible exact LeO.none _)
      | (with_reducible refine LeO.ite ?_ ?_)
      | (with_reducible refine LeO.bind ?_ (fun _ => ?_))
      | exact ih0 _ _ _
      | exact LeO.none _
      | refine LeO.ite ?_ ?_
      | refine LeO.bind ?_ (fun _ => ?_)
theorem spec_pwLimited.mono : ∀ a0 a1 k, LeO (spec_pwLimited.f k a0 a1) (spec_pwLimited.f (k + 1) a0 a1) := by
  intro a0 a1 k
  have ih0 := spec_pwLimited.mono_l k
  unfold spec_pwLimited.f
  repeat' first
      | (with_reducible exact ih0 _ _ _)
      | (with_reducible exact LeO.refl _)
      | (with_reducible exact LeO.none _)
      | (with_reducible refine LeO.ite ?_ ?_)
      | (with_reducible refine LeO.bind ?_ (fun _ => ?_))
      | exact ih0 _ _ _
      | exact LeO.none _
      | refine LeO.ite ?_ ?_
      | refine LeO.bind ?_ (fun _ => ?_)
set_option maxHeartbeats 8000000 in
set_option maxRecDepth 100000 in
theorem spec_pwLimited.calls (k : Nat) (a0 : Int) (a1 : Int) (r : Int) (w : World) (h : spec_pwLimited.f k a0 a1 = some r) :
    Calls Try.prog 78 #[.int .i64 a0, .int .i64 a1] w fun e w' => e = .returned (.int .i64 r) ∧ Drawn0 w w' := by
  have H : (spec_pwLimited.l0 k a0 a1 1) = some r := h
  clear h
  have H' := Aside0.mk H
  clear H
  go_enter Try.func78, Try.ntmps78
  go_wp2
  go_loopg [1, 5] k (fun kq v1 v5 w' => ∃ (x1_1 : Int) (x5_1 : Int), v1 = .int .i64 x1_1 ∧ v5 = .int .i64 x5_1 ∧ Aside0 (spec_pwLimited.l0 kq a0 x1_1 x5_1 = some r) ∧ Aside0 (kq ≤ k) ∧ Drawn0 w w')
  case atStart => exact ⟨(a1), (1), (by first | rfl | (simp; done) | (simp [*]; done)), (by first | rfl | (simp; done) | (simp [*]; done)), H', ⟨Nat.le_refl _⟩, by repeat (first | exact Drawn0.refl _ | apply Drawn0.step)⟩
  case round =>
    clear H'
    try clear p2
    obtain ⟨x1_1, x5_1, rfl, rfl, HA, HK1, ⟨m1, rfl⟩⟩ := hrel
    cases gk with
    | zero => exact absurd HA.out (by simp [spec_pwLimited.l0])
    | succ k1 =>
      have H := HA.out
      clear HA
      simp only [spec_pwLimited.l0] at H
      by_cases c3 : x1_1 > 0
      · rw [if_pos c3] at H
        have c3b0 : decide (0 < x1_1) = true := decide_eq_true c3
        clear c3
        by_cases c4 : a0 = 0
        · rw [if_pos c4] at H
          exact absurd H (by simp)
        · rw [if_neg c4] at H
          have c4b0 : (a0 == 0) = false := beq_eq_false_iff_ne.mpr c4
          have c4b1 : (a0 != 0) = true := bne_iff_ne.mpr c4
          by_cases c5 : x5_1 > (wrap64 (Int.tdiv (1000000000000000000 : Int) a0))
          · rw [if_pos c5] at H
            have c5b0 : decide ((wrap64 (Int.tdiv (1000000000000000000 : Int) a0)) < x5_1) = true := decide_eq_true c5
            clear c5
            obtain rfl := Option.some.inj H
            go_wp2
            go_ret
            exact ⟨by first | rfl | (simp; done) | (simp [*]; done), by repeat (first | exact Drawn0.refl _ | apply Drawn0.step)⟩
          · rw [if_neg c5] at H
            have c5b0 : decide ((wrap64 (Int.tdiv (1000000000000000000 : Int) a0)) < x5_1) = false := decide_eq_false c5
            clear c5
            have H' := Aside0.mk H
            clear H
            go_wp2
            go_roundg k1
            case measure => have := HK1.out; omega
            case rel => exact ⟨(wrap64 (x1_1 - 1)), (wrap64 (x5_1 * a0)), (by first | rfl | (simp; done) | (simp [*]; done)), (by first | rfl | (simp; done) | (simp [*]; done)), H', ⟨by have := HK1.out; omega⟩, by repeat (first | exact Drawn0.refl _ | apply Drawn0.step)⟩
      · rw [if_neg c3] at H
        have c3b0 : decide (0 < x1_1) = false := decide_eq_false c3
        clear c3
        obtain rfl := Option.some.inj H
        go_wp2
        go_ret
        exact ⟨by first | rfl | (simp; done) | (simp [*]; done), by repeat (first | exact Drawn0.refl _ | apply Drawn0.step)⟩
end Go.Proofs.Ytehhkkbejmhcfaa.PFnOwnPowers
end
