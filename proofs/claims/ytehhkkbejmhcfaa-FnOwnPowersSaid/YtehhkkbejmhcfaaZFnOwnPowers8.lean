/- Plain texts of FnOwnPowers, merged by a program: what Go functions compute, lemmas of the walk, and proofs. No conditions. -/
import Derived.Test.YtehhkkbejmhcfaaZFnOwnPowers7
section
namespace Go.Proofs.Ytehhkkbejmhcfaa.PFnOwnPowers
open Go.RowKit Go.Proofs.YtehhkkbejmhcfaaW.PrintWords Go.Proofs.YtehhkkbejmhcfaaW.PrintLast Go.Proofs.YtehhkkbejmhcfaaW.PrintMore
attribute [local go_sem] max2_int min2_int max_two min_two max_three min_three max_four min_four   -- for this text's walks alone
set_option linter.unusedVariables false
set_option linter.unusedSimpArgs false
mutual
def spec_try.f : Nat → Int → Int → Int → Int → Int → List Int → List Int → Option (List Int)
  | 0, _, _, _, _, _, _, _ => none
  | k + 1, b, p, left, most, sum, counts, found => if left = 0 then (if sum ≤ 1000000000000 then ((spec_dgOf.f k sum b).bind fun ds => (spec_dgCounts.f k ds b).bind fun cs => (spec_l1Same.f k cs counts).bind fun e => if e = true then spec_l1Put.f k found sum else some found) else none) else spec_try.l0 k b p left most sum counts found 0
def spec_try.l0 : Nat → Int → Int → Int → Int → Int → List Int → List Int → Int → Option (List Int)
  | 0, _, _, _, _, _, _, _, _ => none
  | k + 1, b, p, left, most, sum, counts, found, d => if d ≤ most then ((spec_l1Own.f counts).bind fun nx => if 0 ≤ d then (if d < (nx.length : Int) then ((spec_pwOf.f k d p).bind fun q => (spec_try.f k b p (wrap64 (left - 1)) d (wrap64 (sum + q)) (nx.set d.toNat (wrap64 (rd nx d + 1))) found).bind fun fo => spec_try.l0 k b p left most sum counts fo (wrap64 (d + 1))) else none) else none) else some found
end
theorem spec_try.mono_l : ∀ k, (∀ b p left most sum counts found, LeO (spec_try.f k b p left most sum counts found) (spec_try.f (k + 1) b p left most sum counts found)) ∧ (∀ b p left most sum counts found d, LeO (spec_try.l0 k b p left most sum counts found d) (spec_try.l0 (k + 1) b p left most sum counts found d))
  | 0 => ⟨fun _ _ _ _ _ _ _ r h => by simp [spec_try.f] at h, fun _ _ _ _ _ _ _ _ r h => by simp [spec_try.l0] at h⟩
  | k + 1 => by
    obtain ⟨ih1, ih2⟩ := spec_try.mono_l k
    refine ⟨fun b p left most sum counts found => ?_, fun b p left most sum counts found d => ?_⟩
    · rw [spec_try.f, spec_try.f]
      exact LeO.ite (LeO.ite (LeO.bind (spec_dgOf.mono _ _ k) (fun ds => LeO.bind (spec_dgCounts.mono _ _ k) (fun cs => LeO.bind (spec_l1Same.mono _ _ k) (fun e => LeO.ite (spec_l1Put.mono _ _ k) (LeO.refl _))))) (LeO.none _)) (ih2 _ _ _ _ _ _ _ _)
    · rw [spec_try.l0, spec_try.l0]
      exact LeO.ite (LeO.bind (LeO.refl _) (fun nx => LeO.ite (LeO.ite (LeO.bind (spec_pwOf.mono _ _ k) (fun q => LeO.bind (ih1 _ _ _ _ _ _ _) (fun fo => ih2 _ _ _ _ _ _ _ _))) (LeO.none _)) (LeO.none _))) (LeO.refl _)
structure TrSt (w0 w : World) (g : Nat) (b p : Int) (P okc : Nat → Prop) (vc : Value) (counts found : List Int) (W : World) : Prop where
  B : Below w0.heap.size w0 W
  g0 : w0.heap.size ≤ g
  K : Kept w W (fun k => P k ∨ k = g)
  F : ∃ vf, W.heap[g]? = some (.cells #[.int .i64 b, .int .i64 p, vf] 47 (0, 0)) ∧ Kd.R (Kd.int .i64) 3 W w0.heap.size (fun k => P k ∨ w.heap.size ≤ k) vf found
  C : Kd.R (Kd.int .i64) 3 W w0.heap.size okc vc counts
  dis : ∀ k, okc k → k < w.heap.size ∧ ¬ P k ∧ k ≠ g
  gP : ¬ P g ∧ g < w.heap.size
section
variable {w0 w W W2 : World} {g : Nat} {b p : Int} {P okc : Nat → Prop} {vc : Value} {counts found : List Int}
theorem TrSt.below (h : TrSt w0 w g b p P okc vc counts found W) (hb : Below W.heap.size W W2) : TrSt w0 w g b p P okc vc counts found W2 := by
  obtain ⟨vf, hg, hR⟩ := h.F
  exact ⟨below_step h.B hb, h.g0, h.K.below hb, ⟨vf, (hb.block g (blk_lt hg)).trans hg, Kd.R_below hR hb⟩, Kd.R_below h.C hb, h.dis, h.gP⟩
theorem TrSt.drew (h : TrSt w0 w g b p P okc vc counts found W) : TrSt w0 w g b p P okc vc counts found W.drew := h.below (below_drew (Below.refl _ _))
theorem TrSt.drewN (h : TrSt w0 w g b p P okc vc counts found W) (m : Nat) : TrSt w0 w g b p P okc vc counts found (W.drewN m) := h.below (pw_below_drewN (Below.refl _ _) m)
theorem TrSt.cell0 (h : TrSt w0 w g b p P okc vc counts found W) : W.cell? ⟨g, 0, none⟩ = some (.int .i64 b) := by
  obtain ⟨vf, hg, _⟩ := h.F
  exact (blk_cell hg 0).trans rfl
theorem TrSt.cell1 (h : TrSt w0 w g b p P okc vc counts found W) : W.cell? ⟨g, 1, none⟩ = some (.int .i64 p) := by
  obtain ⟨vf, hg, _⟩ := h.F
  exact (blk_cell hg 1).trans rfl
theorem TrSt.put (h : TrSt w0 w g b p P okc vc counts found W) {vf v : Value} {r : List Int} {P0 : Nat → Prop} (hP0 : ∀ k, P0 k → P k ∨ w.heap.size ≤ k) (hg : W.heap[g]? = some (.cells #[.int .i64 b, .int .i64 p, vf] 47 (0, 0))) (hR : Kd.R (Kd.int .i64) 3 W2 w0.heap.size (fun k => P0 k ∨ W.heap.size ≤ k) v r) (hb : Below w0.heap.size w0 W2) (hk : Kept W W2 P0) :
    TrSt w0 w g b p P okc vc counts r (W2.setCell ⟨g, 2, none⟩ v) := by
  have hgw := h.gP.2
  have hW := h.K.1
  have hg2 : W2.heap[g]? = some (.cells #[.int .i64 b, .int .i64 p, vf] 47 (0, 0)) := blk_kept hg hk (fun hp => by
    rcases hP0 g hp with h1 | h1
    · exact h.gP.1 h1
    · omega)
  refine ⟨below_set hb h.g0, h.g0, ?_, ⟨v, ?_, ?_⟩, ?_, h.dis, h.gP⟩
  · refine Kept.setCell (h.K.then_ hk (fun k hk => ?_)) (.inl (.inr rfl)) _
    rcases hP0 k hk with h1 | h1
    · exact .inl (.inl h1)
    · exact .inr h1
  · simp [World.setCell, Array.getElem?_modify, hg2]
  · refine Kd.R_far (p := ⟨g, 2, none⟩) (Kd.R_mono hR (fun k hk => ?_)) (fun k hk => ?_) v
    · rcases hk with hk | hk
      · exact hP0 k hk
      · exact .inr (by omega)
    · rintro rfl
      rcases hk with h1 | h1
      · exact h.gP.1 h1
      · omega
  · refine Kd.R_far (p := ⟨g, 2, none⟩) (Kd.R_kept h.C hk (fun k hk hp => ?_)) (fun k hk => (h.dis k hk).2.2) v
    rcases hP0 k hp with h1 | h1
    · exact (h.dis k hk).2.1 h1
    · have := (h.dis k hk).1; omega
structure TrDn (w0 w wr : World) (g : Nat) (b p : Int) (P okc : Nat → Prop) (vc : Value) (counts found : List Int) (vn : Value) (nx : List Int) (W : World) : Prop where
  S : TrSt w0 w g b p P okc vc counts found W
  hle : wr.heap.size ≤ W.heap.size
  hw : w.heap.size ≤ wr.heap.size
  F2 : ∃ vf, W.heap[g]? = some (.cells #[.int .i64 b, .int .i64 p, vf] 47 (0, 0)) ∧ Kd.R (Kd.int .i64) 3 W w0.heap.size (fun k => (P k ∨ w.heap.size ≤ k) ∧ k < wr.heap.size) vf found
  N : Kd.R (Kd.int .i64) 3 W w0.heap.size (fun k => wr.heap.size ≤ k) vn nx
theorem TrDn.start (h : TrSt w0 w g b p P okc vc counts found W) {vn : Value} {nx : List Int} (ho : Kd.R (Kd.int .i64) 3 W2 W.heap.size (fun _ => True) vn nx) (hb : Below W.heap.size W W2) : TrDn w0 w W g b p P okc vc counts found vn nx W2 := by
  obtain ⟨vf, hg, hR⟩ := h.F
  refine ⟨h.below hb, hb.size, h.K.1, ⟨vf, (hb.block g (blk_lt hg)).trans hg, Kd.R_below (Kd.R_mono (Kd.R_bound hR) (fun k hk => ⟨hk.1, hk.2.2.1⟩)) hb⟩, ?_⟩
  exact Kd.R_lower (Kd.R_mono (Kd.R_bound ho) (fun k hk => hk.2.1)) h.B.size
variable {wr : World} {vn : Value} {nx nx2 : List Int}
theorem TrDn.below (h : TrDn w0 w wr g b p P okc vc counts found vn nx W) (hb : Below W.heap.size W W2) : TrDn w0 w wr g b p P okc vc counts found vn nx W2 := by
  obtain ⟨vf, hg, hR⟩ := h.F2
  exact ⟨h.S.below hb, Nat.le_trans h.hle hb.size, h.hw, ⟨vf, (hb.block g (blk_lt hg)).trans hg, Kd.R_below hR hb⟩, Kd.R_below h.N hb⟩
theorem TrDn.set (h : TrDn w0 w wr g b p P okc vc counts found vn nx W) {gn : Nat} (hv : vn.ownBlock = some gn) (hR2 : Kd.R (Kd.int .i64) 3 W2 w0.heap.size (fun k => wr.heap.size ≤ k) vn nx2) (hg2 : W.grownBy W2 (some gn)) : TrDn w0 w wr g b p P okc vc counts found vn nx2 W2 := by
  have hgn : wr.heap.size ≤ gn := h.N.1 gn hv
  have hgnw : w0.heap.size ≤ gn := Kd.R_base h.N gn hv
  obtain ⟨vf, hg, hR⟩ := h.F2
  have hgw := h.S.gP.2
  have hle := h.hle
  have hw := h.hw
  have hgg : W2.heap[g]? = some (.cells #[.int .i64 b, .int .i64 p, vf] 47 (0, 0)) := blk_grown hg hg2 (by
    intro e
    have : g = gn := by simpa using e
    omega)
  have hF : Kd.R (Kd.int .i64) 3 W2 w0.heap.size (fun k => (P k ∨ w.heap.size ≤ k) ∧ k < wr.heap.size) vf found := Kd.R_grown hR hg2 (fun k hk e => by
    have : k = gn := by simpa using e
    omega)
  refine ⟨⟨?_, h.S.g0, ?_, ⟨vf, hgg, Kd.R_mono hF (fun k hk => hk.1)⟩, Kd.R_grown h.S.C hg2 (fun k hk e => ?_), h.S.dis, h.S.gP⟩, Nat.le_trans hle hg2.size, hw, ⟨vf, hgg, hF⟩, hR2⟩
  · refine ⟨hg2.os.trans h.S.B.os, hg2.tape.trans h.S.B.tape, hg2.output.trans h.S.B.output, Nat.le_trans h.S.B.size hg2.size, fun k hk => ?_⟩
    exact (hg2.block k (Nat.lt_of_lt_of_le hk h.S.B.size) (fun e => by have : k = gn := by simpa using e
                                                                       omega)).trans (h.S.B.block k hk)
  · exact Kept.of_grown hg2 h.S.K (fun k e => .inr (by have : gn = k := by simpa using e
                                                       omega))
  · have : k = gn := by simpa using e
    have := (h.S.dis k hk).1
    omega
theorem TrDn.enter (h : TrDn w0 w wr g b p P okc vc counts found vn nx W) : TrSt w0 W g b p (fun k => (P k ∨ w.heap.size ≤ k) ∧ k < wr.heap.size) (fun k => wr.heap.size ≤ k ∧ k < W.heap.size) vn nx found W := by
  obtain ⟨vf, hg, hR⟩ := h.F2
  have hgw := h.S.gP.2
  have hle := h.hle
  have hw := h.hw
  refine ⟨h.S.B, h.S.g0, Kept.refl _ _, ⟨vf, hg, Kd.R_mono hR (fun k hk => .inl hk)⟩, Kd.R_mono (Kd.R_bound h.N) (fun k hk => ⟨hk.1, hk.2.2.1⟩), fun k hk => ⟨hk.2, fun h2 => by omega, by omega⟩, ⟨fun h2 => ?_, by omega⟩⟩
  rcases h2.1 with h3 | h3
  · exact h.S.gP.1 h3
  · omega
theorem TrDn.back (h : TrDn w0 w wr g b p P okc vc counts found vn nx W) {f2 : List Int} (h2 : TrSt w0 W g b p (fun k => (P k ∨ w.heap.size ≤ k) ∧ k < wr.heap.size) (fun k => wr.heap.size ≤ k ∧ k < W.heap.size) vn nx f2 W2) : TrSt w0 w g b p P okc vc counts f2 W2 := by
  obtain ⟨vf, hg, hR⟩ := h2.F
  have hgw := h.S.gP.2
  have hle := h.hle
  have hw := h.hw
  refine ⟨h2.B, h.S.g0, h.S.K.then_ h2.K (fun k hk => ?_), ⟨vf, hg, Kd.R_mono hR (fun k hk => ?_)⟩, Kd.R_kept h.S.C h2.K (fun k hk h3 => ?_), h.S.dis, h.S.gP⟩
  · rcases hk with hk | rfl
    · rcases hk.1 with h3 | h3
      · exact .inl (.inl h3)
      · exact .inr h3
    · exact .inl (.inr rfl)
  · rcases hk with hk | hk
    · exact hk.1
    · exact .inr (by omega)
  · have h4 := h.S.dis k hk
    rcases h3 with h3 | h3
    · rcases h3.1 with h5 | h5
      · exact h4.2.1 h5
      · omega
    · exact h4.2.2 h3
end
set_option maxHeartbeats 8000000 in
set_option maxRecDepth 100000 in
theorem spec_try.calls : ∀ (k : Nat) (w0 w : World) (g : Nat) (b p : Int) (P okc : Nat → Prop) (Ac : Option Addr) (nc cc : Nat) (counts found : List Int) (left most sum : Int) (r : List Int) (_ : TrSt w0 w g b p P okc (.slice Ac nc cc) counts found w) (_ : spec_try.f k b p left most sum counts found = some r),
    Calls Try.prog 35 #[.pointer (some ⟨g, 0, none⟩), .int .i64 left, .int .i64 most, .int .i64 sum, .slice Ac nc cc] w fun e w' => e = .returned (.tuple #[]) ∧ TrSt w0 w g b p P okc (.slice Ac nc cc) counts r w' := by
  intro k
  induction k using Nat.strongRecOn with
  | ind k IH =>
  intro w0 w g b p P okc Ac nc cc counts found left most sum r hS h
  obtain rfl := (Kd.R_reads' hS.C).1
  have HS := Aside0.mk hS
  clear hS
  cases k with
  | zero => exact absurd h (by simp [spec_try.f])
  | succ k =>
  have HIH := Aside0.mk IH
  clear IH
  rw [spec_try.f] at h
  by_cases c0 : left = 0
  · subst c0
    rw [if_pos rfl] at h
    by_cases c1 : sum ≤ 1000000000000
    · rw [if_pos c1] at h
      have c1b0 : decide (sum ≤ 1000000000000) = true := decide_eq_true c1
      clear c1
      obtain ⟨ds, a1, h⟩ := Option.bind_eq_some_iff.mp h
      obtain ⟨cs, a2, h⟩ := Option.bind_eq_some_iff.mp h
      obtain ⟨eq_, a3, h⟩ := Option.bind_eq_some_iff.mp h
      have A1 := Aside0.mk a1
      have A2 := Aside0.mk a2
      have A3 := Aside0.mk a3
      clear a1 a2 a3
      have H := Aside0.mk h
      clear h HIH
      go_enter Try.func35, Try.ntmps35
      go_wp2
      refine start_ (n := 17) (S := fun w' => w'.cell? ⟨g, 0, none⟩ = some (.int .i64 b)) (ds := []) #[false, false, false, false, false, false, false, false, false, false, false, false, false, false, false, false, false] (by kernel_rfl) rfl rfl (HS.out.drew.cell0) (fun hHeld => ?_)
      have n0_ := Aside0.mk HS.out.drew
      clear HS
      have HS := n0_
      clear n0_
      generalize w.drew = w10 at HS hHeld ⊢
      refine pure_ (i := 0) (N := some 14) (v := ?_) (a' := ?_) #[true, false, false, false, false, false, false, false, false, false, false, false, false, false, false, false, false] rfl rfl (by kernel_rfl) (fun _ _ _ h => h) (Or.inl ⟨by rfl, ?_⟩) ?_ ?_
      rotate_left
      · intro w'
        go_simp
        with_reducible rfl
      rotate_left
      · simp only [Act.put, List.setIfInBounds_toArray, List.set_cons_zero, List.set_cons_succ, i64_w, i32_w]
        rfl
      refine pure_ (i := 1) (N := some 15) (v := ?_) (a' := ?_) #[true, true, false, false, false, false, false, false, false, false, false, false, false, false, false, false, false] rfl rfl (by kernel_rfl) (fun _ _ _ h => h) (Or.inl ⟨by rfl, ?_⟩) ?_ ?_
      rotate_left
      · intro w'
        go_simp
        with_reducible rfl
      rotate_left
      · simp only [Act.put, List.setIfInBounds_toArray, List.set_cons_zero, List.set_cons_succ, i64_w, i32_w]
        rfl
      refine pure_ (i := 2) (N := some 16) (v := ?_) (a' := ?_) #[true, true, true, false, false, false, false, false, false, false, false, false, false, false, false, false, false] rfl rfl (by kernel_rfl) (fun _ _ _ h => h) (Or.inl ⟨by rfl, ?_⟩) ?_ ?_
      rotate_left
      · intro w'
        go_simp
        with_reducible rfl
      rotate_left
      · simp only [Act.put, List.setIfInBounds_toArray, List.set_cons_zero, List.set_cons_succ, i64_w, i32_w]
        rfl
      refine pure_ (i := 3) (N := some 17) (v := ?_) (a' := ?_) #[true, true, true, true, false, false, false, false, false, false, false, false, false, false, false, false, false] rfl rfl (by kernel_rfl) (fun _ _ _ h => h) (Or.inl ⟨by rfl, ?_⟩) ?_ ?_
      rotate_left
      · intro w'
        go_simp
        with_reducible rfl
      rotate_left
      · simp only [Act.put, List.setIfInBounds_toArray, List.set_cons_zero, List.set_cons_succ, i64_w, i32_w]
        rfl
      refine pure_ (i := 4) (N := some 18) (v := ?_) (a' := ?_) #[true, true, true, true, true, false, false, false, false, false, false, false, false, false, false, false, false] rfl rfl (by kernel_rfl) (fun _ _ _ h => h) (Or.inl ⟨by rfl, ?_⟩) ?_ ?_
      rotate_left
      · intro w'
        go_simp
        with_reducible rfl
      rotate_left
      · simp only [Act.put, List.setIfInBounds_toArray, List.set_cons_zero, List.set_cons_succ, i64_w, i32_w]
        rfl
      refine pure_ (i := 5) (N := some 19) (v := ?_) (a' := ?_) #[true, true, true, true, true, true, false, false, false, false, false, false, false, false, false, false, false] rfl rfl (by kernel_rfl) (fun _ _ _ h => h) (Or.inl ⟨by rfl, ?_⟩) ?_ ?_
      rotate_left
      · intro w'
        go_simp
        with_reducible rfl
      rotate_left
      · simp only [Act.put, List.setIfInBounds_toArray, List.set_cons_zero, List.set_cons_succ, i64_w, i32_w]
        rfl
      refine pure_ (i := 6) (N := some 20) (v := ?_) (a' := ?_) #[true, true, true, true, true, true, true, false, false, false, false, false, false, false, false, false, false] rfl rfl (by kernel_rfl) (fun _ _ _ h => h) (Or.inl ⟨by rfl, ?_⟩) ?_ ?_
      rotate_left
      · intro w'
        go_simp
        with_reducible rfl
      rotate_left
      · simp only [Act.put, List.setIfInBounds_toArray, List.set_cons_zero, List.set_cons_succ, i64_w, i32_w]
        rfl
      refine take_ (i := 7) (N := some 21) (v := ?_) (a' := ?_) #[true, true, true, true, true, true, true, true, false, false, false, false, false, false, false, false, false] rfl rfl (by kernel_rfl) (fun _ _ _ h => h) (Or.inl ⟨by rfl, ?_⟩) hHeld ?_ ?_
      rotate_left
      · intro w' s0
        go_simp
        with_reducible rfl
      rotate_left
      · simp only [Act.put, List.setIfInBounds_toArray, List.set_cons_zero, List.set_cons_succ, i64_w, i32_w]
        rfl
      refine pure_ (i := 9) (N := some 23) (v := ?_) (a' := ?_) #[true, true, true, true, true, true, true, true, false, true, false, false, false, false, false, false, false] rfl rfl (by kernel_rfl) (fun _ _ _ h => h) (Or.inl ⟨by rfl, ?_⟩) ?_ ?_
      rotate_left
      · intro w'
        go_simp
        with_reducible rfl
      rotate_left
      · simp only [Act.put, List.setIfInBounds_toArray, List.set_cons_zero, List.set_cons_succ, i64_w, i32_w]
        rfl
      refine pure_ (i := 10) (N := some 24) (v := ?_) (a' := ?_) #[true, true, true, true, true, true, true, true, false, true, true, false, false, false, false, false, false] rfl rfl (by kernel_rfl) (fun _ _ _ h => h) (Or.inl ⟨by rfl, ?_⟩) ?_ ?_
      rotate_left
      · intro w'
        go_simp
        with_reducible rfl
      rotate_left
      · simp only [Act.put, List.setIfInBounds_toArray, List.set_cons_zero, List.set_cons_succ, i64_w, i32_w]
        rfl
      refine pure_ (i := 11) (N := some 25) (v := ?_) (a' := ?_) #[true, true, true, true, true, true, true, true, false, true, true, true, false, false, false, false, false] rfl rfl (by kernel_rfl) (fun _ _ _ h => h) (Or.inl ⟨by rfl, ?_⟩) ?_ ?_
      rotate_left
      · intro w'
        go_simp
        with_reducible rfl
      rotate_left
      · simp only [Act.put, List.setIfInBounds_toArray, List.set_cons_zero, List.set_cons_succ, i64_w, i32_w]
        rfl
      refine take_ (i := 12) (N := some 26) (v := ?_) (a' := ?_) #[true, true, true, true, true, true, true, true, false, true, true, true, true, false, false, false, false] rfl rfl (by kernel_rfl) (fun _ _ _ h => h) (Or.inl ⟨by rfl, ?_⟩) hHeld ?_ ?_
      rotate_left
      · intro w' s0
        go_simp
        with_reducible rfl
      rotate_left
      · simp only [Act.put, List.setIfInBounds_toArray, List.set_cons_zero, List.set_cons_succ, i64_w, i32_w]
        rfl
      refine pure_ (i := 14) (N := some 28) (v := ?_) (a' := ?_) #[true, true, true, true, true, true, true, true, false, true, true, true, true, false, true, false, false] rfl rfl (by kernel_rfl) (fun _ _ _ h => h) (Or.inl ⟨by rfl, ?_⟩) ?_ ?_
      rotate_left
      · intro w'
        go_simp
        with_reducible rfl
      rotate_left
      · simp only [Act.put, List.setIfInBounds_toArray, List.set_cons_zero, List.set_cons_succ, i64_w, i32_w]
        rfl
      refine one_ (i := 8) (N := some 22) #[true, true, true, true, true, true, true, true, true, true, true, true, true, false, true, false, false] rfl rfl (by kernel_rfl) (by decide) (fun K hK => ?_)
      refine goes_ Try.func70 (by kernel_rfl) rfl #[.int .i64 sum, .int .i64 b] (by rfl) rfl rfl (by (try simp only [List.map_toArray, List.map_cons, List.map_nil]); first | done | rfl | (simp only [List.length_drop, List.length_take]; rfl)) ?_
      refine (spec_dgOf.calls k sum b ds _ A1.out).mono ?_
      rintro e w11 ⟨v1, rfl, ho, hb⟩
      obtain ⟨Ao1, co1, eo1⟩ := Kd.R_slice ho
      subst eo1
      refine ⟨_, rfl, ?_⟩
      have HO1 := Aside0.mk ho
      have HB1 := Aside0.mk hb
      have n0_ := Aside0.mk (HS.out.below hb)
      clear HS
      have HS := n0_
      clear n0_
      have hh_ := (hb.cell (World.block_lt_of_cell? _ _ hHeld)).trans hHeld
      clear ho hb hHeld
      refine hK.out _ _ (hh_) (fun hHeld => ?_)
      clear hK K
      refine norm_ (a' := ?_) ?_ ?_
      rotate_left
      · show Act.put _ (some 22) _ = _
        simp only [Act.put, List.setIfInBounds_toArray, List.set_cons_zero, List.set_cons_succ, i64_w, i32_w]
        rfl
      refine one_ (i := 13) (N := some 27) #[true, true, true, true, true, true, true, true, true, true, true, true, true, true, true, false, false] rfl rfl (by kernel_rfl) (by decide) (fun K hK => ?_)
      refine goes_ Try.func69 (by kernel_rfl) rfl #[.slice Ao1 ds.length co1, .int .i64 b] (by rfl) rfl rfl (by (try simp only [List.map_toArray, List.map_cons, List.map_nil]); first | done | rfl | (simp only [List.length_drop, List.length_take]; rfl)) ?_
      refine (spec_dgCounts.calls k _ _ ds b cs _ (Kd.R_reads' HO1.out).2.2 (Kd.R_reads' HO1.out).2.1 A2.out).mono ?_
      rintro e w12 ⟨v2, rfl, ho, hb⟩
      obtain ⟨Ao2, co2, eo2⟩ := Kd.R_slice ho
      subst eo2
      refine ⟨_, rfl, ?_⟩
      have HO2 := Aside0.mk ho
      have n0_ := Aside0.mk (HS.out.below hb)
      clear HS
      have HS := n0_
      clear n0_
      have hh_ := (hb.cell (World.block_lt_of_cell? _ _ hHeld)).trans hHeld
      clear ho hb hHeld
      refine hK.out _ _ (hh_) (fun hHeld => ?_)
      clear hK K
      refine norm_ (a' := ?_) ?_ ?_
      rotate_left
      · show Act.put _ (some 27) _ = _
        simp only [Act.put, List.setIfInBounds_toArray, List.set_cons_zero, List.set_cons_succ, i64_w, i32_w]
        rfl
      refine one_ (i := 15) (N := some 29) #[true, true, true, true, true, true, true, true, true, true, true, true, true, true, true, true, false] rfl rfl (by kernel_rfl) (by decide) (fun K hK => ?_)
      refine goes_ Try.func68 (by kernel_rfl) rfl #[.slice Ao2 cs.length co2, .slice Ac counts.length cc] (by rfl) rfl rfl (by (try simp only [List.map_toArray, List.map_cons, List.map_nil]); first | done | rfl | (simp only [List.length_drop, List.length_take]; rfl)) ?_
      refine (spec_l1Same.calls k _ _ cs _ _ counts eq_ _ (Kd.R_reads' HO2.out).2.2 (Kd.R_reads' HO2.out).2.1 (Kd.R_reads' HS.out.C).2.2 (Kd.R_reads' HS.out.C).2.1 A3.out).mono ?_
      rintro e w13 ⟨rfl, hd⟩
      refine ⟨_, rfl, ?_⟩
      have n0_ := Aside0.mk (HS.out.below hd.below)
      clear HS
      have HS := n0_
      clear n0_
      have hh_ := (hd.below.cell (World.block_lt_of_cell? _ _ hHeld)).trans hHeld
      clear hd hHeld
      refine hK.out _ _ (hh_) (fun hHeld => ?_)
      clear hK K
      refine norm_ (a' := ?_) ?_ ?_
      rotate_left
      · show Act.put _ (some 29) _ = _
        simp only [Act.put, List.setIfInBounds_toArray, List.set_cons_zero, List.set_cons_succ, i64_w, i32_w]
        rfl
      refine pure_ (i := 16) (N := some 30) (v := ?_) (a' := ?_) #[true, true, true, true, true, true, true, true, true, true, true, true, true, true, true, true, true] rfl rfl (by kernel_rfl) (fun _ _ _ h => h) (Or.inl ⟨by rfl, ?_⟩) ?_ ?_
      rotate_left
      · intro w'
        go_simp
        with_reducible rfl
      rotate_left
      · simp only [Act.put, List.setIfInBounds_toArray, List.set_cons_zero, List.set_cons_succ, i64_w, i32_w]
        rfl
      refine done_ (by kernel_rfl) ?_
      have h := H.out
      clear H HO1 HO2 HB1 hHeld
      cases eq_ with
      | false =>
        rw [if_neg (by decide)] at h
        obtain rfl := Option.some.inj h
        go_wp2
        (try simp only [Exit.inBlock, Exit.then]); refine bodyPost_ret (results_none rfl _ _ _) rfl ?_
        exact ⟨rfl, HS.out⟩
      | true =>
        rw [if_pos rfl] at h
        have A4 := Aside0.mk h
        clear h
        obtain ⟨vf, hg, hR⟩ := HS.out.F
        obtain ⟨Af, cf, ef⟩ := Kd.R_slice hR
        subst ef
        have hc2 := (blk_cell hg 2).trans (rfl : _ = some _)
        have HG := Aside0.mk hg
        have HR := Aside0.mk hR
        clear hg hR
        go_wp2_with (first | (go_at_call 71; refine (spec_l1Put.calls k _ _ found sum r w0 _ HS.out.B HR.out A4.out).mono ?_; rintro e w14 ⟨v3, rfl, ho, hb, hk⟩; obtain ⟨Ao3, co3, eo3⟩ := Kd.R_slice ho; subst eo3; have hbk := blk_kept HG.out hk (fun hp => hp.elim HS.out.gP.1 (fun h1 => by have := HS.out.gP.2; omega)); have hfz := blk_frozen hbk 2; have hcz := (blk_cell hbk 2).trans (rfl : _ = some _); clear hbk; have n0_ := Aside0.mk (HS.out.put (fun k hk => hk) HG.out ho hb hk); clear HS HG HR ho hb hk; have HS := n0_; clear n0_))
        (try simp only [Exit.inBlock, Exit.then]); refine bodyPost_ret (results_none rfl _ _ _) rfl ?_
        exact ⟨rfl, HS.out⟩
    · rw [if_neg c1] at h
      cases h
  · rw [if_neg c0] at h
    have c0b0 : decide (left = 0) = false := decide_eq_false c0
    have c0b1 : (left == 0) = false := by simpa using c0
    clear c0
    have H' := Aside0.mk h
    clear h
    go_enter Try.func35, Try.ntmps35
    go_wp2
    go_loopg [10] k (fun kq v10 w' => ∃ (fo_1 : List Int) (d_1 : Int), v10 = .int .i64 d_1 ∧ Aside0 (spec_try.l0 kq b p left most sum counts fo_1 d_1 = some r) ∧ Aside0 (kq ≤ k) ∧ Aside0 (TrSt w0 w g b p P okc (.slice Ac counts.length cc) counts fo_1 w'))
    case atStart => exact ⟨found, 0, rfl, H', ⟨Nat.le_refl _⟩, ⟨by first | exact HS.out | exact HS.out.drew | exact HS.out.drewN _⟩⟩
    case round =>
      clear H' HS
      obtain ⟨fo_1, d_1, rfl, HA, HK1, HS⟩ := hrel
      cases gk with
      | zero => exact absurd HA.out (by simp [spec_try.l0])
      | succ k1 =>
        have h := HA.out
        clear HA
        rw [spec_try.l0] at h
        by_cases c2 : d_1 ≤ most
        · rw [if_pos c2] at h
          have c2b0 : decide (d_1 ≤ most) = true := decide_eq_true c2
          clear c2
          obtain ⟨nx, a1, h⟩ := Option.bind_eq_some_iff.mp h
          by_cases c3 : 0 ≤ d_1
          · rw [if_pos c3] at h
            by_cases c4 : d_1 < (nx.length : Int)
            · rw [if_pos c4] at h
              obtain ⟨q, a2, h⟩ := Option.bind_eq_some_iff.mp h
              obtain ⟨fo, a3, h⟩ := Option.bind_eq_some_iff.mp h
              have A1 := Aside0.mk a1
              have A2 := Aside0.mk a2
              have A3 := Aside0.mk a3
              have H' := Aside0.mk h
              clear a1 a2 a3 h
              have c3b := Aside0.mk c3
              have c4b := Aside0.mk c4
              clear c3 c4
              have p12 : 0 ≤ d_1 := c3b.out
              have q12 : d_1 < ((nx.length : Int) : Int) := c4b.out
              have pb : decide (0 ≤ d_1) = true := decide_eq_true c3b.out
              have qb : decide (d_1 < (nx.length : Int)) = true := decide_eq_true c4b.out
              have hpos : 0 < nx.length := by omega
              replace p12 := eq_true p12
              replace q12 := eq_true q12
              have HPOS := Aside0.mk hpos
              clear hpos
              go_wp2_with (first | (go_at_call 72; refine (spec_l1Own.calls _ _ counts nx _ (Kd.R_reads' HS.out.C).2.2 (Kd.R_reads' HS.out.C).2.1 A1.out).mono ?_; rintro e w5 ⟨vn, rfl, ho, hb⟩; have HD := Aside0.mk (TrDn.start HS.out ho hb); obtain ⟨gn, cn, en, gbn, gln, cln, HGn⟩ := Kd.R_form HD.out.N HPOS.out; subst en; obtain ⟨hx12_0, hf12_0⟩ := Kd.R_celln 0 HD.out.N d_1 c3b.out c4b.out; have HP14 := Kd.R_putg HD.out.N d_1 (wrap64 ((rd nx d_1) + 1)); clear HS ho hb gbn gln HGn) | ((with_reducible refine gate_store (t := 3) (p := 52) rfl ?_); refine store_event (t := 3) (p := 52) (v := ?vo_w15) (w1 := (w5.setCell ⟨gn, d_1.toNat, none⟩ (.int .i64 (wrap64 ((rd nx d_1) + 1))))) ?hg ?ho ?hn ?hr ?_; (case ho => rfl); (case hg => rfl); (case hn => rfl); (case hr => first | (go_simp; done) | (go_simp; rfl)); intro w15 hw; have n0_ := Aside0.mk (HD.out.set (gn := gn) rfl (by rw [hw]; exact HP14.1) (by rw [hw]; exact HP14.2) : TrDn w0 w _ g b p P okc _ counts fo_1 _ _ w15); clear HP14 HD hw hx12_0 hf12_0; have HD := n0_; clear n0_; have hc1 := HD.out.S.cell1) | (go_at_call 65; refine (spec_pwOf.calls k1 d_1 p q _ A2.out).mono ?_; rintro e w6 ⟨rfl, hd⟩; have n0_ := Aside0.mk (HD.out.below hd.below); clear HD hd; have HD := n0_; clear n0_) | (go_at_call 35; refine (HIH.out k1 (by have := HK1.out; omega) w0 _ g b p _ _ _ _ _ _ fo_1 (wrap64 (left - 1)) d_1 (wrap64 (sum + q)) fo HD.out.enter A3.out).mono ?_; rintro e w7 ⟨rfl, h2⟩; have n0_ := Aside0.mk (HD.out.back h2); clear HD h2; have HS := n0_; clear n0_))
              go_roundg k1
              case measure => have := HK1.out; omega
              case rel => exact ⟨fo, wrap64 (d_1 + 1), (by first | rfl | (simp; done) | (simp [*]; done)), H', ⟨by have := HK1.out; omega⟩, ⟨by first | exact HS.out | exact HS.out.drew | exact HS.out.drewN _⟩⟩
            · rw [if_neg c4] at h
              cases h
          · rw [if_neg c3] at h
            cases h
        · rw [if_neg c2] at h
          have c2b0 : decide (d_1 ≤ most) = false := decide_eq_false c2
          clear c2
          obtain rfl := Option.some.inj h
          go_wp2
          go_end0
          exact ⟨rfl, by first | exact HS.out | exact HS.out.drew | exact HS.out.drewN _⟩
structure OwSt (w0 : World) (g : Nat) (b p : Int) (found : List Int) (W : World) : Prop where
  B : Below w0.heap.size w0 W
  g0 : w0.heap.size ≤ g
  F : ∃ vf, W.heap[g]? = some (.cells #[.int .i64 b, .int .i64 p, vf] 47 (0, 0)) ∧ Kd.R (Kd.int .i64) 3 W w0.heap.size (fun k => k ≠ g) vf found
section
variable {w0 W W2 : World} {g : Nat} {b p : Int} {found counts r : List Int} {vc : Value}
theorem OwSt.new (hB : Below w0.heap.size w0 W) (b p : Int) : OwSt w0 W.heap.size b p [] (W.alloc (.cells #[.int .i64 b, .int .i64 p, .slice none 0 0] 47)) :=
  ⟨below_alloc hB _, hB.size, .slice none 0 0, by simpa using heap_alloc_new W _, Kd.R_nil _ _ _ _ _⟩
theorem OwSt.below (h : OwSt w0 g b p found W) (hb : Below W.heap.size W W2) : OwSt w0 g b p found W2 := by
  obtain ⟨vf, hg, hR⟩ := h.F
  exact ⟨below_step h.B hb, h.g0, vf, (hb.block g (blk_lt hg)).trans hg, Kd.R_below hR hb⟩
theorem OwSt.drewN (h : OwSt w0 g b p found W) (m : Nat) : OwSt w0 g b p found (W.drewN m) := h.below (pw_below_drewN (Below.refl _ _) m)
theorem OwSt.drew (h : OwSt w0 g b p found W) : OwSt w0 g b p found W.drew := h.below (below_drew (Below.refl _ _))
theorem OwSt.enter (h : OwSt w0 g b p found W) (ho : Kd.R (Kd.int .i64) 3 W2 W.heap.size (fun _ => True) vc counts) (hb : Below W.heap.size W W2) : TrSt w0 W2 g b p (fun k => k ≠ g ∧ k < W.heap.size) (fun k => W.heap.size ≤ k ∧ k < W2.heap.size) vc counts found W2 := by
  obtain ⟨vf, hg, hR⟩ := h.F
  have hlt := blk_lt hg
  have hsz := hb.size
  refine ⟨below_step h.B hb, h.g0, Kept.refl _ _, ⟨vf, (hb.block g hlt).trans hg, Kd.R_below (Kd.R_mono (Kd.R_bound hR) (fun k hk => .inl ⟨hk.1, hk.2.2.1⟩)) hb⟩, Kd.R_lower (Kd.R_mono (Kd.R_bound ho) (fun k hk => ⟨hk.2.1, hk.2.2.1⟩)) h.B.size, fun k hk => ⟨hk.2, fun h2 => by omega, by omega⟩, ⟨fun h2 => h2.1 rfl, by omega⟩⟩
theorem OwSt.back (h : OwSt w0 g b p found W) (hb : Below W.heap.size W W2) {okc : Nat → Prop} {W3 : World} (h2 : TrSt w0 W2 g b p (fun k => k ≠ g ∧ k < W.heap.size) okc vc counts r W3) : OwSt w0 g b p r W3 := by
  obtain ⟨vf, hg, hR⟩ := h2.F
  have h3 := h2.gP.2
  refine ⟨h2.B, h.g0, vf, hg, Kd.R_mono hR (fun k hk => ?_)⟩
  rcases hk with hk | hk
  · exact hk.1
  · omega
end
def spec_Narcissistic.f (k : Nat) (a0 a1 : Int) : Option (List Int × Bool) := (spec_l1In.f a0 1 6).bind fun t1 => if t1 = true then ((spec_l1In.f a1 2 10).bind fun t2 => if t2 = true then (if 0 ≤ a1 ∧ a1.toNat ≤ 35184372088832 then (spec_try.f k a1 a0 a0 (wrap64 (a1 - 1)) 0 (List.replicate a1.toNat 0) []).bind fun r => some (r, true) else none) else some ([], false)) else some ([], false)
theorem spec_Narcissistic.mono : ∀ a0 a1 k, LeO (spec_Narcissistic.f k a0 a1) (spec_Narcissistic.f (k + 1) a0 a1) := fun a0 a1 k => by
  unfold spec_Narcissistic.f
  exact LeO.bind (LeO.refl _) (fun t1 => LeO.ite (LeO.bind (LeO.refl _) (fun t2 => LeO.ite (LeO.ite (LeO.bind ((spec_try.mono_l k).1 _ _ _ _ _ _ _) (fun _ => LeO.refl _)) (LeO.none _)) (LeO.refl _))) (LeO.refl _))
set_option maxHeartbeats 8000000 in
set_option maxRecDepth 100000 in
theorem spec_Narcissistic.calls (k : Nat) (a0 a1 : Int) (r1 : List Int) (r2 : Bool) (w : World) (h : spec_Narcissistic.f k a0 a1 = some (r1, r2)) :
    Calls Try.prog 8 #[.int .i64 a0, .int .i64 a1] w fun e w' => ∃ v0_ : Value, e = .returned (.tuple #[v0_, .bool r2]) ∧ Kd.R (Kd.int .i64) 3 w' w.heap.size (fun _ => True) v0_ r1 ∧ Below w.heap.size w w' := by
  unfold spec_Narcissistic.f at h
  obtain ⟨t1, a1_, h⟩ := Option.bind_eq_some_iff.mp h
  have A1 := Aside0.mk a1_
  clear a1_
  cases t1 with
  | false =>
    rw [if_neg (by decide)] at h
    simp only [Option.some.injEq, Prod.mk.injEq] at h
    obtain ⟨rfl, rfl⟩ := h
    go_enter Try.func8, Try.ntmps8
    go_wp2_with (first | (go_at_call 34; (with_reducible refine (spec_l1In.calls a0 1 6 false _ A1.out).mono ?_); rintro e w' ⟨rfl, ⟨nd, rfl⟩⟩; (try first | exact ⟨rfl, _, World.drewN_drewN _ _ _⟩ | exact ⟨rfl, _, Eq.trans (World.drewN_drewN _ _ _) (congrArg (World.drewN _) (Nat.add_assoc _ _ _))⟩)))
    repeat (go_quiet (first | (go_at_call 34; (with_reducible refine (spec_l1In.calls a0 1 6 false _ A1.out).mono ?_); rintro e w' ⟨rfl, ⟨nd, rfl⟩⟩; (try first | exact ⟨rfl, _, World.drewN_drewN _ _ _⟩ | exact ⟨rfl, _, Eq.trans (World.drewN_drewN _ _ _) (congrArg (World.drewN _) (Nat.add_assoc _ _ _))⟩))); try go_wp2_with (first | (go_at_call 34; (with_reducible refine (spec_l1In.calls a0 1 6 false _ A1.out).mono ?_); rintro e w' ⟨rfl, ⟨nd, rfl⟩⟩; (try first | exact ⟨rfl, _, World.drewN_drewN _ _ _⟩ | exact ⟨rfl, _, Eq.trans (World.drewN_drewN _ _ _) (congrArg (World.drewN _) (Nat.add_assoc _ _ _))⟩))))
    go_ret2
    exact ⟨_, rfl, Kd.R_nil _ _ _ _ _, by repeat (first | (with_reducible first | exact Below.refl _ _ | apply pw_below_drewN | apply below_drew1))⟩
  | true =>
    rw [if_pos rfl] at h
    obtain ⟨t2, a2_, h⟩ := Option.bind_eq_some_iff.mp h
    have A2 := Aside0.mk a2_
    clear a2_
    cases t2 with
    | false =>
      rw [if_neg (by decide)] at h
      simp only [Option.some.injEq, Prod.mk.injEq] at h
      obtain ⟨rfl, rfl⟩ := h
      go_enter Try.func8, Try.ntmps8
      go_wp2_with (first | (go_at_call 34; (with_reducible refine (spec_l1In.calls a0 1 6 true _ A1.out).mono ?_); rintro e w' ⟨rfl, ⟨nd, rfl⟩⟩; (try first | exact ⟨rfl, _, World.drewN_drewN _ _ _⟩ | exact ⟨rfl, _, Eq.trans (World.drewN_drewN _ _ _) (congrArg (World.drewN _) (Nat.add_assoc _ _ _))⟩)) | (go_at_call 34; (with_reducible refine (spec_l1In.calls a1 2 10 false _ A2.out).mono ?_); rintro e w' ⟨rfl, ⟨nd, rfl⟩⟩; (try first | exact ⟨rfl, _, World.drewN_drewN _ _ _⟩ | exact ⟨rfl, _, Eq.trans (World.drewN_drewN _ _ _) (congrArg (World.drewN _) (Nat.add_assoc _ _ _))⟩)))
      repeat (go_quiet (first | (go_at_call 34; (with_reducible refine (spec_l1In.calls a0 1 6 true _ A1.out).mono ?_); rintro e w' ⟨rfl, ⟨nd, rfl⟩⟩; (try first | exact ⟨rfl, _, World.drewN_drewN _ _ _⟩ | exact ⟨rfl, _, Eq.trans (World.drewN_drewN _ _ _) (congrArg (World.drewN _) (Nat.add_assoc _ _ _))⟩)) | (go_at_call 34; (with_reducible refine (spec_l1In.calls a1 2 10 false _ A2.out).mono ?_); rintro e w' ⟨rfl, ⟨nd, rfl⟩⟩; (try first | exact ⟨rfl, _, World.drewN_drewN _ _ _⟩ | exact ⟨rfl, _, Eq.trans (World.drewN_drewN _ _ _) (congrArg (World.drewN _) (Nat.add_assoc _ _ _))⟩))); try go_wp2_with (first | (go_at_call 34; (with_reducible refine (spec_l1In.calls a0 1 6 true _ A1.out).mono ?_); rintro e w' ⟨rfl, ⟨nd, rfl⟩⟩; (try first | exact ⟨rfl, _, World.drewN_drewN _ _ _⟩ | exact ⟨rfl, _, Eq.trans (World.drewN_drewN _ _ _) (congrArg (World.drewN _) (Nat.add_assoc _ _ _))⟩)) | (go_at_call 34; (with_reducible refine (spec_l1In.calls a1 2 10 false _ A2.out).mono ?_); rintro e w' ⟨rfl, ⟨nd, rfl⟩⟩; (try first | exact ⟨rfl, _, World.drewN_drewN _ _ _⟩ | exact ⟨rfl, _, Eq.trans (World.drewN_drewN _ _ _) (congrArg (World.drewN _) (Nat.add_assoc _ _ _))⟩))))
      go_ret2
      exact ⟨_, rfl, Kd.R_nil _ _ _ _ _, by repeat (first | (with_reducible first | exact Below.refl _ _ | apply pw_below_drewN | apply below_drew1))⟩
    | true =>
      rw [if_pos rfl] at h
      by_cases hp : 0 ≤ a1 ∧ a1.toNat ≤ 35184372088832
      · rw [if_pos hp] at h
        obtain ⟨r, a3_, h⟩ := Option.bind_eq_some_iff.mp h
        simp only [Option.some.injEq, Prod.mk.injEq] at h
        obtain ⟨rfl, rfl⟩ := h
        obtain ⟨ys, hys⟩ : ∃ ys : List Int, ys = List.replicate a1.toNat 0 := ⟨_, rfl⟩
        rw [← hys] at a3_
        have A3 := Aside0.mk a3_
        have NY := Aside0.mk hys
        have HP := Aside0.mk hp
        clear a3_ hys hp
        go_enter Try.func8, Try.ntmps8
        go_upto_region 1 with (fail)
        go_cut [14] (fun v14 wc => v14 = .bool false ∧ Aside0 (Below w.heap.size w wc))
        case first =>
          go_wp2_with (first | (go_at_call 34; (with_reducible refine (spec_l1In.calls a0 1 6 true _ A1.out).mono ?_); rintro e w' ⟨rfl, ⟨nd, rfl⟩⟩; (try first | exact ⟨rfl, _, World.drewN_drewN _ _ _⟩ | exact ⟨rfl, _, Eq.trans (World.drewN_drewN _ _ _) (congrArg (World.drewN _) (Nat.add_assoc _ _ _))⟩)) | (go_at_call 34; (with_reducible refine (spec_l1In.calls a1 2 10 true _ A2.out).mono ?_); rintro e w' ⟨rfl, ⟨nd, rfl⟩⟩; (try first | exact ⟨rfl, _, World.drewN_drewN _ _ _⟩ | exact ⟨rfl, _, Eq.trans (World.drewN_drewN _ _ _) (congrArg (World.drewN _) (Nat.add_assoc _ _ _))⟩)))
          repeat (go_quiet (first | (go_at_call 34; (with_reducible refine (spec_l1In.calls a0 1 6 true _ A1.out).mono ?_); rintro e w' ⟨rfl, ⟨nd, rfl⟩⟩; (try first | exact ⟨rfl, _, World.drewN_drewN _ _ _⟩ | exact ⟨rfl, _, Eq.trans (World.drewN_drewN _ _ _) (congrArg (World.drewN _) (Nat.add_assoc _ _ _))⟩)) | (go_at_call 34; (with_reducible refine (spec_l1In.calls a1 2 10 true _ A2.out).mono ?_); rintro e w' ⟨rfl, ⟨nd, rfl⟩⟩; (try first | exact ⟨rfl, _, World.drewN_drewN _ _ _⟩ | exact ⟨rfl, _, Eq.trans (World.drewN_drewN _ _ _) (congrArg (World.drewN _) (Nat.add_assoc _ _ _))⟩))); try go_wp2_with (first | (go_at_call 34; (with_reducible refine (spec_l1In.calls a0 1 6 true _ A1.out).mono ?_); rintro e w' ⟨rfl, ⟨nd, rfl⟩⟩; (try first | exact ⟨rfl, _, World.drewN_drewN _ _ _⟩ | exact ⟨rfl, _, Eq.trans (World.drewN_drewN _ _ _) (congrArg (World.drewN _) (Nat.add_assoc _ _ _))⟩)) | (go_at_call 34; (with_reducible refine (spec_l1In.calls a1 2 10 true _ A2.out).mono ?_); rintro e w' ⟨rfl, ⟨nd, rfl⟩⟩; (try first | exact ⟨rfl, _, World.drewN_drewN _ _ _⟩ | exact ⟨rfl, _, Eq.trans (World.drewN_drewN _ _ _) (congrArg (World.drewN _) (Nat.add_assoc _ _ _))⟩))))
          go_meet
          case rel => exact ⟨by first | rfl | (simp; done), ⟨by repeat (first | (with_reducible first | exact Below.refl _ _ | apply pw_below_drewN | apply below_drew1))⟩⟩
        case rest =>
          obtain ⟨rfl, HB⟩ := hcut
          go_upto_region 4 with (fail)
          have HS := Aside0.mk (OwSt.new HB.out a1 a0)
          generalize hg : wc.heap.size = g at HS ⊢
          clear hg HB
          go_wp2_with (first | ((with_reducible refine gate_dst (N := 24) rfl ?_); refine Kd.R_make (Kd.int .i64) _ 3 rfl (N := 24) rfl 22 _ _ rfl a1 rfl rfl Try.underlying22 (.int .i64 0) 8 info3 rfl (by decide) (by omega) 0 (ok := fun _ => True) (okp := fun _ => True) rfl (fun _ hk => hk) trivial HP.out.1 (Nat.le_trans (Nat.mul_le_mul_right _ HP.out.2) (by omega)) (Below.refl _ _) (Nat.le_refl _) ?_; intro v5 w5 ho5 hb5 hg_ hnew_; clear hg_ hnew_; rw [← NY.out] at ho5; have HT := Aside0.mk (HS.out.enter ho5 hb5); have HB5 := Aside0.mk hb5; obtain ⟨Ay, cy, ey⟩ := Kd.R_slice ho5; subst ey; clear ho5 hb5) | (go_at_call 35; refine (spec_try.calls k w _ g a1 a0 _ _ _ _ _ ys [] a0 (wrap64 (a1 - 1)) 0 r HT.out A3.out).mono ?_; rintro e w7 ⟨rfl, h2⟩; have n0_ := Aside0.mk (HS.out.back HB5.out h2); clear HS HT HB5 h2; have HS := n0_; clear n0_; obtain ⟨vf, hgf, hRf⟩ := HS.out.F; obtain ⟨Af, cf, ef⟩ := Kd.R_slice hRf; subst ef; have hc2 := (blk_cell hgf 2).trans (rfl : _ = some _); have HR := Aside0.mk hRf; clear hgf hRf))
          go_ret2
          exact ⟨_, rfl, Kd.R_mono HR.out (fun _ _ => trivial), HS.out.B⟩
      · rw [if_neg hp] at h
        cases h
def impl_in.f (a0 : Int) (a1 : Int) (a2 : Int) : Option (Bool) := if a1 ≤ a0 then (some (decide (a0 ≤ a2))) else (some false)
set_option maxHeartbeats 8000000 in
set_option maxRecDepth 100000 in
theorem impl_in.calls (a0 : Int) (a1 : Int) (a2 : Int) (r : Bool) (w : World) (h : impl_in.f a0 a1 a2 = some r) :
    Calls Try.prog 37 #[.int .i64 a0, .int .i64 a1, .int .i64 a2] w fun e w' => e = .returned (.bool r) ∧ Drawn0 w w' := by
  have H : (if a1 ≤ a0 then (some (decide (a0 ≤ a2))) else (some false)) = some r := h
  clear h
  by_cases c4 : a1 ≤ a0
  · rw [if_pos c4] at H
    have c4b0 : decide (a1 ≤ a0) = true := decide_eq_true c4
    clear c4
    obtain rfl := Option.some.inj H
    go_enter Try.func37, Try.ntmps37
    go_wp2
    go_ret
    exact ⟨by first | rfl | (simp; done) | (simp [*]; done), by repeat (first | exact Drawn0.refl _ | apply Drawn0.step)⟩
  · rw [if_neg c4] at H
    have c4b0 : decide (a1 ≤ a0) = false := decide_eq_false c4
    clear c4
    obtain rfl := Option.some.inj H
    go_enter Try.func37, Try.ntmps37
    go_wp2
    go_ret
    exact ⟨by first | rfl | (simp; done) | (simp [*]; done), by repeat (first | exact Drawn0.refl _ | apply Drawn0.step)⟩
def impl_isSmallBase.f (a0 : Int) : Option (Bool) := (impl_in.f a0 2 10).bind fun t166 => (some t166)
set_option maxHeartbeats 8000000 in
set_option maxRecDepth 100000 in
theorem impl_isSmallBase.calls (a0 : Int) (r : Bool) (w : World) (h : impl_isSmallBase.f a0 = some r) :
    Calls Try.prog 36 #[.int .i64 a0] w fun e w' => e = .returned (.bool r) ∧ Drawn0 w w' := by
  have H : ((impl_in.f a0 2 10).bind fun t166 => (some t166)) = some r := h
  clear h
  replace H := Option.bind_eq_some_iff.mp H
  obtain ⟨t166, A20, H⟩ := H
  replace H : (some t166) = some r := H
  have A2 := Aside0.mk A20
  clear A20
  obtain rfl := Option.some.inj H
  go_enter Try.func36, Try.ntmps36
  go_wp2_with (first | ((with_reducible refine gate_callee (f := 37) rfl ?_); refine goesL_ (some 4) rfl rfl Try.func37 (by kernel_rfl) rfl #[.int .i64 a0, .int .i64 2, .int .i64 10] rfl (by (try simp only [List.map_toArray, List.map_cons, List.map_nil]); first | done | rfl | (simp only [List.length_drop, List.length_take]; rfl)) ?_; (with_reducible refine (impl_in.calls a0 2 10 t166 _ A2.out).mono ?_); rintro e w' ⟨rfl, ⟨nd, rfl⟩⟩; refine ⟨_, rfl, ?_⟩))
  go_ret
  exact ⟨by first | rfl | (simp; done) | (simp [*]; done), by repeat (first | exact Drawn0.refl _ | apply Drawn0.step)⟩
def impl_toPower.l0 : Nat → Int → Int → Int → Int → Option (Int)
  | 0, _, _, _, _ => none
  | k + 1, x0, x5, x6, x7 => if x7 < x6 then (impl_toPower.l0 k x0 (wrap64 (x5 * x0)) x6 (wrap64 (x7 + 1))) else (some x5)
def impl_toPower.f (k : Nat) (a0 : Int) (a1 : Int) : Option (Int) := impl_toPower.l0 k a0 1 a1 0
theorem impl_toPower.mono_l : ∀ k, (∀ y0 y1 y2 y3, LeO (impl_toPower.l0 k y0 y1 y2 y3) (impl_toPower.l0 (k + 1) y0 y1 y2 y3))
  | 0 => fun _ _ _ _ r h => by simp [impl_toPower.l0] at h
  | k + 1 => by
    have ih0 := impl_toPower.mono_l k
    · intro y0 y1 y2 y3
      unfold impl_toPower.l0
      repeat' first
      | (with_reducible exact ih0 _ _ _ _)
      | (with_reducible exact LeO.refl _)
      | (with_reducible exact LeO.none _)
      | (with_reducible refine LeO.ite ?_ ?_)
      | (with_reducible refine LeO.bind ?_ (fun _ => ?_))
      | exact ih0 _ _ _ _
      | exact LeO.none _
      | refine LeO.ite ?_ ?_
      | refine LeO.bind ?_ (fun _ => ?_)
theorem impl_toPower.mono : ∀ a0 a1 k, LeO (impl_toPower.f k a0 a1) (impl_toPower.f (k + 1) a0 a1) := by
  intro a0 a1 k
  have ih0 := impl_toPower.mono_l k
  unfold impl_toPower.f
  repeat' first
      | (with_reducible exact ih0 _ _ _ _)
      | (with_reducible exact LeO.refl _)
      | (with_reducible exact LeO.none _)
      | (with_reducible refine LeO.ite ?_ ?_)
      | (with_reducible refine LeO.bind ?_ (fun _ => ?_))
      | exact ih0 _ _ _ _
      | exact LeO.none _
      | refine LeO.ite ?_ ?_
      | refine LeO.bind ?_ (fun _ => ?_)
set_option maxHeartbeats 8000000 in
set_option maxRecDepth 100000 in
theorem impl_toPower.calls (k : Nat) (a0 : Int) (a1 : Int) (r : Int) (w : World) (h : impl_toPower.f k a0 a1 = some r) :
    Calls Try.prog 61 #[.int .i64 a0, .int .i64 a1] w fun e w' => e = .returned (.int .i64 r) ∧ Drawn0 w w' := by
  have H : (impl_toPower.l0 k a0 1 a1 0) = some r := h
  clear h
  have H' := Aside0.mk H
  clear H
  go_enter Try.func61, Try.ntmps61
  go_wp2
  go_loopg [5, 7] k (fun kq v5 v7 w' => ∃ (x5_1 : Int) (x7_1 : Int), v5 = .int .i64 x5_1 ∧ v7 = .int .i64 x7_1 ∧ Aside0 (impl_toPower.l0 kq a0 x5_1 a1 x7_1 = some r) ∧ Aside0 (kq ≤ k) ∧ Drawn0 w w')
  case atStart => exact ⟨(1), (0), (by first | rfl | (simp; done) | (simp [*]; done)), (by first | rfl | (simp; done) | (simp [*]; done)), H', ⟨Nat.le_refl _⟩, by repeat (first | exact Drawn0.refl _ | apply Drawn0.step)⟩
  case round =>
    clear H'
    try clear p2
    obtain ⟨x5_1, x7_1, rfl, rfl, HA, HK1, ⟨m1, rfl⟩⟩ := hrel
    cases gk with
    | zero => exact absurd HA.out (by simp [impl_toPower.l0])
    | succ k1 =>
      have H := HA.out
      clear HA
      simp only [impl_toPower.l0] at H
      by_cases c3 : x7_1 < a1
      · rw [if_pos c3] at H
        have c3b0 : decide (x7_1 < a1) = true := decide_eq_true c3
        clear c3
        have H' := Aside0.mk H
        clear H
        go_wp2
        go_roundg k1
        case measure => have := HK1.out; omega
        case rel => exact ⟨(wrap64 (x5_1 * a0)), (wrap64 (x7_1 + 1)), (by first | rfl | (simp; done) | (simp [*]; done)), (by first | rfl | (simp; done) | (simp [*]; done)), H', ⟨by have := HK1.out; omega⟩, by repeat (first | exact Drawn0.refl _ | apply Drawn0.step)⟩
      · rw [if_neg c3] at H
        have c3b0 : decide (x7_1 < a1) = false := decide_eq_false c3
        clear c3
        obtain rfl := Option.some.inj H
        go_wp2
        go_ret
        exact ⟨by first | rfl | (simp; done) | (simp [*]; done), by repeat (first | exact Drawn0.refl _ | apply Drawn0.step)⟩
def slices_Equal_int_int.l0 : Nat → List Int → List Int → Int → Int → Option (Bool)
  | 0, _, _, _, _ => none
  | k + 1, x0, x1, x12, x13 => if x13 < x12 then (if 0 ≤ x13 then (if x13 < (x0.length : Int) then (if x13 < (x1.length : Int) then (if (rd x0 x13) = (rd x1 x13) then (slices_Equal_int_int.l0 k x0 x1 x12 (wrap64 (x13 + 1))) else (some false)) else (none)) else (none)) else (none)) else (some true)
def slices_Equal_int_int.f (k : Nat) (l0 : List Int) (l1 : List Int) : Option (Bool) := if (l0.length : Int) = (l1.length : Int) then (slices_Equal_int_int.l0 k l0 l1 (l0.length : Int) 0) else (some false)
theorem slices_Equal_int_int.mono_l : ∀ k, (∀ y0 y1 y2 y3, LeO (slices_Equal_int_int.l0 k y0 y1 y2 y3) (slices_Equal_int_int.l0 (k + 1) y0 y1 y2 y3))
  | 0 => fun _ _ _ _ r h => by simp [slices_Equal_int_int.l0] at h
  | k + 1 => by
    have ih0 := slices_Equal_int_int.mono_l k
    · intro y0 y1 y2 y3
      unfold slices_Equal_int_int.l0
      repeat' first
      | (with_reducible exact ih0 _ _ _ _)
      | (with_reducible exact LeO.refl _)
      | (with_reducible exact LeO.none _)
      | (with_reducible refine LeO.ite ?_ ?_)
      | (with_reducible refine LeO.bind ?_ (fun _ => ?_))
      | exact ih0 _ _ _ _
      | exact LeO.none _
      | refine LeO.ite ?_ ?_
      | refine LeO.bind ?_ (fun _ => ?_)
theorem slices_Equal_int_int.mono : ∀ a0 a1 k, LeO (slices_Equal_int_int.f k a0 a1) (slices_Equal_int_int.f (k + 1) a0 a1) := by
  intro a0 a1 k
  have ih0 := slices_Equal_int_int.mono_l k
  unfold slices_Equal_int_int.f
  repeat' first
      | (with_reducible exact ih0 _ _ _ _)
      | (with_reducible exact LeO.refl _)
      | (with_reducible exact LeO.none _)
      | (with_reducible refine LeO.ite ?_ ?_)
      | (with_reducible refine LeO.bind ?_ (fun _ => ?_))
      | exact ih0 _ _ _ _
      | exact LeO.none _
      | refine LeO.ite ?_ ?_
      | refine LeO.bind ?_ (fun _ => ?_)
set_option maxHeartbeats 8000000 in
set_option maxRecDepth 100000 in
theorem slices_Equal_int_int.calls (k : Nat) (A0 : Option Addr) (c0 : Nat) (l0 : List Int) (A1 : Option Addr) (c1 : Nat) (l1 : List Int) (r : Bool) (w : World) (hr0 : Kd.C (Kd.int .i64) w A0 l0.length l0) (hc0 : l0.length ≤ c0) (hr1 : Kd.C (Kd.int .i64) w A1 l1.length l1) (hc1 : l1.length ≤ c1) (h : slices_Equal_int_int.f k l0 l1 = some r) :
    Calls Try.prog 75 #[.slice A0 l0.length c0, .slice A1 l1.length c1] w fun e w' => e = .returned (.bool r) ∧ Drawn0 w w' := by
  have HR0 := Aside0.mk hr0
  have HC0 := Aside0.mk hc0
  clear hr0 hc0
  have HR1 := Aside0.mk hr1
  have HC1 := Aside0.mk hc1
  clear hr1 hc1
  have H : (if (l0.length : Int) = (l1.length : Int) then (slices_Equal_int_int.l0 k l0 l1 (l0.length : Int) 0) else (some false)) = some r := h
  clear h
  by_cases c3 : (l0.length : Int) = (l1.length : Int)
  · rw [if_pos c3] at H
    have c3b0 : ((l0.length : Int) == (l1.length : Int)) = true := beq_iff_eq.mpr c3
    have c3b1 : ((l0.length : Int) != (l1.length : Int)) = false := bne_eq_false_iff_eq.mpr c3
    have c3b2 : (l0.length == l1.length) = true := by first | simpa using c3 | (simp at c3 ⊢; omega)
    clear c3
    have H' := Aside0.mk H
    clear H
    go_enter Try.func75, Try.ntmps75
    go_wp2
    repeat (go_quiet (fail); try go_wp2)
    go_loopg [13] k (fun kq v13 w' => ∃ (x13_1 : Int), v13 = .int .i64 x13_1 ∧ Aside0 (slices_Equal_int_int.l0 kq l0 l1 (l0.length : Int) x13_1 = some r) ∧ Aside0 (kq ≤ k) ∧ Drawn0 w w')
    case atStart => exact ⟨(0), (by first | rfl | (simp; done) | (simp [*]; done)), H', ⟨Nat.le_refl _⟩, by repeat (first | exact Drawn0.refl _ | apply Drawn0.step)⟩
    case round =>
      clear H'
      try clear c1
      try clear p2
      try clear c3
      try clear c3b0
      try clear c3b1
      try clear c3b2
      obtain ⟨x13_1, rfl, HA, HK1, ⟨m1, rfl⟩⟩ := hrel
      cases gk with
      | zero => exact absurd HA.out (by simp [slices_Equal_int_int.l0])
      | succ k1 =>
        have H := HA.out
        clear HA
        simp only [slices_Equal_int_int.l0] at H
        by_cases c4 : x13_1 < (l0.length : Int)
        · rw [if_pos c4] at H
          have c4b0 : decide (x13_1 < (l0.length : Int)) = true := decide_eq_true c4
          clear c4
          by_cases c5 : 0 ≤ x13_1
          · rw [if_pos c5] at H
            have c5b0 : decide (0 ≤ x13_1) = true := decide_eq_true c5
            clear c5
            by_cases c6 : x13_1 < (l0.length : Int)
            · rw [if_pos c6] at H
              have c6b0 : decide (x13_1 < (l0.length : Int)) = true := decide_eq_true c6
              clear c6
              by_cases c7 : x13_1 < (l1.length : Int)
              · rw [if_pos c7] at H
                have c7b0 : decide (x13_1 < (l1.length : Int)) = true := decide_eq_true c7
                clear c7
                by_cases c8 : (rd l0 x13_1) = (rd l1 x13_1)
                · rw [if_pos c8] at H
                  have c8b0 : ((rd l0 x13_1) == (rd l1 x13_1)) = true := beq_iff_eq.mpr c8
                  have c8b1 : ((rd l0 x13_1) != (rd l1 x13_1)) = false := bne_eq_false_iff_eq.mpr c8
                  clear c8
                  have H' := Aside0.mk H
                  clear H
                  have p167 : 0 ≤ (x13_1 : Int) := of_decide_eq_true (by first | (with_reducible assumption) | assumption)
                  have q167 : x13_1 < (l0.length : Int) := of_decide_eq_true (by first | (with_reducible assumption) | assumption)
                  obtain ⟨ad167, e167, hx167_0⟩ := Kd.at_int HR0.out x13_1 p167 q167
                  cases e167
                  replace p167 := eq_true p167
                  replace q167 := eq_true q167
                  have p168 : 0 ≤ (x13_1 : Int) := of_decide_eq_true (by first | (with_reducible assumption) | assumption)
                  have q168 : x13_1 < (l1.length : Int) := of_decide_eq_true (by first | (with_reducible assumption) | assumption)
                  obtain ⟨ad168, e168, hx168_0⟩ := Kd.at_int HR1.out x13_1 p168 q168
                  cases e168
                  replace p168 := eq_true p168
                  replace q168 := eq_true q168
                  go_wp2
                  repeat (go_quiet (fail); try go_wp2)
                  go_roundg k1
                  case measure => have := HK1.out; omega
                  case rel => exact ⟨(wrap64 (x13_1 + 1)), (by first | rfl | (simp; done) | (simp [*]; done)), H', ⟨by have := HK1.out; omega⟩, by repeat (first | exact Drawn0.refl _ | apply Drawn0.step)⟩
                · rw [if_neg c8] at H
                  have c8b0 : ((rd l0 x13_1) == (rd l1 x13_1)) = false := beq_eq_false_iff_ne.mpr c8
                  have c8b1 : ((rd l0 x13_1) != (rd l1 x13_1)) = true := bne_iff_ne.mpr c8
                  obtain rfl := Option.some.inj H
                  have p167 : 0 ≤ (x13_1 : Int) := of_decide_eq_true (by first | (with_reducible assumption) | assumption)
                  have q167 : x13_1 < (l0.length : Int) := of_decide_eq_true (by first | (with_reducible assumption) | assumption)
                  obtain ⟨ad167, e167, hx167_0⟩ := Kd.at_int HR0.out x13_1 p167 q167
                  cases e167
                  replace p167 := eq_true p167
                  replace q167 := eq_true q167
                  have p168 : 0 ≤ (x13_1 : Int) := of_decide_eq_true (by first | (with_reducible assumption) | assumption)
                  have q168 : x13_1 < (l1.length : Int) := of_decide_eq_true (by first | (with_reducible assumption) | assumption)
                  obtain ⟨ad168, e168, hx168_0⟩ := Kd.at_int HR1.out x13_1 p168 q168
                  cases e168
                  replace p168 := eq_true p168
                  replace q168 := eq_true q168
                  go_wp2
                  repeat (go_quiet (fail); try go_wp2)
                  go_ret
                  exact ⟨by first | rfl | (simp; done) | (simp [*]; done), by repeat (first | exact Drawn0.refl _ | apply Drawn0.step)⟩
              · rw [if_neg c7] at H
                exact absurd H (by simp)
            · rw [if_neg c6] at H
              exact absurd H (by simp)
          · rw [if_neg c5] at H
            exact absurd H (by simp)
        · rw [if_neg c4] at H
          have c4b0 : decide (x13_1 < (l0.length : Int)) = false := decide_eq_false c4
          clear c4
          obtain rfl := Option.some.inj H
          go_wp2
          repeat (go_quiet (fail); try go_wp2)
          go_ret
          exact ⟨by first | rfl | (simp; done) | (simp [*]; done), by repeat (first | exact Drawn0.refl _ | apply Drawn0.step)⟩
  · rw [if_neg c3] at H
    have c3b0 : ((l0.length : Int) == (l1.length : Int)) = false := beq_eq_false_iff_ne.mpr c3
    have c3b1 : ((l0.length : Int) != (l1.length : Int)) = true := bne_iff_ne.mpr c3
    have c3b2 : (l0.length == l1.length) = false := by first | simpa using c3 | (simp at c3 ⊢; omega)
    obtain rfl := Option.some.inj H
    go_enter Try.func75, Try.ntmps75
    go_wp2
    repeat (go_quiet (fail); try go_wp2)
    go_ret
    exact ⟨by first | rfl | (simp; done) | (simp [*]; done), by repeat (first | exact Drawn0.refl _ | apply Drawn0.step)⟩
end Go.Proofs.Ytehhkkbejmhcfaa.PFnOwnPowers
end
section
namespace Go.Proofs.Ytehhkkbejmhcfaa.PFnOwnPowers
open Go.RowKit Go.Proofs.YtehhkkbejmhcfaaW.PrintWords Go.Proofs.YtehhkkbejmhcfaaW.PrintLast Go.Proofs.YtehhkkbejmhcfaaW.PrintMore
attribute [local go_sem] max2_int min2_int max_two min_two max_three min_three max_four min_four   -- for this text's walks alone
set_option linter.unusedVariables false
set_option linter.unusedSimpArgs false
def slices_Reverse_int_int.l0 : Nat → List Int → Int → Int → Option (List Int)
  | 0, _, _, _ => none
  | k + 1, x0, x2, x3 => if x2 < x3 then (if 0 ≤ x3 then (if x3 < (x0.length : Int) then (if 0 ≤ x2 then (if x2 < (x0.length : Int) then (slices_Reverse_int_int.l0 k ((x0.set (x2 : Int).toNat (rd x0 x3)).set (x3 : Int).toNat (rd x0 x2)) (wrap64 (x2 + 1)) (wrap64 (x3 - 1))) else (none)) else (none)) else (none)) else (none)) else (some x0)
def slices_Reverse_int_int.f (k : Nat) (l0 : List Int) : Option (List Int) := slices_Reverse_int_int.l0 k l0 0 (wrap64 ((l0.length : Int) - 1))
theorem slices_Reverse_int_int.mono_l : ∀ k, (∀ y0 y1 y2, LeO (slices_Reverse_int_int.l0 k y0 y1 y2) (slices_Reverse_int_int.l0 (k + 1) y0 y1 y2))
  | 0 => fun _ _ _ r h => by simp [slices_Reverse_int_int.l0] at h
  | k + 1 => by
    have ih0 := slices_Reverse_int_int.mono_l k
    · intro y0 y1 y2
      unfold slices_Reverse_int_int.l0
      repeat' first
      | (with_reducible exact ih0 _ _ _)
      | (with_reducible exact LeO.refl _)
      | (with_reducible exact LeO.none _)
      | (with_reducible refine LeO.ite ?_ ?_)
      | (with_reducible refine LeO.bind ?_ (fun _ => ?_))
      | exact ih0 _ _ _
      | exact LeO.none _
      | refine LeO.ite ?_ ?_
      | refine LeO.bind ?_ (fun _ => ?_)
theorem slices_Reverse_int_int.mono : ∀ a0 k, LeO (slices_Reverse_int_int.f k a0) (slices_Reverse_int_int.f (k + 1) a0) := by
  intro a0 k
  have ih0 := slices_Reverse_int_int.mono_l k
  unfold slices_Reverse_int_int.f
  repeat' first
      | (with_reducible exact ih0 _ _ _)
      | (with_reducible exact LeO.refl _)
      | (with_reducible exact LeO.none _)
      | (with_reducible refine LeO.ite ?_ ?_)
      | (with_reducible refine LeO.bind ?_ (fun _ => ?_))
      | exact ih0 _ _ _
      | exact LeO.none _
      | refine LeO.ite ?_ ?_
      | refine LeO.bind ?_ (fun _ => ?_)
def slices_Reverse_int_int.T3 : Bool × List (List Nat × List Nat) := (true, [([], []), ([], []), ([], []), ([], []), ([], []), ([], []), ([4, 5], [4, 5]), ([6], [6]), ([], []), ([], []), ([8, 9], [8, 9]), ([10], [10]), ([0, 1, 0, 1, 4, 5, 6, 7, 11], [0, 1]), ([12, 7, 0, 1, 4, 5, 6, 7, 11], [7, 12]), ([2, 3, 0, 1, 2, 3, 4, 5, 6, 7, 8, 9, 10, 11, 12, 13], [2, 3]), ([14, 11, 13, 0, 1, 2, 3, 4, 5, 6, 7, 8, 9, 10, 11, 12, 13], [11, 14])])
def slices_Reverse_int_int.B3 : List Nat := [0, 0, 0, 0, 0, 0, 48, 112, 0, 0, 768, 1792, 4083, 8179, 16383, 32767]
theorem slices_Reverse_int_int.tab3 : rtab .any (opsOf Try.f86 3) = slices_Reverse_int_int.T3 := by kernel_rfl
theorem slices_Reverse_int_int.bits3 : waitsOk slices_Reverse_int_int.T3.2 slices_Reverse_int_int.B3 = true := by kernel_rfl
set_option maxHeartbeats 8000000 in
set_option maxRecDepth 100000 in
theorem slices_Reverse_int_int.calls (k : Nat) (P0_ : Nat → Prop) (u9000_ : Value) (l0 : List Int) (r : List Int) (w0 w : World) (hB : Below w0.heap.size w0 w) (ho0 : Kd.R (Kd.int .i64) 3 w w0.heap.size P0_ u9000_ l0) (h : slices_Reverse_int_int.f k l0 = some r) :
    Calls Try.prog 86 #[u9000_] w fun e w' => e = .returned (.tuple #[]) ∧ Kd.R (Kd.int .i64) 3 w' w0.heap.size (fun k_ => (P0_ k_ ∨ w.heap.size ≤ k_)) u9000_ r ∧ Below w0.heap.size w0 w' ∧ Kept w w' (fun k_ => P0_ k_) := by
  have HO0 := Aside0.mk (show Kd.R (Kd.int .i64) 3 w w0.heap.size (fun k_ => (P0_ k_ ∨ w.heap.size ≤ k_)) u9000_ l0 from Kd.R_mono ho0 (fun k_ hk => (.inl hk)))
  have HK := Aside0.mk (Kept.refl w (fun k_ => P0_ k_))
  have HW0 := Aside0.mk hB.size
  have HB := Aside0.mk hB
  clear hB
  have H : (slices_Reverse_int_int.l0 k l0 0 (wrap64 ((l0.length : Int) - 1))) = some r := h
  clear h
  have H' := Aside0.mk H
  clear H
  obtain ⟨Ao2, co2, eo2⟩ := Kd.R_slice HO0.out
  subst eo2
  go_enter Try.func86, Try.ntmps86
  go_wp2
  go_loopg [2, 3] k (fun kq v2 v3 w' => ∃ (x0_1 : List Int) (x2_1 : Int) (x3_1 : Int), v2 = .int .i64 x2_1 ∧ v3 = .int .i64 x3_1 ∧ Aside0 (slices_Reverse_int_int.l0 kq x0_1 x2_1 x3_1 = some r) ∧ Aside0 (kq ≤ k) ∧ Aside0 (Kd.R (Kd.int .i64) 3 w' w0.heap.size (fun k_ => (P0_ k_ ∨ w.heap.size ≤ k_)) (.slice Ao2 l0.length co2) x0_1) ∧ Aside0 (Kept w w' (fun k_ => P0_ k_)) ∧ Aside0 (Below w0.heap.size w0 w'))
  case atStart => exact ⟨(l0), (0), (wrap64 ((l0.length : Int) - 1)), (by first | rfl | (simp; done) | (simp [*]; done)), (by first | rfl | (simp; done) | (simp [*]; done)), H', ⟨Nat.le_refl _⟩, ⟨by (with_reducible repeat (first | apply Kd.R_alloc | apply Kd.R_drewN | apply Kd.R_drew)); exact HO0.out⟩, ⟨by repeat (first | (with_reducible first | exact HK.out | apply Kept.alloc | apply Kept.drewN | apply Kept.drew) | exact HK.out)⟩, ⟨by repeat (first | (with_reducible first | exact HB.out | apply below_alloc | apply pw_below_drewN | apply below_drew1) | exact HB.out)⟩⟩
  case round =>
    clear H'
    try clear p2
    obtain ⟨x0_1, x2_1, x3_1, rfl, rfl, HA, HK1, HO_0, HK, HB⟩ := hrel
    have hl0_1 := (Kd.R_reads' HO_0.out).1
    rw [hl0_1] at HO_0
    (try simp only [hl0_1])
    cases gk with
    | zero => exact absurd HA.out (by simp [slices_Reverse_int_int.l0])
    | succ k1 =>
      have H := HA.out
      clear HA
      simp only [slices_Reverse_int_int.l0] at H
      by_cases c3 : x2_1 < x3_1
      · rw [if_pos c3] at H
        have c3b0 : decide (x2_1 < x3_1) = true := decide_eq_true c3
        clear c3
        by_cases c4 : 0 ≤ x3_1
        · rw [if_pos c4] at H
          have c4b0 : decide (0 ≤ x3_1) = true := decide_eq_true c4
          clear c4
          by_cases c5 : x3_1 < (x0_1.length : Int)
          · rw [if_pos c5] at H
            have c5b0 : decide (x3_1 < (x0_1.length : Int)) = true := decide_eq_true c5
            clear c5
            by_cases c6 : 0 ≤ x2_1
            · rw [if_pos c6] at H
              have c6b0 : decide (0 ≤ x2_1) = true := decide_eq_true c6
              clear c6
              by_cases c7 : x2_1 < (x0_1.length : Int)
              · rw [if_pos c7] at H
                have c7b0 : decide (x2_1 < (x0_1.length : Int)) = true := decide_eq_true c7
                clear c7
                obtain ⟨y171, hy171⟩ : ∃ y_ : List Int, y_ = (x0_1.set (x2_1 : Int).toNat (rd x0_1 x3_1)) := ⟨_, rfl⟩
                replace H : (slices_Reverse_int_int.l0 k1 (y171.set (x3_1 : Int).toNat (rd x0_1 x2_1)) (wrap64 (x2_1 + 1)) (wrap64 (x3_1 - 1))) = some r := by first | (rw [hy171]; with_reducible exact H) | (have H2_ := (Option.bind_some _ _).symm.trans H; rw [hy171]; with_reducible exact H2_) | (have H2_ := (Option.bind_some _ _).symm.trans H; with_reducible exact H2_) | with_reducible exact H | (rw [hy171]; exact H) | exact H
                have Ny171 := Aside0.mk hy171
                clear hy171
                obtain ⟨y172, hy172⟩ : ∃ y_ : List Int, y_ = (y171.set (x3_1 : Int).toNat (rd x0_1 x2_1)) := ⟨_, rfl⟩
                replace H : (slices_Reverse_int_int.l0 k1 y172 (wrap64 (x2_1 + 1)) (wrap64 (x3_1 - 1))) = some r := by first | (rw [hy172]; with_reducible exact H) | (have H2_ := (Option.bind_some _ _).symm.trans H; rw [hy172]; with_reducible exact H2_) | (have H2_ := (Option.bind_some _ _).symm.trans H; with_reducible exact H2_) | with_reducible exact H | (rw [hy172]; exact H) | exact H
                have Ny172 := Aside0.mk hy172
                clear hy172
                have H' := Aside0.mk H
                clear H
                try go_wp2
                have n0_ := Aside0.mk (Kd.R_drew HO_0.out)
                have n1_ := Aside0.mk (Kept.drew HK.out)
                have n2_ := Aside0.mk (below_drew1 HB.out)
                clear HO_0
                clear HK
                clear HB
                have HO_0 := n0_
                have HK := n1_
                have HB := n2_
                clear n0_ n1_ n2_
                have p169 : 0 ≤ (x3_1 : Int) := of_decide_eq_true (by first | (with_reducible assumption) | assumption)
                have q169 : x3_1 < (x0_1.length : Int) := of_decide_eq_true (by first | (with_reducible assumption) | assumption)
                obtain ⟨ad169, e169, hx169_0⟩ := Kd.at_int (Kd.R_reads' HO_0.out).2.2 x3_1 p169 q169
                cases e169
                replace p169 := eq_true p169
                replace q169 := eq_true q169
                have p170 : 0 ≤ (x2_1 : Int) := of_decide_eq_true (by first | (with_reducible assumption) | assumption)
                have q170 : x2_1 < (x0_1.length : Int) := of_decide_eq_true (by first | (with_reducible assumption) | assumption)
                obtain ⟨ad170, e170, hx170_0⟩ := Kd.at_int (Kd.R_reads' HO_0.out).2.2 x2_1 p170 q170
                obtain rfl : ad169 = ad170 := (by injection e170)
                replace p170 := eq_true p170
                replace q170 := eq_true q170
                have p8 : 0 ≤ (x2_1 : Int) := of_decide_eq_true (by first | (with_reducible assumption) | assumption)
                have q8 : (x2_1 : Int) < ((x0_1.length : Int) : Int) := of_decide_eq_true (by first | (with_reducible assumption) | assumption)
                obtain ⟨go8, co8, eo8, gb8, gl8, cl8, HG8⟩ := Kd.R_form HO_0.out (by omega)
                (first | cases eo8 | (injection eo8 with ea_ en_ ec_; (first | subst ea_ | (injection ea_ with ea_; subst ea_)); subst ec_; clear en_))
                have GB8 := Aside0.mk gb8
                have GG8 := Aside0.mk HG8
                clear gb8 gl8 HG8
                have HMgo8 := Aside0.mk (show (P0_ go8 ∨ w.heap.size ≤ go8) from (HO_0.out.1 _ rfl))
                (first | simp only [add_plain] at hx169_0 | skip)
                (first | simp only [add_plain] at hx170_0 | skip)
                obtain ⟨hx8_0, hf8_0⟩ := Kd.R_celln 0 HO_0.out (x2_1 : Int) p8 q8
                replace p8 := eq_true p8
                replace q8 := eq_true q8
                have HP11 := Kd.R_putn HO_0.out (x2_1 : Int) (rd x0_1 x3_1)
                rw [← Ny171.out] at HP11
                have HQ11 := Aside0.mk HP11
                clear HP11
                have p9 : 0 ≤ (x3_1 : Int) := of_decide_eq_true (by first | (with_reducible assumption) | assumption)
                have q9 : (x3_1 : Int) < ((x0_1.length : Int) : Int) := of_decide_eq_true (by first | (with_reducible assumption) | assumption)
                obtain ⟨hx9_0, hf9_0⟩ := Kd.R_celln 0 HQ11.out (x3_1 : Int) p9 q9
                (try simp only [Int.toNat_zero] at hx9_0 hf9_0)
                (try rw [World.frozen?_setCell] at hf9_0)
                replace p9 := eq_true p9
                replace q9 := eq_true q9
                have HP12 := Kd.R_putn HQ11.out (x3_1 : Int) (rd x0_1 x2_1)
                rw [← Ny172.out] at HP12
                have HQ12 := Aside0.mk HP12
                clear HP12
                refine start_ (n := 16) (S := fun w' => w'.cell? ⟨go8, (x3_1).toNat, none⟩ = some (.int .i64 (rd x0_1 x3_1)) ∧ w'.cell? ⟨go8, (x2_1).toNat, none⟩ = some (.int .i64 (rd x0_1 x2_1))) (ds := [13, 15]) #[false, false, false, false, false, false, false, false, false, false, false, false, false, false, false, false] (by kernel_rfl) rfl rfl ⟨hx169_0, hx170_0⟩ (fun hHeld => ?_); refine with_tabW slices_Reverse_int_int.tab3 slices_Reverse_int_int.bits3 (fun HT_ HW_ => ?_)
                generalize wr.drew = w10 at HO_0 HK HB GG8 HQ11 HQ12 hf8_0 hf9_0 hx169_0 hx170_0 hx8_0 hx9_0 hHeld ⊢
                refine pure_ (i := 0) (N := some 14) (v := ?_) (a' := ?_) #[true, false, false, false, false, false, false, false, false, false, false, false, false, false, false, false] rfl rfl (any_of HT_.out (by kernel_rfl)) (fun _ _ _ h => h) (Or.inl ⟨by rfl, ?_⟩) ?_ ?_
                rotate_left
                · intro w'
                  go_simp
                  with_reducible rfl
                rotate_left
                · simp only [Act.put, List.setIfInBounds_toArray, List.set_cons_zero, List.set_cons_succ, i64_w, i32_w]
                  rfl
                refine pure_ (i := 1) (N := some 15) (v := ?_) (a' := ?_) #[true, true, false, false, false, false, false, false, false, false, false, false, false, false, false, false] rfl rfl (any_of HT_.out (by kernel_rfl)) (fun _ _ _ h => h) (Or.inl ⟨by rfl, ?_⟩) ?_ ?_
                rotate_left
                · intro w'
                  go_simp
                  with_reducible rfl
                rotate_left
                · simp only [Act.put, List.setIfInBounds_toArray, List.set_cons_zero, List.set_cons_succ, i64_w, i32_w]
                  rfl
                refine pure_ (i := 2) (N := some 16) (v := ?_) (a' := ?_) #[true, true, true, false, false, false, false, false, false, false, false, false, false, false, false, false] rfl rfl (any_of HT_.out (by kernel_rfl)) (fun _ _ _ h => h) (Or.inl ⟨by rfl, ?_⟩) ?_ ?_
                rotate_left
                · intro w'
                  go_simp
                  with_reducible rfl
                rotate_left
                · simp only [Act.put, List.setIfInBounds_toArray, List.set_cons_zero, List.set_cons_succ, i64_w, i32_w]
                  rfl
                refine pure_ (i := 3) (N := some 17) (v := ?_) (a' := ?_) #[true, true, true, true, false, false, false, false, false, false, false, false, false, false, false, false] rfl rfl (any_of HT_.out (by kernel_rfl)) (fun _ _ _ h => h) (Or.inl ⟨by rfl, ?_⟩) ?_ ?_
                rotate_left
                · intro w'
                  go_simp
                  with_reducible rfl
                rotate_left
                · simp only [Act.put, List.setIfInBounds_toArray, List.set_cons_zero, List.set_cons_succ, i64_w, i32_w]
                  rfl
                refine pure_ (i := 4) (N := some 18) (v := ?_) (a' := ?_) #[true, true, true, true, true, false, false, false, false, false, false, false, false, false, false, false] rfl rfl (any_of HT_.out (by kernel_rfl)) (fun _ _ _ h => h) (Or.inl ⟨by rfl, ?_⟩) ?_ ?_
                rotate_left
                · intro w'
                  go_simp
                  with_reducible rfl
                rotate_left
                · simp only [Act.put, List.setIfInBounds_toArray, List.set_cons_zero, List.set_cons_succ, i64_w, i32_w]
                  rfl
                refine pure_ (i := 5) (N := some 19) (v := ?_) (a' := ?_) #[true, true, true, true, true, true, false, false, false, false, false, false, false, false, false, false] rfl rfl (any_of HT_.out (by kernel_rfl)) (fun _ _ _ h => h) (Or.inl ⟨by rfl, ?_⟩) ?_ ?_
                rotate_left
                · intro w'
                  go_simp
                  with_reducible rfl
                rotate_left
                · simp only [Act.put, List.setIfInBounds_toArray, List.set_cons_zero, List.set_cons_succ, i64_w, i32_w]
                  rfl
                refine pure_ (i := 6) (N := some 20) (v := ?_) (a' := ?_) #[true, true, true, true, true, true, true, false, false, false, false, false, false, false, false, false] rfl rfl (any_of HT_.out (by kernel_rfl)) (fun _ _ _ h => h) (Or.inl ⟨by rfl, ?_⟩) ?_ ?_
                rotate_left
                · intro w'
                  go_simp
                  with_reducible rfl
                rotate_left
                · simp only [Act.put, List.setIfInBounds_toArray, List.set_cons_zero, List.set_cons_succ, i64_w, i32_w]
                  rfl
                refine pure_ (i := 8) (N := some 22) (v := ?_) (a' := ?_) #[true, true, true, true, true, true, true, false, true, false, false, false, false, false, false, false] rfl rfl (any_of HT_.out (by kernel_rfl)) (fun _ _ _ h => h) (Or.inl ⟨by rfl, ?_⟩) ?_ ?_
                rotate_left
                · intro w'
                  go_simp
                  with_reducible rfl
                rotate_left
                · simp only [Act.put, List.setIfInBounds_toArray, List.set_cons_zero, List.set_cons_succ, i64_w, i32_w]
                  rfl
                refine pure_ (i := 9) (N := some 23) (v := ?_) (a' := ?_) #[true, true, true, true, true, true, true, false, true, true, false, false, false, false, false, false] rfl rfl (any_of HT_.out (by kernel_rfl)) (fun _ _ _ h => h) (Or.inl ⟨by rfl, ?_⟩) ?_ ?_
                rotate_left
                · intro w'
                  go_simp
                  with_reducible rfl
                rotate_left
                · simp only [Act.put, List.setIfInBounds_toArray, List.set_cons_zero, List.set_cons_succ, i64_w, i32_w]
                  rfl
                refine pure_ (i := 10) (N := some 24) (v := ?_) (a' := ?_) #[true, true, true, true, true, true, true, false, true, true, true, false, false, false, false, false] rfl rfl (any_of HT_.out (by kernel_rfl)) (fun _ _ _ h => h) (Or.inl ⟨by rfl, ?_⟩) ?_ ?_
                rotate_left
                · intro w'
                  go_simp
                  with_reducible rfl
                rotate_left
                · simp only [Act.put, List.setIfInBounds_toArray, List.set_cons_zero, List.set_cons_succ, i64_w, i32_w]
                  rfl
                refine take_ (i := 7) (N := some 21) (v := ?_) (a' := ?_) #[true, true, true, true, true, true, true, true, true, true, true, false, false, false, false, false] rfl rfl (take_ofW HT_.out HW_.out (by kernel_rfl)) (fun _ _ _ h => h) (Or.inl ⟨by rfl, ?_⟩) hHeld ?_ ?_
                rotate_left
                · rintro w' ⟨s0, s1⟩
                  go_simp
                  with_reducible rfl
                rotate_left
                · simp only [Act.put, List.setIfInBounds_toArray, List.set_cons_zero, List.set_cons_succ, i64_w, i32_w]
                  rfl
                refine take_ (i := 11) (N := some 25) (v := ?_) (a' := ?_) #[true, true, true, true, true, true, true, true, true, true, true, true, false, false, false, false] rfl rfl (take_ofW HT_.out HW_.out (by kernel_rfl)) (fun _ _ _ h => h) (Or.inl ⟨by rfl, ?_⟩) hHeld ?_ ?_
                rotate_left
                · rintro w' ⟨s0, s1⟩
                  go_simp
                  with_reducible rfl
                rotate_left
                · simp only [Act.put, List.setIfInBounds_toArray, List.set_cons_zero, List.set_cons_succ, i64_w, i32_w]
                  rfl
                refine pure_ (i := 12) (N := some 26) (v := ?_) (a' := ?_) #[true, true, true, true, true, true, true, true, true, true, true, true, true, false, false, false] rfl rfl (any_of HT_.out (by kernel_rfl)) (fun _ _ _ h => h) (Or.inl ⟨by rfl, ?_⟩) ?_ ?_
                rotate_left
                · intro w'
                  go_simp
                  with_reducible rfl
                rotate_left
                · simp only [Act.put, List.setIfInBounds_toArray, List.set_cons_zero, List.set_cons_succ, i64_w, i32_w]
                  rfl
                refine last_ (i := 13) (N := none) #[true, true, true, true, true, true, true, true, true, true, true, true, true, true, false, false] rfl rfl (one_of HT_.out (by kernel_rfl)) (by decide) (fun K hK => ?_)
                refine skip_ (w1 := ?_) (by rfl) rfl ?_ ?_
                rotate_left
                · go_simp
                  rfl
                refine hK.out _ _ ?_
                clear hK K
                refine pure_ (i := 14) (N := some 27) (v := ?_) (a' := ?_) #[true, true, true, true, true, true, true, true, true, true, true, true, true, true, true, false] rfl rfl (any_of HT_.out (by kernel_rfl)) (fun _ _ _ h => h) (Or.inl ⟨by rfl, ?_⟩) ?_ ?_
                rotate_left
                · intro w'
                  go_simp
                  with_reducible rfl
                rotate_left
                · simp only [Act.put, List.setIfInBounds_toArray, List.set_cons_zero, List.set_cons_succ, i64_w, i32_w]
                  rfl
                refine last_ (i := 15) (N := none) #[true, true, true, true, true, true, true, true, true, true, true, true, true, true, true, true] rfl rfl (one_of HT_.out (by kernel_rfl)) (by decide) (fun K hK => ?_)
                refine skip_ (w1 := ?_) (by rfl) rfl ?_ ?_
                rotate_left
                · go_simp
                  rfl
                refine hK.out _ _ ?_
                clear hK K
                refine done_ (done_of HT_.out (by kernel_rfl)) ?_
                try go_wp2
                (try simp only [← hl0_1])
                go_roundg k1
                case measure => have := HK1.out; omega
                case rel => exact ⟨(y172), (wrap64 (x2_1 + 1)), (wrap64 (x3_1 - 1)), (by first | rfl | (simp; done) | (simp [*]; done)), (by first | rfl | (simp; done) | (simp [*]; done)), H', ⟨by have := HK1.out; omega⟩, ⟨by (try simp only [hl0_1]); (with_reducible repeat (first | apply Kd.R_alloc | apply Kd.R_drewN | apply Kd.R_drew)); exact HQ12.out⟩, ⟨by repeat (first | (with_reducible first | exact HK.out | apply Kept.alloc | apply Kept.drewN | apply Kept.drew | refine Kept.setCell ?_ HMgo8.out _ | refine Kept.setCell ?_ HMgo8.out _) | exact HK.out)⟩, ⟨by repeat (first | (with_reducible first | exact HB.out | apply below_alloc | apply pw_below_drewN | apply below_drew1 | refine below_set ?_ GB8.out | refine below_set ?_ GB8.out) | exact HB.out)⟩⟩
              · rw [if_neg c7] at H
                exact absurd H (by simp)
            · rw [if_neg c6] at H
              exact absurd H (by simp)
          · rw [if_neg c5] at H
            exact absurd H (by simp)
        · rw [if_neg c4] at H
          exact absurd H (by simp)
      · rw [if_neg c3] at H
        have c3b0 : decide (x2_1 < x3_1) = false := decide_eq_false c3
        clear c3
        obtain rfl := Option.some.inj H
        go_wp2
        first | go_end0 | ((try simp only [Exit.inBlock, Exit.then]); refine bodyPost_ret (results_none rfl _ _ _) rfl ?_)
        exact ⟨by first | rfl | (simp [errW_none, errW_some] <;> rfl) | (simp [*, errW_none, errW_some] <;> rfl), (by first | exact (by (with_reducible repeat (first | apply Kd.R_alloc | apply Kd.R_drewN | apply Kd.R_drew)); exact HO_0.out) | (simp only [hl0_1]; exact (by (with_reducible repeat (first | apply Kd.R_alloc | apply Kd.R_drewN | apply Kd.R_drew)); exact HO_0.out))), by repeat (first | (with_reducible first | exact HB.out | apply below_alloc | apply pw_below_drewN | apply below_drew1) | exact HB.out), by repeat (first | (with_reducible first | exact HK.out | apply Kept.alloc | apply Kept.drewN | apply Kept.drew) | exact HK.out)⟩
def impl_digitsOf.l0 : Nat → Int → Int → List Int → Option (List Int)
  | 0, _, _, _ => none
  | k + 1, x0, x1, x5 => if x0 > 0 then (if x1 = 0 then (none) else (if x5.length < 17592186044416 then (impl_digitsOf.l0 k (wrap64 (Int.tdiv x0 x1)) x1 (x5 ++ [Int.tmod x0 x1])) else (none))) else ((slices_Reverse_int_int.f k x5).bind fun t179 => (some t179))
def impl_digitsOf.f (k : Nat) (a0 : Int) (a1 : Int) : Option (List Int) := if a1 = 0 then (none) else (impl_digitsOf.l0 k (wrap64 (Int.tdiv a0 a1)) a1 (([Int.tmod a0 a1] : List Int)))
theorem impl_digitsOf.mono_l : ∀ k, (∀ y0 y1 y2, LeO (impl_digitsOf.l0 k y0 y1 y2) (impl_digitsOf.l0 (k + 1) y0 y1 y2))
  | 0 => fun _ _ _ r h => by simp [impl_digitsOf.l0] at h
  | k + 1 => by
    have ih0 := impl_digitsOf.mono_l k
    · intro y0 y1 y2
      unfold impl_digitsOf.l0
      repeat' first
      | (with_reducible exact ih0 _ _ _)
      | (with_reducible exact slices_Reverse_int_int.mono _ _)
      | (with_reducible exact LeO.refl _)
      | (with_reducible exact LeO.none _)
      | (with_reducible refine LeO.ite ?_ ?_)
      | (with_reducible refine LeO.bind ?_ (fun _ => ?_))
      | exact ih0 _ _ _
      | exact slices_Reverse_int_int.mono _ _
      | exact LeO.none _
      | refine LeO.ite ?_ ?_
      | refine LeO.bind ?_ (fun _ => ?_)
theorem impl_digitsOf.mono : ∀ a0 a1 k, LeO (impl_digitsOf.f k a0 a1) (impl_digitsOf.f (k + 1) a0 a1) := by
  intro a0 a1 k
  have ih0 := impl_digitsOf.mono_l k
  unfold impl_digitsOf.f
  repeat' first
      | (with_reducible exact ih0 _ _ _)
      | (with_reducible exact slices_Reverse_int_int.mono _ _)
      | (with_reducible exact LeO.refl _)
      | (with_reducible exact LeO.none _)
      | (with_reducible refine LeO.ite ?_ ?_)
      | (with_reducible refine LeO.bind ?_ (fun _ => ?_))
      | exact ih0 _ _ _
      | exact slices_Reverse_int_int.mono _ _
      | exact LeO.none _
      | refine LeO.ite ?_ ?_
      | refine LeO.bind ?_ (fun _ => ?_)
set_option maxHeartbeats 8000000 in
set_option maxRecDepth 100000 in
theorem impl_digitsOf.calls (k : Nat) (a0 : Int) (a1 : Int) (r : List Int) (w : World) (h : impl_digitsOf.f k a0 a1 = some r) :
    Calls Try.prog 67 #[.int .i64 a0, .int .i64 a1] w fun e w' => ∃ v0_ : Value, e = .returned (v0_) ∧ Kd.R (Kd.int .i64) 3 w' w.heap.size (fun _ => True) v0_ r ∧ Below w.heap.size w w' := by
  have HB := Aside0.mk (Below.refl w.heap.size w)
  have H : (if a1 = 0 then (none) else (impl_digitsOf.l0 k (wrap64 (Int.tdiv a0 a1)) a1 (([Int.tmod a0 a1] : List Int)))) = some r := h
  clear h
  by_cases c3 : a1 = 0
  · rw [if_pos c3] at H
    exact absurd H (by simp)
  · rw [if_neg c3] at H
    have c3b0 : (a1 == 0) = false := beq_eq_false_iff_ne.mpr c3
    have c3b1 : (a1 != 0) = true := bne_iff_ne.mpr c3
    obtain ⟨y173, hy173⟩ : ∃ y_ : List Int, y_ = (([Int.tmod a0 a1] : List Int)) := ⟨_, rfl⟩
    replace H : (impl_digitsOf.l0 k (wrap64 (Int.tdiv a0 a1)) a1 y173) = some r := by first | (rw [hy173]; with_reducible exact H) | (have H2_ := (Option.bind_some _ _).symm.trans H; rw [hy173]; with_reducible exact H2_) | (have H2_ := (Option.bind_some _ _).symm.trans H; with_reducible exact H2_) | with_reducible exact H | (rw [hy173]; exact H) | exact H
    have Ny173 := Aside0.mk hy173
    clear hy173
    have H' := Aside0.mk H
    clear H
    go_enter Try.func67, Try.ntmps67
    go_wp2_with (first | ((with_reducible refine gate_dst (N := 9) rfl ?_); refine Kd.R_lit (Kd.int .i64) _ 3 ?hg (N := 9) ?hd (xs := ([Int.tmod a0 a1] : List Int)) (inner := [.int .i64 (Int.tmod a0 a1)]) (ok := fun _ => True) (okp := fun _ => True) ?hr ?hp (fun _ hk => hk) trivial (Below.refl _ _) (Nat.le_refl _) (by simp) ?_; (case hd => rfl); (case hg => rfl); (case hr => first | (go_simp; done) | (go_simp; rfl)); (case hp => exact (Reps.one (show Kd.M (Kd.int .i64) _ _ _ (Int.tmod a0 a1) [.int .i64 (Int.tmod a0 a1)] from rfl) (Reps.none _ _))); intro v174 w4 ho5 hb hg_ hnew_; clear hg_ hnew_; (first | rw [← Ny173.out] at ho5 | (simp only [Int.reduceToNat] at ho5; rw [← Ny173.out] at ho5)); have n0_ := Aside0.mk (Kd.R_lower ho5 (below_size (by repeat (first | (with_reducible first | exact HB.out | apply below_alloc | apply pw_below_drewN | apply below_drew1) | exact HB.out)))); have n1_ := Aside0.mk (below_step (by repeat (first | (with_reducible first | exact HB.out | apply below_alloc | apply pw_below_drewN | apply below_drew1) | exact HB.out)) hb); clear HB; have HO175 := n0_; have HB := n1_; clear n0_ n1_; clear hb ho5))
    go_loopg [0, 5] k (fun kq v0 v5 w' => ∃ (x0_1 : Int) (x5_1 : List Int), v0 = .int .i64 x0_1 ∧ Aside0 (impl_digitsOf.l0 kq x0_1 a1 x5_1 = some r) ∧ Aside0 (kq ≤ k) ∧ Aside0 (Kd.R (Kd.int .i64) 3 w' w.heap.size (fun _ => True) v5 x5_1) ∧ Aside0 (Below w.heap.size w w'))
    case atStart => exact ⟨(wrap64 (Int.tdiv a0 a1)), (y173), (by first | rfl | (simp; done) | (simp [*]; done)), H', ⟨Nat.le_refl _⟩, ⟨by (with_reducible repeat (first | apply Kd.R_alloc | apply Kd.R_drewN | apply Kd.R_drew)); exact HO175.out⟩, ⟨by repeat (first | (with_reducible first | exact HB.out | apply below_alloc | apply pw_below_drewN | apply below_drew1) | exact HB.out)⟩⟩
    case round =>
      clear H'
      try clear p2
      try clear c3
      try clear c3b0
      try clear c3b1
      obtain ⟨x0_1, x5_1, rfl, HA, HK1, HO_5, HB⟩ := hrel
      cases gk with
      | zero => exact absurd HA.out (by simp [impl_digitsOf.l0])
      | succ k1 =>
        have H := HA.out
        clear HA
        simp only [impl_digitsOf.l0] at H
        by_cases c6 : x0_1 > 0
        · rw [if_pos c6] at H
          have c6b0 : decide (0 < x0_1) = true := decide_eq_true c6
          clear c6
          by_cases c7 : a1 = 0
          · rw [if_pos c7] at H
            exact absurd H (by simp)
          · rw [if_neg c7] at H
            have c7b0 : (a1 == 0) = false := beq_eq_false_iff_ne.mpr c7
            have c7b1 : (a1 != 0) = true := bne_iff_ne.mpr c7
            by_cases c8 : x5_1.length < 17592186044416
            · rw [if_pos c8] at H
              have LMc8 := Aside0.mk c8
              clear c8
              obtain ⟨y176, hy176⟩ : ∃ y_ : List Int, y_ = (x5_1 ++ [Int.tmod x0_1 a1]) := ⟨_, rfl⟩
              replace H : (impl_digitsOf.l0 k1 (wrap64 (Int.tdiv x0_1 a1)) a1 y176) = some r := by first | (rw [hy176]; with_reducible exact H) | (have H2_ := (Option.bind_some _ _).symm.trans H; rw [hy176]; with_reducible exact H2_) | (have H2_ := (Option.bind_some _ _).symm.trans H; with_reducible exact H2_) | with_reducible exact H | (rw [hy176]; exact H) | exact H
              have Ny176 := Aside0.mk hy176
              clear hy176
              have H' := Aside0.mk H
              clear H
              go_wp2_with (first | ((with_reducible refine gate_builtin (b := .append) (xs := #[.tmp 18, .tmp 22]) rfl ?_); at_builtin; refine Kd.R_append (Kd.int .i64) (w0 := w) w.heap.size rfl (.tmp 18) (.tmp 22) 22 3 (.int .i64 0) 8 rfl Try.underlying22 info3 rfl (by decide) (by omega) u5 x5_1 (Int.tmod x0_1 a1) [.int .i64 (Int.tmod x0_1 a1)] (fun _ => True) (fun _ => False) rfl rfl ?aP (fun _ hk => hk.elim) ?aF ?aO ?aB ?aS ?aL ?_; (case aP => exact rfl); (case aB => exact (by repeat (first | (with_reducible first | exact HB.out | apply below_alloc | apply pw_below_drewN | apply below_drew1) | exact HB.out))); (case aF => exact (fun _ _ => trivial)); (case aO => exact (by (with_reducible repeat (first | apply Kd.R_alloc | apply Kd.R_drewN | apply Kd.R_drew)); exact HO_5.out)); (case aS => exact (below_size (by repeat (first | (with_reducible first | exact HB.out | apply below_alloc | apply pw_below_drewN | apply below_drew1) | exact HB.out)))); (case aL => have := LMc8.out; omega); intro v177 w9 ho hb hg hat; rw [← Ny176.out] at ho; have n0_ := Aside0.mk (hb); have n1_ := Aside0.mk (ho); clear HB; clear HO_5; have HB := n0_; have HO178 := n1_; clear n0_ n1_; clear ho hb hg hat))
              go_roundg k1
              case measure => have := HK1.out; omega
              case rel => exact ⟨(wrap64 (Int.tdiv x0_1 a1)), (y176), (by first | rfl | (simp; done) | (simp [*]; done)), H', ⟨by have := HK1.out; omega⟩, ⟨by (with_reducible repeat (first | apply Kd.R_alloc | apply Kd.R_drewN | apply Kd.R_drew)); exact HO178.out⟩, ⟨by repeat (first | (with_reducible first | exact HB.out | apply below_alloc | apply pw_below_drewN | apply below_drew1) | exact HB.out)⟩⟩
            · rw [if_neg c8] at H
              exact absurd H (by simp)
        · rw [if_neg c6] at H
          have c6b0 : decide (0 < x0_1) = false := decide_eq_false c6
          clear c6
          replace H := Option.bind_eq_some_iff.mp H
          obtain ⟨t179, A100, H⟩ := H
          replace H : (some t179) = some r := H
          have A10 := Aside0.mk A100
          clear A100
          obtain rfl := Option.some.inj H
          obtain ⟨Ao11, co11, eo11⟩ := Kd.R_slice HO_5.out
          subst eo11
          go_wp2_with (first | ((with_reducible refine gate_callee (f := 86) rfl ?_); refine goesL_ (some 25) rfl rfl Try.func86 (by kernel_rfl) rfl #[.slice Ao11 x5_1.length co11] rfl (by (try simp only [List.map_toArray, List.map_cons, List.map_nil]); first | done | rfl | (simp only [List.length_drop, List.length_take]; rfl)) ?_; (with_reducible refine (slices_Reverse_int_int.calls k1 (fun k_ => some k_ = (.slice Ao11 x5_1.length co11 : Value).ownBlock) (.slice Ao11 x5_1.length co11) x5_1 t179 w _ ?side1 ?side2 A10.out).mono ?_); (case side1 => repeat (first | (with_reducible first | exact HB.out | apply below_alloc | apply pw_below_drewN | apply below_drew1) | exact HB.out)); (case side2 => exact Kd.R_tight rfl HO_5.out); rintro e w12 ⟨rfl, hy0, hb, hkp⟩; refine ⟨_, rfl, ?_⟩; have n0_ := Aside0.mk (Kd.R_reok rfl hy0 (fun k_ e_ => HO_5.out.1 k_ e_)); have n1_ := Aside0.mk (hb); clear HO_5; clear HB; have HO_5 := n0_; have HB := n1_; clear n0_ n1_; (try clear hb); (try clear hkp); (try clear hy0)))
          go_ret
          exact ⟨_, by first | rfl | (simp [errW_none, errW_some] <;> rfl) | (simp [*, errW_none, errW_some] <;> rfl), by (with_reducible repeat (first | apply Kd.R_alloc | apply Kd.R_drewN | apply Kd.R_drew)); exact HO_5.out, by repeat (first | (with_reducible first | exact HB.out | apply below_alloc | apply pw_below_drewN | apply below_drew1) | exact HB.out)⟩
def slices_Sort_int_int.f (l0 : List Int) : Option (List Int) := if l0.length < 4611686018427387904 then some (l0.mergeSort fun x y => decide (x ≤ y)) else none
theorem reps_ints {w : World} {base : Nat} {ok : Nat → Prop} : ∀ {l : List Int} {cs : List Value}, Reps ((Kd.int .i64).M w base ok) 1 l cs → cs = l.map (Value.int .i64) := by
  intro l cs h
  obtain ⟨h1, h2⟩ := h
  refine List.ext_getElem (by simpa using h1) (fun i hi hi2 => ?_)
  have hil : i < l.length := by simpa using hi2
  have h3 := h2 i l[i] (by simp [List.getElem?_eq_getElem hil])
  have h4 : (cs.drop (i * 1)).take 1 = [Value.int .i64 l[i]] := h3
  rw [Nat.mul_one] at h4
  have h5 : (cs.drop i).take 1 = [cs[i]] := by
    rw [List.drop_eq_getElem_cons hi]; rfl
  rw [h5] at h4
  simpa using h4
theorem ints_reps {w : World} {base : Nat} {ok : Nat → Prop} (l : List Int) : Reps ((Kd.int .i64).M w base ok) 1 l (l.map (Value.int .i64)) := by
  refine ⟨by simp, fun j p hj => ?_⟩
  obtain ⟨hj2, rfl⟩ := List.getElem?_eq_some_iff.1 hj
  show ((l.map (Value.int .i64)).drop (j * 1)).take 1 = [Value.int .i64 l[j]]
  rw [Nat.mul_one, List.drop_eq_getElem_cons (by simpa using hj2)]
  simp
theorem slices_Sort_int_int.calls (P0_ : Nat → Prop) (u9000_ : Value) (l0 : List Int) (r : List Int) (w0 w : World) (hB : Below w0.heap.size w0 w) (ho0 : Kd.R (Kd.int .i64) 3 w w0.heap.size P0_ u9000_ l0) (h : slices_Sort_int_int.f l0 = some r) :
    Calls Try.prog 77 #[u9000_] w fun e w' => e = .returned (.tuple #[]) ∧ Kd.R (Kd.int .i64) 3 w' w0.heap.size (fun k_ => (P0_ k_ ∨ w.heap.size ≤ k_)) u9000_ r ∧ Below w0.heap.size w0 w' ∧ Kept w w' (fun k_ => P0_ k_) := by
  have hc : l0.length < 4611686018427387904 ∧ (l0.mergeSort fun x y => decide (x ≤ y)) = r := by
    unfold slices_Sort_int_int.f at h
    by_cases hc : l0.length < 4611686018427387904
    · rw [if_pos hc] at h; exact ⟨hc, Option.some.inj h⟩
    · rw [if_neg hc] at h; cases h
  obtain ⟨hbig, hr⟩ := hc
  obtain ⟨hok, inner, ⟨hlen, hrow⟩, hreps⟩ := ho0
  have hin := reps_ints hreps
  subst hin
  rcases hrow with ⟨rfl, h0⟩ | ⟨g, cap, cur, rfl, hg, hb, hn, hcap, hsz, htake⟩
  · have hl : l0 = [] := List.eq_nil_of_length_eq_zero h0
    subst hl
    have hr' : r = [] := by rw [← hr]; simp
    subst hr'
    refine (Try.slices_Sort_int_none none 0 w).mono ?_
    rintro e w' ⟨rfl, rfl⟩
    exact ⟨rfl, Kd.R_nil _ _ _ _ _, hB, Kept.refl _ _⟩
  · have hgw : g < w.heap.size := (Array.getElem?_eq_some_iff.1 hb).1
    have hone : (Kd.int .i64).sz = 1 := rfl
    rw [hone, Nat.mul_one] at htake
    rw [hone, Nat.mul_one] at hsz
    refine (Try.slices_Sort_int g 0 cap l0 w (holds_of_blockI hb htake) hgw hbig).mono ?_
    rintro e w' ⟨rfl, n, os, rfl⟩
    rw [hr]
    have hrl : r.length = l0.length := by rw [← hr, List.length_mergeSort]
    have hgb := grownBy_sortedI (w := w) (g := g) (n := n) (os := os) r.toArray
    have hown := ownsRow_sortedI (n := n) (os := os) (ts := r) (ss := l0) hrl hg hb hn hcap (by rw [Nat.mul_one]; exact hsz)
    have hgP : P0_ g := hok g rfl
    refine ⟨rfl, ⟨fun k hk => ?_, r.map (Value.int .i64), ?_, ints_reps r⟩, hB.grown hgb hB.size (fun k hk => ?_), Kept.of_grown hgb (Kept.refl w _) (fun k hk => ?_)⟩
    · cases hk; exact .inl hgP
    · rw [hrl]; exact hown
    · cases hk; exact hg
    · cases hk; exact .inl hgP
def impl_sorted.f (k : Nat) (a0 : Int) (a1 : Int) : Option (List Int) := (impl_digitsOf.f k a0 a1).bind fun t180 => ((slices_Sort_int_int.f t180).bind fun t183 => (some t183))
theorem impl_sorted.mono : ∀ a0 a1 k, LeO (impl_sorted.f k a0 a1) (impl_sorted.f (k + 1) a0 a1) := by
  intro a0 a1 k
  unfold impl_sorted.f
  repeat' first
      | (with_reducible exact impl_digitsOf.mono _ _ _)
      | (with_reducible exact LeO.refl _)
      | (with_reducible exact LeO.none _)
      | (with_reducible refine LeO.ite ?_ ?_)
      | (with_reducible refine LeO.bind ?_ (fun _ => ?_))
      | exact impl_digitsOf.mono _ _ _
      | exact LeO.none _
      | refine LeO.ite ?_ ?_
      | refine LeO.bind ?_ (fun _ => ?_)
set_option maxHeartbeats 8000000 in
set_option maxRecDepth 100000 in
theorem impl_sorted.calls (k : Nat) (a0 : Int) (a1 : Int) (r : List Int) (w : World) (h : impl_sorted.f k a0 a1 = some r) :
    Calls Try.prog 76 #[.int .i64 a0, .int .i64 a1] w fun e w' => ∃ v0_ : Value, e = .returned (v0_) ∧ Kd.R (Kd.int .i64) 3 w' w.heap.size (fun _ => True) v0_ r ∧ Below w.heap.size w w' := by
  have HB := Aside0.mk (Below.refl w.heap.size w)
  have H : ((impl_digitsOf.f k a0 a1).bind fun t180 => ((slices_Sort_int_int.f t180).bind fun t183 => (some t183))) = some r := h
  clear h
  replace H := Option.bind_eq_some_iff.mp H
  obtain ⟨t180, A30, H⟩ := H
  replace H : ((slices_Sort_int_int.f t180).bind fun t183 => (some t183)) = some r := H
  have A3 := Aside0.mk A30
  clear A30
  replace H := Option.bind_eq_some_iff.mp H
  obtain ⟨t183, A40, H⟩ := H
  replace H : (some t183) = some r := H
  have A4 := Aside0.mk A40
  clear A40
  obtain rfl := Option.some.inj H
  go_enter Try.func76, Try.ntmps76
  go_wp2_with (first | ((with_reducible refine gate_callee (f := 67) rfl ?_); refine goesL_ (some 8) rfl rfl Try.func67 (by kernel_rfl) rfl #[.int .i64 a0, .int .i64 a1] rfl (by (try simp only [List.map_toArray, List.map_cons, List.map_nil]); first | done | rfl | (simp only [List.length_drop, List.length_take]; rfl)) ?_; (with_reducible refine (impl_digitsOf.calls k a0 a1 t180 _ A3.out).mono ?_); rintro e w5 ⟨v181, rfl, ho0, hb⟩; refine ⟨_, rfl, ?_⟩; have n0_ := Aside0.mk (Kd.R_lower ho0 (below_size (by repeat (first | (with_reducible first | exact HB.out | apply below_alloc | apply pw_below_drewN | apply below_drew1) | exact HB.out)))); have n1_ := Aside0.mk (below_step (by repeat (first | (with_reducible first | exact HB.out | apply below_alloc | apply pw_below_drewN | apply below_drew1) | exact HB.out)) hb); clear HB; have HO182 := n0_; have HB := n1_; clear n0_ n1_; (try clear hb); (try clear hb2); (try clear hk); (try clear hi); (try clear ho0); obtain ⟨Ao6, co6, eo6⟩ := Kd.R_slice HO182.out; subst eo6) | ((with_reducible refine gate_callee (f := 77) rfl ?_); refine goesL_ (some 10) rfl rfl Try.func77 (by kernel_rfl) rfl #[.slice Ao6 t180.length co6] rfl (by (try simp only [List.map_toArray, List.map_cons, List.map_nil]); first | done | rfl | (simp only [List.length_drop, List.length_take]; rfl)) ?_; (with_reducible refine (slices_Sort_int_int.calls (fun k_ => some k_ = (.slice Ao6 t180.length co6 : Value).ownBlock) (.slice Ao6 t180.length co6) t180 t183 w _ ?side1 ?side2 A4.out).mono ?_); (case side1 => repeat (first | (with_reducible first | exact HB.out | apply below_alloc | apply pw_below_drewN | apply below_drew1) | exact HB.out)); (case side2 => exact Kd.R_tight rfl HO182.out); rintro e w7 ⟨rfl, hy0, hb, hkp⟩; refine ⟨_, rfl, ?_⟩; have n0_ := Aside0.mk (Kd.R_reok rfl hy0 (fun k_ e_ => HO182.out.1 k_ e_)); have n1_ := Aside0.mk (hb); clear HO182; clear HB; have HO182 := n0_; have HB := n1_; clear n0_ n1_; (try clear hb); (try clear hkp); (try clear hy0)))
  go_ret
  exact ⟨_, by first | rfl | (simp [errW_none, errW_some] <;> rfl) | (simp [*, errW_none, errW_some] <;> rfl), by (with_reducible repeat (first | apply Kd.R_alloc | apply Kd.R_drewN | apply Kd.R_drew)); exact HO182.out, by repeat (first | (with_reducible first | exact HB.out | apply below_alloc | apply pw_below_drewN | apply below_drew1) | exact HB.out)⟩
def slices_Clone_int_int.f (l0 : List Int) : Option (List Int) := if l0.length < 17592186044416 then some l0 else none
set_option maxHeartbeats 8000000 in
set_option maxRecDepth 100000 in
theorem slices_Clone_int_int.calls (A0 : Option Addr) (c0 : Nat) (l0 : List Int) (r : List Int) (w : World) (hr0 : Kd.C (Kd.int .i64) w A0 l0.length l0) (hc0 : l0.length ≤ c0) (h : slices_Clone_int_int.f l0 = some r) :
    Calls Try.prog 88 #[.slice A0 l0.length c0] w fun e w' => ∃ v0_ : Value, e = .returned (v0_) ∧ Kd.R (Kd.int .i64) 3 w' w.heap.size (fun _ => True) v0_ r ∧ Below w.heap.size w w' := by
  have hc : l0.length < 17592186044416 ∧ l0 = r := by
    unfold slices_Clone_int_int.f at h
    by_cases hc : l0.length < 17592186044416
    · rw [if_pos hc] at h; exact ⟨hc, Option.some.inj h⟩
    · rw [if_neg hc] at h; cases h
  clear h
  obtain ⟨hlim, rfl⟩ := hc
  have hn := fun W => Lib.run_eql_slice_nil (P := Try.prog) W 22 3 A0 l0.length c0 0 0 Try.underlying22
  have HR0 := Aside0.mk hr0
  have HC0 := Aside0.mk hc0
  have LM := Aside0.mk hlim
  clear hr0 hc0 hlim
  have HB := Aside0.mk (Below.refl w.heap.size w)
  cases A0 with
  | none =>
    have hl : l0 = [] := by
      rcases l0 with _ | ⟨x, l⟩
      · rfl
      · obtain ⟨ad, h, _⟩ := HR0.out.2.2 (by simp)
        cases h
    have HL := Aside0.mk hl
    clear hl
    go_enter Try.func88, Try.ntmps88
    go_wp2
    go_ret
    exact ⟨_, rfl, by rw [HL.out]; exact Kd.R_nil _ _ _ _ _, HB.out⟩
  | some ad =>
    obtain ⟨y0, hy0⟩ : ∃ y_ : List Int, y_ = [] := ⟨_, rfl⟩
    have hy1 : l0 = y0 ++ l0 := by rw [hy0]; rfl
    have hlim : y0.length + l0.length < 17592186044416 := by rw [hy0]; simpa using LM.out
    have LMc2 := Aside0.mk hlim
    have Ny0 := Aside0.mk hy0
    have Ny1 := Aside0.mk hy1
    clear hlim hy0 hy1 LM
    go_enter Try.func88, Try.ntmps88
    go_wp2_with (first | ((with_reducible refine gate_dst (N := 5) rfl ?_); refine Kd.R_lit (Kd.int .i64) _ 3 ?hg (N := 5) ?hd (xs := ([] : List Int)) (inner := []) (ok := fun _ => True) (okp := fun _ => True) ?hr ?hp (fun _ hk => hk) trivial (Below.refl _ _) (Nat.le_refl _) (by simp) ?_; (case hd => rfl); (case hg => rfl); (case hr => first | (go_simp; done) | (go_simp; rfl)); (case hp => exact (Reps.none _ _)); intro v116 w3 ho4 hb hg_ hnew_; clear hg_ hnew_; (first | rw [← Ny0.out] at ho4 | (simp only [Int.reduceToNat] at ho4; rw [← Ny0.out] at ho4)); have n0_ := Aside0.mk (Kd.R_lower ho4 (below_size (by repeat (first | (with_reducible first | exact HB.out | apply below_alloc | apply pw_below_drewN | apply below_drew1) | exact HB.out)))); have n1_ := Aside0.mk (below_step (by repeat (first | (with_reducible first | exact HB.out | apply below_alloc | apply pw_below_drewN | apply below_drew1) | exact HB.out)) hb); clear HB; have HO117 := n0_; have HB := n1_; clear n0_ n1_; clear hb ho4) | ((with_reducible refine gate_builtin (b := .append) (xs := #[.tmp 5, .tmp 6]) rfl ?_); at_builtin; refine Kd.R_append_rows (Kd.int .i64) (w0 := w) w.heap.size rfl (.tmp 5) (.tmp 6) 22 3 (.int .i64 0) 8 rfl Try.underlying22 info3 rfl (by decide) (by omega) v116 y0 l0 _ _ _ (fun _ => True) (fun _ => False) rfl rfl ?aO ?aR (fun _ _ h => h) (fun _ h => h.elim) ?aF ?aB ?aS ?aL ?_; (case aR => repeat (first | exact (Kd.C_below HR0.out HB.out) | (with_reducible refine Kd.C_alloc ?_ _) | (with_reducible refine Kd.C_drewN ?_ _) | (with_reducible refine Kd.C_drew ?_))); (case aB => exact (by repeat (first | (with_reducible first | exact HB.out | apply below_alloc | apply pw_below_drewN | apply below_drew1) | exact HB.out))); (case aF => exact (fun _ _ => trivial)); (case aO => exact (by (with_reducible repeat (first | apply Kd.R_alloc | apply Kd.R_drewN | apply Kd.R_drew)); exact HO117.out)); (case aS => exact (below_size (by repeat (first | (with_reducible first | exact HB.out | apply below_alloc | apply pw_below_drewN | apply below_drew1) | exact HB.out)))); (case aL => have := LMc2.out; omega); intro v119 w5 ho hb hg hat; rw [← Ny1.out] at ho; have n0_ := Aside0.mk (hb); have n1_ := Aside0.mk (ho); clear HB; clear HO117; have HB := n0_; have HO120 := n1_; clear n0_ n1_; clear ho hb hg hat))
    go_ret
    exact ⟨_, rfl, by (with_reducible repeat (first | apply Kd.R_alloc | apply Kd.R_drewN | apply Kd.R_drew)); exact HO120.out, by repeat (first | (with_reducible first | exact HB.out | apply below_alloc | apply pw_below_drewN | apply below_drew1) | exact HB.out)⟩
end Go.Proofs.Ytehhkkbejmhcfaa.PFnOwnPowers
end
