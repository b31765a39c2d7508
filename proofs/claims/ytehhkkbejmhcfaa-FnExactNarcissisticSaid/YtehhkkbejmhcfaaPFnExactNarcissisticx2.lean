/- Each Go function that FnExactNarcissistic reaches, as a plain Lean function, and a proof that the Go code comes to its answers. No conditions. (Written by a program.) -/
import Derived.Test.YtehhkkbejmhcfaaPFnExactNarcissisticx0
import Derived.Test.YtehhkkbejmhcfaaPFnExactNarcissisticx1
namespace Go.Proofs.Ytehhkkbejmhcfaa.PFnExactNarcissistic
open Go.RowKit Go.Proofs.YtehhkkbejmhcfaaW.PrintWords Go.Proofs.YtehhkkbejmhcfaaW.PrintLast Go.Proofs.YtehhkkbejmhcfaaW.PrintMore
attribute [local go_sem] max2_int min2_int max_two min_two max_three min_three max_four min_four   -- for this text's walks alone
set_option linter.unusedVariables false
set_option linter.unusedSimpArgs false

/-! ### spec_pwSearch_try: function 35 -/
mutual
def spec_try.f : Nat → Int → Int → Int → Int → Int → List Int → List Int → Option (List Int)
  | 0, _, _, _, _, _, _, _ => none
  | k + 1, b, p, left, most, sum, counts, found => if left = 0 then (if sum ≤ 1000000000000 then ((spec_dgOf.f k sum b).bind fun ds => (spec_dgCounts.f k ds b).bind fun cs => (spec_l1Same.f k cs counts).bind fun e => if e = true then spec_l1Put.f k found sum else some found) else none) else spec_try.l0 k b p left most sum counts found 0
def spec_try.l0 : Nat → Int → Int → Int → Int → Int → List Int → List Int → Int → Option (List Int)
  | 0, _, _, _, _, _, _, _, _ => none
  | k + 1, b, p, left, most, sum, counts, found, d => if d ≤ most then ((spec_l1Own.f counts).bind fun nx => if 0 ≤ d then (if d < (nx.length : Int) then ((spec_pwOf.f k d p).bind fun q => (spec_try.f k b p (wrap64 (left - 1)) d (wrap64 (sum + q)) (nx.set d.toNat (wrap64 (rd nx d + 1))) found).bind fun fo => spec_try.l0 k b p left most sum counts fo (wrap64 (d + 1))) else none) else none) else some found
end
theorem spec_try.mono_l : ∀ k, (∀ b p left most sum counts found, LeO (spec_try.f k b p left most sum counts found) (spec_try.f (k + 1) b p left most sum counts found)) ∧ (∀ b p left most sum counts found d, LeO (spec_try.l0 k b p left most sum counts found d) (spec_try.l0 (k + 1) b p left most sum counts found d))
  | 0 => ⟨fun _ _ _ _ _ _ _ r h => by simp [spec_try.f] at h, fun _ _ _ _ _ _ _ _ r h => by simp [spec_try.l0] at h⟩
  | k + 1 => by
    obtain ⟨ih1, ih2⟩ := spec_try.mono_l k
    refine ⟨fun b p left most sum counts found => ?_, fun b p left most sum counts found d => ?_⟩
    · rw [spec_try.f, spec_try.f]
      exact LeO.ite (LeO.ite (LeO.bind (spec_dgOf.mono _ _ k) (fun ds => LeO.bind (spec_dgCounts.mono _ _ k) (fun cs => LeO.bind (spec_l1Same.mono _ _ k) (fun e => LeO.ite (spec_l1Put.mono _ _ k) (LeO.refl _))))) (LeO.none _)) (ih2 _ _ _ _ _ _ _ _)
    · rw [spec_try.l0, spec_try.l0]
      exact LeO.ite (LeO.bind (LeO.refl _) (fun nx => LeO.ite (LeO.ite (LeO.bind (spec_pwOf.mono _ _ k) (fun q => LeO.bind (ih1 _ _ _ _ _ _ _) (fun fo => ih2 _ _ _ _ _ _ _ _))) (LeO.none _)) (LeO.none _))) (LeO.refl _)
/-- The search's state at W, the call's world being w: its found numbers lie in P's blocks or in new ones. -/
structure TrSt (w0 w : World) (g : Nat) (b p : Int) (P okc : Nat → Prop) (vc : Value) (counts found : List Int) (W : World) : Prop where
  B : Below w0.heap.size w0 W
  g0 : w0.heap.size ≤ g
  K : Kept w W (fun k => P k ∨ k = g)
  F : ∃ vf, W.heap[g]? = some (.cells #[.int .i64 b, .int .i64 p, vf] 47 (0, 0)) ∧ Kd.R (Kd.int .i64) 3 W w0.heap.size (fun k => P k ∨ w.heap.size ≤ k) vf found
  C : Kd.R (Kd.int .i64) 3 W w0.heap.size okc vc counts
  dis : ∀ k, okc k → k < w.heap.size ∧ ¬ P k ∧ k ≠ g
  gP : ¬ P g ∧ g < w.heap.size
section
variable {w0 w W W2 : World} {g : Nat} {b p : Int} {P okc : Nat → Prop} {vc : Value} {counts found : List Int}
theorem TrSt.below (h : TrSt w0 w g b p P okc vc counts found W) (hb : Below W.heap.size W W2) : TrSt w0 w g b p P okc vc counts found W2 := by
  obtain ⟨vf, hg, hR⟩ := h.F
  exact ⟨below_step h.B hb, h.g0, h.K.below hb, ⟨vf, (hb.block g (blk_lt hg)).trans hg, Kd.R_below hR hb⟩, Kd.R_below h.C hb, h.dis, h.gP⟩
theorem TrSt.drew (h : TrSt w0 w g b p P okc vc counts found W) : TrSt w0 w g b p P okc vc counts found W.drew := h.below (below_drew (Below.refl _ _))
theorem TrSt.drewN (h : TrSt w0 w g b p P okc vc counts found W) (m : Nat) : TrSt w0 w g b p P okc vc counts found (W.drewN m) := h.below (pw_below_drewN (Below.refl _ _) m)
theorem TrSt.cell0 (h : TrSt w0 w g b p P okc vc counts found W) : W.cell? ⟨g, 0, none⟩ = some (.int .i64 b) := by
  obtain ⟨vf, hg, _⟩ := h.F
  exact (blk_cell hg 0).trans rfl
theorem TrSt.cell1 (h : TrSt w0 w g b p P okc vc counts found W) : W.cell? ⟨g, 1, none⟩ = some (.int .i64 p) := by
  obtain ⟨vf, hg, _⟩ := h.F
  exact (blk_cell hg 1).trans rfl
/-- Behind l1Put and the store. -/
theorem TrSt.put (h : TrSt w0 w g b p P okc vc counts found W) {vf v : Value} {r : List Int} {P0 : Nat → Prop} (hP0 : ∀ k, P0 k → P k ∨ w.heap.size ≤ k) (hg : W.heap[g]? = some (.cells #[.int .i64 b, .int .i64 p, vf] 47 (0, 0))) (hR : Kd.R (Kd.int .i64) 3 W2 w0.heap.size (fun k => P0 k ∨ W.heap.size ≤ k) v r) (hb : Below w0.heap.size w0 W2) (hk : Kept W W2 P0) :
    TrSt w0 w g b p P okc vc counts r (W2.setCell ⟨g, 2, none⟩ v) := by
  have hgw := h.gP.2
  have hW := h.K.1
  have hg2 : W2.heap[g]? = some (.cells #[.int .i64 b, .int .i64 p, vf] 47 (0, 0)) := blk_kept hg hk (fun hp => by
    rcases hP0 g hp with h1 | h1
    · exact h.gP.1 h1
    · omega)
  refine ⟨below_set hb h.g0, h.g0, ?_, ⟨v, ?_, ?_⟩, ?_, h.dis, h.gP⟩
  · refine Kept.setCell (h.K.then_ hk (fun k hk => ?_)) (.inl (.inr rfl)) _
    rcases hP0 k hk with h1 | h1
    · exact .inl (.inl h1)
    · exact .inr h1
  · simp [World.setCell, Array.getElem?_modify, hg2]
  · refine Kd.R_far (p := ⟨g, 2, none⟩) (Kd.R_mono hR (fun k hk => ?_)) (fun k hk => ?_) v
    · rcases hk with hk | hk
      · exact hP0 k hk
      · exact .inr (by omega)
    · rintro rfl
      rcases hk with h1 | h1
      · exact h.gP.1 h1
      · omega
  · refine Kd.R_far (p := ⟨g, 2, none⟩) (Kd.R_kept h.C hk (fun k hk hp => ?_)) (fun k hk => (h.dis k hk).2.2) v
    rcases hP0 k hp with h1 | h1
    · exact (h.dis k hk).2.1 h1
    · have := (h.dis k hk).1; omega
/-- Within a round: a new row lies above all that is known. -/
structure TrDn (w0 w wr : World) (g : Nat) (b p : Int) (P okc : Nat → Prop) (vc : Value) (counts found : List Int) (vn : Value) (nx : List Int) (W : World) : Prop where
  S : TrSt w0 w g b p P okc vc counts found W
  hle : wr.heap.size ≤ W.heap.size
  hw : w.heap.size ≤ wr.heap.size
  F2 : ∃ vf, W.heap[g]? = some (.cells #[.int .i64 b, .int .i64 p, vf] 47 (0, 0)) ∧ Kd.R (Kd.int .i64) 3 W w0.heap.size (fun k => (P k ∨ w.heap.size ≤ k) ∧ k < wr.heap.size) vf found
  N : Kd.R (Kd.int .i64) 3 W w0.heap.size (fun k => wr.heap.size ≤ k) vn nx
theorem TrDn.start (h : TrSt w0 w g b p P okc vc counts found W) {vn : Value} {nx : List Int} (ho : Kd.R (Kd.int .i64) 3 W2 W.heap.size (fun _ => True) vn nx) (hb : Below W.heap.size W W2) : TrDn w0 w W g b p P okc vc counts found vn nx W2 := by
  obtain ⟨vf, hg, hR⟩ := h.F
  refine ⟨h.below hb, hb.size, h.K.1, ⟨vf, (hb.block g (blk_lt hg)).trans hg, Kd.R_below (Kd.R_mono (Kd.R_bound hR) (fun k hk => ⟨hk.1, hk.2.2.1⟩)) hb⟩, ?_⟩
  exact Kd.R_lower (Kd.R_mono (Kd.R_bound ho) (fun k hk => hk.2.1)) h.B.size
variable {wr : World} {vn : Value} {nx nx2 : List Int}
theorem TrDn.below (h : TrDn w0 w wr g b p P okc vc counts found vn nx W) (hb : Below W.heap.size W W2) : TrDn w0 w wr g b p P okc vc counts found vn nx W2 := by
  obtain ⟨vf, hg, hR⟩ := h.F2
  exact ⟨h.S.below hb, Nat.le_trans h.hle hb.size, h.hw, ⟨vf, (hb.block g (blk_lt hg)).trans hg, Kd.R_below hR hb⟩, Kd.R_below h.N hb⟩
/-- The new row is written. -/
theorem TrDn.set (h : TrDn w0 w wr g b p P okc vc counts found vn nx W) {gn : Nat} (hv : vn.ownBlock = some gn) (hR2 : Kd.R (Kd.int .i64) 3 W2 w0.heap.size (fun k => wr.heap.size ≤ k) vn nx2) (hg2 : W.grownBy W2 (some gn)) : TrDn w0 w wr g b p P okc vc counts found vn nx2 W2 := by
  have hgn : wr.heap.size ≤ gn := h.N.1 gn hv
  have hgnw : w0.heap.size ≤ gn := Kd.R_base h.N gn hv
  obtain ⟨vf, hg, hR⟩ := h.F2
  have hgw := h.S.gP.2
  have hle := h.hle
  have hw := h.hw
  have hgg : W2.heap[g]? = some (.cells #[.int .i64 b, .int .i64 p, vf] 47 (0, 0)) := blk_grown hg hg2 (by
    intro e
    have : g = gn := by simpa using e
    omega)
  have hF : Kd.R (Kd.int .i64) 3 W2 w0.heap.size (fun k => (P k ∨ w.heap.size ≤ k) ∧ k < wr.heap.size) vf found := Kd.R_grown hR hg2 (fun k hk e => by
    have : k = gn := by simpa using e
    omega)
  refine ⟨⟨?_, h.S.g0, ?_, ⟨vf, hgg, Kd.R_mono hF (fun k hk => hk.1)⟩, Kd.R_grown h.S.C hg2 (fun k hk e => ?_), h.S.dis, h.S.gP⟩, Nat.le_trans hle hg2.size, hw, ⟨vf, hgg, hF⟩, hR2⟩
  · refine ⟨hg2.os.trans h.S.B.os, hg2.tape.trans h.S.B.tape, hg2.output.trans h.S.B.output, Nat.le_trans h.S.B.size hg2.size, fun k hk => ?_⟩
    exact (hg2.block k (Nat.lt_of_lt_of_le hk h.S.B.size) (fun e => by have : k = gn := by simpa using e
                                                                       omega)).trans (h.S.B.block k hk)
  · exact Kept.of_grown hg2 h.S.K (fun k e => .inr (by have : gn = k := by simpa using e
                                                       omega))
  · have : k = gn := by simpa using e
    have := (h.S.dis k hk).1
    omega
/-- The call's own state. -/
theorem TrDn.enter (h : TrDn w0 w wr g b p P okc vc counts found vn nx W) : TrSt w0 W g b p (fun k => (P k ∨ w.heap.size ≤ k) ∧ k < wr.heap.size) (fun k => wr.heap.size ≤ k ∧ k < W.heap.size) vn nx found W := by
  obtain ⟨vf, hg, hR⟩ := h.F2
  have hgw := h.S.gP.2
  have hle := h.hle
  have hw := h.hw
  refine ⟨h.S.B, h.S.g0, Kept.refl _ _, ⟨vf, hg, Kd.R_mono hR (fun k hk => .inl hk)⟩, Kd.R_mono (Kd.R_bound h.N) (fun k hk => ⟨hk.1, hk.2.2.1⟩), fun k hk => ⟨hk.2, fun h2 => by omega, by omega⟩, ⟨fun h2 => ?_, by omega⟩⟩
  rcases h2.1 with h3 | h3
  · exact h.S.gP.1 h3
  · omega
theorem TrDn.back (h : TrDn w0 w wr g b p P okc vc counts found vn nx W) {f2 : List Int} (h2 : TrSt w0 W g b p (fun k => (P k ∨ w.heap.size ≤ k) ∧ k < wr.heap.size) (fun k => wr.heap.size ≤ k ∧ k < W.heap.size) vn nx f2 W2) : TrSt w0 w g b p P okc vc counts f2 W2 := by
  obtain ⟨vf, hg, hR⟩ := h2.F
  have hgw := h.S.gP.2
  have hle := h.hle
  have hw := h.hw
  refine ⟨h2.B, h.S.g0, h.S.K.then_ h2.K (fun k hk => ?_), ⟨vf, hg, Kd.R_mono hR (fun k hk => ?_)⟩, Kd.R_kept h.S.C h2.K (fun k hk h3 => ?_), h.S.dis, h.S.gP⟩
  · rcases hk with hk | rfl
    · rcases hk.1 with h3 | h3
      · exact .inl (.inl h3)
      · exact .inr h3
    · exact .inl (.inr rfl)
  · rcases hk with hk | hk
    · exact hk.1
    · exact .inr (by omega)
  · have h4 := h.S.dis k hk
    rcases h3 with h3 | h3
    · rcases h3.1 with h5 | h5
      · exact h4.2.1 h5
      · omega
    · exact h4.2.2 h3
end
set_option maxHeartbeats 8000000 in
set_option maxRecDepth 100000 in
theorem spec_try.calls : ∀ (k : Nat) (w0 w : World) (g : Nat) (b p : Int) (P okc : Nat → Prop) (Ac : Option Addr) (nc cc : Nat) (counts found : List Int) (left most sum : Int) (r : List Int) (_ : TrSt w0 w g b p P okc (.slice Ac nc cc) counts found w) (_ : spec_try.f k b p left most sum counts found = some r),
    Calls Try.prog 35 #[.pointer (some ⟨g, 0, none⟩), .int .i64 left, .int .i64 most, .int .i64 sum, .slice Ac nc cc] w fun e w' => e = .returned (.tuple #[]) ∧ TrSt w0 w g b p P okc (.slice Ac nc cc) counts r w' := by
  intro k
  induction k using Nat.strongRecOn with
  | ind k IH =>
  intro w0 w g b p P okc Ac nc cc counts found left most sum r hS h
  obtain rfl := (Kd.R_reads' hS.C).1
  have HS := Aside0.mk hS
  clear hS
  cases k with
  | zero => exact absurd h (by simp [spec_try.f])
  | succ k =>
  have HIH := Aside0.mk IH
  clear IH
  rw [spec_try.f] at h
  by_cases c0 : left = 0
  · subst c0
    rw [if_pos rfl] at h
    by_cases c1 : sum ≤ 1000000000000
    · rw [if_pos c1] at h
      have c1b0 : decide (sum ≤ 1000000000000) = true := decide_eq_true c1
      clear c1
      obtain ⟨ds, a1, h⟩ := Option.bind_eq_some_iff.mp h
      obtain ⟨cs, a2, h⟩ := Option.bind_eq_some_iff.mp h
      obtain ⟨eq_, a3, h⟩ := Option.bind_eq_some_iff.mp h
      have A1 := Aside0.mk a1
      have A2 := Aside0.mk a2
      have A3 := Aside0.mk a3
      clear a1 a2 a3
      have H := Aside0.mk h
      clear h HIH
      go_enter Try.func35, Try.ntmps35
      go_wp2
      refine start_ (n := 17) (S := fun w' => w'.cell? ⟨g, 0, none⟩ = some (.int .i64 b)) (ds := []) #[false, false, false, false, false, false, false, false, false, false, false, false, false, false, false, false, false] (by kernel_rfl) rfl rfl (HS.out.drew.cell0) (fun hHeld => ?_)
      have n0_ := Aside0.mk HS.out.drew
      clear HS
      have HS := n0_
      clear n0_
      generalize w.drew = w10 at HS hHeld ⊢
      refine pure_ (i := 0) (N := some 14) (v := ?_) (a' := ?_) #[true, false, false, false, false, false, false, false, false, false, false, false, false, false, false, false, false] rfl rfl (by kernel_rfl) (fun _ _ _ h => h) (Or.inl ⟨by rfl, ?_⟩) ?_ ?_
      rotate_left
      · intro w'
        go_simp
        with_reducible rfl
      rotate_left
      · simp only [Act.put, List.setIfInBounds_toArray, List.set_cons_zero, List.set_cons_succ, i64_w, i32_w]
        rfl
      refine pure_ (i := 1) (N := some 15) (v := ?_) (a' := ?_) #[true, true, false, false, false, false, false, false, false, false, false, false, false, false, false, false, false] rfl rfl (by kernel_rfl) (fun _ _ _ h => h) (Or.inl ⟨by rfl, ?_⟩) ?_ ?_
      rotate_left
      · intro w'
        go_simp
        with_reducible rfl
      rotate_left
      · simp only [Act.put, List.setIfInBounds_toArray, List.set_cons_zero, List.set_cons_succ, i64_w, i32_w]
        rfl
      refine pure_ (i := 2) (N := some 16) (v := ?_) (a' := ?_) #[true, true, true, false, false, false, false, false, false, false, false, false, false, false, false, false, false] rfl rfl (by kernel_rfl) (fun _ _ _ h => h) (Or.inl ⟨by rfl, ?_⟩) ?_ ?_
      rotate_left
      · intro w'
        go_simp
        with_reducible rfl
      rotate_left
      · simp only [Act.put, List.setIfInBounds_toArray, List.set_cons_zero, List.set_cons_succ, i64_w, i32_w]
        rfl
      refine pure_ (i := 3) (N := some 17) (v := ?_) (a' := ?_) #[true, true, true, true, false, false, false, false, false, false, false, false, false, false, false, false, false] rfl rfl (by kernel_rfl) (fun _ _ _ h => h) (Or.inl ⟨by rfl, ?_⟩) ?_ ?_
      rotate_left
      · intro w'
        go_simp
        with_reducible rfl
      rotate_left
      · simp only [Act.put, List.setIfInBounds_toArray, List.set_cons_zero, List.set_cons_succ, i64_w, i32_w]
        rfl
      refine pure_ (i := 4) (N := some 18) (v := ?_) (a' := ?_) #[true, true, true, true, true, false, false, false, false, false, false, false, false, false, false, false, false] rfl rfl (by kernel_rfl) (fun _ _ _ h => h) (Or.inl ⟨by rfl, ?_⟩) ?_ ?_
      rotate_left
      · intro w'
        go_simp
        with_reducible rfl
      rotate_left
      · simp only [Act.put, List.setIfInBounds_toArray, List.set_cons_zero, List.set_cons_succ, i64_w, i32_w]
        rfl
      refine pure_ (i := 5) (N := some 19) (v := ?_) (a' := ?_) #[true, true, true, true, true, true, false, false, false, false, false, false, false, false, false, false, false] rfl rfl (by kernel_rfl) (fun _ _ _ h => h) (Or.inl ⟨by rfl, ?_⟩) ?_ ?_
      rotate_left
      · intro w'
        go_simp
        with_reducible rfl
      rotate_left
      · simp only [Act.put, List.setIfInBounds_toArray, List.set_cons_zero, List.set_cons_succ, i64_w, i32_w]
        rfl
      refine pure_ (i := 6) (N := some 20) (v := ?_) (a' := ?_) #[true, true, true, true, true, true, true, false, false, false, false, false, false, false, false, false, false] rfl rfl (by kernel_rfl) (fun _ _ _ h => h) (Or.inl ⟨by rfl, ?_⟩) ?_ ?_
      rotate_left
      · intro w'
        go_simp
        with_reducible rfl
      rotate_left
      · simp only [Act.put, List.setIfInBounds_toArray, List.set_cons_zero, List.set_cons_succ, i64_w, i32_w]
        rfl
      refine take_ (i := 7) (N := some 21) (v := ?_) (a' := ?_) #[true, true, true, true, true, true, true, true, false, false, false, false, false, false, false, false, false] rfl rfl (by kernel_rfl) (fun _ _ _ h => h) (Or.inl ⟨by rfl, ?_⟩) hHeld ?_ ?_
      rotate_left
      · intro w' s0
        go_simp
        with_reducible rfl
      rotate_left
      · simp only [Act.put, List.setIfInBounds_toArray, List.set_cons_zero, List.set_cons_succ, i64_w, i32_w]
        rfl
      refine pure_ (i := 9) (N := some 23) (v := ?_) (a' := ?_) #[true, true, true, true, true, true, true, true, false, true, false, false, false, false, false, false, false] rfl rfl (by kernel_rfl) (fun _ _ _ h => h) (Or.inl ⟨by rfl, ?_⟩) ?_ ?_
      rotate_left
      · intro w'
        go_simp
        with_reducible rfl
      rotate_left
      · simp only [Act.put, List.setIfInBounds_toArray, List.set_cons_zero, List.set_cons_succ, i64_w, i32_w]
        rfl
      refine pure_ (i := 10) (N := some 24) (v := ?_) (a' := ?_) #[true, true, true, true, true, true, true, true, false, true, true, false, false, false, false, false, false] rfl rfl (by kernel_rfl) (fun _ _ _ h => h) (Or.inl ⟨by rfl, ?_⟩) ?_ ?_
      rotate_left
      · intro w'
        go_simp
        with_reducible rfl
      rotate_left
      · simp only [Act.put, List.setIfInBounds_toArray, List.set_cons_zero, List.set_cons_succ, i64_w, i32_w]
        rfl
      refine pure_ (i := 11) (N := some 25) (v := ?_) (a' := ?_) #[true, true, true, true, true, true, true, true, false, true, true, true, false, false, false, false, false] rfl rfl (by kernel_rfl) (fun _ _ _ h => h) (Or.inl ⟨by rfl, ?_⟩) ?_ ?_
      rotate_left
      · intro w'
        go_simp
        with_reducible rfl
      rotate_left
      · simp only [Act.put, List.setIfInBounds_toArray, List.set_cons_zero, List.set_cons_succ, i64_w, i32_w]
        rfl
      refine take_ (i := 12) (N := some 26) (v := ?_) (a' := ?_) #[true, true, true, true, true, true, true, true, false, true, true, true, true, false, false, false, false] rfl rfl (by kernel_rfl) (fun _ _ _ h => h) (Or.inl ⟨by rfl, ?_⟩) hHeld ?_ ?_
      rotate_left
      · intro w' s0
        go_simp
        with_reducible rfl
      rotate_left
      · simp only [Act.put, List.setIfInBounds_toArray, List.set_cons_zero, List.set_cons_succ, i64_w, i32_w]
        rfl
      refine pure_ (i := 14) (N := some 28) (v := ?_) (a' := ?_) #[true, true, true, true, true, true, true, true, false, true, true, true, true, false, true, false, false] rfl rfl (by kernel_rfl) (fun _ _ _ h => h) (Or.inl ⟨by rfl, ?_⟩) ?_ ?_
      rotate_left
      · intro w'
        go_simp
        with_reducible rfl
      rotate_left
      · simp only [Act.put, List.setIfInBounds_toArray, List.set_cons_zero, List.set_cons_succ, i64_w, i32_w]
        rfl
      refine one_ (i := 8) (N := some 22) #[true, true, true, true, true, true, true, true, true, true, true, true, true, false, true, false, false] rfl rfl (by kernel_rfl) (by decide) (fun K hK => ?_)
      refine goes_ Try.func70 (by kernel_rfl) rfl #[.int .i64 sum, .int .i64 b] (by rfl) rfl rfl (by (try simp only [List.map_toArray, List.map_cons, List.map_nil]); first | done | rfl | (simp only [List.length_drop, List.length_take]; rfl)) ?_
      refine (spec_dgOf.calls k sum b ds _ A1.out).mono ?_
      rintro e w11 ⟨v1, rfl, ho, hb⟩
      obtain ⟨Ao1, co1, eo1⟩ := Kd.R_slice ho
      subst eo1
      refine ⟨_, rfl, ?_⟩
      have HO1 := Aside0.mk ho
      have HB1 := Aside0.mk hb
      have n0_ := Aside0.mk (HS.out.below hb)
      clear HS
      have HS := n0_
      clear n0_
      have hh_ := (hb.cell (World.block_lt_of_cell? _ _ hHeld)).trans hHeld
      clear ho hb hHeld
      refine hK.out _ _ (hh_) (fun hHeld => ?_)
      clear hK K
      refine norm_ (a' := ?_) ?_ ?_
      rotate_left
      · show Act.put _ (some 22) _ = _
        simp only [Act.put, List.setIfInBounds_toArray, List.set_cons_zero, List.set_cons_succ, i64_w, i32_w]
        rfl
      refine one_ (i := 13) (N := some 27) #[true, true, true, true, true, true, true, true, true, true, true, true, true, true, true, false, false] rfl rfl (by kernel_rfl) (by decide) (fun K hK => ?_)
      refine goes_ Try.func69 (by kernel_rfl) rfl #[.slice Ao1 ds.length co1, .int .i64 b] (by rfl) rfl rfl (by (try simp only [List.map_toArray, List.map_cons, List.map_nil]); first | done | rfl | (simp only [List.length_drop, List.length_take]; rfl)) ?_
      refine (spec_dgCounts.calls k _ _ ds b cs _ (Kd.R_reads' HO1.out).2.2 (Kd.R_reads' HO1.out).2.1 A2.out).mono ?_
      rintro e w12 ⟨v2, rfl, ho, hb⟩
      obtain ⟨Ao2, co2, eo2⟩ := Kd.R_slice ho
      subst eo2
      refine ⟨_, rfl, ?_⟩
      have HO2 := Aside0.mk ho
      have n0_ := Aside0.mk (HS.out.below hb)
      clear HS
      have HS := n0_
      clear n0_
      have hh_ := (hb.cell (World.block_lt_of_cell? _ _ hHeld)).trans hHeld
      clear ho hb hHeld
      refine hK.out _ _ (hh_) (fun hHeld => ?_)
      clear hK K
      refine norm_ (a' := ?_) ?_ ?_
      rotate_left
      · show Act.put _ (some 27) _ = _
        simp only [Act.put, List.setIfInBounds_toArray, List.set_cons_zero, List.set_cons_succ, i64_w, i32_w]
        rfl
      refine one_ (i := 15) (N := some 29) #[true, true, true, true, true, true, true, true, true, true, true, true, true, true, true, true, false] rfl rfl (by kernel_rfl) (by decide) (fun K hK => ?_)
      refine goes_ Try.func68 (by kernel_rfl) rfl #[.slice Ao2 cs.length co2, .slice Ac counts.length cc] (by rfl) rfl rfl (by (try simp only [List.map_toArray, List.map_cons, List.map_nil]); first | done | rfl | (simp only [List.length_drop, List.length_take]; rfl)) ?_
      refine (spec_l1Same.calls k _ _ cs _ _ counts eq_ _ (Kd.R_reads' HO2.out).2.2 (Kd.R_reads' HO2.out).2.1 (Kd.R_reads' HS.out.C).2.2 (Kd.R_reads' HS.out.C).2.1 A3.out).mono ?_
      rintro e w13 ⟨rfl, hd⟩
      refine ⟨_, rfl, ?_⟩
      have n0_ := Aside0.mk (HS.out.below hd.below)
      clear HS
      have HS := n0_
      clear n0_
      have hh_ := (hd.below.cell (World.block_lt_of_cell? _ _ hHeld)).trans hHeld
      clear hd hHeld
      refine hK.out _ _ (hh_) (fun hHeld => ?_)
      clear hK K
      refine norm_ (a' := ?_) ?_ ?_
      rotate_left
      · show Act.put _ (some 29) _ = _
        simp only [Act.put, List.setIfInBounds_toArray, List.set_cons_zero, List.set_cons_succ, i64_w, i32_w]
        rfl
      refine pure_ (i := 16) (N := some 30) (v := ?_) (a' := ?_) #[true, true, true, true, true, true, true, true, true, true, true, true, true, true, true, true, true] rfl rfl (by kernel_rfl) (fun _ _ _ h => h) (Or.inl ⟨by rfl, ?_⟩) ?_ ?_
      rotate_left
      · intro w'
        go_simp
        with_reducible rfl
      rotate_left
      · simp only [Act.put, List.setIfInBounds_toArray, List.set_cons_zero, List.set_cons_succ, i64_w, i32_w]
        rfl
      refine done_ (by kernel_rfl) ?_
      have h := H.out
      clear H HO1 HO2 HB1 hHeld
      cases eq_ with
      | false =>
        rw [if_neg (by decide)] at h
        obtain rfl := Option.some.inj h
        go_wp2
        (try simp only [Exit.inBlock, Exit.then]); refine bodyPost_ret (results_none rfl _ _ _) rfl ?_
        exact ⟨rfl, HS.out⟩
      | true =>
        rw [if_pos rfl] at h
        have A4 := Aside0.mk h
        clear h
        obtain ⟨vf, hg, hR⟩ := HS.out.F
        obtain ⟨Af, cf, ef⟩ := Kd.R_slice hR
        subst ef
        have hc2 := (blk_cell hg 2).trans (rfl : _ = some _)
        have HG := Aside0.mk hg
        have HR := Aside0.mk hR
        clear hg hR
        go_wp2_with (first | (go_at_call 71; refine (spec_l1Put.calls k _ _ found sum r w0 _ HS.out.B HR.out A4.out).mono ?_; rintro e w14 ⟨v3, rfl, ho, hb, hk⟩; obtain ⟨Ao3, co3, eo3⟩ := Kd.R_slice ho; subst eo3; have hbk := blk_kept HG.out hk (fun hp => hp.elim HS.out.gP.1 (fun h1 => by have := HS.out.gP.2; omega)); have hfz := blk_frozen hbk 2; have hcz := (blk_cell hbk 2).trans (rfl : _ = some _); clear hbk; have n0_ := Aside0.mk (HS.out.put (fun k hk => hk) HG.out ho hb hk); clear HS HG HR ho hb hk; have HS := n0_; clear n0_))
        (try simp only [Exit.inBlock, Exit.then]); refine bodyPost_ret (results_none rfl _ _ _) rfl ?_
        exact ⟨rfl, HS.out⟩
    · rw [if_neg c1] at h
      cases h
  · rw [if_neg c0] at h
    have c0b0 : decide (left = 0) = false := decide_eq_false c0
    have c0b1 : (left == 0) = false := by simpa using c0
    clear c0
    have H' := Aside0.mk h
    clear h
    go_enter Try.func35, Try.ntmps35
    go_wp2
    go_loopg [10] k (fun kq v10 w' => ∃ (fo_1 : List Int) (d_1 : Int), v10 = .int .i64 d_1 ∧ Aside0 (spec_try.l0 kq b p left most sum counts fo_1 d_1 = some r) ∧ Aside0 (kq ≤ k) ∧ Aside0 (TrSt w0 w g b p P okc (.slice Ac counts.length cc) counts fo_1 w'))
    case atStart => exact ⟨found, 0, rfl, H', ⟨Nat.le_refl _⟩, ⟨by first | exact HS.out | exact HS.out.drew | exact HS.out.drewN _⟩⟩
    case round =>
      clear H' HS
      obtain ⟨fo_1, d_1, rfl, HA, HK1, HS⟩ := hrel
      cases gk with
      | zero => exact absurd HA.out (by simp [spec_try.l0])
      | succ k1 =>
        have h := HA.out
        clear HA
        rw [spec_try.l0] at h
        by_cases c2 : d_1 ≤ most
        · rw [if_pos c2] at h
          have c2b0 : decide (d_1 ≤ most) = true := decide_eq_true c2
          clear c2
          obtain ⟨nx, a1, h⟩ := Option.bind_eq_some_iff.mp h
          by_cases c3 : 0 ≤ d_1
          · rw [if_pos c3] at h
            by_cases c4 : d_1 < (nx.length : Int)
            · rw [if_pos c4] at h
              obtain ⟨q, a2, h⟩ := Option.bind_eq_some_iff.mp h
              obtain ⟨fo, a3, h⟩ := Option.bind_eq_some_iff.mp h
              have A1 := Aside0.mk a1
              have A2 := Aside0.mk a2
              have A3 := Aside0.mk a3
              have H' := Aside0.mk h
              clear a1 a2 a3 h
              have c3b := Aside0.mk c3
              have c4b := Aside0.mk c4
              clear c3 c4
              have p12 : 0 ≤ d_1 := c3b.out
              have q12 : d_1 < ((nx.length : Int) : Int) := c4b.out
              have pb : decide (0 ≤ d_1) = true := decide_eq_true c3b.out
              have qb : decide (d_1 < (nx.length : Int)) = true := decide_eq_true c4b.out
              have hpos : 0 < nx.length := by omega
              replace p12 := eq_true p12
              replace q12 := eq_true q12
              have HPOS := Aside0.mk hpos
              clear hpos
              go_wp2_with (first | (go_at_call 72; refine (spec_l1Own.calls _ _ counts nx _ (Kd.R_reads' HS.out.C).2.2 (Kd.R_reads' HS.out.C).2.1 A1.out).mono ?_; rintro e w5 ⟨vn, rfl, ho, hb⟩; have HD := Aside0.mk (TrDn.start HS.out ho hb); obtain ⟨gn, cn, en, gbn, gln, cln, HGn⟩ := Kd.R_form HD.out.N HPOS.out; subst en; obtain ⟨hx12_0, hf12_0⟩ := Kd.R_celln 0 HD.out.N d_1 c3b.out c4b.out; have HP14 := Kd.R_putg HD.out.N d_1 (wrap64 ((rd nx d_1) + 1)); clear HS ho hb gbn gln HGn) | ((with_reducible refine gate_store (t := 3) (p := 52) rfl ?_); refine store_event (t := 3) (p := 52) (v := ?vo_w15) (w1 := (w5.setCell ⟨gn, d_1.toNat, none⟩ (.int .i64 (wrap64 ((rd nx d_1) + 1))))) ?hg ?ho ?hn ?hr ?_; (case ho => rfl); (case hg => rfl); (case hn => rfl); (case hr => first | (go_simp; done) | (go_simp; rfl)); intro w15 hw; have n0_ := Aside0.mk (HD.out.set (gn := gn) rfl (by rw [hw]; exact HP14.1) (by rw [hw]; exact HP14.2) : TrDn w0 w _ g b p P okc _ counts fo_1 _ _ w15); clear HP14 HD hw hx12_0 hf12_0; have HD := n0_; clear n0_; have hc1 := HD.out.S.cell1) | (go_at_call 65; refine (spec_pwOf.calls k1 d_1 p q _ A2.out).mono ?_; rintro e w6 ⟨rfl, hd⟩; have n0_ := Aside0.mk (HD.out.below hd.below); clear HD hd; have HD := n0_; clear n0_) | (go_at_call 35; refine (HIH.out k1 (by have := HK1.out; omega) w0 _ g b p _ _ _ _ _ _ fo_1 (wrap64 (left - 1)) d_1 (wrap64 (sum + q)) fo HD.out.enter A3.out).mono ?_; rintro e w7 ⟨rfl, h2⟩; have n0_ := Aside0.mk (HD.out.back h2); clear HD h2; have HS := n0_; clear n0_))
              go_roundg k1
              case measure => have := HK1.out; omega
              case rel => exact ⟨fo, wrap64 (d_1 + 1), (by first | rfl | (simp; done) | (simp [*]; done)), H', ⟨by have := HK1.out; omega⟩, ⟨by first | exact HS.out | exact HS.out.drew | exact HS.out.drewN _⟩⟩
            · rw [if_neg c4] at h
              cases h
          · rw [if_neg c3] at h
            cases h
        · rw [if_neg c2] at h
          have c2b0 : decide (d_1 ≤ most) = false := decide_eq_false c2
          clear c2
          obtain rfl := Option.some.inj h
          go_wp2
          go_end0
          exact ⟨rfl, by first | exact HS.out | exact HS.out.drew | exact HS.out.drewN _⟩
/-- The search between two calls. -/
structure OwSt (w0 : World) (g : Nat) (b p : Int) (found : List Int) (W : World) : Prop where
  B : Below w0.heap.size w0 W
  g0 : w0.heap.size ≤ g
  F : ∃ vf, W.heap[g]? = some (.cells #[.int .i64 b, .int .i64 p, vf] 47 (0, 0)) ∧ Kd.R (Kd.int .i64) 3 W w0.heap.size (fun k => k ≠ g) vf found
section
variable {w0 W W2 : World} {g : Nat} {b p : Int} {found counts r : List Int} {vc : Value}
theorem OwSt.new (hB : Below w0.heap.size w0 W) (b p : Int) : OwSt w0 W.heap.size b p [] (W.alloc (.cells #[.int .i64 b, .int .i64 p, .slice none 0 0] 47)) :=
  ⟨below_alloc hB _, hB.size, .slice none 0 0, by simpa using heap_alloc_new W _, Kd.R_nil _ _ _ _ _⟩
theorem OwSt.below (h : OwSt w0 g b p found W) (hb : Below W.heap.size W W2) : OwSt w0 g b p found W2 := by
  obtain ⟨vf, hg, hR⟩ := h.F
  exact ⟨below_step h.B hb, h.g0, vf, (hb.block g (blk_lt hg)).trans hg, Kd.R_below hR hb⟩
theorem OwSt.drewN (h : OwSt w0 g b p found W) (m : Nat) : OwSt w0 g b p found (W.drewN m) := h.below (pw_below_drewN (Below.refl _ _) m)
theorem OwSt.drew (h : OwSt w0 g b p found W) : OwSt w0 g b p found W.drew := h.below (below_drew (Below.refl _ _))
theorem OwSt.enter (h : OwSt w0 g b p found W) (ho : Kd.R (Kd.int .i64) 3 W2 W.heap.size (fun _ => True) vc counts) (hb : Below W.heap.size W W2) : TrSt w0 W2 g b p (fun k => k ≠ g ∧ k < W.heap.size) (fun k => W.heap.size ≤ k ∧ k < W2.heap.size) vc counts found W2 := by
  obtain ⟨vf, hg, hR⟩ := h.F
  have hlt := blk_lt hg
  have hsz := hb.size
  refine ⟨below_step h.B hb, h.g0, Kept.refl _ _, ⟨vf, (hb.block g hlt).trans hg, Kd.R_below (Kd.R_mono (Kd.R_bound hR) (fun k hk => .inl ⟨hk.1, hk.2.2.1⟩)) hb⟩, Kd.R_lower (Kd.R_mono (Kd.R_bound ho) (fun k hk => ⟨hk.2.1, hk.2.2.1⟩)) h.B.size, fun k hk => ⟨hk.2, fun h2 => by omega, by omega⟩, ⟨fun h2 => h2.1 rfl, by omega⟩⟩
theorem OwSt.back (h : OwSt w0 g b p found W) (hb : Below W.heap.size W W2) {okc : Nat → Prop} {W3 : World} (h2 : TrSt w0 W2 g b p (fun k => k ≠ g ∧ k < W.heap.size) okc vc counts r W3) : OwSt w0 g b p r W3 := by
  obtain ⟨vf, hg, hR⟩ := h2.F
  have h3 := h2.gP.2
  refine ⟨h2.B, h.g0, vf, hg, Kd.R_mono hR (fun k hk => ?_)⟩
  rcases hk with hk | hk
  · exact hk.1
  · omega
end

/-! ### spec_Narcissistic: function 8 -/
def spec_Narcissistic.f (k : Nat) (a0 a1 : Int) : Option (List Int × Bool) := (spec_l1In.f a0 1 6).bind fun t1 => if t1 = true then ((spec_l1In.f a1 2 10).bind fun t2 => if t2 = true then (if 0 ≤ a1 ∧ a1.toNat ≤ 35184372088832 then (spec_try.f k a1 a0 a0 (wrap64 (a1 - 1)) 0 (List.replicate a1.toNat 0) []).bind fun r => some (r, true) else none) else some ([], false)) else some ([], false)
theorem spec_Narcissistic.mono : ∀ a0 a1 k, LeO (spec_Narcissistic.f k a0 a1) (spec_Narcissistic.f (k + 1) a0 a1) := fun a0 a1 k => by
  unfold spec_Narcissistic.f
  exact LeO.bind (LeO.refl _) (fun t1 => LeO.ite (LeO.bind (LeO.refl _) (fun t2 => LeO.ite (LeO.ite (LeO.bind ((spec_try.mono_l k).1 _ _ _ _ _ _ _) (fun _ => LeO.refl _)) (LeO.none _)) (LeO.refl _))) (LeO.refl _))
set_option maxHeartbeats 8000000 in
set_option maxRecDepth 100000 in
theorem spec_Narcissistic.calls (k : Nat) (a0 a1 : Int) (r1 : List Int) (r2 : Bool) (w : World) (h : spec_Narcissistic.f k a0 a1 = some (r1, r2)) :
    Calls Try.prog 8 #[.int .i64 a0, .int .i64 a1] w fun e w' => ∃ v0_ : Value, e = .returned (.tuple #[v0_, .bool r2]) ∧ Kd.R (Kd.int .i64) 3 w' w.heap.size (fun _ => True) v0_ r1 ∧ Below w.heap.size w w' := by
  unfold spec_Narcissistic.f at h
  obtain ⟨t1, a1_, h⟩ := Option.bind_eq_some_iff.mp h
  have A1 := Aside0.mk a1_
  clear a1_
  cases t1 with
  | false =>
    rw [if_neg (by decide)] at h
    simp only [Option.some.injEq, Prod.mk.injEq] at h
    obtain ⟨rfl, rfl⟩ := h
    go_enter Try.func8, Try.ntmps8
    go_wp2_with (first | (go_at_call 34; (with_reducible refine (spec_l1In.calls a0 1 6 false _ A1.out).mono ?_); rintro e w' ⟨rfl, ⟨nd, rfl⟩⟩; (try first | exact ⟨rfl, _, World.drewN_drewN _ _ _⟩ | exact ⟨rfl, _, Eq.trans (World.drewN_drewN _ _ _) (congrArg (World.drewN _) (Nat.add_assoc _ _ _))⟩)))
    repeat (go_quiet (first | (go_at_call 34; (with_reducible refine (spec_l1In.calls a0 1 6 false _ A1.out).mono ?_); rintro e w' ⟨rfl, ⟨nd, rfl⟩⟩; (try first | exact ⟨rfl, _, World.drewN_drewN _ _ _⟩ | exact ⟨rfl, _, Eq.trans (World.drewN_drewN _ _ _) (congrArg (World.drewN _) (Nat.add_assoc _ _ _))⟩))); try go_wp2_with (first | (go_at_call 34; (with_reducible refine (spec_l1In.calls a0 1 6 false _ A1.out).mono ?_); rintro e w' ⟨rfl, ⟨nd, rfl⟩⟩; (try first | exact ⟨rfl, _, World.drewN_drewN _ _ _⟩ | exact ⟨rfl, _, Eq.trans (World.drewN_drewN _ _ _) (congrArg (World.drewN _) (Nat.add_assoc _ _ _))⟩))))
    go_ret2
    exact ⟨_, rfl, Kd.R_nil _ _ _ _ _, by repeat (first | (with_reducible first | exact Below.refl _ _ | apply pw_below_drewN | apply below_drew1))⟩
  | true =>
    rw [if_pos rfl] at h
    obtain ⟨t2, a2_, h⟩ := Option.bind_eq_some_iff.mp h
    have A2 := Aside0.mk a2_
    clear a2_
    cases t2 with
    | false =>
      rw [if_neg (by decide)] at h
      simp only [Option.some.injEq, Prod.mk.injEq] at h
      obtain ⟨rfl, rfl⟩ := h
      go_enter Try.func8, Try.ntmps8
      go_wp2_with (first | (go_at_call 34; (with_reducible refine (spec_l1In.calls a0 1 6 true _ A1.out).mono ?_); rintro e w' ⟨rfl, ⟨nd, rfl⟩⟩; (try first | exact ⟨rfl, _, World.drewN_drewN _ _ _⟩ | exact ⟨rfl, _, Eq.trans (World.drewN_drewN _ _ _) (congrArg (World.drewN _) (Nat.add_assoc _ _ _))⟩)) | (go_at_call 34; (with_reducible refine (spec_l1In.calls a1 2 10 false _ A2.out).mono ?_); rintro e w' ⟨rfl, ⟨nd, rfl⟩⟩; (try first | exact ⟨rfl, _, World.drewN_drewN _ _ _⟩ | exact ⟨rfl, _, Eq.trans (World.drewN_drewN _ _ _) (congrArg (World.drewN _) (Nat.add_assoc _ _ _))⟩)))
      repeat (go_quiet (first | (go_at_call 34; (with_reducible refine (spec_l1In.calls a0 1 6 true _ A1.out).mono ?_); rintro e w' ⟨rfl, ⟨nd, rfl⟩⟩; (try first | exact ⟨rfl, _, World.drewN_drewN _ _ _⟩ | exact ⟨rfl, _, Eq.trans (World.drewN_drewN _ _ _) (congrArg (World.drewN _) (Nat.add_assoc _ _ _))⟩)) | (go_at_call 34; (with_reducible refine (spec_l1In.calls a1 2 10 false _ A2.out).mono ?_); rintro e w' ⟨rfl, ⟨nd, rfl⟩⟩; (try first | exact ⟨rfl, _, World.drewN_drewN _ _ _⟩ | exact ⟨rfl, _, Eq.trans (World.drewN_drewN _ _ _) (congrArg (World.drewN _) (Nat.add_assoc _ _ _))⟩))); try go_wp2_with (first | (go_at_call 34; (with_reducible refine (spec_l1In.calls a0 1 6 true _ A1.out).mono ?_); rintro e w' ⟨rfl, ⟨nd, rfl⟩⟩; (try first | exact ⟨rfl, _, World.drewN_drewN _ _ _⟩ | exact ⟨rfl, _, Eq.trans (World.drewN_drewN _ _ _) (congrArg (World.drewN _) (Nat.add_assoc _ _ _))⟩)) | (go_at_call 34; (with_reducible refine (spec_l1In.calls a1 2 10 false _ A2.out).mono ?_); rintro e w' ⟨rfl, ⟨nd, rfl⟩⟩; (try first | exact ⟨rfl, _, World.drewN_drewN _ _ _⟩ | exact ⟨rfl, _, Eq.trans (World.drewN_drewN _ _ _) (congrArg (World.drewN _) (Nat.add_assoc _ _ _))⟩))))
      go_ret2
      exact ⟨_, rfl, Kd.R_nil _ _ _ _ _, by repeat (first | (with_reducible first | exact Below.refl _ _ | apply pw_below_drewN | apply below_drew1))⟩
    | true =>
      rw [if_pos rfl] at h
      by_cases hp : 0 ≤ a1 ∧ a1.toNat ≤ 35184372088832
      · rw [if_pos hp] at h
        obtain ⟨r, a3_, h⟩ := Option.bind_eq_some_iff.mp h
        simp only [Option.some.injEq, Prod.mk.injEq] at h
        obtain ⟨rfl, rfl⟩ := h
        obtain ⟨ys, hys⟩ : ∃ ys : List Int, ys = List.replicate a1.toNat 0 := ⟨_, rfl⟩
        rw [← hys] at a3_
        have A3 := Aside0.mk a3_
        have NY := Aside0.mk hys
        have HP := Aside0.mk hp
        clear a3_ hys hp
        go_enter Try.func8, Try.ntmps8
        go_upto_region 1 with (fail)
        go_cut [14] (fun v14 wc => v14 = .bool false ∧ Aside0 (Below w.heap.size w wc))
        case first =>
          go_wp2_with (first | (go_at_call 34; (with_reducible refine (spec_l1In.calls a0 1 6 true _ A1.out).mono ?_); rintro e w' ⟨rfl, ⟨nd, rfl⟩⟩; (try first | exact ⟨rfl, _, World.drewN_drewN _ _ _⟩ | exact ⟨rfl, _, Eq.trans (World.drewN_drewN _ _ _) (congrArg (World.drewN _) (Nat.add_assoc _ _ _))⟩)) | (go_at_call 34; (with_reducible refine (spec_l1In.calls a1 2 10 true _ A2.out).mono ?_); rintro e w' ⟨rfl, ⟨nd, rfl⟩⟩; (try first | exact ⟨rfl, _, World.drewN_drewN _ _ _⟩ | exact ⟨rfl, _, Eq.trans (World.drewN_drewN _ _ _) (congrArg (World.drewN _) (Nat.add_assoc _ _ _))⟩)))
          repeat (go_quiet (first | (go_at_call 34; (with_reducible refine (spec_l1In.calls a0 1 6 true _ A1.out).mono ?_); rintro e w' ⟨rfl, ⟨nd, rfl⟩⟩; (try first | exact ⟨rfl, _, World.drewN_drewN _ _ _⟩ | exact ⟨rfl, _, Eq.trans (World.drewN_drewN _ _ _) (congrArg (World.drewN _) (Nat.add_assoc _ _ _))⟩)) | (go_at_call 34; (with_reducible refine (spec_l1In.calls a1 2 10 true _ A2.out).mono ?_); rintro e w' ⟨rfl, ⟨nd, rfl⟩⟩; (try first | exact ⟨rfl, _, World.drewN_drewN _ _ _⟩ | exact ⟨rfl, _, Eq.trans (World.drewN_drewN _ _ _) (congrArg (World.drewN _) (Nat.add_assoc _ _ _))⟩))); try go_wp2_with (first | (go_at_call 34; (with_reducible refine (spec_l1In.calls a0 1 6 true _ A1.out).mono ?_); rintro e w' ⟨rfl, ⟨nd, rfl⟩⟩; (try first | exact ⟨rfl, _, World.drewN_drewN _ _ _⟩ | exact ⟨rfl, _, Eq.trans (World.drewN_drewN _ _ _) (congrArg (World.drewN _) (Nat.add_assoc _ _ _))⟩)) | (go_at_call 34; (with_reducible refine (spec_l1In.calls a1 2 10 true _ A2.out).mono ?_); rintro e w' ⟨rfl, ⟨nd, rfl⟩⟩; (try first | exact ⟨rfl, _, World.drewN_drewN _ _ _⟩ | exact ⟨rfl, _, Eq.trans (World.drewN_drewN _ _ _) (congrArg (World.drewN _) (Nat.add_assoc _ _ _))⟩))))
          go_meet
          case rel => exact ⟨by first | rfl | (simp; done), ⟨by repeat (first | (with_reducible first | exact Below.refl _ _ | apply pw_below_drewN | apply below_drew1))⟩⟩
        case rest =>
          obtain ⟨rfl, HB⟩ := hcut
          go_upto_region 4 with (fail)
          have HS := Aside0.mk (OwSt.new HB.out a1 a0)
          generalize hg : wc.heap.size = g at HS ⊢
          clear hg HB
          go_wp2_with (first | ((with_reducible refine gate_dst (N := 24) rfl ?_); refine Kd.R_make (Kd.int .i64) _ 3 rfl (N := 24) rfl 22 _ _ rfl a1 rfl rfl Try.underlying22 (.int .i64 0) 8 info3 rfl (by decide) (by omega) 0 (ok := fun _ => True) (okp := fun _ => True) rfl (fun _ hk => hk) trivial HP.out.1 (Nat.le_trans (Nat.mul_le_mul_right _ HP.out.2) (by omega)) (Below.refl _ _) (Nat.le_refl _) ?_; intro v5 w5 ho5 hb5 hg_ hnew_; clear hg_ hnew_; rw [← NY.out] at ho5; have HT := Aside0.mk (HS.out.enter ho5 hb5); have HB5 := Aside0.mk hb5; obtain ⟨Ay, cy, ey⟩ := Kd.R_slice ho5; subst ey; clear ho5 hb5) | (go_at_call 35; refine (spec_try.calls k w _ g a1 a0 _ _ _ _ _ ys [] a0 (wrap64 (a1 - 1)) 0 r HT.out A3.out).mono ?_; rintro e w7 ⟨rfl, h2⟩; have n0_ := Aside0.mk (HS.out.back HB5.out h2); clear HS HT HB5 h2; have HS := n0_; clear n0_; obtain ⟨vf, hgf, hRf⟩ := HS.out.F; obtain ⟨Af, cf, ef⟩ := Kd.R_slice hRf; subst ef; have hc2 := (blk_cell hgf 2).trans (rfl : _ = some _); have HR := Aside0.mk hRf; clear hgf hRf))
          go_ret2
          exact ⟨_, rfl, Kd.R_mono HR.out (fun _ _ => trivial), HS.out.B⟩
      · rw [if_neg hp] at h
        cases h

/-! ### impl_in: function 37 -/
def impl_in.f (a0 : Int) (a1 : Int) (a2 : Int) : Option (Bool) := if a1 ≤ a0 then (some (decide (a0 ≤ a2))) else (some false)
set_option maxHeartbeats 8000000 in
set_option maxRecDepth 100000 in
theorem impl_in.calls (a0 : Int) (a1 : Int) (a2 : Int) (r : Bool) (w : World) (h : impl_in.f a0 a1 a2 = some r) :
    Calls Try.prog 37 #[.int .i64 a0, .int .i64 a1, .int .i64 a2] w fun e w' => e = .returned (.bool r) ∧ Drawn0 w w' := by
  have H : (if a1 ≤ a0 then (some (decide (a0 ≤ a2))) else (some false)) = some r := h
  clear h
  by_cases c4 : a1 ≤ a0
  · rw [if_pos c4] at H
    have c4b0 : decide (a1 ≤ a0) = true := decide_eq_true c4
    clear c4
    obtain rfl := Option.some.inj H
    go_enter Try.func37, Try.ntmps37
    go_wp2
    go_ret
    exact ⟨by first | rfl | (simp; done) | (simp [*]; done), by repeat (first | exact Drawn0.refl _ | apply Drawn0.step)⟩
  · rw [if_neg c4] at H
    have c4b0 : decide (a1 ≤ a0) = false := decide_eq_false c4
    clear c4
    obtain rfl := Option.some.inj H
    go_enter Try.func37, Try.ntmps37
    go_wp2
    go_ret
    exact ⟨by first | rfl | (simp; done) | (simp [*]; done), by repeat (first | exact Drawn0.refl _ | apply Drawn0.step)⟩

/-! ### impl_isSmallBase: function 36 -/
def impl_isSmallBase.f (a0 : Int) : Option (Bool) := (impl_in.f a0 2 10).bind fun t166 => (some t166)
set_option maxHeartbeats 8000000 in
set_option maxRecDepth 100000 in
theorem impl_isSmallBase.calls (a0 : Int) (r : Bool) (w : World) (h : impl_isSmallBase.f a0 = some r) :
    Calls Try.prog 36 #[.int .i64 a0] w fun e w' => e = .returned (.bool r) ∧ Drawn0 w w' := by
  have H : ((impl_in.f a0 2 10).bind fun t166 => (some t166)) = some r := h
  clear h
  replace H := Option.bind_eq_some_iff.mp H
  obtain ⟨t166, A20, H⟩ := H
  replace H : (some t166) = some r := H
  have A2 := Aside0.mk A20
  clear A20
  obtain rfl := Option.some.inj H
  go_enter Try.func36, Try.ntmps36
  go_wp2_with (first | ((with_reducible refine gate_callee (f := 37) rfl ?_); refine goesL_ (some 4) rfl rfl Try.func37 (by kernel_rfl) rfl #[.int .i64 a0, .int .i64 2, .int .i64 10] rfl (by (try simp only [List.map_toArray, List.map_cons, List.map_nil]); first | done | rfl | (simp only [List.length_drop, List.length_take]; rfl)) ?_; (with_reducible refine (impl_in.calls a0 2 10 t166 _ A2.out).mono ?_); rintro e w' ⟨rfl, ⟨nd, rfl⟩⟩; refine ⟨_, rfl, ?_⟩))
  go_ret
  exact ⟨by first | rfl | (simp; done) | (simp [*]; done), by repeat (first | exact Drawn0.refl _ | apply Drawn0.step)⟩

/-! ### impl_toPower: function 61 -/
def impl_toPower.l0 : Nat → Int → Int → Int → Int → Option (Int)
  | 0, _, _, _, _ => none
  | k + 1, x0, x5, x6, x7 => if x7 < x6 then (impl_toPower.l0 k x0 (wrap64 (x5 * x0)) x6 (wrap64 (x7 + 1))) else (some x5)
def impl_toPower.f (k : Nat) (a0 : Int) (a1 : Int) : Option (Int) := impl_toPower.l0 k a0 1 a1 0
theorem impl_toPower.mono_l : ∀ k, (∀ y0 y1 y2 y3, LeO (impl_toPower.l0 k y0 y1 y2 y3) (impl_toPower.l0 (k + 1) y0 y1 y2 y3))
  | 0 => fun _ _ _ _ r h => by simp [impl_toPower.l0] at h
  | k + 1 => by
    have ih0 := impl_toPower.mono_l k
    · intro y0 y1 y2 y3
      unfold impl_toPower.l0
      repeat' first
      | (with_reducible exact ih0 _ _ _ _)
      | (with_reducible exact LeO.refl _)
      | (with_reducible exact LeO.none _)
      | (with_reducible refine LeO.ite ?_ ?_)
      | (with_reducible refine LeO.bind ?_ (fun _ => ?_))
      | exact ih0 _ _ _ _
      | exact LeO.none _
      | refine LeO.ite ?_ ?_
      | refine LeO.bind ?_ (fun _ => ?_)
theorem impl_toPower.mono : ∀ a0 a1 k, LeO (impl_toPower.f k a0 a1) (impl_toPower.f (k + 1) a0 a1) := by
  intro a0 a1 k
  have ih0 := impl_toPower.mono_l k
  unfold impl_toPower.f
  repeat' first
      | (with_reducible exact ih0 _ _ _ _)
      | (with_reducible exact LeO.refl _)
      | (with_reducible exact LeO.none _)
      | (with_reducible refine LeO.ite ?_ ?_)
      | (with_reducible refine LeO.bind ?_ (fun _ => ?_))
      | exact ih0 _ _ _ _
      | exact LeO.none _
      | refine LeO.ite ?_ ?_
      | refine LeO.bind ?_ (fun _ => ?_)
set_option maxHeartbeats 8000000 in
set_option maxRecDepth 100000 in
theorem impl_toPower.calls (k : Nat) (a0 : Int) (a1 : Int) (r : Int) (w : World) (h : impl_toPower.f k a0 a1 = some r) :
    Calls Try.prog 61 #[.int .i64 a0, .int .i64 a1] w fun e w' => e = .returned (.int .i64 r) ∧ Drawn0 w w' := by
  have H : (impl_toPower.l0 k a0 1 a1 0) = some r := h
  clear h
  have H' := Aside0.mk H
  clear H
  go_enter Try.func61, Try.ntmps61
  go_wp2
  go_loopg [5, 7] k (fun kq v5 v7 w' => ∃ (x5_1 : Int) (x7_1 : Int), v5 = .int .i64 x5_1 ∧ v7 = .int .i64 x7_1 ∧ Aside0 (impl_toPower.l0 kq a0 x5_1 a1 x7_1 = some r) ∧ Aside0 (kq ≤ k) ∧ Drawn0 w w')
  case atStart => exact ⟨(1), (0), (by first | rfl | (simp; done) | (simp [*]; done)), (by first | rfl | (simp; done) | (simp [*]; done)), H', ⟨Nat.le_refl _⟩, by repeat (first | exact Drawn0.refl _ | apply Drawn0.step)⟩
  case round =>
    clear H'
    try clear p2
    obtain ⟨x5_1, x7_1, rfl, rfl, HA, HK1, ⟨m1, rfl⟩⟩ := hrel
    cases gk with
    | zero => exact absurd HA.out (by simp [impl_toPower.l0])
    | succ k1 =>
      have H := HA.out
      clear HA
      simp only [impl_toPower.l0] at H
      by_cases c3 : x7_1 < a1
      · rw [if_pos c3] at H
        have c3b0 : decide (x7_1 < a1) = true := decide_eq_true c3
        clear c3
        have H' := Aside0.mk H
        clear H
        go_wp2
        go_roundg k1
        case measure => have := HK1.out; omega
        case rel => exact ⟨(wrap64 (x5_1 * a0)), (wrap64 (x7_1 + 1)), (by first | rfl | (simp; done) | (simp [*]; done)), (by first | rfl | (simp; done) | (simp [*]; done)), H', ⟨by have := HK1.out; omega⟩, by repeat (first | exact Drawn0.refl _ | apply Drawn0.step)⟩
      · rw [if_neg c3] at H
        have c3b0 : decide (x7_1 < a1) = false := decide_eq_false c3
        clear c3
        obtain rfl := Option.some.inj H
        go_wp2
        go_ret
        exact ⟨by first | rfl | (simp; done) | (simp [*]; done), by repeat (first | exact Drawn0.refl _ | apply Drawn0.step)⟩

/-! ### slices_Equal_int_int: function 75 -/
def slices_Equal_int_int.l0 : Nat → List Int → List Int → Int → Int → Option (Bool)
  | 0, _, _, _, _ => none
  | k + 1, x0, x1, x12, x13 => if x13 < x12 then (if 0 ≤ x13 then (if x13 < (x0.length : Int) then (if x13 < (x1.length : Int) then (if (rd x0 x13) = (rd x1 x13) then (slices_Equal_int_int.l0 k x0 x1 x12 (wrap64 (x13 + 1))) else (some false)) else (none)) else (none)) else (none)) else (some true)
def slices_Equal_int_int.f (k : Nat) (l0 : List Int) (l1 : List Int) : Option (Bool) := if (l0.length : Int) = (l1.length : Int) then (slices_Equal_int_int.l0 k l0 l1 (l0.length : Int) 0) else (some false)
theorem slices_Equal_int_int.mono_l : ∀ k, (∀ y0 y1 y2 y3, LeO (slices_Equal_int_int.l0 k y0 y1 y2 y3) (slices_Equal_int_int.l0 (k + 1) y0 y1 y2 y3))
  | 0 => fun _ _ _ _ r h => by simp [slices_Equal_int_int.l0] at h
  | k + 1 => by
    have ih0 := slices_Equal_int_int.mono_l k
    · intro y0 y1 y2 y3
      unfold slices_Equal_int_int.l0
      repeat' first
      | (with_reducible exact ih0 _ _ _ _)
      | (with_reducible exact LeO.refl _)
      | (with_reducible exact LeO.none _)
      | (with_reducible refine LeO.ite ?_ ?_)
      | (with_reducible refine LeO.bind ?_ (fun _ => ?_))
      | exact ih0 _ _ _ _
      | exact LeO.none _
      | refine LeO.ite ?_ ?_
      | refine LeO.bind ?_ (fun _ => ?_)
theorem slices_Equal_int_int.mono : ∀ a0 a1 k, LeO (slices_Equal_int_int.f k a0 a1) (slices_Equal_int_int.f (k + 1) a0 a1) := by
  intro a0 a1 k
  have ih0 := slices_Equal_int_int.mono_l k
  unfold slices_Equal_int_int.f
  repeat' first
      | (with_reducible exact ih0 _ _ _ _)
      | (with_reducible exact LeO.refl _)
      | (with_reducible exact LeO.none _)
      | (with_reducible refine LeO.ite ?_ ?_)
      | (with_reducible refine LeO.bind ?_ (fun _ => ?_))
      | exact ih0 _ _ _ _
      | exact LeO.none _
      | refine LeO.ite ?_ ?_
      | refine LeO.bind ?_ (fun _ => ?_)
set_option maxHeartbeats 8000000 in
set_option maxRecDepth 100000 in
theorem slices_Equal_int_int.calls (k : Nat) (A0 : Option Addr) (c0 : Nat) (l0 : List Int) (A1 : Option Addr) (c1 : Nat) (l1 : List Int) (r : Bool) (w : World) (hr0 : Kd.C (Kd.int .i64) w A0 l0.length l0) (hc0 : l0.length ≤ c0) (hr1 : Kd.C (Kd.int .i64) w A1 l1.length l1) (hc1 : l1.length ≤ c1) (h : slices_Equal_int_int.f k l0 l1 = some r) :
    Calls Try.prog 75 #[.slice A0 l0.length c0, .slice A1 l1.length c1] w fun e w' => e = .returned (.bool r) ∧ Drawn0 w w' := by
  have HR0 := Aside0.mk hr0
  have HC0 := Aside0.mk hc0
  clear hr0 hc0
  have HR1 := Aside0.mk hr1
  have HC1 := Aside0.mk hc1
  clear hr1 hc1
  have H : (if (l0.length : Int) = (l1.length : Int) then (slices_Equal_int_int.l0 k l0 l1 (l0.length : Int) 0) else (some false)) = some r := h
  clear h
  by_cases c3 : (l0.length : Int) = (l1.length : Int)
  · rw [if_pos c3] at H
    have c3b0 : ((l0.length : Int) == (l1.length : Int)) = true := beq_iff_eq.mpr c3
    have c3b1 : ((l0.length : Int) != (l1.length : Int)) = false := bne_eq_false_iff_eq.mpr c3
    have c3b2 : (l0.length == l1.length) = true := by first | simpa using c3 | (simp at c3 ⊢; omega)
    clear c3
    have H' := Aside0.mk H
    clear H
    go_enter Try.func75, Try.ntmps75
    go_wp2
    repeat (go_quiet (fail); try go_wp2)
    go_loopg [13] k (fun kq v13 w' => ∃ (x13_1 : Int), v13 = .int .i64 x13_1 ∧ Aside0 (slices_Equal_int_int.l0 kq l0 l1 (l0.length : Int) x13_1 = some r) ∧ Aside0 (kq ≤ k) ∧ Drawn0 w w')
    case atStart => exact ⟨(0), (by first | rfl | (simp; done) | (simp [*]; done)), H', ⟨Nat.le_refl _⟩, by repeat (first | exact Drawn0.refl _ | apply Drawn0.step)⟩
    case round =>
      clear H'
      try clear c1
      try clear p2
      try clear c3
      try clear c3b0
      try clear c3b1
      try clear c3b2
      obtain ⟨x13_1, rfl, HA, HK1, ⟨m1, rfl⟩⟩ := hrel
      cases gk with
      | zero => exact absurd HA.out (by simp [slices_Equal_int_int.l0])
      | succ k1 =>
        have H := HA.out
        clear HA
        simp only [slices_Equal_int_int.l0] at H
        by_cases c4 : x13_1 < (l0.length : Int)
        · rw [if_pos c4] at H
          have c4b0 : decide (x13_1 < (l0.length : Int)) = true := decide_eq_true c4
          clear c4
          by_cases c5 : 0 ≤ x13_1
          · rw [if_pos c5] at H
            have c5b0 : decide (0 ≤ x13_1) = true := decide_eq_true c5
            clear c5
            by_cases c6 : x13_1 < (l0.length : Int)
            · rw [if_pos c6] at H
              have c6b0 : decide (x13_1 < (l0.length : Int)) = true := decide_eq_true c6
              clear c6
              by_cases c7 : x13_1 < (l1.length : Int)
              · rw [if_pos c7] at H
                have c7b0 : decide (x13_1 < (l1.length : Int)) = true := decide_eq_true c7
                clear c7
                by_cases c8 : (rd l0 x13_1) = (rd l1 x13_1)
                · rw [if_pos c8] at H
                  have c8b0 : ((rd l0 x13_1) == (rd l1 x13_1)) = true := beq_iff_eq.mpr c8
                  have c8b1 : ((rd l0 x13_1) != (rd l1 x13_1)) = false := bne_eq_false_iff_eq.mpr c8
                  clear c8
                  have H' := Aside0.mk H
                  clear H
                  have p167 : 0 ≤ (x13_1 : Int) := of_decide_eq_true (by first | (with_reducible assumption) | assumption)
                  have q167 : x13_1 < (l0.length : Int) := of_decide_eq_true (by first | (with_reducible assumption) | assumption)
                  obtain ⟨ad167, e167, hx167_0⟩ := Kd.at_int HR0.out x13_1 p167 q167
                  cases e167
                  replace p167 := eq_true p167
                  replace q167 := eq_true q167
                  have p168 : 0 ≤ (x13_1 : Int) := of_decide_eq_true (by first | (with_reducible assumption) | assumption)
                  have q168 : x13_1 < (l1.length : Int) := of_decide_eq_true (by first | (with_reducible assumption) | assumption)
                  obtain ⟨ad168, e168, hx168_0⟩ := Kd.at_int HR1.out x13_1 p168 q168
                  cases e168
                  replace p168 := eq_true p168
                  replace q168 := eq_true q168
                  go_wp2
                  repeat (go_quiet (fail); try go_wp2)
                  go_roundg k1
                  case measure => have := HK1.out; omega
                  case rel => exact ⟨(wrap64 (x13_1 + 1)), (by first | rfl | (simp; done) | (simp [*]; done)), H', ⟨by have := HK1.out; omega⟩, by repeat (first | exact Drawn0.refl _ | apply Drawn0.step)⟩
                · rw [if_neg c8] at H
                  have c8b0 : ((rd l0 x13_1) == (rd l1 x13_1)) = false := beq_eq_false_iff_ne.mpr c8
                  have c8b1 : ((rd l0 x13_1) != (rd l1 x13_1)) = true := bne_iff_ne.mpr c8
                  obtain rfl := Option.some.inj H
                  have p167 : 0 ≤ (x13_1 : Int) := of_decide_eq_true (by first | (with_reducible assumption) | assumption)
                  have q167 : x13_1 < (l0.length : Int) := of_decide_eq_true (by first | (with_reducible assumption) | assumption)
                  obtain ⟨ad167, e167, hx167_0⟩ := Kd.at_int HR0.out x13_1 p167 q167
                  cases e167
                  replace p167 := eq_true p167
                  replace q167 := eq_true q167
                  have p168 : 0 ≤ (x13_1 : Int) := of_decide_eq_true (by first | (with_reducible assumption) | assumption)
                  have q168 : x13_1 < (l1.length : Int) := of_decide_eq_true (by first | (with_reducible assumption) | assumption)
                  obtain ⟨ad168, e168, hx168_0⟩ := Kd.at_int HR1.out x13_1 p168 q168
                  cases e168
                  replace p168 := eq_true p168
                  replace q168 := eq_true q168
                  go_wp2
                  repeat (go_quiet (fail); try go_wp2)
                  go_ret
                  exact ⟨by first | rfl | (simp; done) | (simp [*]; done), by repeat (first | exact Drawn0.refl _ | apply Drawn0.step)⟩
              · rw [if_neg c7] at H
                exact absurd H (by simp)
            · rw [if_neg c6] at H
              exact absurd H (by simp)
          · rw [if_neg c5] at H
            exact absurd H (by simp)
        · rw [if_neg c4] at H
          have c4b0 : decide (x13_1 < (l0.length : Int)) = false := decide_eq_false c4
          clear c4
          obtain rfl := Option.some.inj H
          go_wp2
          repeat (go_quiet (fail); try go_wp2)
          go_ret
          exact ⟨by first | rfl | (simp; done) | (simp [*]; done), by repeat (first | exact Drawn0.refl _ | apply Drawn0.step)⟩
  · rw [if_neg c3] at H
    have c3b0 : ((l0.length : Int) == (l1.length : Int)) = false := beq_eq_false_iff_ne.mpr c3
    have c3b1 : ((l0.length : Int) != (l1.length : Int)) = true := bne_iff_ne.mpr c3
    have c3b2 : (l0.length == l1.length) = false := by first | simpa using c3 | (simp at c3 ⊢; omega)
    obtain rfl := Option.some.inj H
    go_enter Try.func75, Try.ntmps75
    go_wp2
    repeat (go_quiet (fail); try go_wp2)
    go_ret
    exact ⟨by first | rfl | (simp; done) | (simp [*]; done), by repeat (first | exact Drawn0.refl _ | apply Drawn0.step)⟩

end Go.Proofs.Ytehhkkbejmhcfaa.PFnExactNarcissistic
