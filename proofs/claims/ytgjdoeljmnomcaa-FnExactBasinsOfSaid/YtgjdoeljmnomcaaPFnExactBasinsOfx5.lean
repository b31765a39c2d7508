/- Each Go function that FnExactBasinsOf reaches, as a plain Lean function, and a proof that the Go code comes to its answers. No conditions. (Written by a program.) -/
import Derived.Test.YtgjdoeljmnomcaaPFnExactBasinsOfx0
import Derived.Test.YtgjdoeljmnomcaaPFnExactBasinsOfx4
namespace Go.Proofs.Ytgjdoeljmnomcaa.PFnExactBasinsOf
open Go.RowKit Go.Proofs.YtgjdoeljmnomcaaW.PrintWords Go.Proofs.YtgjdoeljmnomcaaW.PrintLast Go.Proofs.YtgjdoeljmnomcaaW.PrintMore
attribute [local go_sem] max2_int min2_int max_two min_two max_three min_three max_four min_four   -- for this text's walks alone
set_option linter.unusedVariables false
set_option linter.unusedSimpArgs false

/-! ### slices_Concat_int_int: function 84 -/
def slices_Concat_int_int.f (l0 : List (List Int)) : Option (List Int) := if l0.length ≤ 1000 ∧ l0.flatten.length ≤ 1000000 then some l0.flatten else none
theorem concat_take {l0 : List (List Int)} {j : Nat} (hj : j < l0.length) : (l0.take (j + 1)).flatten = (l0.take j).flatten ++ rd_L2 l0 (j : Int) := by
  have e : l0[j] = rd_L2 l0 (j : Int) := by simp [rd_L2, List.getD_eq_getElem?_getD, List.getElem?_eq_getElem hj]
  rw [List.take_succ_eq_append_getElem hj, List.flatten_append, ← e]
  simp
theorem concat_le (l0 : List (List Int)) (j : Nat) : (l0.take j).flatten.length ≤ l0.flatten.length := by
  have h := congrArg List.length (congrArg List.flatten (List.take_append_drop j l0))
  rw [List.flatten_append, List.length_append] at h
  omega
theorem concat_wrap {s m : Nat} (h : s + m ≤ 1000000) : wrap64 ((s : Int) + (m : Int)) = ((s + m : Nat) : Int) ∧ decide (wrap64 ((s : Int) + (m : Int)) < 0) = false ∧ decide (((s + m : Nat) : Int) < 0) = false := by
  have e : wrap64 ((s : Int) + (m : Int)) = ((s + m : Nat) : Int) := by unfold wrap64; omega
  refine ⟨e, ?_, decide_eq_false (by omega)⟩
  rw [e]
  exact decide_eq_false (by omega)
theorem concat_next {j : Nat} (h : j ≤ 1000) : wrap64 ((j : Int) + 1) = ((j + 1 : Nat) : Int) := by unfold wrap64; omega
set_option maxHeartbeats 2000000 in
theorem concat_grow (n : Nat) (hn : n ≤ 1000000) (w : World) : Calls Try.prog 85 #[.slice none 0 0, .int .i64 (n : Int)] w fun e w' => ∃ v, e = .returned v ∧ Kd.R (Kd.int .i64) 3 w' w.heap.size (fun _ => True) v [] ∧ Below w.heap.size w w' := by
  obtain ⟨i0, hi, hz0, hz1, hz2⟩ := info_parts info3
  have hd1 : decide ((n : Int) < 0) = false := decide_eq_false (by omega)
  have hw0 : wrap64 ((n : Int) - 0) = (n : Int) := by unfold wrap64; omega
  by_cases h0 : 0 < n
  · have hd2 : decide ((n : Int) > 0) = true := decide_eq_true (by omega)
    have hd3 : decide (0 < (n : Int)) = true := decide_eq_true (by omega)
    have hrun := fun W => Lib.run_append_nil_zeros (P := Try.prog) W 22 3 22 3 i0 (.int .i64 0) .i64 .i64 Try.underlying22 Try.underlying3 hi hz0 n h0 (by rw [hz1]; omega) (by omega) (by rw [hz2]; omega)
    have HRUN := Aside0.mk hrun
    clear hrun
    go_enter Try.func85, Try.ntmps85
    go_wp2_with (at_builtin; refine Lib.wpList_append_run _ rfl _ _ _ _ rfl _ _ rfl rfl _ _ (HRUN.out _) ?_)
    go_ret
    have hge := grownCap_ge w n 0 3
    have hle := grownCap_le_maxLen w n 0 3 (by unfold maxLen; omega)
    have hc1 : (Value.int .i64 0).cells.size = 1 := rfl
    refine ⟨_, rfl, ⟨fun _ _ => trivial, [], ⟨by simp, .inr ⟨w.heap.size, grownCap w n 0 3, _, rfl, Nat.le_refl _, blk_new _ _, Nat.zero_le _, hle, ?_, by simp⟩⟩, Reps.none _ _⟩, below_alloc (below_drew (Below.refl _ _)) _⟩
    show _ = grownCap w n 0 3 * 1
    rw [Array.size_append, size_zeroCells, size_zeroCells]
    show n * 1 + (grownCap w n 0 3 - n) * 1 = grownCap w n 0 3 * 1
    omega
  · obtain rfl : n = 0 := by omega
    go_enter Try.func85, Try.ntmps85
    go_wp2
    go_ret
    exact ⟨_, rfl, Kd.R_nil _ _ _ _ _, Below.refl _ _⟩
set_option maxHeartbeats 8000000 in
set_option maxRecDepth 100000 in
theorem slices_Concat_int_int.calls (A0 : Option Addr) (c0 : Nat) (l0 : List (List Int)) (r : List Int) (w : World) (hr0 : Kd.C (Kd.slice 3 (Kd.int .i64)) w A0 l0.length l0) (hc0 : l0.length ≤ c0) (h : slices_Concat_int_int.f l0 = some r) :
    Calls Try.prog 84 #[.slice A0 l0.length c0] w fun e w' => ∃ v0_ : Value, e = .returned (v0_) ∧ Kd.R (Kd.int .i64) 3 w' w.heap.size (fun _ => True) v0_ r ∧ Below w.heap.size w w' := by
  have hc : (l0.length ≤ 1000 ∧ l0.flatten.length ≤ 1000000) ∧ l0.flatten = r := by
    unfold slices_Concat_int_int.f at h
    by_cases hc : l0.length ≤ 1000 ∧ l0.flatten.length ≤ 1000000
    · rw [if_pos hc] at h; exact ⟨hc, Option.some.inj h⟩
    · rw [if_neg hc] at h; cases h
  clear h
  obtain ⟨⟨hl, hf⟩, rfl⟩ := hc
  have HL := Aside0.mk hl
  have HF := Aside0.mk hf
  have HR0 := Aside0.mk hr0
  have HC0 := Aside0.mk hc0
  have HB := Aside0.mk (Below.refl w.heap.size w)
  clear hl hf hr0 hc0
  go_enter Try.func84, Try.ntmps84
  go_wp2
  go_loopg [3, 11] l0.length (fun gg s3 s11 wr => ∃ jj q : Nat, jj ≤ l0.length ∧ l0.length - jj ≤ gg ∧ s11 = .int .i64 (jj : Int) ∧ s3 = .int .i64 ((l0.take jj).flatten.length : Int) ∧ wr = w.drewN q)
  case atStart => exact ⟨0, 0, Nat.zero_le _, by omega, rfl, by simp, rfl⟩
  case round =>
    obtain ⟨jj, q, hjj, hg, rfl, rfl, rfl⟩ := hrel
    by_cases hlt : jj < l0.length
    · have hltz : (jj : Int) < (l0.length : Int) := by omega
      obtain ⟨ad1, A1, c1, e1, hcell, hl1, hC1⟩ := at_L2 HR0.out (jj : Int) (by omega) hltz
      cases e1
      rw [Int.toNat_natCast] at hcell
      have e2 := congrArg List.length (concat_take hlt)
      rw [List.length_append] at e2
      have e3 := concat_le l0 (jj + 1)
      have e4 := HF.out
      obtain ⟨s, hs⟩ : ∃ s, s = (l0.take jj).flatten.length := ⟨_, rfl⟩
      obtain ⟨m, hm⟩ : ∃ m, m = (rd_L2 l0 (jj : Int)).length := ⟨_, rfl⟩
      rw [← hs] at e2 ⊢
      rw [← hm] at e2 hcell
      have h5 : s + m ≤ 1000000 := by
        have h6 : s + m ≤ l0.flatten.length := by rw [← e2]; exact e3
        exact Nat.le_trans h6 e4
      obtain ⟨hw9, hd2, hd1⟩ := concat_wrap h5
      clear h5
      have HW := Aside0.mk hw9
      have E2 := Aside0.mk e2
      clear hw9 e2 e3 e4 hl1 hC1 hs hm
      go_wp2
      go_roundg (l0.length - (jj + 1))
      case measure => omega
      case rel => have hc9 := HL.out; exact ⟨jj + 1, _, by omega, by omega, (by first | (rw [concat_next (Nat.le_trans hjj hc9)]) | (rw [i64_w, concat_next (Nat.le_trans hjj hc9)]) | go_num), (by rw [E2.out]; first | (rw [HW.out]) | (rw [i64_w, HW.out]) | go_num), rfl⟩
    · obtain rfl : jj = l0.length := by omega
      have hd1 : decide ((l0.length : Int) < (l0.length : Int)) = false := decide_eq_false (by omega)
      rw [List.take_length]
      obtain ⟨s, hs⟩ : ∃ s, s = l0.flatten.length := ⟨_, rfl⟩
      have HS : Aside0 (s ≤ 1000000) := ⟨by rw [hs]; exact HF.out⟩
      rw [← hs]
      clear hs
      go_wp2_with (go_at_call 85; refine (concat_grow s HS.out _).mono ?_; rintro e w' ⟨v6, rfl, ho, hb⟩; have n0_ := Aside0.mk (Kd.R_lower ho (below_size (pw_below_drewN HB.out q))); have n1_ := Aside0.mk (below_step (pw_below_drewN HB.out q) hb); clear ho hb HB; have HO := n0_; have HB := n1_; clear n0_ n1_)
      go_loopg [6, 27] l0.length (fun gg s6 s27 wr => ∃ jj : Nat, jj ≤ l0.length ∧ l0.length - jj ≤ gg ∧ s27 = .int .i64 (jj : Int) ∧ Aside0 (Kd.R (Kd.int .i64) 3 wr w.heap.size (fun _ => True) s6 (l0.take jj).flatten) ∧ Aside0 (Below w.heap.size w wr))
      case atStart => exact ⟨0, Nat.zero_le _, by omega, rfl, by simpa using HO, HB⟩
      case round =>
        clear HO HB
        obtain ⟨jj, hjj, hg, rfl, HO, HB⟩ := hrel
        by_cases hlt : jj < l0.length
        · have hltz : (jj : Int) < (l0.length : Int) := by omega
          obtain ⟨ad1, A1, c1, e1, hcell, hl1, hC1⟩ := at_L2 (Kd.C_below HR0.out HB.out) (jj : Int) (by omega) hltz
          cases e1
          rw [Int.toNat_natCast] at hcell
          have e2 := concat_take hlt
          have e3 := concat_le l0 (jj + 1)
          rw [e2, List.length_append] at e3
          have E2 := Aside0.mk e2
          have E3 : Aside0 ((l0.take jj).flatten.length + (rd_L2 l0 (jj : Int)).length ≤ 1000000) := ⟨Nat.le_trans e3 HF.out⟩
          have HC1 := Aside0.mk hC1
          have HL1 := Aside0.mk hl1
          obtain ⟨xs, hxs⟩ : ∃ xs, xs = (l0.take jj).flatten := ⟨_, rfl⟩
          obtain ⟨ys, hys⟩ : ∃ ys, ys = rd_L2 l0 (jj : Int) := ⟨_, rfl⟩
          rw [← hxs] at HO E2 E3
          rw [← hys] at HC1 HL1 E2 E3 hcell
          clear e2 e3 hC1 hl1 hxs hys
          go_wp2_with ((with_reducible refine gate_builtin (b := .append) (xs := #[.tmp 31, .tmp 32]) rfl ?_); at_builtin; refine Kd.R_append_rows (Kd.int .i64) (w0 := w) w.heap.size rfl (.tmp 31) (.tmp 32) 22 3 (.int .i64 0) 8 rfl Try.underlying22 info3 rfl (by decide) (by omega) _ xs ys _ _ _ (fun _ => True) (fun _ => False) rfl rfl ?aO ?aR (fun _ _ h => h) (fun _ h => h.elim) (fun _ _ => trivial) ?aB ?aS ?aL ?_; (case aR => exact HC1.out); (case aB => exact HB.out); (case aO => exact HO.out); (case aS => exact HB.out.size); (case aL => have := E3.out; omega); intro v2 w2 ho hb hg2 hat; have n0_ := Aside0.mk ho; have n1_ := Aside0.mk hb; clear ho hb hg2 hat HO HB; have HO := n0_; have HB := n1_; clear n0_ n1_)
          go_roundg (l0.length - (jj + 1))
          case measure => omega
          case rel => have hc9 := HL.out; exact ⟨jj + 1, by omega, by omega, (by first | (rw [concat_next (Nat.le_trans hjj hc9)]) | (rw [i64_w, concat_next (Nat.le_trans hjj hc9)]) | go_num), ⟨by rw [E2.out]; exact HO.out⟩, HB⟩
        · obtain rfl : jj = l0.length := by omega
          have hd1 : decide ((l0.length : Int) < (l0.length : Int)) = false := decide_eq_false (by omega)
          rw [List.take_length] at HO
          go_wp2
          go_ret
          exact ⟨_, rfl, HO.out, HB.out⟩

/-! ### impl_leastFirst: function 79 -/
def impl_leastFirst.f (k : Nat) (l0 : List Int) : Option (List Int) := (slices_Min_int_int.f k l0).bind fun t180 => ((slices_Index_int_int.f k l0 t180).bind fun t181 => (if 0 ≤ t181 then (if t181 ≤ (l0.length : Int) then ((slices_Concat_int_int.f (([(l0.drop (t181 : Int).toNat), (l0.take (t181 : Int).toNat)] : List (List Int)))).bind fun t195 => (some t195)) else (none)) else (none)))
theorem impl_leastFirst.mono : ∀ a0 k, LeO (impl_leastFirst.f k a0) (impl_leastFirst.f (k + 1) a0) := by
  intro a0 k
  unfold impl_leastFirst.f
  repeat' first
      | (with_reducible exact slices_Index_int_int.mono _ _ _)
      | (with_reducible exact slices_Min_int_int.mono _ _)
      | (with_reducible exact LeO.refl _)
      | (with_reducible exact LeO.none _)
      | (with_reducible refine LeO.ite ?_ ?_)
      | (with_reducible refine LeO.bind ?_ (fun _ => ?_))
      | exact slices_Index_int_int.mono _ _ _
      | exact slices_Min_int_int.mono _ _
      | exact LeO.none _
      | refine LeO.ite ?_ ?_
      | refine LeO.bind ?_ (fun _ => ?_)
def impl_leastFirst.T2 : Bool × List (List Nat × List Nat) := (true, [([], []), ([], []), ([0, 1], [0, 1]), ([], []), ([], []), ([3, 4], [3, 4]), ([2, 5], [2, 5]), ([6], [6]), ([7, 7, 0, 1, 2, 3, 4, 5, 6, 7], [7])])
def impl_leastFirst.B2 : List Nat := [0, 0, 3, 0, 0, 24, 63, 127, 255]
theorem impl_leastFirst.tab2 : rtab .any (opsOf Try.f79 2) = impl_leastFirst.T2 := by kernel_rfl
theorem impl_leastFirst.bits2 : waitsOk impl_leastFirst.T2.2 impl_leastFirst.B2 = true := by kernel_rfl
set_option maxHeartbeats 8000000 in
set_option maxRecDepth 100000 in
theorem impl_leastFirst.calls (k : Nat) (P0_ : Nat → Prop) (A0 : Option Addr) (c0 : Nat) (l0 : List Int) (r : List Int) (w : World) (hs0 : Kd.V (Kd.int .i64) 3 w w.heap.size (fun k_ => P0_ k_) (.slice A0 l0.length c0) l0) (h : impl_leastFirst.f k l0 = some r) :
    Calls Try.prog 79 #[.slice A0 l0.length c0] w fun e w' => ∃ v0_ : Value, e = .returned (v0_) ∧ Kd.R (Kd.int .i64) 3 w' w.heap.size (fun k_ => (w.heap.size ≤ k_)) v0_ r ∧ Below w.heap.size w w' := by
  have HO0 := Aside0.mk (show Kd.V (Kd.int .i64) 3 w w.heap.size (fun k_ => (P0_ k_ ∨ w.heap.size ≤ k_)) (.slice A0 l0.length c0) l0 from Kd.V_mono hs0 (fun k_ hk => .inl hk))
  have HB := Aside0.mk (Below.refl w.heap.size w)
  have H : ((slices_Min_int_int.f k l0).bind fun t180 => ((slices_Index_int_int.f k l0 t180).bind fun t181 => (if 0 ≤ t181 then (if t181 ≤ (l0.length : Int) then ((slices_Concat_int_int.f (([(l0.drop (t181 : Int).toNat), (l0.take (t181 : Int).toNat)] : List (List Int)))).bind fun t195 => (some t195)) else (none)) else (none)))) = some r := h
  clear h
  replace H := Option.bind_eq_some_iff.mp H
  obtain ⟨t180, A20, H⟩ := H
  replace H : ((slices_Index_int_int.f k l0 t180).bind fun t181 => (if 0 ≤ t181 then (if t181 ≤ (l0.length : Int) then ((slices_Concat_int_int.f (([(l0.drop (t181 : Int).toNat), (l0.take (t181 : Int).toNat)] : List (List Int)))).bind fun t195 => (some t195)) else (none)) else (none))) = some r := H
  have A2 := Aside0.mk A20
  clear A20
  replace H := Option.bind_eq_some_iff.mp H
  obtain ⟨t181, A30, H⟩ := H
  replace H : (if 0 ≤ t181 then (if t181 ≤ (l0.length : Int) then ((slices_Concat_int_int.f (([(l0.drop (t181 : Int).toNat), (l0.take (t181 : Int).toNat)] : List (List Int)))).bind fun t195 => (some t195)) else (none)) else (none)) = some r := H
  have A3 := Aside0.mk A30
  clear A30
  by_cases c4 : 0 ≤ t181
  · rw [if_pos c4] at H
    have c4b0 := eq_true c4
    have c4b1 : decide (0 ≤ t181) = true := decide_eq_true c4
    clear c4
    by_cases c5 : t181 ≤ (l0.length : Int)
    · rw [if_pos c5] at H
      have c5b0 := eq_true c5
      have c5b1 : decide (t181 ≤ (l0.length : Int)) = true := decide_eq_true c5
      clear c5
      obtain ⟨y182, hy182⟩ : ∃ y_ : List Int, y_ = (l0.drop (t181 : Int).toNat) := ⟨_, rfl⟩
      replace H : ((slices_Concat_int_int.f (([y182, (l0.take (t181 : Int).toNat)] : List (List Int)))).bind fun t195 => (some t195)) = some r := by first | (rw [hy182]; with_reducible exact H) | (have H2_ := (Option.bind_some _ _).symm.trans H; rw [hy182]; with_reducible exact H2_) | (have H2_ := (Option.bind_some _ _).symm.trans H; with_reducible exact H2_) | with_reducible exact H | (rw [hy182]; exact H) | exact H
      have Ny182 := Aside0.mk hy182
      clear hy182
      have c6b0 := eq_true (of_decide_eq_true (by first | (with_reducible assumption) | assumption) : 0 ≤ t181)
      have c7b0 := eq_true (of_decide_eq_true (by first | (with_reducible assumption) | assumption) : t181 ≤ (l0.length : Int))
      obtain ⟨y187, hy187⟩ : ∃ y_ : List Int, y_ = (l0.take (t181 : Int).toNat) := ⟨_, rfl⟩
      replace H : ((slices_Concat_int_int.f (([y182, y187] : List (List Int)))).bind fun t195 => (some t195)) = some r := by first | (rw [hy187]; with_reducible exact H) | (have H2_ := (Option.bind_some _ _).symm.trans H; rw [hy187]; with_reducible exact H2_) | (have H2_ := (Option.bind_some _ _).symm.trans H; with_reducible exact H2_) | with_reducible exact H | (rw [hy187]; exact H) | exact H
      have Ny187 := Aside0.mk hy187
      clear hy187
      obtain ⟨y192, hy192⟩ : ∃ y_ : List (List Int), y_ = (([y182, y187] : List (List Int))) := ⟨_, rfl⟩
      replace H : ((slices_Concat_int_int.f y192).bind fun t195 => (some t195)) = some r := by first | (rw [hy192]; with_reducible exact H) | (have H2_ := (Option.bind_some _ _).symm.trans H; rw [hy192]; with_reducible exact H2_) | (have H2_ := (Option.bind_some _ _).symm.trans H; with_reducible exact H2_) | with_reducible exact H | (rw [hy192]; exact H) | exact H
      have Ny192 := Aside0.mk hy192
      clear hy192
      replace H := Option.bind_eq_some_iff.mp H
      obtain ⟨t195, A80, H⟩ := H
      replace H : (some t195) = some r := H
      have A8 := Aside0.mk A80
      clear A80
      obtain rfl := Option.some.inj H
      go_enter Try.func79, Try.ntmps79
      try go_wp2_with (first | ((with_reducible refine gate_callee (f := 83) rfl ?_); refine goesL_ (some 6) rfl rfl Try.func83 (by kernel_rfl) rfl #[.slice A0 l0.length c0] rfl (by (try simp only [List.map_toArray, List.map_cons, List.map_nil]); first | done | rfl | (simp only [List.length_drop, List.length_take]; rfl)) ?_; (with_reducible refine (slices_Min_int_int.calls k _ _ l0 t180 _ ?side1 ?side2 A2.out).mono ?_); (case side1 => repeat (first | exact (Kd.V_reads' HO0.out).2.2 | (with_reducible refine Kd.C_alloc ?_ _) | (with_reducible refine Kd.C_drewN ?_ _) | (with_reducible refine Kd.C_drew ?_))); (case side2 => exact (Kd.V_reads' HO0.out).2.1); rintro e w9 ⟨rfl, hb⟩; refine ⟨_, rfl, ?_⟩; have n0_ := Aside0.mk (Kd.V_below (by (with_reducible repeat (first | apply Kd.V_alloc | apply Kd.V_drewN | apply Kd.V_drew)); exact HO0.out) hb); have n1_ := Aside0.mk (below_step (by repeat (first | (with_reducible first | exact HB.out | apply below_alloc | apply pw_below_drewN | apply below_drew1) | exact HB.out)) hb); clear HO0; clear HB; have HO0 := n0_; have HB := n1_; clear n0_ n1_; (try clear hb); (try clear hb2); (try clear hk); (try clear hi)) | ((with_reducible refine gate_callee (f := 77) rfl ?_); refine goesL_ (some 7) rfl rfl Try.func77 (by kernel_rfl) rfl #[.slice A0 l0.length c0, .int .i64 t180] rfl (by (try simp only [List.map_toArray, List.map_cons, List.map_nil]); first | done | rfl | (simp only [List.length_drop, List.length_take]; rfl)) ?_; (with_reducible refine (slices_Index_int_int.calls k _ _ l0 t180 t181 _ ?side1 ?side2 A3.out).mono ?_); (case side1 => repeat (first | exact (Kd.V_reads' HO0.out).2.2 | (with_reducible refine Kd.C_alloc ?_ _) | (with_reducible refine Kd.C_drewN ?_ _) | (with_reducible refine Kd.C_drew ?_))); (case side2 => exact (Kd.V_reads' HO0.out).2.1); rintro e w' ⟨rfl, ⟨nd, rfl⟩⟩; refine ⟨_, rfl, ?_⟩))
      (try (rw [drewN_self w9]; generalize hq_ : World.drewN w9 _ = w9; have n0_ : Aside0 (Kd.V (Kd.int .i64) 3 w9 w.heap.size (fun k_ => (P0_ k_ ∨ w.heap.size ≤ k_)) (.slice A0 l0.length c0) l0) := ⟨by rw [← hq_]; exact (by (with_reducible repeat (first | apply Kd.V_alloc | apply Kd.V_drewN | apply Kd.V_drew)); exact HO0.out)⟩; have n1_ : Aside0 (Below w.heap.size w w9) := ⟨by rw [← hq_]; exact (by repeat (first | (with_reducible first | exact HB.out | apply below_alloc | apply pw_below_drewN | apply below_drew1) | exact HB.out))⟩; clear HO0 HB hq_; have HO0 := n0_; have HB := n1_; clear n0_ n1_))
      have n0_ := Aside0.mk (Kd.V_drew HO0.out)
      have n1_ := Aside0.mk (below_drew1 HB.out)
      clear HO0
      clear HB
      have HO0 := n0_
      have HB := n1_
      clear n0_ n1_
      have q11 : (t181 : Int) ≤ ((l0.length : Int) : Int) := of_decide_eq_true (by first | (with_reducible assumption) | assumption)
      obtain ⟨i011, hi011, _, hsz11, _⟩ := info_parts info3
      have hroom11 : l0.length ≤ c0 := (Kd.V_reads' HO0.out).2.1
      have hC11 : Kd.F (Kd.int .i64) _ _ A0 l0.length l0 := (Kd.V_at (base := w.heap.size) HO0.out).2.2
      have q011 : (0 : Int) ≤ (t181 : Int) := of_decide_eq_true (by first | (with_reducible assumption) | assumption)
      have hcut11 := cut_from (P := Try.prog) 22 3 .i64 Try.underlying22 hi011 1 hsz11 A0 l0.length c0 t181 q011 q11
      have hr11 := Kd.F_cut (m := (t181 : Int).toNat) (c := c0) hC11 (by omega) hroom11
      obtain ⟨A11, hA11⟩ : ∃ A1, A1 = (if c0 = (t181 : Int).toNat then A0 else (A0 : Option Addr).map (·.add ((t181 : Int).toNat * 1))) := ⟨_, rfl⟩
      obtain ⟨c11, hc11⟩ : ∃ c1, c1 = c0 - (t181 : Int).toNat := ⟨_, rfl⟩
      have hy11 : y182.length = l0.length - (t181 : Int).toNat := (by rw [Ny182.out, List.length_drop] <;> omega)
      rw [show (l0).drop (t181 : Int).toNat = y182 from Ny182.out.symm] at hr11
      replace hr11 : Kd.F (Kd.int .i64) _ _ A11 y182.length y182 := (by rw [hA11]; exact hr11)
      rw [← hy11, ← hA11, ← hc11] at hcut11
      have HO186 := Aside0.mk (show Kd.V (Kd.int .i64) 3 _ w.heap.size _ (.slice A11 y182.length c11) y182 from Kd.V_mk (by rw [hy11, hc11]; exact Nat.sub_le_sub_right hroom11 _) hr11)
      have HC186 := Aside0.mk (show y182.length ≤ c11 from by rw [hy11, hc11]; exact Nat.sub_le_sub_right hroom11 _)
      clear hr11 hC11 hroom11 hi011 hsz11 hc11
      have KY11 := Aside0.mk hy11
      have KA11 := Aside0.mk hA11
      clear hy11 hA11
      replace q11 := eq_true q11
      have q12 : (t181 : Int) ≤ ((l0.length : Int) : Int) := of_decide_eq_true (by first | (with_reducible assumption) | assumption)
      obtain ⟨i012, hi012, _, hsz12, _⟩ := info_parts info3
      have hroom12 : l0.length ≤ c0 := (Kd.V_reads' HO0.out).2.1
      have hC12 : Kd.F (Kd.int .i64) _ _ A0 l0.length l0 := (Kd.V_at (base := w.heap.size) HO0.out).2.2
      have hcut12 := cut_to (P := Try.prog) 22 3 .i64 Try.underlying22 hi012 A0 l0.length c0 t181 (of_decide_eq_true (by first | (with_reducible assumption) | assumption)) q12 hroom12
      have hr12 := Kd.F_take (m := (t181 : Int).toNat) hC12 (by omega)
      have hy12 : y187.length = (t181 : Int).toNat := (by rw [Ny187.out, List.length_take]; omega)
      rw [← Ny187.out] at hr12
      rw [← hy12] at hcut12
      have HO191 := Aside0.mk (show Kd.V (Kd.int .i64) 3 _ w.heap.size _ (.slice A0 y187.length c0) y187 from Kd.V_mk (by omega) hr12)
      have HC191 := Aside0.mk (show y187.length ≤ c0 from by omega)
      clear hr12 hC12 hroom12 hi012 hsz12
      have KY12 := Aside0.mk hy12
      clear hy12
      replace q12 := eq_true q12
      refine start_ (n := 9) (S := fun w' => True) (ds := []) #[false, false, false, false, false, false, false, false, false] (by kernel_rfl) rfl rfl trivial (fun hHeld => ?_); refine with_tabW impl_leastFirst.tab2 impl_leastFirst.bits2 (fun HT_ HW_ => ?_)
      generalize w9.drew = w10 at HO0 HB HO186 HO191 hHeld ⊢
      refine pure_ (i := 0) (N := some 8) (v := ?_) (a' := ?_) #[true, false, false, false, false, false, false, false, false] rfl rfl (any_of HT_.out (by kernel_rfl)) (fun _ _ _ h => h) (Or.inl ⟨by rfl, ?_⟩) ?_ ?_
      rotate_left
      · intro w'
        go_simp
        with_reducible rfl
      rotate_left
      · simp only [Act.put, List.setIfInBounds_toArray, List.set_cons_zero, List.set_cons_succ, i64_w, i32_w]
        rfl
      refine pure_ (i := 1) (N := some 9) (v := ?_) (a' := ?_) #[true, true, false, false, false, false, false, false, false] rfl rfl (any_of HT_.out (by kernel_rfl)) (fun _ _ _ h => h) (Or.inl ⟨by rfl, ?_⟩) ?_ ?_
      rotate_left
      · intro w'
        go_simp
        with_reducible rfl
      rotate_left
      · simp only [Act.put, List.setIfInBounds_toArray, List.set_cons_zero, List.set_cons_succ, i64_w, i32_w]
        rfl
      refine pure_ (i := 2) (N := some 10) (v := ?_) (a' := ?_) #[true, true, true, false, false, false, false, false, false] rfl rfl (any_of HT_.out (by kernel_rfl)) (fun _ _ _ h => h) (Or.inl ⟨by rfl, ?_⟩) ?_ ?_
      rotate_left
      · intro w'
        go_simp
        with_reducible rfl
      rotate_left
      · simp only [Act.put, List.setIfInBounds_toArray, List.set_cons_zero, List.set_cons_succ, i64_w, i32_w]
        rfl
      refine pure_ (i := 3) (N := some 11) (v := ?_) (a' := ?_) #[true, true, true, true, false, false, false, false, false] rfl rfl (any_of HT_.out (by kernel_rfl)) (fun _ _ _ h => h) (Or.inl ⟨by rfl, ?_⟩) ?_ ?_
      rotate_left
      · intro w'
        go_simp
        with_reducible rfl
      rotate_left
      · simp only [Act.put, List.setIfInBounds_toArray, List.set_cons_zero, List.set_cons_succ, i64_w, i32_w]
        rfl
      refine pure_ (i := 4) (N := some 12) (v := ?_) (a' := ?_) #[true, true, true, true, true, false, false, false, false] rfl rfl (any_of HT_.out (by kernel_rfl)) (fun _ _ _ h => h) (Or.inl ⟨by rfl, ?_⟩) ?_ ?_
      rotate_left
      · intro w'
        go_simp
        with_reducible rfl
      rotate_left
      · simp only [Act.put, List.setIfInBounds_toArray, List.set_cons_zero, List.set_cons_succ, i64_w, i32_w]
        rfl
      refine pure_ (i := 5) (N := some 13) (v := ?_) (a' := ?_) #[true, true, true, true, true, true, false, false, false] rfl rfl (any_of HT_.out (by kernel_rfl)) (fun _ _ _ h => h) (Or.inl ⟨by rfl, ?_⟩) ?_ ?_
      rotate_left
      · intro w'
        go_simp
        with_reducible rfl
      rotate_left
      · simp only [Act.put, List.setIfInBounds_toArray, List.set_cons_zero, List.set_cons_succ, i64_w, i32_w]
        rfl
      refine one_ (i := 6) (N := some 14) #[true, true, true, true, true, true, true, false, false] rfl rfl (one_of HT_.out (by kernel_rfl)) (by decide) (fun K hK => ?_)
      refine Kd.N_lit_step (Kd.slice 3 (Kd.int .i64)) _ 22 ?hg (N' := 14) ?hd (xs := ([y182, y187] : List (List Int))) (inner := [.slice A11 y182.length c11, .slice A0 y187.length c0]) (ok := (fun k_ => (P0_ k_ ∨ w.heap.size ≤ k_))) (okp := (fun k_ => (P0_ k_ ∨ w.heap.size ≤ k_))) ?hr ?hp (fun _ hk => hk) ((show ∀ k_, w10.heap.size ≤ k_ → (fun k_ => (P0_ k_ ∨ w.heap.size ≤ k_)) k_ from fun k_ hk => (.inr (Nat.le_trans (below_size (by repeat (first | (with_reducible first | exact HB.out | apply below_alloc | apply pw_below_drewN | apply below_drew1) | exact HB.out))) hk))) _ (Nat.le_refl _)) (Below.refl _ _) (Nat.le_refl _) (by simp) ?_; (case hd => rfl); (case hg => rfl); (case hr => first | (go_simp; done) | (go_simp; rfl)); (case hp => exact (Reps.one (show Kd.FK (Kd.slice 3 (Kd.int .i64)) _ _ y182 [.slice A11 y182.length c11] from (Kd.FK_slice_mk (Kd.V_reads' (Kd.V_mono (ok' := (fun k_ => (P0_ k_ ∨ w.heap.size ≤ k_))) (HO186.out) (fun k_ hk => hk))).2.1 (Kd.V_F (Kd.V_mono (ok' := (fun k_ => (P0_ k_ ∨ w.heap.size ≤ k_))) (HO186.out) (fun k_ hk => hk))))) (Reps.one (show Kd.FK (Kd.slice 3 (Kd.int .i64)) _ _ y187 [.slice A0 y187.length c0] from (Kd.FK_slice_mk (Kd.V_reads' (Kd.V_mono (ok' := (fun k_ => (P0_ k_ ∨ w.heap.size ≤ k_))) (HO191.out) (fun k_ hk => hk))).2.1 (Kd.V_F (Kd.V_mono (ok' := (fun k_ => (P0_ k_ ∨ w.heap.size ≤ k_))) (HO191.out) (fun k_ hk => hk))))) (Reps.none _ _))))
      intro v193 w13 ho14 hb hg_ hnew_
      clear hg_ hnew_
      (first | rw [← Ny192.out] at ho14 | (simp only [Int.reduceToNat] at ho14; rw [← Ny192.out] at ho14))
      have n0_ := Aside0.mk (Kd.V_elder' (by (with_reducible repeat (first | apply Kd.V_alloc | apply Kd.V_drewN | apply Kd.V_drew)); exact HO0.out) (Kd.N_base ho14) hb)
      have n1_ := Aside0.mk (Kd.V_elder' (by (with_reducible repeat (first | apply Kd.V_alloc | apply Kd.V_drewN | apply Kd.V_drew)); exact HO186.out) (Kd.N_base ho14) hb)
      have n2_ := Aside0.mk (Kd.V_elder' (by (with_reducible repeat (first | apply Kd.V_alloc | apply Kd.V_drewN | apply Kd.V_drew)); exact HO191.out) (Kd.N_base ho14) hb)
      have n3_ := Aside0.mk (Kd.N_lower ho14 (below_size (by repeat (first | (with_reducible first | exact HB.out | apply below_alloc | apply pw_below_drewN | apply below_drew1) | exact HB.out))))
      have n4_ := Aside0.mk (below_step (by repeat (first | (with_reducible first | exact HB.out | apply below_alloc | apply pw_below_drewN | apply below_drew1) | exact HB.out)) hb)
      clear HO0
      clear HO186
      clear HO191
      clear HB
      have HO0 := n0_
      have HO186 := n1_
      have HO191 := n2_
      have HO194 := n3_
      have HB := n4_
      clear n0_ n1_ n2_ n3_ n4_
      clear hb ho14
      obtain ⟨Ao15, co15, eo15⟩ := Kd.N_slice HO194.out
      (first | subst eo15 | (injection eo15 with f1_ f2_ f3_; have f4_ := f1_.symm; have f5_ := f3_.symm; clear f1_ f2_ f3_; subst f4_; subst f5_))
      refine hK.out _ _ trivial (fun hHeld => ?_)
      clear hK K
      refine norm_ (a' := ?_) ?_ ?_
      rotate_left
      · show Act.put _ (some 14) _ = _
        simp only [Act.put, List.setIfInBounds_toArray, List.set_cons_zero, List.set_cons_succ, i64_w, i32_w]
        rfl
      refine one_ (i := 7) (N := some 15) #[true, true, true, true, true, true, true, true, false] rfl rfl (one_of HT_.out (by kernel_rfl)) (by decide) (fun K hK => ?_)
      refine goes_ Try.func84 (by kernel_rfl) rfl #[.slice Ao15 y192.length co15] (by rfl) rfl rfl (by (try simp only [List.map_toArray, List.map_cons, List.map_nil]); first | done | rfl | (simp only [List.length_drop, List.length_take]; rfl)) ?_
      with_reducible refine (slices_Concat_int_int.calls _ _ y192 t195 _ ?side1 ?side2 A8.out).mono ?_
      (case side1 => repeat (first | exact (Kd.N_reads' HO194.out).2.2 | (with_reducible refine Kd.C_alloc ?_ _) | (with_reducible refine Kd.C_drewN ?_ _) | (with_reducible refine Kd.C_drew ?_)))
      (case side2 => exact (Kd.N_reads' HO194.out).2.1)
      rintro e w16 ⟨v196, rfl, ho0, hb⟩
      refine ⟨_, rfl, ?_⟩
      have n0_ := Aside0.mk (Kd.V_elder' (by (with_reducible repeat (first | apply Kd.V_alloc | apply Kd.V_drewN | apply Kd.V_drew)); exact HO0.out) (Kd.R_base ho0) hb)
      have n1_ := Aside0.mk (Kd.V_elder' (by (with_reducible repeat (first | apply Kd.V_alloc | apply Kd.V_drewN | apply Kd.V_drew)); exact HO186.out) (Kd.R_base ho0) hb)
      have n2_ := Aside0.mk (Kd.V_elder' (by (with_reducible repeat (first | apply Kd.V_alloc | apply Kd.V_drewN | apply Kd.V_drew)); exact HO191.out) (Kd.R_base ho0) hb)
      have n3_ := Aside0.mk (Kd.N_elder' (by (with_reducible repeat (first | apply Kd.N_alloc | apply Kd.N_drewN | apply Kd.N_drew)); exact HO194.out) (Kd.R_base ho0) hb)
      have n4_ := Aside0.mk (Kd.R_lower (Kd.R_newM (M := fun k_ => (w.heap.size ≤ k_)) ho0 (below_size (by repeat (first | (with_reducible first | exact HB.out | apply below_alloc | apply pw_below_drewN | apply below_drew1) | exact HB.out))) (fun k_ h_ => h_)) (below_size (by repeat (first | (with_reducible first | exact HB.out | apply below_alloc | apply pw_below_drewN | apply below_drew1) | exact HB.out))))
      have n5_ := Aside0.mk (below_step (by repeat (first | (with_reducible first | exact HB.out | apply below_alloc | apply pw_below_drewN | apply below_drew1) | exact HB.out)) hb)
      clear HO0
      clear HO186
      clear HO191
      clear HO194
      clear HB
      have HO0 := n0_
      have HO186 := n1_
      have HO191 := n2_
      have HO194 := n3_
      have HO197 := n4_
      have HB := n5_
      clear n0_ n1_ n2_ n3_ n4_ n5_
      (try clear hb)
      (try clear hb2)
      (try clear hk)
      (try clear hi)
      (try clear ho0)
      refine hK.out _ _ trivial (fun hHeld => ?_)
      clear hK K
      refine norm_ (a' := ?_) ?_ ?_
      rotate_left
      · show Act.put _ (some 15) _ = _
        simp only [Act.put, List.setIfInBounds_toArray, List.set_cons_zero, List.set_cons_succ, i64_w, i32_w]
        rfl
      refine pure_ (i := 8) (N := some 2) (v := ?_) (a' := ?_) #[true, true, true, true, true, true, true, true, true] rfl rfl (any_of HT_.out (by kernel_rfl)) (fun _ _ _ h => h) (Or.inl ⟨by rfl, ?_⟩) ?_ ?_
      rotate_left
      · intro w'
        go_simp
        with_reducible rfl
      rotate_left
      · simp only [Act.put, List.setIfInBounds_toArray, List.set_cons_zero, List.set_cons_succ, i64_w, i32_w]
        rfl
      refine done_ (done_of HT_.out (by kernel_rfl)) ?_
      try go_wp2
      go_ret
      exact ⟨_, by first | rfl | (simp [errW_none, errW_some] <;> rfl) | (simp [*, errW_none, errW_some] <;> rfl), by (with_reducible repeat (first | apply Kd.R_alloc | apply Kd.R_drewN | apply Kd.R_drew)); exact Kd.R_mono HO197.out (fun _ hk => hk.1), by repeat (first | (with_reducible first | exact HB.out | apply below_alloc | apply pw_below_drewN | apply below_drew1) | exact HB.out)⟩
    · rw [if_neg c5] at H
      exact absurd H (by simp)
  · rw [if_neg c4] at H
    exact absurd H (by simp)

/-! ### impl_cycleAt: function 69 -/
def impl_cycleAt.f (k : Nat) (l0 : List Int) (a1 : Int) : Option (List Int) := (impl_wayOf.f k l0 a1).bind fun t => if 0 ≤ t.2 ∧ t.2 ≤ (t.1.length : Int) then impl_leastFirst.f k (t.1.drop t.2.toNat) else none
theorem impl_cycleAt.mono : ∀ l0 a1 k, LeO (impl_cycleAt.f k l0 a1) (impl_cycleAt.f (k + 1) l0 a1) := by
  intro l0 a1 k r h
  unfold impl_cycleAt.f at h ⊢
  obtain ⟨t, h1, h2⟩ := Option.bind_eq_some_iff.1 h
  refine Option.bind_eq_some_iff.2 ⟨t, impl_wayOf.mono l0 a1 k t h1, ?_⟩
  by_cases hc : 0 ≤ t.2 ∧ t.2 ≤ (t.1.length : Int)
  · rw [if_pos hc] at h2 ⊢
    exact impl_leastFirst.mono _ k r h2
  · rw [if_neg hc] at h2; cases h2
set_option maxHeartbeats 4000000 in
set_option maxRecDepth 100000 in
theorem impl_cycleAt.calls (k : Nat) (A0 : Option Addr) (c0 : Nat) (l0 : List Int) (a1 : Int) (r : List Int) (w : World) (hr0 : Kd.C (Kd.int .i64) w A0 l0.length l0) (hc0 : l0.length ≤ c0) (h : impl_cycleAt.f k l0 a1 = some r) :
    Calls Try.prog 69 #[.slice A0 l0.length c0, .int .i64 a1] w fun e w' => ∃ v0_ : Value, e = .returned (v0_) ∧ Kd.R (Kd.int .i64) 3 w' w.heap.size (fun _ => True) v0_ r ∧ Below w.heap.size w w' := by
  obtain ⟨⟨run, at_⟩, h1, h2⟩ := Option.bind_eq_some_iff.1 h
  have h3 : (0 ≤ at_ ∧ at_ ≤ (run.length : Int)) ∧ impl_leastFirst.f k (run.drop at_.toNat) = some r := by
    by_cases hc : 0 ≤ at_ ∧ at_ ≤ (run.length : Int)
    · rw [if_pos hc] at h2; exact ⟨hc, h2⟩
    · rw [if_neg hc] at h2; cases h2
  obtain ⟨⟨h4, h5⟩, h6⟩ := h3
  obtain ⟨i0, hi, hz0, hz1, hz2⟩ := info_parts info3
  obtain ⟨ys, hys⟩ : ∃ ys, ys = run.drop at_.toNat := ⟨_, rfl⟩
  rw [← hys] at h6
  have HYS := Aside0.mk hys
  have HW := Aside0.mk h1
  have HLF := Aside0.mk h6
  have HR0 := Aside0.mk hr0
  have HC0 := Aside0.mk hc0
  have H45 := Aside0.mk (And.intro h4 h5)
  have HI := Aside0.mk (And.intro hi hz1)
  have HB := Aside0.mk (Below.refl w.heap.size w)
  clear h h1 h2 h6 hys hr0 hc0 h4 h5 hi hz0 hz1 hz2
  go_enter Try.func69, Try.ntmps69
  go_wp2_with (first
    | (go_at_call 61; refine (impl_wayOf.calls k A0 c0 l0 a1 run at_ _ HR0.out HC0.out HW.out).mono ?_; rintro e w' ⟨v1, rfl, ho, hb⟩; obtain ⟨Ao, co, eo⟩ := Kd.R_slice ho; subst eo; obtain ⟨A', hsl, hrd, hle⟩ := print_drop_of (P := Try.prog) (Value.int .i64) 0 22 3 .i64 Try.underlying22 HI.out.1 HI.out.2 Ao co run at_ H45.out.1 H45.out.2 (Kd.R_reads' ho).2.1; rw [← HYS.out] at hsl hrd hle; have HV := Aside0.mk (Kd.V_mk (d := Kd.int .i64) (e := 3) (base := w'.heap.size) (ok := fun _ => True) hle (Kd.F_imp (Kd.V_F (Kd.R_V (base' := w'.heap.size) ho)) (fun W' hC => Kd.C_of_reads (hrd W' (Kd.reads_of_C hC))))); have HB1 := Aside0.mk hb; clear ho hb hrd hle)
    | (go_at_call 79; refine (impl_leastFirst.calls k (fun _ => True) A' _ ys r _ HV.out HLF.out).mono ?_; rintro e w2 ⟨v2, rfl, ho2, hb2⟩; have HO2 := Aside0.mk (Kd.R_lower ho2 (below_size HB1.out)); have HB2 := Aside0.mk (below_step HB1.out hb2); clear ho2 hb2))
  go_ret
  exact ⟨_, rfl, Kd.R_mono HO2.out (fun _ _ => trivial), HB2.out⟩

/-! ### impl_cycles: function 68 -/
def impl_cycles.l0 : Nat → List Int → List (List Int) → Int → Int → Option ((List (List Int)))
  | 0, _, _, _, _ => none
  | k + 1, x0, x3, x8, x9 => if x9 < x8 then ((impl_cycleAt.f k x0 x9).bind fun t201 => (if 0 < (t201.length : Int) then (if (rd t201 0) = x9 then (if x3.length < 5864062014805 then (impl_cycles.l0 k x0 (x3 ++ [t201]) x8 (wrap64 (x9 + 1))) else (none)) else (impl_cycles.l0 k x0 x3 x8 (wrap64 (x9 + 1)))) else (none))) else (some x3)
def impl_cycles.f (k : Nat) (l0 : List Int) : Option ((List (List Int))) := impl_cycles.l0 k l0 (([] : List (List Int))) (l0.length : Int) 0
theorem impl_cycles.mono_l : ∀ k, (∀ y0 y1 y2 y3, LeO (impl_cycles.l0 k y0 y1 y2 y3) (impl_cycles.l0 (k + 1) y0 y1 y2 y3))
  | 0 => fun _ _ _ _ r h => by simp [impl_cycles.l0] at h
  | k + 1 => by
    have ih0 := impl_cycles.mono_l k
    · intro y0 y1 y2 y3
      unfold impl_cycles.l0
      repeat' first
      | (with_reducible exact ih0 _ _ _ _)
      | (with_reducible exact impl_cycleAt.mono _ _ _)
      | (with_reducible exact LeO.refl _)
      | (with_reducible exact LeO.none _)
      | (with_reducible refine LeO.ite ?_ ?_)
      | (with_reducible refine LeO.bind ?_ (fun _ => ?_))
      | exact ih0 _ _ _ _
      | exact impl_cycleAt.mono _ _ _
      | exact LeO.none _
      | refine LeO.ite ?_ ?_
      | refine LeO.bind ?_ (fun _ => ?_)
theorem impl_cycles.mono : ∀ a0 k, LeO (impl_cycles.f k a0) (impl_cycles.f (k + 1) a0) := by
  intro a0 k
  have ih0 := impl_cycles.mono_l k
  unfold impl_cycles.f
  repeat' first
      | (with_reducible exact ih0 _ _ _ _)
      | (with_reducible exact impl_cycleAt.mono _ _ _)
      | (with_reducible exact LeO.refl _)
      | (with_reducible exact LeO.none _)
      | (with_reducible refine LeO.ite ?_ ?_)
      | (with_reducible refine LeO.bind ?_ (fun _ => ?_))
      | exact ih0 _ _ _ _
      | exact impl_cycleAt.mono _ _ _
      | exact LeO.none _
      | refine LeO.ite ?_ ?_
      | refine LeO.bind ?_ (fun _ => ?_)
set_option maxHeartbeats 8000000 in
set_option maxRecDepth 100000 in
theorem impl_cycles.calls (k : Nat) (A0 : Option Addr) (c0 : Nat) (l0 : List Int) (r : List (List Int)) (w : World) (hr0 : Kd.C (Kd.int .i64) w A0 l0.length l0) (hc0 : l0.length ≤ c0) (h : impl_cycles.f k l0 = some r) :
    Calls Try.prog 68 #[.slice A0 l0.length c0] w fun e w' => ∃ v0_ : Value, e = .returned (v0_) ∧ Kd.S (Kd.slice 3 (Kd.int .i64)) 22 w' w.heap.size (fun _ => True) v0_ r ∧ Below w.heap.size w w' := by
  have HR0 := Aside0.mk hr0
  have HC0 := Aside0.mk hc0
  clear hr0 hc0
  have HB := Aside0.mk (Below.refl w.heap.size w)
  have H : (impl_cycles.l0 k l0 (([] : List (List Int))) (l0.length : Int) 0) = some r := h
  clear h
  obtain ⟨y198, hy198⟩ : ∃ y_ : List (List Int), y_ = (([] : List (List Int))) := ⟨_, rfl⟩
  replace H : (impl_cycles.l0 k l0 y198 (l0.length : Int) 0) = some r := by first | (rw [hy198]; with_reducible exact H) | (have H2_ := (Option.bind_some _ _).symm.trans H; rw [hy198]; with_reducible exact H2_) | (have H2_ := (Option.bind_some _ _).symm.trans H; with_reducible exact H2_) | with_reducible exact H | (rw [hy198]; exact H) | exact H
  have Ny198 := Aside0.mk hy198
  clear hy198
  have H' := Aside0.mk H
  clear H
  go_enter Try.func68, Try.ntmps68
  go_wp2_with (first | ((with_reducible refine gate_dst (N := 6) rfl ?_); refine Kd.S_lit (Kd.slice 3 (Kd.int .i64)) _ 22 ?hg (N := 6) ?hd (xs := ([] : List (List Int))) (inner := []) (ok := fun _ => True) (okp := fun _ => True) ?hr ?hp (fun _ hk => hk) trivial (Below.refl _ _) (Nat.le_refl _) (by simp) ?_; (case hd => rfl); (case hg => rfl); (case hr => first | (go_simp; done) | (go_simp; rfl)); (case hp => exact (Reps.none _ _)); intro v199 w2 ho3 hb hg_ hnew_; clear hg_ hnew_; (first | rw [← Ny198.out] at ho3 | (simp only [Int.reduceToNat] at ho3; rw [← Ny198.out] at ho3)); have n0_ := Aside0.mk (Kd.S_lower ho3 (below_size (by repeat (first | (with_reducible first | exact HB.out | apply below_alloc | apply pw_below_drewN | apply below_drew1) | exact HB.out)))); have n1_ := Aside0.mk (below_step (by repeat (first | (with_reducible first | exact HB.out | apply below_alloc | apply pw_below_drewN | apply below_drew1) | exact HB.out)) hb); clear HB; have HO200 := n0_; have HB := n1_; clear n0_ n1_; clear hb ho3))
  go_loopg [3, 9] k (fun kq v3 v9 w' => ∃ (x3_1 : List (List Int)) (x9_1 : Int), v9 = .int .i64 x9_1 ∧ Aside0 (impl_cycles.l0 kq l0 x3_1 (l0.length : Int) x9_1 = some r) ∧ Aside0 (kq ≤ k) ∧ Aside0 (Kd.S (Kd.slice 3 (Kd.int .i64)) 22 w' w.heap.size (fun _ => True) v3 x3_1) ∧ Aside0 (Below w.heap.size w w'))
  case atStart => exact ⟨(y198), (0), (by first | rfl | (simp; done) | (simp [*]; done)), H', ⟨Nat.le_refl _⟩, ⟨by (with_reducible repeat (first | apply Kd.S_alloc | apply Kd.S_drewN | apply Kd.S_drew)); exact HO200.out⟩, ⟨by repeat (first | (with_reducible first | exact HB.out | apply below_alloc | apply pw_below_drewN | apply below_drew1) | exact HB.out)⟩⟩
  case round =>
    clear H'
    try clear p2
    obtain ⟨x3_1, x9_1, rfl, HA, HK1, HO_3, HB⟩ := hrel
    cases gk with
    | zero => exact absurd HA.out (by simp [impl_cycles.l0])
    | succ k1 =>
      have H := HA.out
      clear HA
      simp only [impl_cycles.l0] at H
      by_cases c4 : x9_1 < (l0.length : Int)
      · rw [if_pos c4] at H
        have c4b0 : decide (x9_1 < (l0.length : Int)) = true := decide_eq_true c4
        clear c4
        replace H := Option.bind_eq_some_iff.mp H
        obtain ⟨t201, A50, H⟩ := H
        replace H : (if 0 < (t201.length : Int) then (if (rd t201 0) = x9_1 then (if x3_1.length < 5864062014805 then (impl_cycles.l0 k1 l0 (x3_1 ++ [t201]) (l0.length : Int) (wrap64 (x9_1 + 1))) else (none)) else (impl_cycles.l0 k1 l0 x3_1 (l0.length : Int) (wrap64 (x9_1 + 1)))) else (none)) = some r := H
        have A5 := Aside0.mk A50
        clear A50
        by_cases c6 : 0 < (t201.length : Int)
        · rw [if_pos c6] at H
          have c6b0 : decide (0 < (t201.length : Int)) = true := decide_eq_true c6
          have c6b1 : decide (0 < t201.length) = true := decide_eq_true (by omega)
          clear c6
          by_cases c7 : (rd t201 0) = x9_1
          · rw [if_pos c7] at H
            have c7b0 : ((rd t201 0) == x9_1) = true := beq_iff_eq.mpr c7
            have c7b1 : ((rd t201 0) != x9_1) = false := bne_eq_false_iff_eq.mpr c7
            clear c7
            by_cases c8 : x3_1.length < 5864062014805
            · rw [if_pos c8] at H
              have LMc8 := Aside0.mk c8
              clear c8
              obtain ⟨y205, hy205⟩ : ∃ y_ : List (List Int), y_ = (x3_1 ++ [t201]) := ⟨_, rfl⟩
              replace H : (impl_cycles.l0 k1 l0 y205 (l0.length : Int) (wrap64 (x9_1 + 1))) = some r := by first | (rw [hy205]; with_reducible exact H) | (have H2_ := (Option.bind_some _ _).symm.trans H; rw [hy205]; with_reducible exact H2_) | (have H2_ := (Option.bind_some _ _).symm.trans H; with_reducible exact H2_) | with_reducible exact H | (rw [hy205]; exact H) | exact H
              have Ny205 := Aside0.mk hy205
              clear hy205
              have H' := Aside0.mk H
              clear H
              go_wp2_with (first | ((with_reducible refine gate_callee (f := 69) rfl ?_); refine goesL_ (some 14) rfl rfl Try.func69 (by kernel_rfl) rfl #[.slice A0 l0.length c0, .int .i64 x9_1] rfl (by (try simp only [List.map_toArray, List.map_cons, List.map_nil]); first | done | rfl | (simp only [List.length_drop, List.length_take]; rfl)) ?_; (with_reducible refine (impl_cycleAt.calls k1 _ _ l0 x9_1 t201 _ ?side1 ?side2 A5.out).mono ?_); (case side1 => repeat (first | exact (Kd.C_below HR0.out HB.out) | (with_reducible refine Kd.C_alloc ?_ _) | (with_reducible refine Kd.C_drewN ?_ _) | (with_reducible refine Kd.C_drew ?_))); (case side2 => exact HC0.out); rintro e w9 ⟨v202, rfl, ho0, hb⟩; refine ⟨_, rfl, ?_⟩; have n0_ := Aside0.mk (Kd.S_elder' (by (with_reducible repeat (first | apply Kd.S_alloc | apply Kd.S_drewN | apply Kd.S_drew)); exact HO_3.out) (Kd.R_base ho0) hb); have n1_ := Aside0.mk (Kd.R_lower ho0 (below_size (by repeat (first | (with_reducible first | exact HB.out | apply below_alloc | apply pw_below_drewN | apply below_drew1) | exact HB.out)))); have n2_ := Aside0.mk (below_step (by repeat (first | (with_reducible first | exact HB.out | apply below_alloc | apply pw_below_drewN | apply below_drew1) | exact HB.out)) hb); clear HO_3; clear HB; have HO_3 := n0_; have HO203 := n1_; have HB := n2_; clear n0_ n1_ n2_; (try clear hb); (try clear hb2); (try clear hk); (try clear hi); (try clear ho0); obtain ⟨Ao10, co10, eo10⟩ := Kd.R_slice HO203.out; subst eo10; have p204 : 0 ≤ (0 : Int) := (by omega); have q204 : 0 < (t201.length : Int) := of_decide_eq_true (by first | (with_reducible assumption) | assumption); obtain ⟨ad204, e204, hx204_0⟩ := Kd.at_int (Kd.R_reads' HO203.out).2.2 0 p204 q204; cases e204; have qi204 : (0 < t201.length) = True := eq_true (by omega); (try rw [show ((0 : Int)).toNat = 0 from rfl] at hx204_0); (try rw [Addr.add_zero'] at hx204_0); replace p204 := eq_true p204; replace q204 := eq_true q204) | ((with_reducible refine gate_builtin (b := .append) (xs := #[.tmp 20, .tmp 22]) rfl ?_); at_builtin; refine Kd.S_append (Kd.slice 3 (Kd.int .i64)) (w0 := w) w.heap.size rfl (.tmp 20) (.tmp 22) 38 22 (.slice none 0 0) 24 rfl Try.underlying38 info22 rfl (by decide) (by omega) u3 x3_1 t201 [.slice (some ad204) t201.length co10] (fun _ => True) (fun k_ => some k_ = (.slice (some ad204) t201.length co10 : Value).ownBlock) rfl rfl ?aP (fun k_ hk_ => ((Kd.R_mono (ok' := fun k_ => ((fun _ => True)) k_ ∧ some k_ ≠ (u3 : Value).ownBlock) (Kd.R_apart' (HO203.out) (Kd.S_typed HO_3.out) (by decide)) (fun k_ hk => ⟨trivial, hk.2⟩))).1 k_ hk_.symm) ?aF ?aO ?aB ?aS ?aL ?_; (case aP => exact Kd.M_row (Kd.R_mono (Kd.R_tight rfl (Kd.R_mono (ok' := fun k_ => ((fun _ => True)) k_ ∧ some k_ ≠ (u3 : Value).ownBlock) (Kd.R_apart' (HO203.out) (Kd.S_typed HO_3.out) (by decide)) (fun k_ hk => ⟨trivial, hk.2⟩))) (fun _ h_ => h_))); (case aB => exact (by repeat (first | (with_reducible first | exact HB.out | apply below_alloc | apply pw_below_drewN | apply below_drew1) | exact HB.out))); (case aF => exact (fun _ _ => trivial)); (case aO => exact (by (with_reducible repeat (first | apply Kd.S_alloc | apply Kd.S_drewN | apply Kd.S_drew)); exact Kd.S_mono HO_3.out (fun k_ hk => ⟨trivial, fun e_ => hk.2 e_⟩))); (case aS => exact (below_size (by repeat (first | (with_reducible first | exact HB.out | apply below_alloc | apply pw_below_drewN | apply below_drew1) | exact HB.out)))); (case aL => have := LMc8.out; omega); intro v206 w11 ho hb hg hat; rw [← Ny205.out] at ho; have n0_ := Aside0.mk (hb); have n1_ := Aside0.mk (ho); clear HB; clear HO_3; clear HO203; have HB := n0_; have HO207 := n1_; clear n0_ n1_; clear ho hb hg hat))
              go_roundg k1
              case measure => have := HK1.out; omega
              case rel => exact ⟨(y205), (wrap64 (x9_1 + 1)), (by first | rfl | (simp; done) | (simp [*]; done)), H', ⟨by have := HK1.out; omega⟩, ⟨by (with_reducible repeat (first | apply Kd.S_alloc | apply Kd.S_drewN | apply Kd.S_drew)); exact HO207.out⟩, ⟨by repeat (first | (with_reducible first | exact HB.out | apply below_alloc | apply pw_below_drewN | apply below_drew1) | exact HB.out)⟩⟩
            · rw [if_neg c8] at H
              exact absurd H (by simp)
          · rw [if_neg c7] at H
            have c7b0 : ((rd t201 0) == x9_1) = false := beq_eq_false_iff_ne.mpr c7
            have c7b1 : ((rd t201 0) != x9_1) = true := bne_iff_ne.mpr c7
            have H' := Aside0.mk H
            clear H
            go_wp2_with (first | ((with_reducible refine gate_callee (f := 69) rfl ?_); refine goesL_ (some 14) rfl rfl Try.func69 (by kernel_rfl) rfl #[.slice A0 l0.length c0, .int .i64 x9_1] rfl (by (try simp only [List.map_toArray, List.map_cons, List.map_nil]); first | done | rfl | (simp only [List.length_drop, List.length_take]; rfl)) ?_; (with_reducible refine (impl_cycleAt.calls k1 _ _ l0 x9_1 t201 _ ?side1 ?side2 A5.out).mono ?_); (case side1 => repeat (first | exact (Kd.C_below HR0.out HB.out) | (with_reducible refine Kd.C_alloc ?_ _) | (with_reducible refine Kd.C_drewN ?_ _) | (with_reducible refine Kd.C_drew ?_))); (case side2 => exact HC0.out); rintro e w12 ⟨v202, rfl, ho0, hb⟩; refine ⟨_, rfl, ?_⟩; have n0_ := Aside0.mk (Kd.S_elder' (by (with_reducible repeat (first | apply Kd.S_alloc | apply Kd.S_drewN | apply Kd.S_drew)); exact HO_3.out) (Kd.R_base ho0) hb); have n1_ := Aside0.mk (Kd.R_lower ho0 (below_size (by repeat (first | (with_reducible first | exact HB.out | apply below_alloc | apply pw_below_drewN | apply below_drew1) | exact HB.out)))); have n2_ := Aside0.mk (below_step (by repeat (first | (with_reducible first | exact HB.out | apply below_alloc | apply pw_below_drewN | apply below_drew1) | exact HB.out)) hb); clear HO_3; clear HB; have HO_3 := n0_; have HO203 := n1_; have HB := n2_; clear n0_ n1_ n2_; (try clear hb); (try clear hb2); (try clear hk); (try clear hi); (try clear ho0); obtain ⟨Ao13, co13, eo13⟩ := Kd.R_slice HO203.out; subst eo13; have p204 : 0 ≤ (0 : Int) := (by omega); have q204 : 0 < (t201.length : Int) := of_decide_eq_true (by first | (with_reducible assumption) | assumption); obtain ⟨ad204, e204, hx204_0⟩ := Kd.at_int (Kd.R_reads' HO203.out).2.2 0 p204 q204; cases e204; have qi204 : (0 < t201.length) = True := eq_true (by omega); (try rw [show ((0 : Int)).toNat = 0 from rfl] at hx204_0); (try rw [Addr.add_zero'] at hx204_0); replace p204 := eq_true p204; replace q204 := eq_true q204))
            go_roundg k1
            case measure => have := HK1.out; omega
            case rel => exact ⟨(x3_1), (wrap64 (x9_1 + 1)), (by first | rfl | (simp; done) | (simp [*]; done)), H', ⟨by have := HK1.out; omega⟩, ⟨by (with_reducible repeat (first | apply Kd.S_alloc | apply Kd.S_drewN | apply Kd.S_drew)); exact Kd.S_mono HO_3.out (fun _ hk => trivial)⟩, ⟨by repeat (first | (with_reducible first | exact HB.out | apply below_alloc | apply pw_below_drewN | apply below_drew1) | exact HB.out)⟩⟩
        · rw [if_neg c6] at H
          exact absurd H (by simp)
      · rw [if_neg c4] at H
        have c4b0 : decide (x9_1 < (l0.length : Int)) = false := decide_eq_false c4
        clear c4
        obtain rfl := Option.some.inj H
        go_wp2
        go_ret
        exact ⟨_, by first | rfl | (simp [errW_none, errW_some] <;> rfl) | (simp [*, errW_none, errW_some] <;> rfl), by (with_reducible repeat (first | apply Kd.S_alloc | apply Kd.S_drewN | apply Kd.S_drew)); exact HO_3.out, by repeat (first | (with_reducible first | exact HB.out | apply below_alloc | apply pw_below_drewN | apply below_drew1) | exact HB.out)⟩

/-! ### impl_BasinsOf: function 40 -/
/-- The place of the first list that begins with a number, or -1. -/
def idxL (x : Int) : List (List Int) → Int → Int
  | [], _ => -1
  | c :: cs, i => if rd c 0 = x then i else idxL x cs (i + 1)
theorem idxL_hit {x : Int} : ∀ (a : List (List Int)) (y : List Int) (c : List (List Int)) (i : Int), (∀ z ∈ a, ¬ rd z 0 = x) → rd y 0 = x → idxL x (a ++ y :: c) i = i + (a.length : Int)
  | [], y, c, i, _, hy => by simp [idxL, hy]
  | z :: a, y, c, i, h, hy => by
    rw [List.cons_append, idxL, if_neg (h z (by simp)), idxL_hit a y c (i + 1) (fun u hu => h u (by simp [hu])) hy]
    simp; omega
theorem idxL_miss {x : Int} : ∀ (a : List (List Int)) (i : Int), (∀ z ∈ a, ¬ rd z 0 = x) → idxL x a i = -1
  | [], _, _ => rfl
  | z :: a, i, h => by
    rw [idxL, if_neg (h z (by simp)), idxL_miss a (i + 1) (fun u hu => h u (by simp [hu]))]
set_option maxHeartbeats 2000000 in
theorem basins_closure (B : Nat) (x : Int) (A1 : Option Addr) (c1 : Nat) (xs : List Int) (W : World) (hx : Kd.C (Kd.int .i64) W A1 xs.length xs) (hp : 0 < xs.length) (hb : W.cell? ⟨B, 0, none⟩ = some (.int .i64 x)) :
    Calls Try.prog 71 #[.slice A1 xs.length c1, .pointer (some ⟨B, 0, none⟩)] W fun e w' => e = .returned (.bool (decide (rd xs 0 = x))) ∧ Drawn0 W w' := by
  obtain ⟨ad, e1, hcell⟩ := Kd.at_int hx 0 (by omega) (by omega)
  subst e1
  have hlt : (0 : Int) < (xs.length : Int) := by omega
  have hlt2 : decide ((0 : Int) < (xs.length : Int)) = true := decide_eq_true hlt
  rw [Int.toNat_zero] at hcell
  have ha : ad.add 0 = ad := by simp [Addr.add]
  rw [ha] at hcell
  obtain ⟨y, hy⟩ : ∃ y, y = rd xs 0 := ⟨_, rfl⟩
  rw [← hy] at hcell ⊢
  clear hy hx
  have hq : (y == x) = decide (y = x) := by
    by_cases h : y = x
    · rw [decide_eq_true h, beq_iff_eq.mpr h]
    · rw [decide_eq_false h, beq_eq_false_iff_ne.mpr h]
  go_enter Try.func71, Try.ntmps71
  go_wp2
  go_quiet (fail)
  go_wp2
  go_ret
  refine ⟨by first | rfl | (rw [hq]) | (simp [hq]), ?_⟩
  exact ⟨_, rfl⟩
set_option maxHeartbeats 2000000 in
theorem basins_IndexFunc (B : Nat) (x : Int) (A0 : Option Addr) (c0 : Nat) (l0 : List (List Int)) (w : World) (hr0 : Kd.C (Kd.slice 3 (Kd.int .i64)) w A0 l0.length l0) (hc0 : l0.length ≤ c0) (hl : l0.length ≤ 1000) (hb : w.cell? ⟨B, 0, none⟩ = some (.int .i64 x)) (hne : ∀ c ∈ l0, 0 < c.length) :
    Calls Try.prog 70 #[.slice A0 l0.length c0, .func (.func 71) #[] #[.pointer (some ⟨B, 0, none⟩)]] w fun e w' => e = .returned (.int .i64 (idxL x l0 0)) ∧ Drawn0 w w' := by
  have HR0 := Aside0.mk hr0
  have HB := Aside0.mk hb
  have HNE := Aside0.mk hne
  have HL := Aside0.mk hl
  have eg := enters_of Try.func71 (by kernel_rfl) rfl
  clear hr0 hb hne hl
  obtain ⟨r, hr⟩ : ∃ r, r = idxL x l0 0 := ⟨_, rfl⟩
  rw [← hr]
  have HE := Aside0.mk hr
  clear hr
  go_enter Try.func70, Try.ntmps70
  go_wp2
  go_loopg [8] l0.length (fun gg s8 wr => ∃ kk q : Nat, kk ≤ l0.length ∧ l0.length - kk ≤ gg ∧ s8 = .int .i64 kk ∧ wr = w.drewN q ∧ Aside0 (∀ y ∈ l0.take kk, ¬ rd y 0 = x))
  case atStart => exact ⟨0, 0, Nat.zero_le _, by omega, rfl, rfl, ⟨by simp⟩⟩
  case round =>
    obtain ⟨kk, q, hkk, hg, rfl, rfl, A⟩ := hrel
    by_cases hlt : kk < l0.length
    · have hltz : (kk : Int) < (l0.length : Int) := by omega
      obtain ⟨ad1, A1, c1, e1, hcell, hl1, hC1⟩ := at_L2 HR0.out (kk : Int) (by omega) hltz
      cases e1
      rw [Int.toNat_natCast] at hcell
      obtain ⟨y, hy⟩ : ∃ y, y = rd_L2 l0 (kk : Int) := ⟨_, rfl⟩
      have hye : l0[kk] = y := by rw [hy]; simp [rd_L2, List.getD_eq_getElem?_getD, List.getElem?_eq_getElem hlt]
      rw [← hy] at hcell hC1
      have hpos : 0 < y.length := HNE.out y (hye ▸ List.getElem_mem hlt)
      have B' : Aside0 (l0 = l0.take kk ++ y :: l0.drop (kk + 1) ∧ l0.take (kk + 1) = l0.take kk ++ [y]) := ⟨by
        have h1 : l0.drop kk = l0[kk] :: l0.drop (kk + 1) := List.drop_eq_getElem_cons hlt
        constructor
        · conv => lhs; rw [← List.take_append_drop kk l0, h1, hye]
        · rw [List.take_succ_eq_append_getElem hlt, hye]⟩
      have HCALL := Lib.hid (fun q : Nat => basins_closure B x A1 c1 y (w.drewN q) (Kd.C_drewN hC1 q) hpos HB.out)
      clear hy hye hl1 hC1 hpos
      by_cases hq : rd y 0 = x
      · have HQ := Aside0.mk hq
        have hd : decide (rd y 0 = x) = true := decide_eq_true hq
        clear hq
        go_wp2_with (fail)
        refine (HCALL.out _).mono ?_
        rintro e w' ⟨rfl, q', rfl⟩
        go_wp2
        go_ret
        refine ⟨?_, ⟨_, rfl⟩⟩
        rw [HE.out, B'.out.1, idxL_hit _ _ _ _ A.out HQ.out, List.length_take, Nat.min_eq_left (by omega)]
        simp
      · have HQ := Aside0.mk hq
        have hd : decide (rd y 0 = x) = false := decide_eq_false hq
        clear hq
        go_wp2_with (fail)
        refine (HCALL.out _).mono ?_
        rintro e w' ⟨rfl, q', rfl⟩
        go_wp2
        go_roundg (l0.length - (kk + 1))
        case measure => omega
        case rel =>
          have hc9 := HL.out
          refine ⟨kk + 1, _, by omega, by omega, (by first | (rw [concat_next (Nat.le_trans hkk hc9)]) | (rw [i64_w, concat_next (Nat.le_trans hkk hc9)]) | go_num), rfl, ⟨fun z hz => ?_⟩⟩
          rw [B'.out.2] at hz
          rcases List.mem_append.1 hz with hz | hz
          · exact A.out z hz
          · rw [List.mem_singleton.1 hz]; exact HQ.out
    · have hd1 : decide (kk < l0.length) = false := decide_eq_false hlt
      have hd2 : decide ((kk : Int) < (l0.length : Int)) = false := decide_eq_false (by omega)
      have hk : Aside0 (kk = l0.length) := ⟨by omega⟩
      clear hlt
      go_wp2
      go_ret
      refine ⟨?_, ⟨q, rfl⟩⟩
      have := A.out
      rw [hk.out, List.take_length] at this
      rw [HE.out, idxL_miss _ _ this]
      rfl
def basL (k0 : Nat) (l0 : List Int) (all : List (List Int)) : Nat → List Int → Int → Option (List Int)
  | 0, _, _ => none
  | k + 1, out, i => if i < (l0.length : Int) then (impl_cycleAt.f k0 l0 i).bind fun c => if 0 < c.length ∧ out.length < 1000 then basL k0 l0 all k (out ++ [idxL (rd c 0) all 0]) (wrap64 (i + 1)) else none else some out
theorem basL_mono (l0 : List Int) (all : List (List Int)) (k0 : Nat) : ∀ (k : Nat) (out : List Int) (i : Int), LeO (basL k0 l0 all k out i) (basL (k0 + 1) l0 all (k + 1) out i)
  | 0, _, _ => fun r h => by simp [basL] at h
  | k + 1, out, i => by
    intro r hr
    rw [basL] at hr ⊢
    by_cases h1 : i < (l0.length : Int)
    · rw [if_pos h1] at hr ⊢
      obtain ⟨c, h2, h3⟩ := Option.bind_eq_some_iff.1 hr
      refine Option.bind_eq_some_iff.2 ⟨c, impl_cycleAt.mono _ _ _ c h2, ?_⟩
      by_cases h4 : 0 < c.length ∧ out.length < 1000
      · rw [if_pos h4] at h3 ⊢
        exact basL_mono l0 all k0 k _ _ r h3
      · rw [if_neg h4] at h3; cases h3
    · rw [if_neg h1] at hr ⊢; exact hr
def impl_BasinsOf.f (k : Nat) (l0 : List Int) : Option (List Int × Bool) := (impl_IsMap.f l0).bind fun b => if b = true then (impl_cycles.f k l0).bind fun all => if all.length ≤ 1000 ∧ (∀ c ∈ all, 0 < c.length) then (basL k l0 all k [] 0).bind fun out => some (out, true) else none else some ([], false)
theorem impl_BasinsOf.mono : ∀ a0 k, LeO (impl_BasinsOf.f k a0) (impl_BasinsOf.f (k + 1) a0) := by
  intro a0 k r h
  unfold impl_BasinsOf.f at h ⊢
  obtain ⟨b, h1, h2⟩ := Option.bind_eq_some_iff.1 h
  refine Option.bind_eq_some_iff.2 ⟨b, h1, ?_⟩
  by_cases hb : b = true
  · rw [if_pos hb] at h2 ⊢
    obtain ⟨all, h3, h4⟩ := Option.bind_eq_some_iff.1 h2
    refine Option.bind_eq_some_iff.2 ⟨all, impl_cycles.mono _ _ all h3, ?_⟩
    by_cases hc : all.length ≤ 1000 ∧ (∀ c ∈ all, 0 < c.length)
    · rw [if_pos hc] at h4 ⊢
      obtain ⟨out, h5, h6⟩ := Option.bind_eq_some_iff.1 h4
      exact Option.bind_eq_some_iff.2 ⟨out, basL_mono _ _ _ _ _ _ out h5, h6⟩
    · rw [if_neg hc] at h4; cases h4
  · rw [if_neg hb] at h2 ⊢; exact h2
set_option maxHeartbeats 8000000 in
set_option maxRecDepth 100000 in
theorem impl_BasinsOf.calls (k : Nat) (A0 : Option Addr) (c0 : Nat) (l0 : List Int) (r1 : List Int) (r2 : Bool) (w : World) (hr0 : Kd.C (Kd.int .i64) w A0 l0.length l0) (hc0 : l0.length ≤ c0) (h : impl_BasinsOf.f k l0 = some (r1, r2)) :
    Calls Try.prog 40 #[.slice A0 l0.length c0] w fun e w' => ∃ v0_ : Value, e = .returned (.tuple #[v0_, .bool r2]) ∧ Kd.R (Kd.int .i64) 3 w' w.heap.size (fun _ => True) v0_ r1 ∧ Below w.heap.size w w' := by
  obtain ⟨b, h1, h2⟩ := Option.bind_eq_some_iff.1 h
  have HM := Aside0.mk h1
  have HR0 := Aside0.mk hr0
  have HC0 := Aside0.mk hc0
  have HB := Aside0.mk (Below.refl w.heap.size w)
  cases b with
  | false =>
    rw [if_neg (by decide)] at h2
    have e1 : [] = r1 := congrArg Prod.fst (Option.some.inj h2)
    have e2 : false = r2 := congrArg Prod.snd (Option.some.inj h2)
    subst e1; subst e2
    clear h h1 h2 hr0 hc0
    go_enter Try.func40, Try.ntmps40
    go_wp2_with (go_at_call 17; refine (impl_IsMap.calls A0 c0 l0 false _ HR0.out HC0.out HM.out).mono ?_; rintro e w' ⟨rfl, hb⟩; have HB1 := Aside0.mk hb; clear hb)
    go_ret2
    exact ⟨_, rfl, Kd.R_nil _ _ _ _ _, HB1.out⟩
  | true =>
    rw [if_pos rfl] at h2
    obtain ⟨all, h3, h4⟩ := Option.bind_eq_some_iff.1 h2
    have h5 : (all.length ≤ 1000 ∧ (∀ c ∈ all, 0 < c.length)) ∧ basL k l0 all k [] 0 = some r1 ∧ true = r2 := by
      by_cases hc : all.length ≤ 1000 ∧ (∀ c ∈ all, 0 < c.length)
      · rw [if_pos hc] at h4
        obtain ⟨out, h5, h6⟩ := Option.bind_eq_some_iff.1 h4
        have e1 : out = r1 := congrArg Prod.fst (Option.some.inj h6)
        have e2 : true = r2 := congrArg Prod.snd (Option.some.inj h6)
        exact ⟨hc, e1 ▸ h5, e2⟩
      · rw [if_neg hc] at h4; cases h4
    obtain ⟨h6, h7, rfl⟩ := h5
    have HALL := Aside0.mk h6
    have HCY := Aside0.mk h3
    have H' := Aside0.mk h7
    clear h h1 h2 h3 h4 h6 h7 hr0 hc0
    go_enter Try.func40, Try.ntmps40
    go_wp2_with (first
      | (go_at_call 17; refine (impl_IsMap.calls A0 c0 l0 true _ HR0.out HC0.out HM.out).mono ?_; rintro e w' ⟨rfl, hb⟩; have n0_ := Aside0.mk hb; clear hb HB; have HB := n0_; clear n0_)
      | (go_at_call 68; refine (impl_cycles.calls k A0 c0 l0 all _ (Kd.C_below HR0.out HB.out) HC0.out HCY.out).mono ?_; rintro e w' ⟨v4, rfl, ho, hb⟩; obtain ⟨A4, c4, e4⟩ := Kd.R_slice (Kd.S_R ho); subst e4; obtain ⟨N, hN⟩ : ∃ N, N = w'.heap.size := ⟨_, rfl⟩; have HN := Aside0.mk hN; have HA := Aside0.mk (Kd.R_mono (ok' := fun q => q < N) (Kd.R_bound (Kd.R_lower (Kd.S_R ho) (below_size HB.out))) (fun q hq => hN ▸ hq.2.2.1)); have n0_ := Aside0.mk (below_step HB.out hb); clear ho hb HB hN; have HB := n0_; clear n0_))
    go_loopg [5, 16] k (fun kq v5 v16 w' => ∃ (out : List Int) (i : Int), v16 = .int .i64 i ∧ Aside0 (basL k l0 all kq out i = some r1) ∧ Aside0 (kq ≤ k) ∧ Aside0 (Kd.R (Kd.int .i64) 3 w' w.heap.size (fun q => N ≤ q) v5 out) ∧ Aside0 (Kd.R (Kd.slice 3 (Kd.int .i64)) 22 w' w.heap.size (fun q => q < N) (.slice A4 all.length c4) all) ∧ Aside0 (Below w.heap.size w w') ∧ Aside0 (N ≤ w'.heap.size))
    case atStart =>
      refine ⟨[], 0, rfl, H', ⟨Nat.le_refl _⟩, ⟨⟨fun q hq => ?_, [], ?_, Reps.none _ _⟩⟩, ⟨Kd.R_alloc HA.out _⟩, ⟨below_alloc HB.out _⟩, ⟨by rw [HN.out]; simp⟩⟩
      · rw [HN.out]
        simp [Value.ownBlock] at hq
        omega
      have h2 := World.ownsRow_lit (base := w.heap.size) (e := 3) (size := 1) _ #[] 0 HB.out.size (by simp [maxLen]) (by simp)
      refine (show World.ownsRow _ w.heap.size 3 1 _ 0 [] from ?_)
      simpa using h2
    case round =>
      clear H' HA HB
      obtain ⟨out, i, rfl, HL, HK, HO, HA, HB, HNW⟩ := hrel
      cases gk with
      | zero => exact absurd HL.out (by simp [basL])
      | succ k1 =>
        have H := HL.out
        clear HL
        simp only [basL] at H
        by_cases c1 : i < (l0.length : Int)
        · rw [if_pos c1] at H
          have c1b : decide (i < (l0.length : Int)) = true := decide_eq_true c1
          replace H := Option.bind_eq_some_iff.mp H
          obtain ⟨c, H1, H⟩ := H
          have HCA := Aside0.mk H1
          clear H1
          by_cases c2 : 0 < c.length ∧ out.length < 1000
          · rw [if_pos c2] at H
            have H' := Aside0.mk H
            have C2 := Aside0.mk c2
            have c2b : decide ((0 : Int) < (c.length : Int)) = true := decide_eq_true (by omega)
            have c2i : (0 : Int) < (c.length : Int) := by omega
            clear H c1 c2
            go_wp2_with (go_at_call 69; refine (impl_cycleAt.calls k A0 c0 l0 i c _ (Kd.C_below HR0.out HB.out) HC0.out HCA.out).mono ?_; rintro e w' ⟨v, rfl, ho, hb⟩; obtain ⟨Ac, cc, ec⟩ := Kd.R_slice ho; subst ec; obtain ⟨adc, e1, hcell⟩ := Kd.at_int (Kd.R_reads' ho).2.2 0 (by omega) c2i; subst e1; rw [Int.toNat_zero, show adc.add 0 = adc by simp [Addr.add]] at hcell; have n0_ := Aside0.mk (Kd.R_below HO.out hb); have n1_ := Aside0.mk (Kd.R_below HA.out hb); have n2_ := Aside0.mk (below_step HB.out hb); have n3_ := Aside0.mk (Nat.le_trans HNW.out hb.size); clear HO HA HB HNW ho hb; have HO := n0_; have HA := n1_; have HB := n2_; have HNW := n3_; clear n0_ n1_ n2_ n3_)
            have hrx := Kd.R_reads' HA.out
            have HX := basins_IndexFunc w'.heap.size (rd c 0) A4 c4 all (w'.alloc (.cells #[.int .i64 (rd c 0)] 3)) (Kd.C_alloc hrx.2.2 _) hrx.2.1 HALL.out.1 (by simp) HALL.out.2
            obtain ⟨x9, hx9⟩ : ∃ x9, x9 = idxL (rd c 0) all 0 := ⟨_, rfl⟩
            rw [← hx9] at HX
            have HX9 := Aside0.mk hx9
            clear hrx hx9
            refine HX.mono ?_
            rintro e w2 ⟨rfl, q, rfl⟩
            have n0_ := Aside0.mk (Kd.R_drewN (Kd.R_alloc HO.out (.cells #[.int .i64 (rd c 0)] 3)) q)
            have n1_ := Aside0.mk (Kd.R_drewN (Kd.R_alloc HA.out (.cells #[.int .i64 (rd c 0)] 3)) q)
            have n2_ := Aside0.mk (pw_below_drewN (below_alloc HB.out (.cells #[.int .i64 (rd c 0)] 3)) q)
            have n3_ : Aside0 (N ≤ ((w'.alloc (.cells #[.int .i64 (rd c 0)] 3)).drewN q).heap.size) := ⟨Nat.le_trans HNW.out (by show _ ≤ (w'.alloc (.cells #[.int .i64 (rd c 0)] 3)).heap.size; simp)⟩
            clear HX HO HA HB HNW hcell
            have HNW := n3_
            have HO := n0_
            have HA := n1_
            have HB := n2_
            clear n0_ n1_ n2_ n3_
            generalize (w'.alloc (.cells #[.int .i64 (rd c 0)] 3)).drewN q = W at HO HA HB HNW ⊢
            go_wp2_with ((with_reducible refine gate_builtin (b := .append) (xs := #[.tmp 24, .tmp 28]) rfl ?_); at_builtin; refine Kd.R_append (Kd.int .i64) (w0 := w) w.heap.size rfl (.tmp 24) (.tmp 28) 22 3 (.int .i64 0) 8 rfl Try.underlying22 info3 rfl (by decide) (by omega) _ out x9 [.int .i64 x9] (fun q => N ≤ q) (fun _ => False) rfl rfl rfl (fun _ h => h.elim) (fun q hq => Nat.le_trans HNW.out hq) HO.out HB.out HB.out.size (by have := C2.out; omega) ?_; intro v2 w3 ho hb hg hat; have n0_ := Aside0.mk ho; have n1_ := Aside0.mk (Kd.R_grown HA.out hg (fun q hq he => by have h9 := HO.out.1 q he.symm; omega)); have n2_ := Aside0.mk hb; have n3_ := Aside0.mk (Nat.le_trans HNW.out hg.size); clear ho hb hg hat HO HA HB HNW; have HO := n0_; have HA := n1_; have HB := n2_; have HNW := n3_; clear n0_ n1_ n2_ n3_)
            go_roundg k1
            case measure => have := HK.out; omega
            case rel => exact ⟨out ++ [x9], wrap64 (i + 1), (by first | rfl | (rw [i64_w]) | go_num), ⟨by rw [HX9.out]; exact H'.out⟩, ⟨by have := HK.out; omega⟩, HO, HA, HB, HNW⟩
          · rw [if_neg c2] at H
            exact absurd H (by simp)
        · rw [if_neg c1] at H
          have c1b : decide (i < (l0.length : Int)) = false := decide_eq_false c1
          obtain rfl := Option.some.inj H
          go_wp2
          go_ret2
          exact ⟨_, rfl, Kd.R_mono HO.out (fun _ _ => trivial), HB.out⟩

end Go.Proofs.Ytgjdoeljmnomcaa.PFnExactBasinsOf
