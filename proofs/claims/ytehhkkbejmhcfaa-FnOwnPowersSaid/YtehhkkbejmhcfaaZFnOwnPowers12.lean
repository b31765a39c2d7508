/- Plain texts of FnOwnPowers, merged by a program: what Go functions compute, lemmas of the walk, and proofs. No conditions. -/
import Derived.Test.YtehhkkbejmhcfaaZFnOwnPowers7
import Derived.Test.YtehhkkbejmhcfaaZFnOwnPowers8
import Derived.Test.YtehhkkbejmhcfaaZFnOwnPowers10
import Derived.Test.YtehhkkbejmhcfaaZFnOwnPowers11
section
namespace Go.Proofs.Ytehhkkbejmhcfaa.PFnOwnPowers
open Go.RowKit Go.Proofs.YtehhkkbejmhcfaaW.PrintWords Go.Proofs.YtehhkkbejmhcfaaW.PrintLast Go.Proofs.YtehhkkbejmhcfaaW.PrintMore
attribute [local go_sem] max2_int min2_int max_two min_two max_three min_three max_four min_four   -- for this text's walks alone
set_option linter.unusedVariables false
set_option linter.unusedSimpArgs false
def cmpL : List Int → List Int → Int
  | [], [] => 0
  | [], _ :: _ => -1
  | _ :: _, [] => 1
  | a :: la, b :: lb => if a < b then -1 else if b < a then 1 else cmpL la lb
theorem cmpL_lt : ∀ a b : List Int, cmpL a b < 0 ↔ a < b
  | [], [] => by simp [cmpL]
  | [], b :: lb => by simp [cmpL]
  | a :: la, [] => by simp [cmpL]
  | a :: la, b :: lb => by
    rw [cmpL, List.cons_lt_cons_iff]
    by_cases h1 : a < b
    · rw [if_pos h1]; exact ⟨fun _ => .inl h1, fun _ => by omega⟩
    · rw [if_neg h1]
      by_cases h2 : b < a
      · rw [if_pos h2]; exact ⟨fun h => by omega, fun h => by rcases h with h | h <;> omega⟩
      · rw [if_neg h2, cmpL_lt la lb]
        exact ⟨fun h => .inr ⟨by omega, h⟩, fun h => by rcases h with h | h; exact absurd h h1; exact h.2⟩
theorem cmpInt (x y : Int) : cmp_Compare_int.f x y = some (if x < y then -1 else if y < x then 1 else 0) := by
  simp only [cmp_Compare_int.f, cmp_isNaN_int.f, Option.bind_some, bne_self_eq_false, Bool.false_eq_true, if_false]
  by_cases h1 : x < y
  · simp [h1]
  · by_cases h2 : y < x
    · simp [h1, h2]
    · simp [h1, h2]
theorem rd_cons {x : Int} {l t : List Int} {i : Int} (h : 0 ≤ i) (hd : l.drop i.toNat = x :: t) : rd l i = x := by
  have h1 : i.toNat < l.length := by
    by_cases hc : i.toNat < l.length
    · exact hc
    · rw [List.drop_eq_nil_of_le (by omega)] at hd; cases hd
  rw [List.drop_eq_getElem_cons h1] at hd
  injection hd with hd _
  simp only [rd, List.getD_eq_getElem?_getD, List.getElem?_eq_getElem h1, Option.getD_some]
  exact hd
theorem cmpRun (l0 l1 : List Int) (h0 : l0.length ≤ 1000000) (h1 : l1.length ≤ 1000000) : ∀ (n i : Nat), i ≤ l0.length → i ≤ l1.length → l0.length - i ≤ n → slices_Compare_int_int.l0 (n + 1) l0 l1 l0 (l0.length : Int) (i : Int) = some (cmpL (l0.drop i) (l1.drop i)) := by
  intro n
  induction n with
  | zero =>
    intro i hi hj hn
    have e : i = l0.length := by omega
    rw [slices_Compare_int_int.l0, if_neg (by omega)]
    rw [e, List.drop_length]
    rcases hd : l1.drop l0.length with _ | ⟨y, t⟩
    · have := List.drop_eq_nil_iff.1 hd
      rw [if_neg (by omega)]; simp [cmpL]
    · have : l0.length < l1.length := by
        by_cases hc : l0.length < l1.length
        · exact hc
        · rw [List.drop_eq_nil_of_le (by omega)] at hd; cases hd
      rw [if_pos (by omega)]; simp [cmpL]
  | succ n ih =>
    intro i hi hj hn
    rw [slices_Compare_int_int.l0]
    by_cases hc : i < l0.length
    · rw [if_pos (by omega), if_pos (by omega), if_pos (by omega)]
      have e0 := List.drop_eq_getElem_cons hc
      by_cases hc1 : i < l1.length
      · have e1 := List.drop_eq_getElem_cons hc1
        have w1 : wrap64 ((i : Int) + 1) = ((i + 1 : Nat) : Int) := by unfold wrap64; omega
        rw [if_neg (by omega), if_pos (by omega), rd_cons (i := (i : Int)) (by omega) (by rw [Int.toNat_natCast]; exact e0), rd_cons (i := (i : Int)) (by omega) (by rw [Int.toNat_natCast]; exact e1), cmpInt, Option.bind_some, e0, e1, cmpL, w1]
        by_cases h2 : l0[i] < l1[i]
        · simp [h2]
        · by_cases h3 : l1[i] < l0[i]
          · simp [h2, h3]
          · simp only [h2, h3, if_false, if_true]
            exact ih (i + 1) (by omega) (by omega) (by omega)
      · rw [if_pos (by omega), e0, List.drop_eq_nil_of_le (show l1.length ≤ i by omega)]
        simp [cmpL]
    · have e : i = l0.length := by omega
      rw [if_neg (by omega), e, List.drop_length]
      rcases hd : l1.drop l0.length with _ | ⟨y, t⟩
      · have := List.drop_eq_nil_iff.1 hd
        rw [if_neg (by omega)]; simp [cmpL]
      · have : l0.length < l1.length := by
          by_cases hc : l0.length < l1.length
          · exact hc
          · rw [List.drop_eq_nil_of_le (by omega)] at hd; cases hd
        rw [if_pos (by omega)]; simp [cmpL]
theorem cmpAll (l0 l1 : List Int) (h0 : l0.length ≤ 1000000) (h1 : l1.length ≤ 1000000) : slices_Compare_int_int.f 1000001 l0 l1 = some (cmpL l0 l1) :=
  cmpRun l0 l1 h0 h1 1000000 0 (by omega) (by omega) (by omega)
def slices_SortFunc_int_int.f (l0 : List (List Int)) : Option (List (List Int)) := if l0.length ≤ 1000000 ∧ ∀ c ∈ l0, c.length ≤ 1000000 then some (l0.mergeSort fun x y => decide (x ≤ y)) else none
theorem sorted_same {a b : List (List Int)} (hp : a.Perm b) (ha : a.Pairwise (· ≤ ·)) (hb : b.Pairwise (· ≤ ·)) : a = b :=
  hp.eq_of_pairwise (fun x y _ _ h1 h2 => List.le_antisymm h1 h2) ha hb
theorem ownsRow_put {α : Type} [Inhabited α] {enc : α → Value} {w : World} {base g cap n m : Nat} {e : TypeId} {os : Array Obj} {cur : Array Value} {ts : List α} (hl : ts.length = m) (hbase : base ≤ g) (hb : w.heap[g]? = some (.cells cur e (0, 0)))
    (h1 : m ≤ cap) (h2 : cap ≤ maxLen) (h3 : cur.size = cap * 1) :
    (Go.Proofs.sortWorld enc w g 0 n ts.toArray os).ownsRow base e 1 (.slice (some ⟨g, 0, none⟩) m cap) m (ts.map enc) := by
  have hg : g < w.heap.size := (Array.getElem?_eq_some_iff.1 hb).1
  have hh : (Go.Proofs.sortWorld enc w g 0 n ts.toArray os).heap[g]? = some (.cells (Go.Sort.putCells enc 0 ts.toArray cur) e (0, 0)) := by
    unfold Go.Proofs.sortWorld
    rw [Go.Sort.heap_grow_old _ _ (by simpa [Go.Sort.putRow, Go.Sort.mapBlock] using hg)]
    simp [Go.Sort.putRow, Go.Sort.mapBlock, Go.Sort.ahead, Array.getElem?_modify, hb, Go.Sort.onCells]
  refine ⟨by simp [hl], .inr ⟨g, cap, _, rfl, hbase, hh, h1, h2, by simp [Go.Sort.putCells, h3], ?_⟩⟩
  rw [Nat.mul_one, ← hl]
  apply List.ext_getElem?
  intro j
  by_cases hj : j < ts.length
  · rw [List.getElem?_take_of_lt hj, Array.getElem?_toList]
    simp [Go.Sort.putCells, hj, show j < cur.size by omega]
  · rw [List.getElem?_take_eq_none (by omega), List.getElem?_eq_none (by simp; omega)]
theorem sortWorld_size {α : Type} [Inhabited α] (enc : α → Value) (w : World) (g n : Nat) (d : Array α) (os : Array Obj) : w.heap.size ≤ (Go.Proofs.sortWorld enc w g 0 n d os).heap.size := by
  simp [Go.Proofs.sortWorld, Go.Sort.grow, Go.Sort.putRow, Go.Sort.mapBlock, Go.Sort.ahead]
theorem sortWorld_heap {α : Type} [Inhabited α] (enc : α → Value) (w : World) (g n : Nat) (d : Array α) (os : Array Obj) (k : Nat) (hk : k < w.heap.size) (hne : k ≠ g) : (Go.Proofs.sortWorld enc w g 0 n d os).heap[k]? = w.heap[k]? := by
  unfold Go.Proofs.sortWorld
  rw [Go.Sort.heap_grow_old _ _ (by simpa [Go.Sort.putRow, Go.Sort.mapBlock] using hk)]
  simp [Go.Sort.putRow, Go.Sort.mapBlock, Go.Sort.ahead, Array.getElem?_modify, Ne.symm hne]
set_option maxHeartbeats 2000000 in
theorem slices_SortFunc_int_int.own_calls (w0 w : World) (ok : Nat → Prop) (v : Value) (l0 r : List (List Int)) (hB : Below w0.heap.size w0 w) (hs : Kd.S (Kd.slice 3 (Kd.int .i64)) 22 w w0.heap.size ok v l0) (h : slices_SortFunc_int_int.f l0 = some r) :
    Calls Try.prog 50 #[v, .func (.func 51) #[] #[]] w fun e w' => e = .returned (.tuple #[]) ∧ Kd.S (Kd.slice 3 (Kd.int .i64)) 22 w' w0.heap.size ok v r ∧ Below w0.heap.size w0 w' := by
  have hf : (l0.length ≤ 1000000 ∧ ∀ c ∈ l0, c.length ≤ 1000000) ∧ (l0.mergeSort fun x y => decide (x ≤ y)) = r := by
    unfold slices_SortFunc_int_int.f at h
    by_cases hc : l0.length ≤ 1000000 ∧ ∀ c ∈ l0, c.length ≤ 1000000
    · rw [if_pos hc] at h; exact ⟨hc, Option.some.inj h⟩
    · rw [if_neg hc] at h; cases h
  clear h
  obtain ⟨⟨hn, hm⟩, rfl⟩ := hf
  by_cases hz : l0 = []
  · subst hz
    obtain ⟨A, c, rfl⟩ := Kd.S_slice hs
    refine (Try.slices_SortFunc_none (α := Nat) A c _ w).mono ?_
    rintro e w' ⟨rfl, rfl⟩
    exact ⟨rfl, by simpa using hs, hB⟩
  · have hpos : 0 < l0.length := by
      rcases l0 with _ | ⟨x, t⟩
      · exact absurd rfl hz
      · simp
    obtain ⟨f, h0, inner, ho, hr⟩ := hs
    rw [List.length_zipIdx] at ho
    have hin : inner.length = l0.length := by have := hr.1; rw [List.length_zipIdx] at this; simpa using this.trans (Nat.mul_one _)
    rcases ho.2 with ⟨_, hnil⟩ | ⟨g, cap, cur, rfl, hbase, hb, h1, h2, h3, h4⟩
    · omega
    have hsz1 : (Kd.tag f (Kd.slice 3 (Kd.int .i64))).sz = 1 := rfl
    rw [hsz1, Nat.mul_one] at h3 h4
    have hg : g < w.heap.size := (Array.getElem?_eq_some_iff.1 hb).1
    -- the elements
    have hel : ∀ j (hj : j < l0.length), ∃ A c, inner[j]? = some (.slice A (l0.getD j []).length c) ∧ (Kd.int .i64).R 3 w w0.heap.size (fun k => (ok k ∧ some k ≠ (Value.slice (some ⟨g, 0, none⟩) l0.length cap).ownBlock) ∧ f k = j) (.slice A (l0.getD j []).length c) (l0.getD j []) := by
      intro j hj
      have hM := hr.2 j (l0[j], j) (by rw [List.getElem?_zipIdx, List.getElem?_eq_getElem hj]; simp)
      obtain ⟨vj, hcs, hR⟩ := hM
      rw [hsz1, Nat.mul_one] at hcs
      have hd : l0.getD j [] = l0[j] := by simp [List.getD_eq_getElem?_getD, List.getElem?_eq_getElem hj]
      rw [hd]
      obtain ⟨A, c, rfl⟩ := Kd.R_slice hR
      refine ⟨A, c, ?_, hR⟩
      have := congrArg (·[0]?) hcs
      simpa [List.getElem?_take, List.getElem?_drop] using this
    let enc : Nat → Value := fun j => inner.getD j (.slice none 0 0)
    have henc : ∀ j, ∃ A c, enc j = .slice A (l0.getD j []).length c ∧ (j < l0.length → (Kd.int .i64).R 3 w w0.heap.size (fun k => (ok k ∧ some k ≠ (Value.slice (some ⟨g, 0, none⟩) l0.length cap).ownBlock) ∧ f k = j) (.slice A (l0.getD j []).length c) (l0.getD j [])) ∧ (¬ j < l0.length → A = none ∧ c = 0 ∧ l0.getD j [] = []) := by
      intro j
      by_cases hj : j < l0.length
      · obtain ⟨A, c, e, hR⟩ := hel j hj
        exact ⟨A, c, by simp only [enc, List.getD_eq_getElem?_getD, e, Option.getD_some], fun _ => hR, fun h => absurd hj h⟩
      · have hd : l0.getD j [] = [] := by simp [List.getD_eq_getElem?_getD, List.getElem?_eq_none (Nat.le_of_not_lt hj)]
        refine ⟨none, 0, ?_, fun h => absurd h hj, fun _ => ⟨rfl, rfl, hd⟩⟩
        simp only [enc, List.getD_eq_getElem?_getD, List.getElem?_eq_none (show inner.length ≤ j by omega), Option.getD_none]
        rw [← List.getD_eq_getElem?_getD, hd]; rfl
    have hone : Go.Proofs.OneCell enc := by
      intro j
      obtain ⟨A, c, e, _⟩ := henc j
      rw [e]; rfl
    let cf : Nat → Nat → Int := fun i j => cmpL (l0.getD i []) (l0.getD j [])
    have hle : ∀ j, (l0.getD j []).length ≤ 1000000 := by
      intro j
      by_cases hj : j < l0.length
      · have hd : l0.getD j [] = l0[j] := by simp [List.getD_eq_getElem?_getD, List.getElem?_eq_getElem hj]
        rw [hd]; exact hm _ (List.getElem_mem hj)
      · have hd : l0.getD j [] = [] := by simp [List.getD_eq_getElem?_getD, List.getElem?_eq_none (Nat.le_of_not_lt hj)]
        rw [hd]; simp
    have hreads : ∀ (n : Nat) (dk : Array Nat) (os : Array Obj) (j : Nat), ∃ A c, enc j = .slice A (l0.getD j []).length c ∧ (l0.getD j []).length ≤ c ∧ (Kd.int .i64).C (Go.Proofs.sortWorld enc w g 0 n dk os) A (l0.getD j []).length (l0.getD j []) := by
      intro n dk os j
      obtain ⟨A, c, e, hR, hN⟩ := henc j
      refine ⟨A, c, e, ?_⟩
      by_cases hj : j < l0.length
      · have hR' := Kd.R_step (w1 := Go.Proofs.sortWorld enc w g 0 n dk os) (hR hj) (fun k hk hlt => sortWorld_heap enc w g n dk os k hlt (fun e => hk.1.2 (by rw [e]; rfl)))
        exact (Kd.R_reads' hR').2
      · obtain ⟨rfl, rfl, hd⟩ := hN hj
        rw [hd]
        exact ⟨Nat.le_refl _, (Kd.R_reads' (Kd.R_nil (Kd.int .i64) 3 _ 0 (fun _ => True))).2.2⟩
    have hsizes : (List.range l0.length).toArray.size = l0.length := by simp
    have hcmp : Go.Proofs.CmpReads Try.prog 51 #[] enc cf g 0 (List.range l0.length).toArray.size w := by
      intro n os dk hdk x y
      obtain ⟨Ax, cx, ex, hlx, hCx⟩ := hreads n dk os x
      obtain ⟨Ay, cy, ey, hly, hCy⟩ := hreads n dk os y
      rw [ex, ey]
      refine (slices_Compare_int_int.calls 1000001 Ax cx _ Ay cy _ _ _ hCx hlx hCy hly (cmpAll _ _ (hle x) (hle y))).mono ?_
      rintro e w' ⟨rfl, hd⟩
      exact ⟨rfl, hd.out⟩
    have hlt : ∀ i j, Go.Proofs.ltOf cf i j = decide (l0.getD i [] < l0.getD j []) := by
      intro i j
      unfold Go.Proofs.ltOf
      simp only [cf, cmpL_lt]
    have hO : Go.Sort.SWO (Go.Proofs.ltOf cf) := by
      refine ⟨fun x => ?_, fun x y z => ?_, fun x y z => ?_⟩
      · rw [hlt]; exact decide_eq_false (List.lt_irrefl _)
      · rw [hlt, hlt, hlt]; simp only [decide_eq_true_eq]; exact fun a b => List.lt_trans a b
      · rw [hlt, hlt, hlt]; simp only [decide_eq_false_iff_not, List.not_lt]; exact fun a b => List.le_trans b a
    have hholds : Go.Sort.Holds enc w g 0 (List.range l0.length).toArray := by
      intro j hj
      have hj' : j < l0.length := by simpa using hj
      obtain ⟨A, c, e, _⟩ := hel j hj'
      refine ⟨?_, by simp [World.frozen?, hb]⟩
      have e1 : cur.toList[j]? = some (.slice A (l0.getD j []).length c) := by
        rw [← h4, List.getElem?_take_of_lt hj'] at e; exact e
      have e2 : enc ((List.range l0.length).toArray[j]!) = .slice A (l0.getD j []).length c := by
        have : (List.range l0.length).toArray[j]! = j := by simp [hj']
        rw [this]
        simp only [enc, List.getD_eq_getElem?_getD, e, Option.getD_some]
      rw [e2]
      simp only [World.cell?, hb, Nat.zero_add, Option.isSome_none, Bool.false_eq_true, if_false]
      rw [← Array.getElem?_toList]; exact e1
    have heg : ∀ args w, (callFunc 51 args).run Try.prog w = .ok (.enter 51 args) w := enters_of Try.func51 (by kernel_rfl) rfl
    have main := Try.slices_SortFunc (α := Nat) enc hone cf hO 51 #[] g 0 cap (List.range l0.length).toArray w heg hcmp.lays hholds hg (by rw [hsizes]; omega)
    rw [hsizes] at main
    refine main.mono ?_
    rintro e w' ⟨rfl, d', n, os, hP, hS, rfl⟩
    have hds : d'.size = l0.length := by rw [hP.1]; simp
    have hperm : d'.toList.Perm (List.range l0.length) := by
      have := hP.2.2
      rw [Array.extract_eq_self_of_le (by omega), Array.extract_eq_self_of_le (by simp)] at this
      simpa using this
    have hnod : d'.toList.Nodup := hperm.nodup_iff.2 List.nodup_range
    have hdl : d'.toList.length = l0.length := by simpa using hds
    have hres : (l0.mergeSort fun x y => decide (x ≤ y)) = d'.toList.map (fun i => l0.getD i []) := by
      refine sorted_same ?_ ?_ ?_
      · refine (List.mergeSort_perm _ _).trans ?_
        have e1 : l0 = (List.range l0.length).map (fun i => l0.getD i []) := by
          apply List.ext_getElem (by simp)
          intro i hi1 hi2
          simp [List.getD_eq_getElem?_getD, List.getElem?_eq_getElem hi1]
        conv => lhs; rw [e1]
        exact (hperm.map _).symm
      · have := List.pairwise_mergeSort (le := fun x y : List Int => decide (x ≤ y)) (fun a b c h1 h2 => by simp only [decide_eq_true_eq] at *; exact List.le_trans h1 h2) (fun a b => by
          simp only [Bool.or_eq_true, decide_eq_true_eq]; exact List.le_total a b) l0
        exact this.imp (fun h => by simpa using h)
      · rw [List.pairwise_map, List.pairwise_iff_getElem]
        intro i j hi hj hij
        have h5 := hS i j (Nat.zero_le _) hij (by omega)
        rw [hlt] at h5
        have hi' : i < d'.size := by simpa using hi
        have hj' : j < d'.size := by simpa using hj
        rw [getElem!_pos d' j hj', getElem!_pos d' i hi'] at h5
        simp only [decide_eq_false_iff_not, List.not_lt] at h5
        simpa using h5
    refine ⟨rfl, ?_, ?_⟩
    · rw [hres]
      have hown := ownsRow_put (enc := enc) (w := w) (base := w0.heap.size) (g := g) (cap := cap) (n := n) (os := os) (ts := d'.toList) (m := l0.length) hdl hbase hb h1 h2 (by rw [Nat.mul_one]; exact h3)
      rw [Array.toArray_toList] at hown
      refine ⟨fun k => (d'.toList).idxOf (f k), h0, d'.toList.map enc, ?_, ?_, ?_⟩
      · rw [List.length_zipIdx, List.length_map, hdl]; exact hown
      · rw [List.length_zipIdx, List.length_map, List.length_map]; exact (Nat.mul_one _).symm
      · intro j p hp
        rw [List.getElem?_zipIdx, Nat.zero_add] at hp
        obtain ⟨x, hx, rfl⟩ := Option.map_eq_some_iff.1 hp
        rw [List.getElem?_map] at hx
        obtain ⟨i, hi, rfl⟩ := Option.map_eq_some_iff.1 hx
        have hjl : j < d'.toList.length := by
          by_cases hc : j < d'.toList.length
          · exact hc
          · rw [List.getElem?_eq_none (by omega)] at hi; cases hi
        have hij : d'.toList[j] = i := by rw [List.getElem?_eq_getElem hjl] at hi; exact Option.some.inj hi
        have him : i < l0.length := by
          have : i ∈ d'.toList := List.mem_of_getElem? hi
          have := hperm.mem_iff.1 this
          simpa using this
        obtain ⟨A, c, e, hR, _⟩ := henc i
        refine ⟨enc i, ?_, ?_⟩
        · show List.take 1 (List.drop (j * 1) (d'.toList.map enc)) = [enc i]
          rw [Nat.mul_one]
          apply List.ext_getElem?
          intro z
          cases z with
          | zero => simp [List.getElem?_take, List.getElem?_drop, hi]
          | succ z => rw [List.getElem?_take]; simp
        · rw [e]
          refine Kd.R_mono (Kd.R_step (hR him) (fun k hk hlt => sortWorld_heap enc w g n d' os k hlt (fun e => hk.1.2 (by rw [e]; rfl)))) (fun k hk => ⟨hk.1, ?_⟩)
          show (d'.toList).idxOf (f k) = j
          rw [hk.2, ← hij]
          exact List.Nodup.idxOf_getElem hnod j hjl
    · refine ⟨hB.os, hB.tape, hB.output, Nat.le_trans hB.size (sortWorld_size enc w g n d' os), fun k hk => ?_⟩
      rw [sortWorld_heap enc w g n d' os k (Nat.lt_of_lt_of_le hk hB.size) (by omega)]
      exact hB.block k hk
mutual
def impl_CyclesOfPowers.j0 : Nat → Int → Int → Bool → Option ((List (List Int)) × Bool)
  | 0, _, _, _ => none
  | k + 1, x0, x1, x21 => if x21 = true then (some (([] : List (List Int)), false)) else ((impl_greatest.f k x0 x1).bind fun t229 => (impl_CyclesOfPowers.l0 k x0 x1 (([] : List Int)) (([] : List (List Int))) (wrap64 (t229 + 1)) 0))
def impl_CyclesOfPowers.l0 : Nat → Int → Int → List Int → List (List Int) → Int → Int → Option ((List (List Int)) × Bool)
  | 0, _, _, _, _, _, _ => none
  | k + 1, x0, x1, x6, x7, x27, x28 => if x28 < x27 then ((impl_powerSum.f k x28 x0 x1).bind fun t230 => (if x6.length < 17592186044416 then (impl_CyclesOfPowers.l0 k x0 x1 (x6 ++ [t230]) x7 x27 (wrap64 (x28 + 1))) else (none))) else (if 0 ≤ (x6.length : Int) then (if ((x6.length : Int) : Int).toNat ≤ 35184372088832 then (impl_CyclesOfPowers.l1 k x6 x7 (List.replicate ((x6.length : Int) : Int).toNat 0) (x6.length : Int) 0) else (none)) else (none))
def impl_CyclesOfPowers.l1 : Nat → List Int → List (List Int) → List Int → Int → Int → Option ((List (List Int)) × Bool)
  | 0, _, _, _, _, _ => none
  | k + 1, x6, x7, x9, x43, x44 => if x44 < x43 then (impl_CyclesOfPowers.l2 k x6 x7 x9 x44 (([] : List Int)) x44 x43 x44) else ((slices_SortFunc_int_int.f x7).bind fun t237 => (some (t237, true)))
def impl_CyclesOfPowers.l2 : Nat → List Int → List (List Int) → List Int → Int → List Int → Int → Int → Int → Option ((List (List Int)) × Bool)
  | 0, _, _, _, _, _, _, _, _ => none
  | k + 1, x6, x7, x9, x10, x11, x12, x43, x44 => if 0 ≤ x12 then (if x12 < (x9.length : Int) then (if (rd x9 x12) = 0 then (if x11.length < 17592186044416 then (if x12 < (x6.length : Int) then (impl_CyclesOfPowers.l2 k x6 x7 (x9.set (x12 : Int).toNat (wrap64 (x10 + 1))) x10 (x11 ++ [x12]) (rd x6 x12) x43 x44) else (none)) else (none)) else ((slices_Index_int_int.f k x11 x12).bind fun t249 => (if t249 ≥ 0 then (if 0 ≤ t249 then (if t249 ≤ (x11.length : Int) then ((impl_leastFirst.f k (x11.drop (t249 : Int).toNat)).bind fun t254 => (if x7.length < 5864062014805 then (impl_CyclesOfPowers.l1 k x6 (x7 ++ [t254]) x9 x43 (wrap64 (x44 + 1))) else (none))) else (none)) else (none)) else (impl_CyclesOfPowers.l1 k x6 x7 x9 x43 (wrap64 (x44 + 1)))))) else (none)) else (none)
end
def impl_CyclesOfPowers.f (k : Nat) (a0 : Int) (a1 : Int) : Option ((List (List Int)) × Bool) := (impl_isSmallBase.f a0).bind fun t221 => (if t221 = true then ((impl_in.f a1 1 4).bind fun t222 => (impl_CyclesOfPowers.j0 k a0 a1 (!t222))) else (impl_CyclesOfPowers.j0 k a0 a1 true))
theorem impl_CyclesOfPowers.mono_l : ∀ k, (∀ y0 y1 y2, LeO (impl_CyclesOfPowers.j0 k y0 y1 y2) (impl_CyclesOfPowers.j0 (k + 1) y0 y1 y2)) ∧ (∀ y0 y1 y2 y3 y4 y5, LeO (impl_CyclesOfPowers.l0 k y0 y1 y2 y3 y4 y5) (impl_CyclesOfPowers.l0 (k + 1) y0 y1 y2 y3 y4 y5)) ∧ (∀ y0 y1 y2 y3 y4, LeO (impl_CyclesOfPowers.l1 k y0 y1 y2 y3 y4) (impl_CyclesOfPowers.l1 (k + 1) y0 y1 y2 y3 y4)) ∧ (∀ y0 y1 y2 y3 y4 y5 y6 y7, LeO (impl_CyclesOfPowers.l2 k y0 y1 y2 y3 y4 y5 y6 y7) (impl_CyclesOfPowers.l2 (k + 1) y0 y1 y2 y3 y4 y5 y6 y7))
  | 0 => ⟨fun _ _ _ r h => by simp [impl_CyclesOfPowers.j0] at h, fun _ _ _ _ _ _ r h => by simp [impl_CyclesOfPowers.l0] at h, fun _ _ _ _ _ r h => by simp [impl_CyclesOfPowers.l1] at h, fun _ _ _ _ _ _ _ _ r h => by simp [impl_CyclesOfPowers.l2] at h⟩
  | k + 1 => by
    obtain ⟨ih0, ih1, ih2, ih3⟩ := impl_CyclesOfPowers.mono_l k
    refine ⟨?_, ?_, ?_, ?_⟩
    · intro y0 y1 y2
      unfold impl_CyclesOfPowers.j0
      repeat' first
      | (with_reducible exact ih0 _ _ _)
      | (with_reducible exact ih1 _ _ _ _ _ _)
      | (with_reducible exact ih2 _ _ _ _ _)
      | (with_reducible exact ih3 _ _ _ _ _ _ _ _)
      | (with_reducible exact impl_greatest.mono _ _ _)
      | (with_reducible exact impl_leastFirst.mono _ _)
      | (with_reducible exact impl_powerSum.mono _ _ _ _)
      | (with_reducible exact slices_Index_int_int.mono _ _ _)
      | (with_reducible exact LeO.refl _)
      | (with_reducible exact LeO.none _)
      | (with_reducible refine LeO.ite ?_ ?_)
      | (with_reducible refine LeO.bind ?_ (fun _ => ?_))
      | exact ih0 _ _ _
      | exact ih1 _ _ _ _ _ _
      | exact ih2 _ _ _ _ _
      | exact ih3 _ _ _ _ _ _ _ _
      | exact impl_greatest.mono _ _ _
      | exact impl_leastFirst.mono _ _
      | exact impl_powerSum.mono _ _ _ _
      | exact slices_Index_int_int.mono _ _ _
      | exact LeO.none _
      | refine LeO.ite ?_ ?_
      | refine LeO.bind ?_ (fun _ => ?_)
    · intro y0 y1 y2 y3 y4 y5
      unfold impl_CyclesOfPowers.l0
      repeat' first
      | (with_reducible exact ih0 _ _ _)
      | (with_reducible exact ih1 _ _ _ _ _ _)
      | (with_reducible exact ih2 _ _ _ _ _)
      | (with_reducible exact ih3 _ _ _ _ _ _ _ _)
      | (with_reducible exact impl_greatest.mono _ _ _)
      | (with_reducible exact impl_leastFirst.mono _ _)
      | (with_reducible exact impl_powerSum.mono _ _ _ _)
      | (with_reducible exact slices_Index_int_int.mono _ _ _)
      | (with_reducible exact LeO.refl _)
      | (with_reducible exact LeO.none _)
      | (with_reducible refine LeO.ite ?_ ?_)
      | (with_reducible refine LeO.bind ?_ (fun _ => ?_))
      | exact ih0 _ _ _
      | exact ih1 _ _ _ _ _ _
      | exact ih2 _ _ _ _ _
      | exact ih3 _ _ _ _ _ _ _ _
      | exact impl_greatest.mono _ _ _
      | exact impl_leastFirst.mono _ _
      | exact impl_powerSum.mono _ _ _ _
      | exact slices_Index_int_int.mono _ _ _
      | exact LeO.none _
      | refine LeO.ite ?_ ?_
      | refine LeO.bind ?_ (fun _ => ?_)
    · intro y0 y1 y2 y3 y4
      unfold impl_CyclesOfPowers.l1
      repeat' first
      | (with_reducible exact ih0 _ _ _)
      | (with_reducible exact ih1 _ _ _ _ _ _)
      | (with_reducible exact ih2 _ _ _ _ _)
      | (with_reducible exact ih3 _ _ _ _ _ _ _ _)
      | (with_reducible exact impl_greatest.mono _ _ _)
      | (with_reducible exact impl_leastFirst.mono _ _)
      | (with_reducible exact impl_powerSum.mono _ _ _ _)
      | (with_reducible exact slices_Index_int_int.mono _ _ _)
      | (with_reducible exact LeO.refl _)
      | (with_reducible exact LeO.none _)
      | (with_reducible refine LeO.ite ?_ ?_)
      | (with_reducible refine LeO.bind ?_ (fun _ => ?_))
      | exact ih0 _ _ _
      | exact ih1 _ _ _ _ _ _
      | exact ih2 _ _ _ _ _
      | exact ih3 _ _ _ _ _ _ _ _
      | exact impl_greatest.mono _ _ _
      | exact impl_leastFirst.mono _ _
      | exact impl_powerSum.mono _ _ _ _
      | exact slices_Index_int_int.mono _ _ _
      | exact LeO.none _
      | refine LeO.ite ?_ ?_
      | refine LeO.bind ?_ (fun _ => ?_)
    · intro y0 y1 y2 y3 y4 y5 y6 y7
      unfold impl_CyclesOfPowers.l2
      repeat' first
      | (with_reducible exact ih0 _ _ _)
      | (with_reducible exact ih1 _ _ _ _ _ _)
      | (with_reducible exact ih2 _ _ _ _ _)
      | (with_reducible exact ih3 _ _ _ _ _ _ _ _)
      | (with_reducible exact impl_greatest.mono _ _ _)
      | (with_reducible exact impl_leastFirst.mono _ _)
      | (with_reducible exact impl_powerSum.mono _ _ _ _)
      | (with_reducible exact slices_Index_int_int.mono _ _ _)
      | (with_reducible exact LeO.refl _)
      | (with_reducible exact LeO.none _)
      | (with_reducible refine LeO.ite ?_ ?_)
      | (with_reducible refine LeO.bind ?_ (fun _ => ?_))
      | exact ih0 _ _ _
      | exact ih1 _ _ _ _ _ _
      | exact ih2 _ _ _ _ _
      | exact ih3 _ _ _ _ _ _ _ _
      | exact impl_greatest.mono _ _ _
      | exact impl_leastFirst.mono _ _
      | exact impl_powerSum.mono _ _ _ _
      | exact slices_Index_int_int.mono _ _ _
      | exact LeO.none _
      | refine LeO.ite ?_ ?_
      | refine LeO.bind ?_ (fun _ => ?_)
theorem impl_CyclesOfPowers.mono : ∀ a0 a1 k, LeO (impl_CyclesOfPowers.f k a0 a1) (impl_CyclesOfPowers.f (k + 1) a0 a1) := by
  intro a0 a1 k
  obtain ⟨ih0, ih1, ih2, ih3⟩ := impl_CyclesOfPowers.mono_l k
  unfold impl_CyclesOfPowers.f
  repeat' first
      | (with_reducible exact ih0 _ _ _)
      | (with_reducible exact ih1 _ _ _ _ _ _)
      | (with_reducible exact ih2 _ _ _ _ _)
      | (with_reducible exact ih3 _ _ _ _ _ _ _ _)
      | (with_reducible exact impl_greatest.mono _ _ _)
      | (with_reducible exact impl_leastFirst.mono _ _)
      | (with_reducible exact impl_powerSum.mono _ _ _ _)
      | (with_reducible exact slices_Index_int_int.mono _ _ _)
      | (with_reducible exact LeO.refl _)
      | (with_reducible exact LeO.none _)
      | (with_reducible refine LeO.ite ?_ ?_)
      | (with_reducible refine LeO.bind ?_ (fun _ => ?_))
      | exact ih0 _ _ _
      | exact ih1 _ _ _ _ _ _
      | exact ih2 _ _ _ _ _
      | exact ih3 _ _ _ _ _ _ _ _
      | exact impl_greatest.mono _ _ _
      | exact impl_leastFirst.mono _ _
      | exact impl_powerSum.mono _ _ _ _
      | exact slices_Index_int_int.mono _ _ _
      | exact LeO.none _
      | refine LeO.ite ?_ ?_
      | refine LeO.bind ?_ (fun _ => ?_)
set_option maxHeartbeats 8000000 in
set_option maxRecDepth 100000 in
theorem impl_CyclesOfPowers.calls (k : Nat) (a0 : Int) (a1 : Int) (r1 : List (List Int)) (r2 : Bool) (w : World) (h : impl_CyclesOfPowers.f k a0 a1 = some (r1, r2)) :
    Calls Try.prog 16 #[.int .i64 a0, .int .i64 a1] w fun e w' => ∃ v0_ : Value, e = .returned (.tuple #[v0_, .bool r2]) ∧ Kd.S (Kd.slice 3 (Kd.int .i64)) 22 w' w.heap.size (fun _ => True) v0_ r1 ∧ Below w.heap.size w w' := by
  have HB := Aside0.mk (Below.refl w.heap.size w)
  have H : ((impl_isSmallBase.f a0).bind fun t221 => (if t221 = true then ((impl_in.f a1 1 4).bind fun t222 => (impl_CyclesOfPowers.j0 k a0 a1 (!t222))) else (impl_CyclesOfPowers.j0 k a0 a1 true))) = some (r1, r2) := h
  clear h
  have HC3 := Aside0.mk H
  clear H
  go_enter Try.func16, Try.ntmps16
  go_upto_region 1 with (fail)
  go_cut [21] (fun v21 wc => ∃ (kq : Nat) (x21_2 : Bool), v21 = .bool x21_2 ∧ Aside0 (impl_CyclesOfPowers.j0 kq a0 a1 x21_2 = some (r1, r2)) ∧ Aside0 (kq ≤ k) ∧ Aside0 (Below w.heap.size w wc))
  case first =>
    have H := HC3.out
    clear HC3
    replace H := Option.bind_eq_some_iff.mp H
    obtain ⟨t221, A40, H⟩ := H
    replace H : (if t221 = true then ((impl_in.f a1 1 4).bind fun t222 => (impl_CyclesOfPowers.j0 k a0 a1 (!t222))) else (impl_CyclesOfPowers.j0 k a0 a1 true)) = some (r1, r2) := H
    have A4 := Aside0.mk A40
    clear A40
    by_cases c5 : t221 = true
    · subst c5
      have H1 : ((impl_in.f a1 1 4).bind fun t222 => (impl_CyclesOfPowers.j0 k a0 a1 (!t222))) = some (r1, r2) := by rw [if_pos rfl] at H; exact H
      clear H
      have H := H1
      clear H1
      replace H := Option.bind_eq_some_iff.mp H
      obtain ⟨t222, A60, H⟩ := H
      replace H : (impl_CyclesOfPowers.j0 k a0 a1 (!t222)) = some (r1, r2) := H
      have A6 := Aside0.mk A60
      clear A60
      have H' := Aside0.mk H
      clear H
      go_wp2_with (first | ((with_reducible refine gate_callee (f := 36) rfl ?_); refine goesL_ (some 15) rfl rfl Try.func36 (by kernel_rfl) rfl #[.int .i64 a0] rfl (by (try simp only [List.map_toArray, List.map_cons, List.map_nil]); first | done | rfl | (simp only [List.length_drop, List.length_take]; rfl)) ?_; (with_reducible refine (impl_isSmallBase.calls a0 true _ A4.out).mono ?_); rintro e w' ⟨rfl, ⟨nd, rfl⟩⟩; refine ⟨_, rfl, ?_⟩) | (go_at_call 37; (with_reducible refine (impl_in.calls a1 1 4 t222 _ A6.out).mono ?_); rintro e w' ⟨rfl, ⟨nd, rfl⟩⟩))
      go_meet
      case rel => exact ⟨_, (!t222), (by first | rfl | (simp; done) | (simp [*]; done)), H', ⟨by first | omega | exact Nat.le_refl _⟩, ⟨by repeat (first | (with_reducible first | exact HB.out | apply below_alloc | apply pw_below_drewN | apply below_drew1) | exact HB.out)⟩⟩
    · replace c5 := Bool.eq_false_iff.mpr c5
      subst c5
      have H1 : (impl_CyclesOfPowers.j0 k a0 a1 true) = some (r1, r2) := by rw [if_neg (show ¬ (false = true) by decide)] at H; exact H
      clear H
      have H := H1
      clear H1
      have H' := Aside0.mk H
      clear H
      go_wp2_with (first | ((with_reducible refine gate_callee (f := 36) rfl ?_); refine goesL_ (some 15) rfl rfl Try.func36 (by kernel_rfl) rfl #[.int .i64 a0] rfl (by (try simp only [List.map_toArray, List.map_cons, List.map_nil]); first | done | rfl | (simp only [List.length_drop, List.length_take]; rfl)) ?_; (with_reducible refine (impl_isSmallBase.calls a0 false _ A4.out).mono ?_); rintro e w' ⟨rfl, ⟨nd, rfl⟩⟩; refine ⟨_, rfl, ?_⟩))
      go_meet
      case rel => exact ⟨_, (true), (by first | rfl | (simp; done) | (simp [*]; done)), H', ⟨by first | omega | exact Nat.le_refl _⟩, ⟨by repeat (first | (with_reducible first | exact HB.out | apply below_alloc | apply pw_below_drewN | apply below_drew1) | exact HB.out)⟩⟩
  case rest =>
    clear HC3
    try clear c1
    try clear p2
    try clear c3
    try clear c5
    obtain ⟨kq, x21_2, rfl, HA, HJ2, HB⟩ := hcut
    cases kq with
    | zero => exact absurd HA.out (by simp [impl_CyclesOfPowers.j0])
    | succ kj2 =>
      have H := HA.out
      clear HA
      simp only [impl_CyclesOfPowers.j0] at H
      by_cases c7 : x21_2 = true
      · subst c7
        have H1 : (some (([] : List (List Int)), false)) = some (r1, r2) := by rw [if_pos rfl] at H; exact H
        clear H
        have H := H1
        clear H1
        simp only [Option.some.injEq, Prod.mk.injEq] at H
        obtain ⟨rfl, rfl⟩ := H
        go_wp2
        go_ret2
        exact ⟨_, by first | rfl | (simp [errW_none, errW_some] <;> rfl) | (simp [*, errW_none, errW_some] <;> rfl), by first | exact Kd.S_nil _ _ _ _ _ | exact Kd.N_nil _ _ _ _ _ | exact Kd.V_nil _ _ _ _ _ | exact Kd.Q_nil _ _ _ _ _ | exact Kd.R_nil _ _ _ _ _, by repeat (first | (with_reducible first | exact HB.out | apply below_alloc | apply pw_below_drewN | apply below_drew1) | exact HB.out)⟩
      · replace c7 := Bool.eq_false_iff.mpr c7
        subst c7
        have H1 : ((impl_greatest.f kj2 a0 a1).bind fun t229 => (impl_CyclesOfPowers.l0 kj2 a0 a1 (([] : List Int)) (([] : List (List Int))) (wrap64 (t229 + 1)) 0)) = some (r1, r2) := by rw [if_neg (show ¬ (false = true) by decide)] at H; exact H
        clear H
        have H := H1
        clear H1
        obtain ⟨y223, hy223⟩ : ∃ y_ : List Int, y_ = (([] : List Int)) := ⟨_, rfl⟩
        replace H : ((impl_greatest.f kj2 a0 a1).bind fun t229 => (impl_CyclesOfPowers.l0 kj2 a0 a1 y223 (([] : List (List Int))) (wrap64 (t229 + 1)) 0)) = some (r1, r2) := by first | (rw [hy223]; with_reducible exact H) | (have H2_ := (Option.bind_some _ _).symm.trans H; rw [hy223]; with_reducible exact H2_) | (have H2_ := (Option.bind_some _ _).symm.trans H; with_reducible exact H2_) | with_reducible exact H | (rw [hy223]; exact H) | exact H
        have Ny223 := Aside0.mk hy223
        clear hy223
        obtain ⟨y226, hy226⟩ : ∃ y_ : List (List Int), y_ = (([] : List (List Int))) := ⟨_, rfl⟩
        replace H : ((impl_greatest.f kj2 a0 a1).bind fun t229 => (impl_CyclesOfPowers.l0 kj2 a0 a1 y223 y226 (wrap64 (t229 + 1)) 0)) = some (r1, r2) := by first | (rw [hy226]; with_reducible exact H) | (have H2_ := (Option.bind_some _ _).symm.trans H; rw [hy226]; with_reducible exact H2_) | (have H2_ := (Option.bind_some _ _).symm.trans H; with_reducible exact H2_) | with_reducible exact H | (rw [hy226]; exact H) | exact H
        have Ny226 := Aside0.mk hy226
        clear hy226
        replace H := Option.bind_eq_some_iff.mp H
        obtain ⟨t229, A80, H⟩ := H
        replace H : (impl_CyclesOfPowers.l0 kj2 a0 a1 y223 y226 (wrap64 (t229 + 1)) 0) = some (r1, r2) := H
        have A8 := Aside0.mk A80
        clear A80
        have H' := Aside0.mk H
        clear H
        go_wp2_with (first | ((with_reducible refine gate_dst (N := 22) rfl ?_); refine Kd.R_lit (Kd.int .i64) _ 3 ?hg (N := 22) ?hd (xs := ([] : List Int)) (inner := []) (ok := fun _ => True) (okp := fun _ => True) ?hr ?hp (fun _ hk => hk) trivial (Below.refl _ _) (Nat.le_refl _) (by simp) ?_; (case hd => rfl); (case hg => rfl); (case hr => first | (go_simp; done) | (go_simp; rfl)); (case hp => exact (Reps.none _ _)); intro v224 w9 ho10 hb hg_ hnew_; clear hg_ hnew_; (first | rw [← Ny223.out] at ho10 | (simp only [Int.reduceToNat] at ho10; rw [← Ny223.out] at ho10)); have n0_ := Aside0.mk (Kd.R_lower ho10 (below_size (by repeat (first | (with_reducible first | exact HB.out | apply below_alloc | apply pw_below_drewN | apply below_drew1) | exact HB.out)))); have n1_ := Aside0.mk (below_step (by repeat (first | (with_reducible first | exact HB.out | apply below_alloc | apply pw_below_drewN | apply below_drew1) | exact HB.out)) hb); clear HB; have HO225 := n0_; have HB := n1_; clear n0_ n1_; clear hb ho10) | ((with_reducible refine gate_dst (N := 23) rfl ?_); refine Kd.S_lit (Kd.slice 3 (Kd.int .i64)) _ 22 ?hg (N := 23) ?hd (xs := ([] : List (List Int))) (inner := []) (ok := fun _ => True) (okp := fun _ => True) ?hr ?hp (fun _ hk => hk) trivial (Below.refl _ _) (Nat.le_refl _) (by simp) ?_; (case hd => rfl); (case hg => rfl); (case hr => first | (go_simp; done) | (go_simp; rfl)); (case hp => exact (Reps.none _ _)); intro v227 w11 ho12 hb hg_ hnew_; clear hg_ hnew_; (first | rw [← Ny226.out] at ho12 | (simp only [Int.reduceToNat] at ho12; rw [← Ny226.out] at ho12)); have n0_ := Aside0.mk (Kd.R_below (by (with_reducible repeat (first | apply Kd.R_alloc | apply Kd.R_drewN | apply Kd.R_drew)); exact HO225.out) hb); have n1_ := Aside0.mk (Kd.S_lower (Kd.S_new' ho12 (Kd.R_lt (by (with_reducible repeat (first | apply Kd.R_alloc | apply Kd.R_drewN | apply Kd.R_drew)); exact HO225.out))) (below_size (by repeat (first | (with_reducible first | exact HB.out | apply below_alloc | apply pw_below_drewN | apply below_drew1) | exact HB.out)))); have n2_ := Aside0.mk (below_step (by repeat (first | (with_reducible first | exact HB.out | apply below_alloc | apply pw_below_drewN | apply below_drew1) | exact HB.out)) hb); clear HO225; clear HB; have HO225 := n0_; have HO228 := n1_; have HB := n2_; clear n0_ n1_ n2_; clear hb ho12) | ((with_reducible refine gate_callee (f := 46) rfl ?_); refine goesL_ (some 26) rfl rfl Try.func46 (by kernel_rfl) rfl #[.int .i64 a0, .int .i64 a1] rfl (by (try simp only [List.map_toArray, List.map_cons, List.map_nil]); first | done | rfl | (simp only [List.length_drop, List.length_take]; rfl)) ?_; (with_reducible refine (impl_greatest.calls kj2 a0 a1 t229 _ A8.out).mono ?_); rintro e w' ⟨rfl, ⟨nd, rfl⟩⟩; refine ⟨_, rfl, ?_⟩))
        go_loopg [6, 28] kj2 (fun kq v6 v28 w' => ∃ (x6_2 : List Int) (x28_2 : Int), v28 = .int .i64 x28_2 ∧ Aside0 (impl_CyclesOfPowers.l0 kq a0 a1 x6_2 y226 (wrap64 (t229 + 1)) x28_2 = some (r1, r2)) ∧ Aside0 (kq ≤ kj2) ∧ Aside0 (Kd.R (Kd.int .i64) 3 w' w.heap.size (fun _ => True) v6 x6_2) ∧ Aside0 (Kd.S (Kd.slice 3 (Kd.int .i64)) 22 w' w.heap.size (fun k_ => some k_ ≠ (v6 : Value).ownBlock) v227 y226) ∧ Aside0 (Below w.heap.size w w'))
        case atStart => exact ⟨(y223), (0), (by first | rfl | (simp; done) | (simp [*]; done)), H', ⟨Nat.le_refl _⟩, ⟨by (with_reducible repeat (first | apply Kd.R_alloc | apply Kd.R_drewN | apply Kd.R_drew)); exact HO225.out⟩, ⟨by (with_reducible repeat (first | apply Kd.S_alloc | apply Kd.S_drewN | apply Kd.S_drew)); exact Kd.S_mono HO228.out (fun _ hk => by first | exact hk.2 | exact hk)⟩, ⟨by repeat (first | (with_reducible first | exact HB.out | apply below_alloc | apply pw_below_drewN | apply below_drew1) | exact HB.out)⟩⟩
        case round =>
          clear H'
          try clear c1
          try clear p2
          try clear c3
          try clear c4
          try clear c5
          try clear p6
          try clear c7
          try clear p2
          obtain ⟨x6_2, x28_2, rfl, HA, HK2, HO_6, HO_7, HB⟩ := hrel
          cases gk with
          | zero => exact absurd HA.out (by simp [impl_CyclesOfPowers.l0])
          | succ k2 =>
            have H := HA.out
            clear HA
            simp only [impl_CyclesOfPowers.l0] at H
            by_cases c13 : x28_2 < (wrap64 (t229 + 1))
            · rw [if_pos c13] at H
              have c13b0 : decide (x28_2 < (wrap64 (t229 + 1))) = true := decide_eq_true c13
              clear c13
              replace H := Option.bind_eq_some_iff.mp H
              obtain ⟨t230, A140, H⟩ := H
              replace H : (if x6_2.length < 17592186044416 then (impl_CyclesOfPowers.l0 k2 a0 a1 (x6_2 ++ [t230]) y226 (wrap64 (t229 + 1)) (wrap64 (x28_2 + 1))) else (none)) = some (r1, r2) := H
              have A14 := Aside0.mk A140
              clear A140
              by_cases c15 : x6_2.length < 17592186044416
              · rw [if_pos c15] at H
                have LMc15 := Aside0.mk c15
                clear c15
                obtain ⟨y231, hy231⟩ : ∃ y_ : List Int, y_ = (x6_2 ++ [t230]) := ⟨_, rfl⟩
                replace H : (impl_CyclesOfPowers.l0 k2 a0 a1 y231 y226 (wrap64 (t229 + 1)) (wrap64 (x28_2 + 1))) = some (r1, r2) := by first | (rw [hy231]; with_reducible exact H) | (have H2_ := (Option.bind_some _ _).symm.trans H; rw [hy231]; with_reducible exact H2_) | (have H2_ := (Option.bind_some _ _).symm.trans H; with_reducible exact H2_) | with_reducible exact H | (rw [hy231]; exact H) | exact H
                have Ny231 := Aside0.mk hy231
                clear hy231
                have H' := Aside0.mk H
                clear H
                go_wp2_with (first | ((with_reducible refine gate_callee (f := 47) rfl ?_); refine goesL_ (some 35) rfl rfl Try.func47 (by kernel_rfl) rfl #[.int .i64 x28_2, .int .i64 a0, .int .i64 a1] rfl (by (try simp only [List.map_toArray, List.map_cons, List.map_nil]); first | done | rfl | (simp only [List.length_drop, List.length_take]; rfl)) ?_; (with_reducible refine (impl_powerSum.calls k2 x28_2 a0 a1 t230 _ A14.out).mono ?_); rintro e w16 ⟨rfl, hb⟩; refine ⟨_, rfl, ?_⟩; have n0_ := Aside0.mk (Kd.R_below (by (with_reducible repeat (first | apply Kd.R_alloc | apply Kd.R_drewN | apply Kd.R_drew)); exact HO_6.out) hb); have n1_ := Aside0.mk (Kd.S_below (by (with_reducible repeat (first | apply Kd.S_alloc | apply Kd.S_drewN | apply Kd.S_drew)); exact HO_7.out) hb); have n2_ := Aside0.mk (below_step (by repeat (first | (with_reducible first | exact HB.out | apply below_alloc | apply pw_below_drewN | apply below_drew1) | exact HB.out)) hb); clear HO_6; clear HO_7; clear HB; have HO_6 := n0_; have HO_7 := n1_; have HB := n2_; clear n0_ n1_ n2_; (try clear hb); (try clear hb2); (try clear hk); (try clear hi)) | ((with_reducible refine gate_builtin (b := .append) (xs := #[.tmp 31, .tmp 36]) rfl ?_); at_builtin; refine Kd.R_append (Kd.int .i64) (w0 := w) w.heap.size rfl (.tmp 31) (.tmp 36) 22 3 (.int .i64 0) 8 rfl Try.underlying22 info3 rfl (by decide) (by omega) u6 x6_2 t230 [.int .i64 t230] (fun _ => True) (fun _ => False) rfl rfl ?aP (fun _ hk => hk.elim) ?aF ?aO ?aB ?aS ?aL ?_; (case aP => exact rfl); (case aB => exact (by repeat (first | (with_reducible first | exact HB.out | apply below_alloc | apply pw_below_drewN | apply below_drew1) | exact HB.out))); (case aF => exact (fun _ _ => trivial)); (case aO => exact (by (with_reducible repeat (first | apply Kd.R_alloc | apply Kd.R_drewN | apply Kd.R_drew)); exact HO_6.out)); (case aS => exact (below_size (by repeat (first | (with_reducible first | exact HB.out | apply below_alloc | apply pw_below_drewN | apply below_drew1) | exact HB.out)))); (case aL => have := LMc15.out; omega); intro v232 w17 ho hb hg hat; rw [← Ny231.out] at ho; have n0_ := Aside0.mk (Kd.S_after (ok := (fun _ => True)) (by (with_reducible repeat (first | apply Kd.S_alloc | apply Kd.S_drewN | apply Kd.S_drew)); exact Kd.S_mono HO_7.out (fun _ hk => ⟨trivial, hk⟩)) hg hat); have n1_ := Aside0.mk (hb); have n2_ := Aside0.mk (ho); clear HO_7; clear HB; clear HO_6; have HO_7 := n0_; have HB := n1_; have HO233 := n2_; clear n0_ n1_ n2_; clear ho hb hg hat))
                go_roundg k2
                case measure => have := HJ2.out; have := HK2.out; omega
                case rel => exact ⟨(y231), (wrap64 (x28_2 + 1)), (by first | rfl | (simp; done) | (simp [*]; done)), H', ⟨by have := HJ2.out; have := HK2.out; omega⟩, ⟨by (with_reducible repeat (first | apply Kd.R_alloc | apply Kd.R_drewN | apply Kd.R_drew)); exact HO233.out⟩, ⟨by (with_reducible repeat (first | apply Kd.S_alloc | apply Kd.S_drewN | apply Kd.S_drew)); exact Kd.S_mono HO_7.out (fun _ hk => by first | exact hk.2 | exact hk)⟩, ⟨by repeat (first | (with_reducible first | exact HB.out | apply below_alloc | apply pw_below_drewN | apply below_drew1) | exact HB.out)⟩⟩
              · rw [if_neg c15] at H
                exact absurd H (by simp)
            · rw [if_neg c13] at H
              have c13b0 : decide (x28_2 < (wrap64 (t229 + 1))) = false := decide_eq_false c13
              clear c13
              by_cases c18 : 0 ≤ (x6_2.length : Int)
              · rw [if_pos c18] at H
                have c18b0 := eq_true c18
                have c18b1 : decide (0 ≤ (x6_2.length : Int)) = true := decide_eq_true c18
                clear c18
                by_cases c19 : ((x6_2.length : Int) : Int).toNat ≤ 35184372088832
                · rw [if_pos c19] at H
                  have c19b0 := eq_true c19
                  have c19b1 : decide (((x6_2.length : Int) : Int).toNat ≤ 35184372088832) = true := decide_eq_true c19
                  clear c19
                  obtain ⟨y234, hy234⟩ : ∃ y_ : List Int, y_ = (List.replicate ((x6_2.length : Int) : Int).toNat 0) := ⟨_, rfl⟩
                  replace H : (impl_CyclesOfPowers.l1 k2 x6_2 y226 y234 (x6_2.length : Int) 0) = some (r1, r2) := by first | (rw [hy234]; with_reducible exact H) | (have H2_ := (Option.bind_some _ _).symm.trans H; rw [hy234]; with_reducible exact H2_) | (have H2_ := (Option.bind_some _ _).symm.trans H; with_reducible exact H2_) | with_reducible exact H | (rw [hy234]; exact H) | exact H
                  have Ny234 := Aside0.mk hy234
                  clear hy234
                  have H' := Aside0.mk H
                  clear H
                  obtain ⟨Ao20, co20, eo20⟩ := Kd.R_slice HO_6.out
                  subst eo20
                  go_wp2_with (first | ((with_reducible refine gate_dst (N := 41) rfl ?_); refine Kd.R_make (Kd.int .i64) _ 3 rfl (N := 41) rfl 22 _ _ rfl (x6_2.length : Int) rfl rfl Try.underlying22 (.int .i64 0) 8 info3 rfl (by decide) (by omega) 0 (ok := fun _ => True) (okp := fun _ => True) rfl (fun _ hk => hk) trivial (of_decide_eq_true (by first | (with_reducible assumption) | assumption)) (Nat.le_trans (Nat.mul_le_mul_right _ (of_decide_eq_true (by first | (with_reducible assumption) | assumption) : (x6_2.length : Int).toNat ≤ 35184372088832)) (by omega)) (Below.refl _ _) (Nat.le_refl _) ?_; intro v235 w21 ho22 hb hg_ hnew_; clear hg_ hnew_; (first | rw [← Ny234.out] at ho22 | (simp only [Int.reduceToNat] at ho22; rw [← Ny234.out] at ho22)); have n0_ := Aside0.mk (Kd.R_elder' (by (with_reducible repeat (first | apply Kd.R_alloc | apply Kd.R_drewN | apply Kd.R_drew)); exact HO_6.out) (Kd.R_base ho22) hb); have n1_ := Aside0.mk (Kd.S_elder' (by (with_reducible repeat (first | apply Kd.S_alloc | apply Kd.S_drewN | apply Kd.S_drew)); exact HO_7.out) (Kd.R_base ho22) hb); have n2_ := Aside0.mk (Kd.R_lower (Kd.R_new' ho22 (Kd.R_lt (by (with_reducible repeat (first | apply Kd.R_alloc | apply Kd.R_drewN | apply Kd.R_drew)); exact HO_6.out))) (below_size (by repeat (first | (with_reducible first | exact HB.out | apply below_alloc | apply pw_below_drewN | apply below_drew1) | exact HB.out)))); have n3_ := Aside0.mk (below_step (by repeat (first | (with_reducible first | exact HB.out | apply below_alloc | apply pw_below_drewN | apply below_drew1) | exact HB.out)) hb); clear HO_6; clear HO_7; clear HB; have HO_6 := n0_; have HO_7 := n1_; have HO236 := n2_; have HB := n3_; clear n0_ n1_ n2_ n3_; clear hb ho22))
                  go_loopg [7, 44] k2 (fun kq v7 v44 w' => ∃ (x7_3 : List (List Int)) (x9_3 : List Int) (x44_3 : Int), v44 = .int .i64 x44_3 ∧ Aside0 (impl_CyclesOfPowers.l1 kq x6_2 x7_3 x9_3 (x6_2.length : Int) x44_3 = some (r1, r2)) ∧ Aside0 (kq ≤ k2) ∧ Aside0 (Kd.R (Kd.int .i64) 3 w' w.heap.size (fun k_ => some k_ ≠ (v235 : Value).ownBlock) (.slice Ao20 x6_2.length co20) x6_2) ∧ Aside0 (Kd.S (Kd.slice 3 (Kd.int .i64)) 22 w' w.heap.size (fun k_ => some k_ ≠ ((.slice Ao20 x6_2.length co20) : Value).ownBlock ∧ some k_ ≠ (v235 : Value).ownBlock) v7 x7_3) ∧ Aside0 (Kd.R (Kd.int .i64) 3 w' w.heap.size (fun k_ => some k_ ≠ ((.slice Ao20 x6_2.length co20) : Value).ownBlock) v235 x9_3) ∧ Aside0 (Below w.heap.size w w'))
                  case atStart => exact ⟨(y226), (y234), (0), (by first | rfl | (simp; done) | (simp [*]; done)), H', ⟨Nat.le_refl _⟩, ⟨by (with_reducible repeat (first | apply Kd.R_alloc | apply Kd.R_drewN | apply Kd.R_drew)); exact Kd.R_mono HO_6.out (fun _ hk => by first | exact hk.2 | exact hk)⟩, ⟨by (with_reducible repeat (first | apply Kd.S_alloc | apply Kd.S_drewN | apply Kd.S_drew)); exact HO_7.out⟩, ⟨by (with_reducible repeat (first | apply Kd.R_alloc | apply Kd.R_drewN | apply Kd.R_drew)); exact Kd.R_mono HO236.out (fun _ hk => by first | exact hk.2 | exact hk)⟩, ⟨by repeat (first | (with_reducible first | exact HB.out | apply below_alloc | apply pw_below_drewN | apply below_drew1) | exact HB.out)⟩⟩
                  case round =>
                    clear H'
                    try clear c1
                    try clear p2
                    try clear c3
                    try clear c4
                    try clear c5
                    try clear p6
                    try clear c7
                    try clear c13
                    try clear c13b0
                    try clear c15
                    try clear c16
                    try clear c18
                    try clear c18b0
                    try clear c18b1
                    try clear c19
                    try clear c19b0
                    try clear c19b1
                    try clear p2
                    try clear p6
                    obtain ⟨x7_3, x9_3, x44_3, rfl, HA, HK3, HO_6, HO_7, HO_9, HB⟩ := hrel
                    cases gk with
                    | zero => exact absurd HA.out (by simp [impl_CyclesOfPowers.l1])
                    | succ k3 =>
                      have H := HA.out
                      clear HA
                      simp only [impl_CyclesOfPowers.l1] at H
                      by_cases c23 : x44_3 < (x6_2.length : Int)
                      · rw [if_pos c23] at H
                        have c23b0 : decide (x44_3 < (x6_2.length : Int)) = true := decide_eq_true c23
                        clear c23
                        obtain ⟨y240, hy240⟩ : ∃ y_ : List Int, y_ = (([] : List Int)) := ⟨_, rfl⟩
                        replace H : (impl_CyclesOfPowers.l2 k3 x6_2 x7_3 x9_3 x44_3 y240 x44_3 (x6_2.length : Int) x44_3) = some (r1, r2) := by first | (rw [hy240]; with_reducible exact H) | (have H2_ := (Option.bind_some _ _).symm.trans H; rw [hy240]; with_reducible exact H2_) | (have H2_ := (Option.bind_some _ _).symm.trans H; with_reducible exact H2_) | with_reducible exact H | (rw [hy240]; exact H) | exact H
                        have Ny240 := Aside0.mk hy240
                        clear hy240
                        have H' := Aside0.mk H
                        clear H
                        go_wp2_with (first | ((with_reducible refine gate_dst (N := 47) rfl ?_); refine Kd.R_lit (Kd.int .i64) _ 3 ?hg (N := 47) ?hd (xs := ([] : List Int)) (inner := []) (ok := fun _ => True) (okp := fun _ => True) ?hr ?hp (fun _ hk => hk) trivial (Below.refl _ _) (Nat.le_refl _) (by simp) ?_; (case hd => rfl); (case hg => rfl); (case hr => first | (go_simp; done) | (go_simp; rfl)); (case hp => exact (Reps.none _ _)); intro v241 w24 ho25 hb hg_ hnew_; clear hg_ hnew_; (first | rw [← Ny240.out] at ho25 | (simp only [Int.reduceToNat] at ho25; rw [← Ny240.out] at ho25)); have n0_ := Aside0.mk (Kd.R_elder' (by (with_reducible repeat (first | apply Kd.R_alloc | apply Kd.R_drewN | apply Kd.R_drew)); exact HO_6.out) (Kd.R_base ho25) hb); have n1_ := Aside0.mk (Kd.S_elder' (by (with_reducible repeat (first | apply Kd.S_alloc | apply Kd.S_drewN | apply Kd.S_drew)); exact HO_7.out) (Kd.R_base ho25) hb); have n2_ := Aside0.mk (Kd.R_elder' (by (with_reducible repeat (first | apply Kd.R_alloc | apply Kd.R_drewN | apply Kd.R_drew)); exact HO_9.out) (Kd.R_base ho25) hb); have n3_ := Aside0.mk (Kd.R_lower (Kd.R_new' (Kd.R_new' ho25 (Kd.R_lt (by (with_reducible repeat (first | apply Kd.R_alloc | apply Kd.R_drewN | apply Kd.R_drew)); exact HO_6.out))) (Kd.R_lt (by (with_reducible repeat (first | apply Kd.R_alloc | apply Kd.R_drewN | apply Kd.R_drew)); exact HO_9.out))) (below_size (by repeat (first | (with_reducible first | exact HB.out | apply below_alloc | apply pw_below_drewN | apply below_drew1) | exact HB.out)))); have n4_ := Aside0.mk (below_step (by repeat (first | (with_reducible first | exact HB.out | apply below_alloc | apply pw_below_drewN | apply below_drew1) | exact HB.out)) hb); clear HO_6; clear HO_7; clear HO_9; clear HB; have HO_6 := n0_; have HO_7 := n1_; have HO_9 := n2_; have HO242 := n3_; have HB := n4_; clear n0_ n1_ n2_ n3_ n4_; clear hb ho25))
                        go_loopg [11, 12] k3 (fun kq v11 v12 w' => ∃ (x9_4 : List Int) (x11_4 : List Int) (x12_4 : Int), v12 = .int .i64 x12_4 ∧ Aside0 (impl_CyclesOfPowers.l2 kq x6_2 x7_3 x9_4 x44_3 x11_4 x12_4 (x6_2.length : Int) x44_3 = some (r1, r2)) ∧ Aside0 (kq ≤ k3) ∧ Aside0 (Kd.R (Kd.int .i64) 3 w' w.heap.size (fun k_ => some k_ ≠ (v235 : Value).ownBlock ∧ some k_ ≠ (v11 : Value).ownBlock) (.slice Ao20 x6_2.length co20) x6_2) ∧ Aside0 (Kd.S (Kd.slice 3 (Kd.int .i64)) 22 w' w.heap.size (fun k_ => some k_ ≠ ((.slice Ao20 x6_2.length co20) : Value).ownBlock ∧ some k_ ≠ (v235 : Value).ownBlock ∧ some k_ ≠ (v11 : Value).ownBlock) u7 x7_3) ∧ Aside0 (Kd.R (Kd.int .i64) 3 w' w.heap.size (fun k_ => some k_ ≠ ((.slice Ao20 x6_2.length co20) : Value).ownBlock ∧ some k_ ≠ (v11 : Value).ownBlock) v235 x9_4) ∧ Aside0 (Kd.R (Kd.int .i64) 3 w' w.heap.size (fun k_ => some k_ ≠ ((.slice Ao20 x6_2.length co20) : Value).ownBlock ∧ some k_ ≠ (v235 : Value).ownBlock) v11 x11_4) ∧ Aside0 (Below w.heap.size w w'))
                        case atStart => exact ⟨(x9_3), (y240), (x44_3), (by first | rfl | (simp; done) | (simp [*]; done)), H', ⟨Nat.le_refl _⟩, ⟨by (with_reducible repeat (first | apply Kd.R_alloc | apply Kd.R_drewN | apply Kd.R_drew)); exact HO_6.out⟩, ⟨by (with_reducible repeat (first | apply Kd.S_alloc | apply Kd.S_drewN | apply Kd.S_drew)); exact Kd.S_mono HO_7.out (fun _ hk => ⟨hk.1.1, ⟨hk.1.2, hk.2⟩⟩)⟩, ⟨by (with_reducible repeat (first | apply Kd.R_alloc | apply Kd.R_drewN | apply Kd.R_drew)); exact HO_9.out⟩, ⟨by (with_reducible repeat (first | apply Kd.R_alloc | apply Kd.R_drewN | apply Kd.R_drew)); exact Kd.R_mono HO242.out (fun _ hk => ⟨hk.1.2, hk.2⟩)⟩, ⟨by repeat (first | (with_reducible first | exact HB.out | apply below_alloc | apply pw_below_drewN | apply below_drew1) | exact HB.out)⟩⟩
                        case round =>
                          clear H'
                          try clear c1
                          try clear c2
                          try clear p2
                          try clear c3
                          try clear c4
                          try clear c5
                          try clear p6
                          try clear c7
                          try clear c13
                          try clear c13b0
                          try clear c15
                          try clear c16
                          try clear c18
                          try clear c18b0
                          try clear c18b1
                          try clear c19
                          try clear c19b0
                          try clear c19b1
                          try clear c23
                          try clear c23b0
                          try clear p2
                          try clear p6
                          obtain ⟨x9_4, x11_4, x12_4, rfl, HA, HK4, HO_6, HO_7, HO_9, HO_11, HB⟩ := hrel
                          cases gk with
                          | zero => exact absurd HA.out (by simp [impl_CyclesOfPowers.l2])
                          | succ k4 =>
                            have H := HA.out
                            clear HA
                            simp only [impl_CyclesOfPowers.l2] at H
                            by_cases c26 : 0 ≤ x12_4
                            · rw [if_pos c26] at H
                              have c26b0 : decide (0 ≤ x12_4) = true := decide_eq_true c26
                              clear c26
                              by_cases c27 : x12_4 < (x9_4.length : Int)
                              · rw [if_pos c27] at H
                                have c27b0 : decide (x12_4 < (x9_4.length : Int)) = true := decide_eq_true c27
                                clear c27
                                by_cases c28 : (rd x9_4 x12_4) = 0
                                · rw [if_pos c28] at H
                                  have c28b0 : ((rd x9_4 x12_4) == 0) = true := beq_iff_eq.mpr c28
                                  have c28b1 : ((rd x9_4 x12_4) != 0) = false := bne_eq_false_iff_eq.mpr c28
                                  clear c28
                                  obtain ⟨y244, hy244⟩ : ∃ y_ : List Int, y_ = (x9_4.set (x12_4 : Int).toNat (wrap64 (x44_3 + 1))) := ⟨_, rfl⟩
                                  replace H : (if x11_4.length < 17592186044416 then (if x12_4 < (x6_2.length : Int) then (impl_CyclesOfPowers.l2 k4 x6_2 x7_3 y244 x44_3 (x11_4 ++ [x12_4]) (rd x6_2 x12_4) (x6_2.length : Int) x44_3) else (none)) else (none)) = some (r1, r2) := by first | (rw [hy244]; with_reducible exact H) | (have H2_ := (Option.bind_some _ _).symm.trans H; rw [hy244]; with_reducible exact H2_) | (have H2_ := (Option.bind_some _ _).symm.trans H; with_reducible exact H2_) | with_reducible exact H | (rw [hy244]; exact H) | exact H
                                  have Ny244 := Aside0.mk hy244
                                  clear hy244
                                  by_cases c30 : x11_4.length < 17592186044416
                                  · rw [if_pos c30] at H
                                    have LMc30 := Aside0.mk c30
                                    clear c30
                                    obtain ⟨y245, hy245⟩ : ∃ y_ : List Int, y_ = (x11_4 ++ [x12_4]) := ⟨_, rfl⟩
                                    replace H : (if x12_4 < (x6_2.length : Int) then (impl_CyclesOfPowers.l2 k4 x6_2 x7_3 y244 x44_3 y245 (rd x6_2 x12_4) (x6_2.length : Int) x44_3) else (none)) = some (r1, r2) := by first | (rw [hy245]; with_reducible exact H) | (have H2_ := (Option.bind_some _ _).symm.trans H; rw [hy245]; with_reducible exact H2_) | (have H2_ := (Option.bind_some _ _).symm.trans H; with_reducible exact H2_) | with_reducible exact H | (rw [hy245]; exact H) | exact H
                                    have Ny245 := Aside0.mk hy245
                                    clear hy245
                                    by_cases c31 : x12_4 < (x6_2.length : Int)
                                    · rw [if_pos c31] at H
                                      have c31b0 : decide (x12_4 < (x6_2.length : Int)) = true := decide_eq_true c31
                                      clear c31
                                      have H' := Aside0.mk H
                                      clear H
                                      obtain ⟨Ao32, co32, eo32⟩ := Kd.R_slice HO_9.out
                                      subst eo32
                                      have p243 : 0 ≤ (x12_4 : Int) := of_decide_eq_true (by first | (with_reducible assumption) | assumption)
                                      have q243 : x12_4 < (x9_4.length : Int) := of_decide_eq_true (by first | (with_reducible assumption) | assumption)
                                      obtain ⟨ad243, e243, hx243_0⟩ := Kd.at_int (Kd.R_reads' HO_9.out).2.2 x12_4 p243 q243
                                      cases e243
                                      replace p243 := eq_true p243
                                      replace q243 := eq_true q243
                                      have p29 : 0 ≤ (x12_4 : Int) := of_decide_eq_true (by first | (with_reducible assumption) | assumption)
                                      have q29 : (x12_4 : Int) < ((x9_4.length : Int) : Int) := of_decide_eq_true (by first | (with_reducible assumption) | assumption)
                                      obtain ⟨go29, co29, eo29, gb29, gl29, cl29, HG29⟩ := Kd.R_form HO_9.out (by omega)
                                      (first | cases eo29 | (injection eo29 with ea_ en_ ec_; (first | subst ea_ | (injection ea_ with ea_; subst ea_)); subst ec_; clear en_))
                                      have GB29 := Aside0.mk gb29
                                      have GG29 := Aside0.mk HG29
                                      clear gb29 gl29 HG29
                                      (first | simp only [add_plain] at hx243_0 | skip)
                                      obtain ⟨hx29_0, hf29_0⟩ := Kd.R_celln 0 HO_9.out (x12_4 : Int) p29 q29
                                      replace p29 := eq_true p29
                                      replace q29 := eq_true q29
                                      have HP33 := Kd.R_putg HO_9.out (x12_4 : Int) (wrap64 (x44_3 + 1))
                                      go_wp2_with (first | ((with_reducible refine gate_store (t := 3) (p := 62) rfl ?_); refine store_event (t := 3) (p := 62) (v := ?vo_w34) (w1 := (wr.setCell ⟨go29, (x12_4 : Int).toNat, none⟩ (.int .i64 (wrap64 (x44_3 + 1))))) ?hg ?ho ?hn ?hr ?_; (case ho => rfl); (case hg => rfl); (case hn => rfl); (case hr => first | (go_simp; done) | (go_simp; rfl)); intro w34 hw; have hg : wr.grownBy w34 (some go29) := (by rw [hw]; exact HP33.2); have hp_ : Kd.R (Kd.int .i64) 3 w34 w.heap.size (fun k_ => some k_ ≠ (.slice Ao20 x6_2.length co20 : Value).ownBlock ∧ some k_ ≠ (u11 : Value).ownBlock) (.slice (some ⟨go29, 0, none⟩) x9_4.length co32) y244 := (by rw [hw, Ny244.out]; exact HP33.1); clear HP33; have n0_ := Aside0.mk (Kd.R_after (v := (.slice (some ⟨go29, 0, none⟩) x9_4.length co32)) (v1 := (.slice (some ⟨go29, 0, none⟩) x9_4.length co32)) (ok := (fun k_ => some k_ ≠ (u11 : Value).ownBlock)) (by (with_reducible repeat (first | apply Kd.R_alloc | apply Kd.R_drewN | apply Kd.R_drew)); exact Kd.R_mono HO_6.out (fun _ hk => ⟨hk.2, hk.1⟩)) hg (.inl rfl)); have n1_ := Aside0.mk (Kd.S_after (v := (.slice (some ⟨go29, 0, none⟩) x9_4.length co32)) (v1 := (.slice (some ⟨go29, 0, none⟩) x9_4.length co32)) (ok := (fun k_ => some k_ ≠ (.slice Ao20 x6_2.length co20 : Value).ownBlock ∧ some k_ ≠ (u11 : Value).ownBlock)) (by (with_reducible repeat (first | apply Kd.S_alloc | apply Kd.S_drewN | apply Kd.S_drew)); exact Kd.S_mono HO_7.out (fun _ hk => ⟨⟨hk.1, hk.2.2⟩, hk.2.1⟩)) hg (.inl rfl)); have n2_ := Aside0.mk (hp_); have n3_ := Aside0.mk (Kd.R_after (v := (.slice (some ⟨go29, 0, none⟩) x9_4.length co32)) (v1 := (.slice (some ⟨go29, 0, none⟩) x9_4.length co32)) (ok := (fun k_ => some k_ ≠ (.slice Ao20 x6_2.length co20 : Value).ownBlock)) (by (with_reducible repeat (first | apply Kd.R_alloc | apply Kd.R_drewN | apply Kd.R_drew)); (first | exact HO_11.out | exact Kd.R_mono HO_11.out (fun _ hk => ⟨trivial, hk⟩))) hg (.inl rfl)); have n4_ := Aside0.mk ((by rw [hw]; exact below_set (HB.out) GB29.out : Below w.heap.size w w34)); clear HO_6; clear HO_7; clear HO_9; clear HO_11; clear HB; have HO_6 := n0_; have HO_7 := n1_; have HO_9 := n2_; have HO_11 := n3_; have HB := n4_; clear n0_ n1_ n2_ n3_ n4_; clear hg hw hp_) | ((with_reducible refine gate_builtin (b := .append) (xs := #[.tmp 63, .tmp 65]) rfl ?_); at_builtin; refine Kd.R_append (Kd.int .i64) (w0 := w) w.heap.size rfl (.tmp 63) (.tmp 65) 22 3 (.int .i64 0) 8 rfl Try.underlying22 info3 rfl (by decide) (by omega) u11 x11_4 x12_4 [.int .i64 x12_4] (fun k_ => some k_ ≠ (.slice Ao20 x6_2.length co20 : Value).ownBlock ∧ some k_ ≠ (.slice (some ⟨go29, 0, none⟩) x9_4.length co32 : Value).ownBlock) (fun _ => False) rfl rfl ?aP (fun _ hk => hk.elim) ?aF ?aO ?aB ?aS ?aL ?_; (case aP => exact rfl); (case aB => exact (by repeat (first | (with_reducible first | exact HB.out | apply below_alloc | apply pw_below_drewN | apply below_drew1) | exact HB.out))); (case aF => exact (fun k_ hk => ⟨Kd.fresh' (Kd.R_lt (by (with_reducible repeat (first | apply Kd.R_alloc | apply Kd.R_drewN | apply Kd.R_drew)); exact HO_6.out)) k_ hk, Kd.fresh' (Kd.R_lt (by (with_reducible repeat (first | apply Kd.R_alloc | apply Kd.R_drewN | apply Kd.R_drew)); exact HO_9.out)) k_ hk⟩)); (case aO => exact (by (with_reducible repeat (first | apply Kd.R_alloc | apply Kd.R_drewN | apply Kd.R_drew)); exact HO_11.out)); (case aS => exact (below_size (by repeat (first | (with_reducible first | exact HB.out | apply below_alloc | apply pw_below_drewN | apply below_drew1) | exact HB.out)))); (case aL => have := LMc30.out; omega); intro v246 w35 ho hb hg hat; rw [← Ny245.out] at ho; have n0_ := Aside0.mk (Kd.R_after (ok := (fun k_ => some k_ ≠ (.slice (some ⟨go29, 0, none⟩) x9_4.length co32 : Value).ownBlock)) (by (with_reducible repeat (first | apply Kd.R_alloc | apply Kd.R_drewN | apply Kd.R_drew)); exact Kd.R_mono HO_6.out (fun _ hk => ⟨hk.2, hk.1⟩)) hg hat); have n1_ := Aside0.mk (Kd.S_after (ok := (fun k_ => some k_ ≠ (.slice Ao20 x6_2.length co20 : Value).ownBlock ∧ some k_ ≠ (.slice (some ⟨go29, 0, none⟩) x9_4.length co32 : Value).ownBlock)) (by (with_reducible repeat (first | apply Kd.S_alloc | apply Kd.S_drewN | apply Kd.S_drew)); exact Kd.S_mono HO_7.out (fun _ hk => ⟨⟨hk.1.1, hk.2⟩, hk.1.2⟩)) hg hat); have n2_ := Aside0.mk (Kd.R_after (ok := (fun k_ => some k_ ≠ (.slice Ao20 x6_2.length co20 : Value).ownBlock)) (by (with_reducible repeat (first | apply Kd.R_alloc | apply Kd.R_drewN | apply Kd.R_drew)); (first | exact HO_9.out | exact Kd.R_mono HO_9.out (fun _ hk => ⟨trivial, hk⟩))) hg hat); have n3_ := Aside0.mk (hb); have n4_ := Aside0.mk (ho); clear HO_6; clear HO_7; clear HO_9; clear HB; clear HO_11; have HO_6 := n0_; have HO_7 := n1_; have HO_9 := n2_; have HB := n3_; have HO247 := n4_; clear n0_ n1_ n2_ n3_ n4_; clear ho hb hg hat; have p248 : 0 ≤ (x12_4 : Int) := of_decide_eq_true (by first | (with_reducible assumption) | assumption); have q248 : x12_4 < (x6_2.length : Int) := of_decide_eq_true (by first | (with_reducible assumption) | assumption); obtain ⟨ad248, e248, hx248_0⟩ := Kd.at_int (Kd.R_reads' HO_6.out).2.2 x12_4 p248 q248; cases e248; replace p248 := eq_true p248; replace q248 := eq_true q248))
                                      go_roundg k4
                                      case measure => have := HJ2.out; have := HK2.out; have := HK3.out; have := HK4.out; omega
                                      case rel => exact ⟨(y244), (y245), (rd x6_2 x12_4), (by first | rfl | (simp; done) | (simp [*]; done)), H', ⟨by have := HJ2.out; have := HK2.out; have := HK3.out; have := HK4.out; omega⟩, ⟨by (with_reducible repeat (first | apply Kd.R_alloc | apply Kd.R_drewN | apply Kd.R_drew)); exact HO_6.out⟩, ⟨by (with_reducible repeat (first | apply Kd.S_alloc | apply Kd.S_drewN | apply Kd.S_drew)); exact Kd.S_mono HO_7.out (fun _ hk => ⟨hk.1.1, ⟨hk.1.2, hk.2⟩⟩)⟩, ⟨by (with_reducible repeat (first | apply Kd.R_alloc | apply Kd.R_drewN | apply Kd.R_drew)); exact HO_9.out⟩, ⟨by (with_reducible repeat (first | apply Kd.R_alloc | apply Kd.R_drewN | apply Kd.R_drew)); exact HO247.out⟩, ⟨by repeat (first | (with_reducible first | exact HB.out | apply below_alloc | apply pw_below_drewN | apply below_drew1) | exact HB.out)⟩⟩
                                    · rw [if_neg c31] at H
                                      exact absurd H (by simp)
                                  · rw [if_neg c30] at H
                                    exact absurd H (by simp)
                                · rw [if_neg c28] at H
                                  have c28b0 : ((rd x9_4 x12_4) == 0) = false := beq_eq_false_iff_ne.mpr c28
                                  have c28b1 : ((rd x9_4 x12_4) != 0) = true := bne_iff_ne.mpr c28
                                  replace H := Option.bind_eq_some_iff.mp H
                                  obtain ⟨t249, A360, H⟩ := H
                                  replace H : (if t249 ≥ 0 then (if 0 ≤ t249 then (if t249 ≤ (x11_4.length : Int) then ((impl_leastFirst.f k4 (x11_4.drop (t249 : Int).toNat)).bind fun t254 => (if x7_3.length < 5864062014805 then (impl_CyclesOfPowers.l1 k4 x6_2 (x7_3 ++ [t254]) x9_4 (x6_2.length : Int) (wrap64 (x44_3 + 1))) else (none))) else (none)) else (none)) else (impl_CyclesOfPowers.l1 k4 x6_2 x7_3 x9_4 (x6_2.length : Int) (wrap64 (x44_3 + 1)))) = some (r1, r2) := H
                                  have A36 := Aside0.mk A360
                                  clear A360
                                  by_cases c37 : t249 ≥ 0
                                  · rw [if_pos c37] at H
                                    have c37b0 : decide (0 ≤ t249) = true := decide_eq_true c37
                                    clear c37
                                    by_cases c38 : 0 ≤ t249
                                    · rw [if_pos c38] at H
                                      have c38b0 := eq_true c38
                                      have c38b1 : decide (0 ≤ t249) = true := decide_eq_true c38
                                      clear c38
                                      by_cases c39 : t249 ≤ (x11_4.length : Int)
                                      · rw [if_pos c39] at H
                                        have c39b0 := eq_true c39
                                        have c39b1 : decide (t249 ≤ (x11_4.length : Int)) = true := decide_eq_true c39
                                        clear c39
                                        obtain ⟨y250, hy250⟩ : ∃ y_ : List Int, y_ = (x11_4.drop (t249 : Int).toNat) := ⟨_, rfl⟩
                                        replace H : ((impl_leastFirst.f k4 y250).bind fun t254 => (if x7_3.length < 5864062014805 then (impl_CyclesOfPowers.l1 k4 x6_2 (x7_3 ++ [t254]) x9_4 (x6_2.length : Int) (wrap64 (x44_3 + 1))) else (none))) = some (r1, r2) := by first | (rw [hy250]; with_reducible exact H) | (have H2_ := (Option.bind_some _ _).symm.trans H; rw [hy250]; with_reducible exact H2_) | (have H2_ := (Option.bind_some _ _).symm.trans H; with_reducible exact H2_) | with_reducible exact H | (rw [hy250]; exact H) | exact H
                                        have Ny250 := Aside0.mk hy250
                                        clear hy250
                                        replace H := Option.bind_eq_some_iff.mp H
                                        obtain ⟨t254, A400, H⟩ := H
                                        replace H : (if x7_3.length < 5864062014805 then (impl_CyclesOfPowers.l1 k4 x6_2 (x7_3 ++ [t254]) x9_4 (x6_2.length : Int) (wrap64 (x44_3 + 1))) else (none)) = some (r1, r2) := H
                                        have A40 := Aside0.mk A400
                                        clear A400
                                        by_cases c41 : x7_3.length < 5864062014805
                                        · rw [if_pos c41] at H
                                          have LMc41 := Aside0.mk c41
                                          clear c41
                                          obtain ⟨y257, hy257⟩ : ∃ y_ : List (List Int), y_ = (x7_3 ++ [t254]) := ⟨_, rfl⟩
                                          replace H : (impl_CyclesOfPowers.l1 k4 x6_2 y257 x9_4 (x6_2.length : Int) (wrap64 (x44_3 + 1))) = some (r1, r2) := by first | (rw [hy257]; with_reducible exact H) | (have H2_ := (Option.bind_some _ _).symm.trans H; rw [hy257]; with_reducible exact H2_) | (have H2_ := (Option.bind_some _ _).symm.trans H; with_reducible exact H2_) | with_reducible exact H | (rw [hy257]; exact H) | exact H
                                          have Ny257 := Aside0.mk hy257
                                          clear hy257
                                          have H' := Aside0.mk H
                                          clear H
                                          obtain ⟨Ao42, co42, eo42⟩ := Kd.R_slice HO_9.out
                                          subst eo42
                                          have p243 : 0 ≤ (x12_4 : Int) := of_decide_eq_true (by first | (with_reducible assumption) | assumption)
                                          have q243 : x12_4 < (x9_4.length : Int) := of_decide_eq_true (by first | (with_reducible assumption) | assumption)
                                          obtain ⟨ad243, e243, hx243_0⟩ := Kd.at_int (Kd.R_reads' HO_9.out).2.2 x12_4 p243 q243
                                          cases e243
                                          replace p243 := eq_true p243
                                          replace q243 := eq_true q243
                                          obtain ⟨Ao43, co43, eo43⟩ := Kd.R_slice HO_11.out
                                          subst eo43
                                          go_wp2_with (first | ((with_reducible refine gate_callee (f := 48) rfl ?_); refine goesL_ (some 69) rfl rfl Try.func48 (by kernel_rfl) rfl #[.slice Ao43 x11_4.length co43, .int .i64 x12_4] rfl (by (try simp only [List.map_toArray, List.map_cons, List.map_nil]); first | done | rfl | (simp only [List.length_drop, List.length_take]; rfl)) ?_; (with_reducible refine (slices_Index_int_int.calls k4 _ _ x11_4 x12_4 t249 _ ?side1 ?side2 A36.out).mono ?_); (case side1 => repeat (first | exact (Kd.R_reads' HO_11.out).2.2 | (with_reducible refine Kd.C_alloc ?_ _) | (with_reducible refine Kd.C_drewN ?_ _) | (with_reducible refine Kd.C_drew ?_))); (case side2 => exact (Kd.R_reads' HO_11.out).2.1); rintro e w' ⟨rfl, ⟨nd, rfl⟩⟩; refine ⟨_, rfl, ?_⟩; have q44 : (t249 : Int) ≤ ((x11_4.length : Int) : Int) := of_decide_eq_true (by first | (with_reducible assumption) | assumption); obtain ⟨i044, hi044, _, hsz44, _⟩ := info_parts info3; have hroom44 : x11_4.length ≤ co43 := (Kd.R_reads' HO_11.out).2.1; have hC44 : Kd.C (Kd.int .i64) _ Ao43 x11_4.length x11_4 := (Kd.R_reads' HO_11.out).2.2; have q044 : (0 : Int) ≤ (t249 : Int) := of_decide_eq_true (by first | (with_reducible assumption) | assumption); have hcut44 := cut_from (P := Try.prog) 22 3 .i64 Try.underlying22 hi044 1 hsz44 Ao43 x11_4.length co43 t249 q044 q44; have hr44 := Kd.C_drop (m := (t249 : Int).toNat) (c := co43) hC44 (by omega) hroom44; obtain ⟨A44, hA44⟩ : ∃ A1, A1 = (if co43 = (t249 : Int).toNat then Ao43 else (Ao43 : Option Addr).map (·.add ((t249 : Int).toNat * 1))) := ⟨_, rfl⟩; obtain ⟨c44, hc44⟩ : ∃ c1, c1 = co43 - (t249 : Int).toNat := ⟨_, rfl⟩; have hy44 : y250.length = x11_4.length - (t249 : Int).toNat := (by rw [Ny250.out, List.length_drop] <;> omega); rw [show (x11_4).drop (t249 : Int).toNat = y250 from Ny250.out.symm] at hr44; replace hr44 : Kd.C (Kd.int .i64) _ A44 y250.length y250 := (by rw [hA44]; exact hr44); rw [← hy44, ← hA44, ← hc44] at hcut44; have HR253 := Aside0.mk hr44; have HC253 := Aside0.mk (show y250.length ≤ c44 from by rw [hy44, hc44]; exact Nat.sub_le_sub_right hroom44 _); clear hr44 hC44 hroom44 hi044 hsz44 hc44; have KY44 := Aside0.mk hy44; have KA44 := Aside0.mk hA44; clear hy44 hA44; have KL44 := Aside0.mk (show (t249 : Int).toNat ≤ x11_4.length from by omega); replace q44 := eq_true q44) | ((with_reducible refine gate_callee (f := 49) rfl ?_); refine goesL_ (some 76) rfl rfl Try.func49 (by kernel_rfl) rfl #[.slice A44 y250.length c44] rfl (by (try simp only [List.map_toArray, List.map_cons, List.map_nil]); first | done | rfl | (simp only [List.length_drop, List.length_take]; rfl)) ?_; (with_reducible refine (impl_leastFirst.calls k4 _ _ y250 t254 _ ?side1 ?side2 A40.out).mono ?_); (case side1 => repeat (first | exact (by repeat (first | (with_reducible exact HR253.out) | (with_reducible refine Kd.C_alloc ?_ _) | (with_reducible refine Kd.C_drewN ?_ _) | (with_reducible refine Kd.C_drew ?_) | exact HR253.out)) | (with_reducible refine Kd.C_alloc ?_ _) | (with_reducible refine Kd.C_drewN ?_ _) | (with_reducible refine Kd.C_drew ?_))); (case side2 => exact HC253.out); rintro e w45 ⟨v255, rfl, ho0, hb⟩; refine ⟨_, rfl, ?_⟩; have n0_ := Aside0.mk (Kd.R_elder' (by (with_reducible repeat (first | apply Kd.R_alloc | apply Kd.R_drewN | apply Kd.R_drew)); exact HO_6.out) (Kd.R_base ho0) hb); have n1_ := Aside0.mk (Kd.S_elder' (by (with_reducible repeat (first | apply Kd.S_alloc | apply Kd.S_drewN | apply Kd.S_drew)); exact HO_7.out) (Kd.R_base ho0) hb); have n2_ := Aside0.mk (Kd.R_elder' (by (with_reducible repeat (first | apply Kd.R_alloc | apply Kd.R_drewN | apply Kd.R_drew)); exact HO_9.out) (Kd.R_base ho0) hb); have n3_ := Aside0.mk (Kd.R_elder' (by (with_reducible repeat (first | apply Kd.R_alloc | apply Kd.R_drewN | apply Kd.R_drew)); exact HO_11.out) (Kd.R_base ho0) hb); have n4_ := Aside0.mk (Kd.R_lower (Kd.R_new' (Kd.R_new' (Kd.R_new' ho0 (Kd.R_lt (by (with_reducible repeat (first | apply Kd.R_alloc | apply Kd.R_drewN | apply Kd.R_drew)); exact HO_6.out))) (Kd.R_lt (by (with_reducible repeat (first | apply Kd.R_alloc | apply Kd.R_drewN | apply Kd.R_drew)); exact HO_9.out))) (Kd.R_lt (by (with_reducible repeat (first | apply Kd.R_alloc | apply Kd.R_drewN | apply Kd.R_drew)); exact HO_11.out))) (below_size (by repeat (first | (with_reducible first | exact HB.out | apply below_alloc | apply pw_below_drewN | apply below_drew1) | exact HB.out)))); have n5_ := Aside0.mk (Kd.C_below (by repeat (first | (with_reducible exact HR253.out) | (with_reducible refine Kd.C_alloc ?_ _) | (with_reducible refine Kd.C_drewN ?_ _) | (with_reducible refine Kd.C_drew ?_) | exact HR253.out)) hb); have n6_ := Aside0.mk (below_step (by repeat (first | (with_reducible first | exact HB.out | apply below_alloc | apply pw_below_drewN | apply below_drew1) | exact HB.out)) hb); clear HO_6; clear HO_7; clear HO_9; clear HO_11; clear HR253; clear HB; have HO_6 := n0_; have HO_7 := n1_; have HO_9 := n2_; have HO_11 := n3_; have HO256 := n4_; have HR253 := n5_; have HB := n6_; clear n0_ n1_ n2_ n3_ n4_ n5_ n6_; (try clear hb); (try clear hb2); (try clear hk); (try clear hi); (try clear ho0); obtain ⟨Ao47, co47, eo47⟩ := Kd.R_slice HO256.out; subst eo47) | ((with_reducible refine gate_builtin (b := .append) (xs := #[.tmp 72, .tmp 77]) rfl ?_); at_builtin; refine Kd.S_append (Kd.slice 3 (Kd.int .i64)) (w0 := w) w.heap.size rfl (.tmp 72) (.tmp 77) 28 22 (.slice none 0 0) 24 rfl Try.underlying28 info22 rfl (by decide) (by omega) u7 x7_3 t254 [.slice Ao47 t254.length co47] (fun k_ => some k_ ≠ (.slice Ao20 x6_2.length co20 : Value).ownBlock ∧ some k_ ≠ (.slice (some ad243) x9_4.length co42 : Value).ownBlock ∧ some k_ ≠ (.slice Ao43 x11_4.length co43 : Value).ownBlock) (fun k_ => some k_ = (.slice Ao47 t254.length co47 : Value).ownBlock) rfl rfl ?aP (fun k_ hk_ => ((Kd.R_mono (ok' := fun k_ => ((fun k_ => some k_ ≠ (.slice Ao20 x6_2.length co20 : Value).ownBlock ∧ some k_ ≠ (.slice (some ad243) x9_4.length co42 : Value).ownBlock ∧ some k_ ≠ (.slice Ao43 x11_4.length co43 : Value).ownBlock)) k_ ∧ some k_ ≠ (u7 : Value).ownBlock) (Kd.R_apart' (HO256.out) (Kd.S_typed HO_7.out) (by decide)) (fun k_ hk => ⟨⟨hk.1.1.1.2, ⟨hk.1.1.2, hk.1.2⟩⟩, hk.2⟩))).1 k_ hk_.symm) ?aF ?aO ?aB ?aS ?aL ?_; (case aP => exact Kd.M_row (Kd.R_mono (Kd.R_tight rfl (Kd.R_mono (ok' := fun k_ => ((fun k_ => some k_ ≠ (.slice Ao20 x6_2.length co20 : Value).ownBlock ∧ some k_ ≠ (.slice (some ad243) x9_4.length co42 : Value).ownBlock ∧ some k_ ≠ (.slice Ao43 x11_4.length co43 : Value).ownBlock)) k_ ∧ some k_ ≠ (u7 : Value).ownBlock) (Kd.R_apart' (HO256.out) (Kd.S_typed HO_7.out) (by decide)) (fun k_ hk => ⟨⟨hk.1.1.1.2, ⟨hk.1.1.2, hk.1.2⟩⟩, hk.2⟩))) (fun _ h_ => h_))); (case aB => exact (by repeat (first | (with_reducible first | exact HB.out | apply below_alloc | apply pw_below_drewN | apply below_drew1) | exact HB.out))); (case aF => exact (fun k_ hk => ⟨Kd.fresh' (Kd.R_lt (by (with_reducible repeat (first | apply Kd.R_alloc | apply Kd.R_drewN | apply Kd.R_drew)); exact HO_6.out)) k_ hk, Kd.fresh' (Kd.R_lt (by (with_reducible repeat (first | apply Kd.R_alloc | apply Kd.R_drewN | apply Kd.R_drew)); exact HO_9.out)) k_ hk, Kd.fresh' (Kd.R_lt (by (with_reducible repeat (first | apply Kd.R_alloc | apply Kd.R_drewN | apply Kd.R_drew)); exact HO_11.out)) k_ hk⟩)); (case aO => exact (by (with_reducible repeat (first | apply Kd.S_alloc | apply Kd.S_drewN | apply Kd.S_drew)); exact Kd.S_mono HO_7.out (fun k_ hk => ⟨⟨hk.1.1, ⟨hk.1.2.1, hk.1.2.2⟩⟩, fun e_ => hk.2 e_⟩))); (case aS => exact (below_size (by repeat (first | (with_reducible first | exact HB.out | apply below_alloc | apply pw_below_drewN | apply below_drew1) | exact HB.out)))); (case aL => have := LMc41.out; omega); intro v258 w46 ho hb hg hat; rw [← Ny257.out] at ho; have n0_ := Aside0.mk (Kd.R_over' (by (with_reducible repeat (first | apply Kd.R_alloc | apply Kd.R_drewN | apply Kd.R_drew)); exact HO_6.out) (Kd.S_typed (by (with_reducible repeat (first | apply Kd.S_alloc | apply Kd.S_drewN | apply Kd.S_drew)); exact HO_7.out)) (by decide) hg); have n1_ := Aside0.mk (Kd.R_over' (by (with_reducible repeat (first | apply Kd.R_alloc | apply Kd.R_drewN | apply Kd.R_drew)); exact HO_9.out) (Kd.S_typed (by (with_reducible repeat (first | apply Kd.S_alloc | apply Kd.S_drewN | apply Kd.S_drew)); exact HO_7.out)) (by decide) hg); have n2_ := Aside0.mk (Kd.R_over' (by (with_reducible repeat (first | apply Kd.R_alloc | apply Kd.R_drewN | apply Kd.R_drew)); exact HO_11.out) (Kd.S_typed (by (with_reducible repeat (first | apply Kd.S_alloc | apply Kd.S_drewN | apply Kd.S_drew)); exact HO_7.out)) (by decide) hg); have n3_ := Aside0.mk (hb); have n4_ := Aside0.mk ((show Kd.C (Kd.int .i64) w46 A44 y250.length y250 from by rw [Ny250.out, KA44.out]; exact Kd.C_drop (m := (t249 : Int).toNat) (c := co43) ((Kd.R_reads' (Kd.R_over' (by (with_reducible repeat (first | apply Kd.R_alloc | apply Kd.R_drewN | apply Kd.R_drew)); exact HO_11.out) (Kd.S_typed (by (with_reducible repeat (first | apply Kd.S_alloc | apply Kd.S_drewN | apply Kd.S_drew)); exact HO_7.out)) (by decide) hg)).2.2) KL44.out ((Kd.R_reads' (Kd.R_over' (by (with_reducible repeat (first | apply Kd.R_alloc | apply Kd.R_drewN | apply Kd.R_drew)); exact HO_11.out) (Kd.S_typed (by (with_reducible repeat (first | apply Kd.S_alloc | apply Kd.S_drewN | apply Kd.S_drew)); exact HO_7.out)) (by decide) hg)).2.1))); have n5_ := Aside0.mk (ho); clear HO_6; clear HO_9; clear HO_11; clear HB; clear HR253; clear HO_7; clear HO256; have HO_6 := n0_; have HO_9 := n1_; have HO_11 := n2_; have HB := n3_; have HR253 := n4_; have HO259 := n5_; clear n0_ n1_ n2_ n3_ n4_ n5_; clear ho hb hg hat))
                                          go_roundg k4
                                          case measure => have := HJ2.out; have := HK2.out; have := HK3.out; have := HK4.out; omega
                                          case rel => exact ⟨(y257), (x9_4), (wrap64 (x44_3 + 1)), (by first | rfl | (simp; done) | (simp [*]; done)), H', ⟨by have := HJ2.out; have := HK2.out; have := HK3.out; have := HK4.out; omega⟩, ⟨by (with_reducible repeat (first | apply Kd.R_alloc | apply Kd.R_drewN | apply Kd.R_drew)); exact Kd.R_mono HO_6.out (fun _ hk => hk.1.1)⟩, ⟨by (with_reducible repeat (first | apply Kd.S_alloc | apply Kd.S_drewN | apply Kd.S_drew)); exact Kd.S_mono HO259.out (fun _ hk => ⟨hk.1, hk.2.1⟩)⟩, ⟨by (with_reducible repeat (first | apply Kd.R_alloc | apply Kd.R_drewN | apply Kd.R_drew)); exact Kd.R_mono HO_9.out (fun _ hk => hk.1.1)⟩, ⟨by repeat (first | (with_reducible first | exact HB.out | apply below_alloc | apply pw_below_drewN | apply below_drew1) | exact HB.out)⟩⟩
                                        · rw [if_neg c41] at H
                                          exact absurd H (by simp)
                                      · rw [if_neg c39] at H
                                        exact absurd H (by simp)
                                    · rw [if_neg c38] at H
                                      exact absurd H (by simp)
                                  · rw [if_neg c37] at H
                                    have c37b0 : decide (0 ≤ t249) = false := decide_eq_false c37
                                    clear c37
                                    have H' := Aside0.mk H
                                    clear H
                                    obtain ⟨Ao48, co48, eo48⟩ := Kd.R_slice HO_9.out
                                    subst eo48
                                    have p243 : 0 ≤ (x12_4 : Int) := of_decide_eq_true (by first | (with_reducible assumption) | assumption)
                                    have q243 : x12_4 < (x9_4.length : Int) := of_decide_eq_true (by first | (with_reducible assumption) | assumption)
                                    obtain ⟨ad243, e243, hx243_0⟩ := Kd.at_int (Kd.R_reads' HO_9.out).2.2 x12_4 p243 q243
                                    cases e243
                                    replace p243 := eq_true p243
                                    replace q243 := eq_true q243
                                    obtain ⟨Ao49, co49, eo49⟩ := Kd.R_slice HO_11.out
                                    subst eo49
                                    go_wp2_with (first | ((with_reducible refine gate_callee (f := 48) rfl ?_); refine goesL_ (some 69) rfl rfl Try.func48 (by kernel_rfl) rfl #[.slice Ao49 x11_4.length co49, .int .i64 x12_4] rfl (by (try simp only [List.map_toArray, List.map_cons, List.map_nil]); first | done | rfl | (simp only [List.length_drop, List.length_take]; rfl)) ?_; (with_reducible refine (slices_Index_int_int.calls k4 _ _ x11_4 x12_4 t249 _ ?side1 ?side2 A36.out).mono ?_); (case side1 => repeat (first | exact (Kd.R_reads' HO_11.out).2.2 | (with_reducible refine Kd.C_alloc ?_ _) | (with_reducible refine Kd.C_drewN ?_ _) | (with_reducible refine Kd.C_drew ?_))); (case side2 => exact (Kd.R_reads' HO_11.out).2.1); rintro e w' ⟨rfl, ⟨nd, rfl⟩⟩; refine ⟨_, rfl, ?_⟩))
                                    go_roundg k4
                                    case measure => have := HJ2.out; have := HK2.out; have := HK3.out; have := HK4.out; omega
                                    case rel => exact ⟨(x7_3), (x9_4), (wrap64 (x44_3 + 1)), (by first | rfl | (simp; done) | (simp [*]; done)), H', ⟨by have := HJ2.out; have := HK2.out; have := HK3.out; have := HK4.out; omega⟩, ⟨by (with_reducible repeat (first | apply Kd.R_alloc | apply Kd.R_drewN | apply Kd.R_drew)); exact Kd.R_mono HO_6.out (fun _ hk => hk.1)⟩, ⟨by (with_reducible repeat (first | apply Kd.S_alloc | apply Kd.S_drewN | apply Kd.S_drew)); exact Kd.S_mono HO_7.out (fun _ hk => ⟨hk.1, hk.2.1⟩)⟩, ⟨by (with_reducible repeat (first | apply Kd.R_alloc | apply Kd.R_drewN | apply Kd.R_drew)); exact Kd.R_mono HO_9.out (fun _ hk => hk.1)⟩, ⟨by repeat (first | (with_reducible first | exact HB.out | apply below_alloc | apply pw_below_drewN | apply below_drew1) | exact HB.out)⟩⟩
                              · rw [if_neg c27] at H
                                exact absurd H (by simp)
                            · rw [if_neg c26] at H
                              exact absurd H (by simp)
                      · rw [if_neg c23] at H
                        have c23b0 : decide (x44_3 < (x6_2.length : Int)) = false := decide_eq_false c23
                        clear c23
                        replace H := Option.bind_eq_some_iff.mp H
                        obtain ⟨t237, A500, H⟩ := H
                        replace H : (some (t237, true)) = some (r1, r2) := H
                        have A50 := Aside0.mk A500
                        clear A500
                        simp only [Option.some.injEq, Prod.mk.injEq] at H
                        obtain ⟨rfl, rfl⟩ := H
                        obtain ⟨Ao51, co51, eo51⟩ := Kd.S_slice HO_7.out
                        subst eo51
                        go_wp2_with (first | (go_at_call 50; refine (slices_SortFunc_int_int.own_calls w _ _ _ x7_3 t237 (by repeat (first | (with_reducible first | exact HB.out | apply below_alloc | apply pw_below_drewN | apply below_drew1) | exact HB.out)) (by (with_reducible repeat (first | apply Kd.S_alloc | apply Kd.S_drewN | apply Kd.S_drew)); exact HO_7.out) A50.out).mono ?_; rintro e w52 ⟨rfl, ho0, hb⟩; have n0_ := Aside0.mk ho0; have n4_ := Aside0.mk hb; clear HO_6 HO_7 HO_9 HB ho0 hb; have HO239 := n0_; have HB := n4_; clear n0_ n4_))
                        go_ret2
                        exact ⟨_, by first | rfl | (simp [errW_none, errW_some] <;> rfl) | (simp [*, errW_none, errW_some] <;> rfl), by (with_reducible repeat (first | apply Kd.S_alloc | apply Kd.S_drewN | apply Kd.S_drew)); exact Kd.S_mono HO239.out (fun _ hk => trivial), by repeat (first | (with_reducible first | exact HB.out | apply below_alloc | apply pw_below_drewN | apply below_drew1) | exact HB.out)⟩
                · rw [if_neg c19] at H
                  exact absurd H (by simp)
              · rw [if_neg c18] at H
                exact absurd H (by simp)
def laws_big.f (l0 : List Int) (l1 : List Int) : Option (Bool) := if (l0.length : Int) > 1048576 then (some true) else (some (decide ((l1.length : Int) > (wrap64 (1048576 - (l0.length : Int))))))
set_option maxHeartbeats 8000000 in
set_option maxRecDepth 100000 in
theorem laws_big.calls (A0 : Option Addr) (c0 : Nat) (l0 : List Int) (A1 : Option Addr) (c1 : Nat) (l1 : List Int) (r : Bool) (w : World) (hr0 : Kd.C (Kd.int .u8) w A0 l0.length l0) (hc0 : l0.length ≤ c0) (hr1 : Kd.C (Kd.int .u8) w A1 l1.length l1) (hc1 : l1.length ≤ c1) (h : laws_big.f l0 l1 = some r) :
    Calls Try.prog 20 #[.slice A0 l0.length c0, .slice A1 l1.length c1] w fun e w' => e = .returned (.bool r) ∧ Drawn0 w w' := by
  have HR0 := Aside0.mk hr0
  have HC0 := Aside0.mk hc0
  clear hr0 hc0
  have HR1 := Aside0.mk hr1
  have HC1 := Aside0.mk hc1
  clear hr1 hc1
  have H : (if (l0.length : Int) > 1048576 then (some true) else (some (decide ((l1.length : Int) > (wrap64 (1048576 - (l0.length : Int))))))) = some r := h
  clear h
  by_cases c3 : (l0.length : Int) > 1048576
  · rw [if_pos c3] at H
    have c3b0 : decide (1048576 < (l0.length : Int)) = true := decide_eq_true c3
    have c3b1 : decide (1048576 < l0.length) = true := decide_eq_true (by omega)
    clear c3
    obtain rfl := Option.some.inj H
    go_enter Try.func20, Try.ntmps20
    go_wp2
    go_ret
    exact ⟨by first | rfl | (simp; done) | (simp [*]; done), by repeat (first | exact Drawn0.refl _ | apply Drawn0.step)⟩
  · rw [if_neg c3] at H
    have c3b0 : decide (1048576 < (l0.length : Int)) = false := decide_eq_false c3
    have c3b1 : decide (1048576 < l0.length) = false := decide_eq_false (by omega)
    clear c3
    obtain rfl := Option.some.inj H
    go_enter Try.func20, Try.ntmps20
    go_wp2
    go_ret
    exact ⟨by first | rfl | (simp; done) | (simp [*]; done), by repeat (first | exact Drawn0.refl _ | apply Drawn0.step)⟩
def impl_isBase.f (a0 : Int) : Option (Bool) := (impl_in.f a0 2 16).bind fun t260 => (some t260)
set_option maxHeartbeats 8000000 in
set_option maxRecDepth 100000 in
theorem impl_isBase.calls (a0 : Int) (r : Bool) (w : World) (h : impl_isBase.f a0 = some r) :
    Calls Try.prog 60 #[.int .i64 a0] w fun e w' => e = .returned (.bool r) ∧ Drawn0 w w' := by
  have H : ((impl_in.f a0 2 16).bind fun t260 => (some t260)) = some r := h
  clear h
  replace H := Option.bind_eq_some_iff.mp H
  obtain ⟨t260, A20, H⟩ := H
  replace H : (some t260) = some r := H
  have A2 := Aside0.mk A20
  clear A20
  obtain rfl := Option.some.inj H
  go_enter Try.func60, Try.ntmps60
  go_wp2_with (first | ((with_reducible refine gate_callee (f := 37) rfl ?_); refine goesL_ (some 4) rfl rfl Try.func37 (by kernel_rfl) rfl #[.int .i64 a0, .int .i64 2, .int .i64 16] rfl (by (try simp only [List.map_toArray, List.map_cons, List.map_nil]); first | done | rfl | (simp only [List.length_drop, List.length_take]; rfl)) ?_; (with_reducible refine (impl_in.calls a0 2 16 t260 _ A2.out).mono ?_); rintro e w' ⟨rfl, ⟨nd, rfl⟩⟩; refine ⟨_, rfl, ?_⟩))
  go_ret
  exact ⟨by first | rfl | (simp; done) | (simp [*]; done), by repeat (first | exact Drawn0.refl _ | apply Drawn0.step)⟩
end Go.Proofs.Ytehhkkbejmhcfaa.PFnOwnPowers
end
