/-
  The names of maps: both programs tell one name; the plain law of NameOfMap. No conditions.
-/
import Derived.Test.YtcaohpcbohdkbaaLNt
namespace Go.Proofs.YtcaohpcbohdkbaaC
open Go.RowKit Go.Proofs.YtcaohpcbohdkbaaW.PrintWords Go.Proofs.YtcaohpcbohdkbaaW.PrintMore
set_option linter.unusedSimpArgs false
set_option linter.unusedVariables false

/-! ### the least turn of texts -/
def rot (P : List ByteArray) (j : Nat) : List ByteArray := P.drop j ++ P.take j
theorem rot_perm (P : List ByteArray) (j : Nat) : (rot P j).Perm P := by
  unfold rot
  refine List.perm_append_comm.trans ?_
  rw [List.take_append_drop]
theorem rot_size (P : List ByteArray) (j : Nat) : (cat (rot P j)).size = (cat P).size := cat_perm (rot_perm P j)
theorem rot_length (P : List ByteArray) (j : Nat) : (rot P j).length = P.length := (rot_perm P j).length_eq
theorem rot_at (P : List ByteArray) {j i : Nat} (hj : j < P.length) (hi : i < P.length) : (rot P j)[i]'(by rw [rot_length]; exact hi) = P[(j + i) % P.length]'(Nat.mod_lt _ (by omega)) := by
  unfold rot
  by_cases h : i < P.length - j
  · rw [List.getElem_append_left (by rw [List.length_drop]; exact h), List.getElem_drop]
    congr 1
    rw [Nat.mod_eq_of_lt (by omega)]
  · rw [List.getElem_append_right (by rw [List.length_drop]; omega), List.getElem_take]
    congr 1
    rw [List.length_drop, Nat.mod_eq_sub_mod (by omega), Nat.mod_eq_of_lt (by omega)]
    omega
def best (P : List ByteArray) : Nat → ByteArray
  | 0 => cat P
  | j + 1 => Lib.minS (best P j) (cat (rot P j))
theorem best_size (P : List ByteArray) : ∀ j, (best P j).size = (cat P).size
  | 0 => rfl
  | j + 1 => by
    rw [best]
    unfold Lib.minS
    split
    · exact best_size P j
    · exact rot_size P j
theorem leastTurn_loop (P : List ByteArray) (hP : P.length ≤ 1000) (hs : (cat P).size ≤ 1000000) : ∀ (d j k : Nat), j + d = P.length → d < k → impl_leastTurn.l0 k P (best P j) (P.length : Int) (j : Int) = some (best P P.length)
  | 0, j, k, hj, hk => by
    obtain ⟨k, rfl⟩ : ∃ q, k = q + 1 := ⟨k - 1, by omega⟩
    obtain rfl : j = P.length := by omega
    rw [impl_leastTurn.l0, if_neg (by omega)]
  | d + 1, j, k, hj, hk => by
    obtain ⟨k, rfl⟩ : ∃ q, k = q + 1 := ⟨k - 1, by omega⟩
    have e : ([P.drop j, P.take j] : List (List ByteArray)).flatten = rot P j := by simp [rot]
    have hl := rot_length P j
    have hz := rot_size P j
    rw [impl_leastTurn.l0, if_pos (by omega), if_pos (by omega), if_pos (by omega), Int.toNat_natCast, slices_Concat_string_string.f, e, if_pos ⟨by simp, by omega⟩, Option.bind_some, Join_eq _ (by omega) (by omega), Option.bind_some, w64s (by omega)]
    exact leastTurn_loop P hP hs d (j + 1) k (by omega) (by omega)
theorem leastTurn_eq (P : List ByteArray) (hP : P.length ≤ 1000) (hs : (cat P).size ≤ 1000000) {k : Nat} (hk : P.length < k) : impl_leastTurn.f k P = some (best P P.length) := by
  rw [impl_leastTurn.f, Join_eq _ (by omega) (by omega), Option.bind_some]
  exact leastTurn_loop P hP hs P.length 0 k (by omega) hk

/-! ### texts in brackets -/
def brk (s : ByteArray) : ByteArray := (⟨#[91]⟩ : ByteArray) ++ s ++ (⟨#[93]⟩ : ByteArray)
theorem brk_size (s : ByteArray) : (brk s).size = s.size + 2 := by
  unfold brk
  rw [ba_size, ba_size]
  show 1 + s.size + 1 = _
  omega
theorem brk_list (s : ByteArray) : (brk s).toList = 91 :: (s.toList ++ [93]) := by
  rw [Lib.toList_data, Lib.toList_data]
  simp [brk]
theorem less_app (z : UInt8) : ∀ a b : List UInt8, a.length = b.length → Op.bytesLess (a ++ [z]) (b ++ [z]) = Op.bytesLess a b
  | [], [], _ => by simp [Op.bytesLess]
  | [], _ :: _, h => by simp at h
  | _ :: _, [], h => by simp at h
  | x :: a, y :: b, h => by
    have := less_app z a b (by simpa using h)
    simp [Op.bytesLess, this]
theorem brk_less {a b : ByteArray} (h : a.size = b.size) : Op.bytesLess (brk a).toList (brk b).toList = Op.bytesLess a.toList b.toList := by
  rw [brk_list, brk_list]
  have h2 := less_app 93 a.toList b.toList (by rw [Lib.toList_data, Lib.toList_data, Array.length_toList, Array.length_toList]; exact h)
  simp [Op.bytesLess, h2]
theorem minS_less (b t : ByteArray) : Lib.minS b t = if Op.bytesLess t.toList b.toList = true then t else b := by
  rw [less_iff]
  unfold Lib.minS leB
  by_cases h1 : b.data.toList < t.data.toList
  · rw [if_pos (.inl h1), if_neg (by simp [List.le_of_lt h1])]
  · by_cases h2 : b.data.toList = t.data.toList
    · rw [if_pos (.inr h2), if_neg (by simp [h2])]
    · have h3 : ¬ b.data.toList ≤ t.data.toList := fun h4 => h2 (List.le_antisymm h4 (List.not_lt.1 h1))
      rw [if_neg (by simp [h1, h2]), if_pos (by simp [h3])]

/-! ### the reference's least turn -/
theorem name_l3 (l : List Int) (cy : List Bool) (x4 P : List ByteArray) (x10 : ByteArray) (cs : List (List Int)) (x21 x22 : Int) (hP : P.length ≤ 1000) (hs : (cat P).size ≤ 1000000) {j : Nat} (hj : j < P.length) : ∀ (d i k : Nat), i + d = P.length →
    spec_mpName.l3 (k + d + 1) l cy x4 P x10 (j : Int) ((⟨#[91]⟩ : ByteArray) ++ cat ((rot P j).take i)) cs x21 x22 (P.length : Int) (j : Int) (P.length : Int) (i : Int) =
      if x10.toList = ([] : List UInt8) then spec_mpName.l2 k l cy x4 P (brk (cat (rot P j))) cs x21 x22 (P.length : Int) ((j + 1 : Nat) : Int)
      else if Op.bytesLess (brk (cat (rot P j))).toList x10.toList = true then spec_mpName.l2 k l cy x4 P (brk (cat (rot P j))) cs x21 x22 (P.length : Int) ((j + 1 : Nat) : Int)
      else spec_mpName.l2 k l cy x4 P x10 cs x21 x22 (P.length : Int) ((j + 1 : Nat) : Int)
  | 0, i, k, hi => by
    obtain rfl : i = P.length := by omega
    have hz := rot_size P j
    have ht : (rot P j).take P.length = rot P j := by rw [← rot_length P j, List.take_length]
    have h91 : (⟨#[91]⟩ : ByteArray).size = 1 := rfl
    rw [spec_mpName.l3, if_neg (by omega), if_pos (by rw [ba_size, ht]; omega), ht, w64s (by omega)]
    rfl
  | d + 1, i, k, hi => by
    have hil : i < P.length := by omega
    have h91 : (⟨#[91]⟩ : ByteArray).size = 1 := rfl
    have e1 : Int.tmod (wrap64 ((j : Int) + (i : Int))) (P.length : Int) = (((j + i) % P.length : Nat) : Int) := by
      rw [w64 (by omega) (by omega)]
      rfl
    have hm : (j + i) % P.length < P.length := Nat.mod_lt _ (by omega)
    have e2 : rdOf ByteArray.empty P (((j + i) % P.length : Nat) : Int) = (rot P j)[i]'(by rw [rot_length]; exact hil) := by
      rw [rot_at P hj hil]
      unfold rdOf
      rw [Int.toNat_natCast, List.getD_eq_getElem?_getD, List.getElem?_eq_getElem hm]
      rfl
    have hrl := rot_length P j
    have et : (rot P j).take (i + 1) = (rot P j).take i ++ [(rot P j)[i]'(by rw [rot_length]; exact hil)] := List.take_succ_eq_append_getElem (by omega)
    have hz : (cat ((rot P j).take (i + 1))).size ≤ (cat P).size := by
      have h1 := rot_size P j
      rw [← List.take_append_drop (i + 1) (rot P j), cat_append, ba_size] at h1
      omega
    rw [et, cat_append, cat_one, ba_size] at hz
    rw [show k + (d + 1) + 1 = (k + d + 1) + 1 by omega, spec_mpName.l3, if_pos (by omega), if_neg (by omega), e1, if_pos (by omega), if_pos (by omega), e2, if_pos (by rw [ba_size]; omega), w64s (by omega)]
    have := name_l3 l cy x4 P x10 cs x21 x22 hP hs hj d (i + 1) k (by omega)
    rw [et, cat_append, cat_one] at this
    rw [ba_assoc]
    exact this
def bestS (P : List ByteArray) (j : Nat) : ByteArray := if j = 0 then ⟨#[]⟩ else brk (best P j)
theorem best_step (P : List ByteArray) (j : Nat) : (if (bestS P j).toList = ([] : List UInt8) then brk (cat (rot P j)) else if Op.bytesLess (brk (cat (rot P j))).toList (bestS P j).toList = true then brk (cat (rot P j)) else bestS P j) = bestS P (j + 1) := by
  unfold bestS
  rw [if_neg (show ¬ j + 1 = 0 by omega), best, minS_less]
  by_cases h : j = 0
  · subst h
    have e : (rot P 0) = P := by simp [rot]
    rw [if_pos rfl, if_pos (by rw [Lib.toList_data]), e]
    congr 1
    rw [best]
    split <;> rfl
  · rw [if_neg h, if_neg (by rw [brk_list]; simp), brk_less (by rw [rot_size, best_size])]
    split <;> rfl
theorem ite3 {α : Type} (c1 c2 : Prop) [Decidable c1] [Decidable c2] (f : ByteArray → α) (a b : ByteArray) : (if c1 then f a else if c2 then f a else f b) = f (if c1 then a else if c2 then a else b) := by
  split
  · rfl
  · split <;> rfl
theorem name_l2 (l : List Int) (cy : List Bool) (x4 P : List ByteArray) (cs : List (List Int)) (x21 : Int) (i : Nat) (hi : i ≤ 1000) (hP : P.length ≤ 1000) (hs : (cat P).size ≤ 1000000) (h4 : x4.length ≤ 1000) (R : ByteArray) (K : Nat)
    (hR : ∀ k, K ≤ k → spec_mpName.l0 k l cy (x4 ++ [bestS P P.length]) cs x21 ((i + 1 : Nat) : Int) = some R) (D : Nat) (hD : P.length + 2 ≤ D) : ∀ (d j k : Nat), j + d = P.length → K + (d + 1) * D ≤ k → spec_mpName.l2 k l cy x4 P (bestS P j) cs x21 (i : Int) (P.length : Int) (j : Int) = some R
  | 0, j, k, hj, hk => by
    rw [Nat.add_mul, Nat.one_mul] at hk
    obtain ⟨k, rfl⟩ : ∃ q, k = q + 1 := ⟨k - 1, by omega⟩
    obtain rfl : j = P.length := by omega
    rw [spec_mpName.l2, if_neg (by omega), if_pos (by omega), w64s (by omega)]
    exact hR k (by omega)
  | d + 1, j, k, hj, hk => by
    rw [Nat.add_mul, Nat.one_mul] at hk
    obtain ⟨k, rfl⟩ : ∃ q, k = (q + P.length + 1) + 1 := ⟨k - P.length - 2, by omega⟩
    have h3 := name_l3 l cy x4 P (bestS P j) cs x21 (i : Int) hP hs (j := j) (by omega) P.length 0 k (by omega)
    have e0 : (⟨#[91]⟩ : ByteArray) ++ cat ((rot P j).take 0) = ⟨#[91]⟩ := by rw [List.take_zero, cat_nil, ba_nil]
    rw [e0, ite3 _ _ (fun z => spec_mpName.l2 k l cy x4 P z cs x21 (i : Int) (P.length : Int) ((j + 1 : Nat) : Int)), best_step] at h3
    rw [spec_mpName.l2, if_pos (by omega)]
    exact h3.trans (name_l2 l cy x4 P cs x21 i hi hP hs h4 R K hR D hD d (j + 1) k (by omega) (by omega))

/-! ### the parts of a cycle -/
def parts (l : List Int) (c : List Int) : List ByteArray := c.map (txt l (l.length + 1))
def OnCyc (l : List Int) (c : List Int) : Prop := c.Nodup ∧ 0 < c.length ∧ c.length ≤ 60 ∧ ∀ x ∈ c, Has l x ∧ rA l x = 0
theorem parts_length (l c : List Int) : (parts l c).length = c.length := by simp [parts]
theorem parts_size {l : List Int} (h : MapL l) (hl : l.length ≤ 60) {c : List Int} (hc : OnCyc l c) : (cat (parts l c)).size ≤ 120 := by
  have h1 := size_sum h (l.length + 1) 0 c hc.1 hc.2.2.2
  have h2 := deepC_le l 0
  unfold parts
  rw [cat_size, List.map_map]
  have e : (c.map ((fun s => s.size) ∘ txt l (l.length + 1))) = c.map fun y => (txt l (l.length + 1) y).size := rfl
  rw [e]
  omega
theorem name_l1 {l : List Int} (h : MapL l) {K0 : Nat} (ht : TreeOk l (l.length + 1) K0) (x4 : List ByteArray) (cs : List (List Int)) (x21 x22 : Int) {c : List Int} (hc : OnCyc l c) (R : ByteArray) (K : Nat)
    (hR : ∀ k, K ≤ k → spec_mpName.l2 k l (cycL l) x4 (parts l c) ⟨#[]⟩ cs x21 x22 (c.length : Int) 0 = some R) : ∀ (suf pre : List Int) (k : Nat), c = pre ++ suf → K + K0 + suf.length + 1 ≤ k → spec_mpName.l1 k l (cycL l) x4 (parts l pre) cs x21 x22 c (c.length : Int) (pre.length : Int) = some R
  | [], pre, k, hp, hk => by
    obtain ⟨k, rfl⟩ : ∃ q, k = q + 1 := ⟨k - 1, by omega⟩
    have e : pre = c := by rw [hp]; simp
    have hpl := parts_length l c
    rw [e, spec_mpName.l1, if_neg (by omega), hpl]
    exact hR k (by omega)
  | y :: suf, pre, k, hp, hk => by
    simp only [List.length_cons] at hk
    obtain ⟨k, rfl⟩ : ∃ q, k = q + 1 := ⟨k - 1, by omega⟩
    have hcl : c.length = pre.length + suf.length + 1 := by rw [hp]; simp; omega
    have hc60 := hc.2.2.1
    have hr : rd c (pre.length : Int) = y := by rw [hp]; exact rd_mid _ _ _
    obtain ⟨hy, hy0⟩ := hc.2.2.2 y (by rw [hp]; simp)
    have hpl := parts_length l pre
    rw [spec_mpName.l1, if_pos (by omega), if_pos (by omega), if_pos (by omega), hr, (ht y hy (by omega) k (by omega)).1, Option.bind_some, if_pos (by omega), w64s (by omega)]
    have := name_l1 h ht x4 cs x21 x22 hc R K hR suf (pre ++ [y]) k (by simp [hp]) (by omega)
    have e : parts l (pre ++ [y]) = parts l pre ++ [txt l (l.length + 1) y] := by simp [parts]
    rw [e, List.length_append, List.length_singleton] at this
    exact this
theorem iname_l1 {l : List Int} (h : MapL l) (hl : l.length ≤ 60) {K0 : Nat} (ht : TreeOk l (l.length + 1) K0) (x4 : List ByteArray) (h4 : x4.length ≤ 1000) (cs : List (List Int)) (x15 : Int) (i : Nat) (hi : i ≤ 1000) {c : List Int} (hc : OnCyc l c) (R : ByteArray) (K : Nat)
    (hR : ∀ k, K ≤ k → impl_nameOf.l0 k l (upTo (dep l) l.length) (x4 ++ [brk (best (parts l c) c.length)]) cs x15 ((i + 1 : Nat) : Int) = some R) : ∀ (suf pre : List Int) (k : Nat), c = pre ++ suf → K + K0 + suf.length + 100 ≤ k → impl_nameOf.l1 k l (upTo (dep l) l.length) x4 (parts l pre) cs x15 (i : Int) c (c.length : Int) (pre.length : Int) = some R
  | [], pre, k, hp, hk => by
    obtain ⟨k, rfl⟩ : ∃ q, k = q + 1 := ⟨k - 1, by omega⟩
    have e : pre = c := by rw [hp]; simp
    have hpl := parts_length l c
    have hc60 := hc.2.2.1
    have hps := parts_size h hl hc
    have hb := best_size (parts l c) (parts l c).length
    have h91 : (⟨#[91]⟩ : ByteArray).size = 1 := rfl
    rw [e, impl_nameOf.l1, if_neg (by omega), leastTurn_eq _ (by omega) (by omega) (by omega), Option.bind_some, if_pos (by omega), if_pos (by rw [ba_size]; omega), if_pos (by omega), w64s (by omega), hpl]
    exact hR k (by omega)
  | y :: suf, pre, k, hp, hk => by
    simp only [List.length_cons] at hk
    obtain ⟨k, rfl⟩ : ∃ q, k = q + 1 := ⟨k - 1, by omega⟩
    have hcl : c.length = pre.length + suf.length + 1 := by rw [hp]; simp; omega
    have hc60 := hc.2.2.1
    have hr : rd c (pre.length : Int) = y := by rw [hp]; exact rd_mid _ _ _
    obtain ⟨hy, hy0⟩ := hc.2.2.2 y (by rw [hp]; simp)
    have hpl := parts_length l pre
    rw [impl_nameOf.l1, if_pos (by omega), if_pos (by omega), if_pos (by omega), hr, (ht y hy (by omega) k (by omega)).2, Option.bind_some, if_pos (by omega), w64s (by omega)]
    have := iname_l1 h hl ht x4 h4 cs x15 i hi hc R K hR suf (pre ++ [y]) k (by simp [hp]) (by omega)
    have e : parts l (pre ++ [y]) = parts l pre ++ [txt l (l.length + 1) y] := by simp [parts]
    rw [e, List.length_append, List.length_singleton] at this
    exact this

/-! ### the name -/
def cname (l : List Int) (c : List Int) : ByteArray := brk (best (parts l c) c.length)
theorem cname_size {l : List Int} (h : MapL l) (hl : l.length ≤ 60) {c : List Int} (hc : OnCyc l c) : (cname l c).size ≤ 122 := by
  have := parts_size h hl hc
  unfold cname
  rw [brk_size, best_size]
  omega
theorem cnames_size {l : List Int} (h : MapL l) (hl : l.length ≤ 60) : ∀ (cs : List (List Int)), (∀ c ∈ cs, OnCyc l c) → (cat (cs.map (cname l))).size ≤ 122 * cs.length
  | [], _ => by simp [cat_nil]; rfl
  | c :: cs, hc => by
    have h1 := cname_size h hl (hc c (by simp))
    have h2 := cnames_size h hl cs (fun c' h' => hc c' (by simp [h']))
    rw [List.map_cons, cat_cons, ba_size, List.length_cons]
    omega
def nameL (l : List Int) : ByteArray := cat (srtB ((cycs l l.length).map (cname l)))
theorem rdL_at {cs : List (List Int)} {j : Nat} (h : j < cs.length) : rd_L2 cs (j : Int) = cs[j] := by simp [rd_L2, List.getD_eq_getElem?_getD, List.getElem?_eq_getElem h]
theorem name_l0 {l : List Int} (h : MapL l) (hl : l.length ≤ 60) {K0 : Nat} (ht : TreeOk l (l.length + 1) K0) (cs : List (List Int)) (hcs : cs.length ≤ 60) (hc : ∀ c ∈ cs, OnCyc l c) : ∀ (d i k : Nat), i + d = cs.length → K0 * (d + 1) + (d + 1) * 100000 ≤ k →
    spec_mpName.l0 k l (cycL l) ((cs.take i).map (cname l)) cs (cs.length : Int) (i : Int) = some (cat (srtB (cs.map (cname l)))) ∧ impl_nameOf.l0 k l (upTo (dep l) l.length) ((cs.take i).map (cname l)) cs (cs.length : Int) (i : Int) = some (cat (srtB (cs.map (cname l))))
  | 0, i, k, hi, hk => by
    obtain ⟨k, rfl⟩ : ∃ q, k = q + 1 := ⟨k - 1, by omega⟩
    obtain rfl : i = cs.length := by omega
    have hz := cnames_size h hl cs hc
    have hsl := srtB_length (cs.map (cname l))
    rw [List.length_map] at hsl
    have hsp := cat_perm (srtB_perm (cs.map (cname l)))
    have h0 : (⟨#[]⟩ : ByteArray).size = 0 := rfl
    rw [List.take_length]
    refine ⟨?_, ?_⟩
    · rw [spec_mpName.l0, if_neg (by omega), mpSort_eq _ (by rw [List.length_map]; omega) (by rw [List.length_map]; omega), Option.bind_some]
      have := nameCat (srtB (cs.map (cname l))) (by omega) (srtB (cs.map (cname l))) [] (⟨#[]⟩ : ByteArray) k rfl (by omega) (by omega)
      rw [nil_ba] at this
      exact this
    · rw [impl_nameOf.l0, if_neg (by omega), SortS_eq _ (by rw [List.length_map]; omega), Option.bind_some, Join_eq _ (by omega) (by omega), Option.bind_some]
  | d + 1, i, k, hi, hk => by
    rw [Nat.mul_add K0 (d + 1) 1, Nat.mul_one, Nat.add_mul (d + 1) 1, Nat.one_mul] at hk
    obtain ⟨k, rfl⟩ : ∃ q, k = q + 1 := ⟨k - 1, by omega⟩
    have hil : i < cs.length := by omega
    have hci := hc cs[i] (List.getElem_mem hil)
    have hpl := parts_length l cs[i]
    have hps := parts_size h hl hci
    have hc60 := hci.2.2.1
    have et : (cs.take (i + 1)).map (cname l) = (cs.take i).map (cname l) ++ [cname l cs[i]] := by rw [take_s hil, List.map_append]; rfl
    have h4 : ((cs.take i).map (cname l)).length ≤ 1000 := by rw [List.length_map, List.length_take]; omega
    have hbS : bestS (parts l cs[i]) (parts l cs[i]).length = cname l cs[i] := by
      unfold bestS cname
      rw [if_neg (by have := hci.2.1; omega), hpl]
    refine ⟨?_, ?_⟩
    · rw [spec_mpName.l0, if_pos (by omega), if_pos (by omega), if_pos (by omega), rdL_at hil]
      refine name_l1 h ht ((cs.take i).map (cname l)) cs (cs.length : Int) (i : Int) hci _ (K0 * (d + 1) + (d + 1) * 100000 + 70 * 70) (fun k hk => ?_) cs[i] [] k rfl (by omega)
      have := name_l2 l (cycL l) ((cs.take i).map (cname l)) (parts l cs[i]) cs (cs.length : Int) i (by omega) (by omega) (by omega) h4 _ (K0 * (d + 1) + (d + 1) * 100000) (fun k hk => by
        have h2 := (name_l0 h hl ht cs hcs hc d (i + 1) k (by omega) hk).1
        rw [et] at h2
        rw [hbS]
        exact h2) 70 (by omega) (parts l cs[i]).length 0 k (by omega) (by
          have : ((parts l cs[i]).length + 1) * 70 ≤ 70 * 70 := Nat.mul_le_mul_right _ (by omega)
          omega)
      rw [hpl] at this
      exact this
    · rw [impl_nameOf.l0, if_pos (by omega), if_pos (by omega), if_pos (by omega), rdL_at hil]
      refine iname_l1 h hl ht ((cs.take i).map (cname l)) h4 cs (cs.length : Int) i (by omega) hci _ (K0 * (d + 1) + (d + 1) * 100000) (fun k hk => ?_) cs[i] [] k rfl (by omega)
      have h2 := (name_l0 h hl ht cs hcs hc d (i + 1) k (by omega) hk).2
      rw [et] at h2
      exact h2
theorem name_both {l : List Int} (h : MapL l) (hl : l.length ≤ 60) : ∃ K, ∀ k, K ≤ k → spec_mpName.f k l = some (nameL l) ∧ impl_nameOf.f k l = some (nameL l) := by
  obtain ⟨K0, ht⟩ := tree_ok h hl (l.length + 1)
  obtain ⟨K1, h1⟩ := mpCycles_eq (l := l) h hl
  obtain ⟨K2, h2⟩ := mpDepths_eq (l := l) h hl
  have hcl := cycs_length l l.length
  have hon : ∀ c ∈ cycs l l.length, OnCyc l c := fun c hc => by
    obtain ⟨i, hi, hld, rfl⟩ := mem_cycs.1 hc
    have hx : Has l (i : Int) := ⟨by omega, by omega⟩
    have hcy := lead_cyc hld
    refine ⟨cyL_nodup h hx hcy, ?_, ?_, fun y hy => ?_⟩
    · rw [cyL_length]; exact per_pos h hx
    · rw [cyL_length]; have := rA_lt h hx; omega
    · obtain ⟨a1, a2, a3⟩ := cyL_has h hx hcy hy
      exact ⟨a1, by simpa [cyc] using a2⟩
  refine ⟨K0 * ((cycs l l.length).length + 1) + ((cycs l l.length).length + 1) * 100000 + K1 + K2 + 1000, fun k hk => ?_⟩
  obtain ⟨e1, e2⟩ := name_l0 h hl ht (cycs l l.length) (by omega) hon (cycs l l.length).length 0 k (by omega) (by omega)
  refine ⟨?_, ?_⟩
  · rw [spec_mpName.f, (h2 k (by omega)).2, Option.bind_some, h1 k (by omega), Option.bind_some]
    exact e1
  · rw [impl_nameOf.f, depths_eq h hl (by omega), Option.bind_some, cycles_eq h hl (by omega), Option.bind_some]
    exact e2
theorem NameOfMap_both (l : List Int) (hl : l.length ≤ 1048576) : ∃ (K : Nat) (v : ByteArray × Bool), ∀ k, K ≤ k → spec_NameOfMap.f k l = some v ∧ impl_NameOfMap.f k l = some v := by
  cases hm : isMapB l with
  | false => exact ⟨l.length + 1, (⟨#[]⟩, false), fun k hk => ⟨by rw [spec_NameOfMap.f, mpGood_eq l hl (by omega), hm, Option.bind_some, if_neg (by decide)], by rw [impl_NameOfMap.f, IsMap_eq l hl, hm, Option.bind_some, if_neg (by decide)]⟩⟩
  | true =>
    obtain ⟨g1, g2, g3⟩ := isMap_range hm
    obtain ⟨K, hK⟩ := name_both (l := l) g3 g2
    exact ⟨K + l.length + 1, (nameL l, true), fun k hk => ⟨by rw [spec_NameOfMap.f, mpGood_eq l hl (by omega), hm, Option.bind_some, if_pos rfl, (hK k (by omega)).1, Option.bind_some], by rw [impl_NameOfMap.f, IsMap_eq l hl, hm, Option.bind_some, if_pos rfl, (hK k (by omega)).2, Option.bind_some]⟩⟩
theorem NameOfMap_law : laws_FnExactNameOfMap.Pure := by
  intro l _ _ _
  by_cases hl : (l.length : Int) > 1048576
  · exact ⟨0, by rw [laws_FnExactNameOfMap.f, if_pos hl]⟩
  obtain ⟨K0, v, h0⟩ := NameOfMap_both l (by omega)
  obtain ⟨K, hK⟩ : ∃ K, K = K0 + l.length + 1 := ⟨_, rfl⟩
  have hTl : ∀ k, K ≤ k → laws_toIntS.f k l = some l := fun k h => (law_facts l [] (by omega) (by simp) (show _ < k by simp; omega)).1
  have hEl : ∀ k, K ≤ k → laws_eqIntS.f k l l = some true := fun k h => (law_facts l [] (by omega) (by simp) (show _ < k by simp; omega)).2.1
  have e1 : ∀ k, K ≤ k → spec_NameOfMap.f k l = some v := fun k h => (h0 k (by omega)).1
  have e2 : ∀ k, K ≤ k → impl_NameOfMap.f k l = some v := fun k h => (h0 k (by omega)).2
  refine ⟨K + 9, ?_⟩
  simp [laws_FnExactNameOfMap.f, laws_FnExactNameOfMap.j0, e1, e2, hl, hTl, hEl]

end Go.Proofs.YtcaohpcbohdkbaaC
