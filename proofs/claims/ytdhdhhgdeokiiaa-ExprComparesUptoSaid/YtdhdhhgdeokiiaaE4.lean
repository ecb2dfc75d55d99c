/- Operators on values: the program's and the reference's alike. No condition. -/
import Derived.Test.YtdhdhhgdeokiiaaE3
set_option linter.unusedSimpArgs false
set_option linter.unusedVariables false
set_option maxRecDepth 10000
set_option maxHeartbeats 4000000
namespace Go.Proofs
open Go.Bi

def w64 (n : Int) : Int := IntKind.i64.wrap n
def nSm (n : Int) : Prop := -1125899906842624 ≤ n ∧ n ≤ 1125899906842624
theorem valid_n {v : Vl} (h : vValid v = true) : nSm v.n := by
  unfold vValid at h
  unfold nSm
  repeat' split at h
  all_goals simp at h
  all_goals omega
theorem valid_s {v : Vl} (h : vValid v = true) : v.s.length ≤ 200 := by
  unfold vValid at h
  repeat' split at h
  all_goals simp at h
  · rw [h.2]; simp
  · rw [h.1]; simp
  · exact h.1.2
  · rw [h.1]; simp
def vCol (l : List Vl) (i : Int) : Vl := vOrN (vAt l i)
theorem C.expr_column (l : List Vl) (hl : l.length ≤ 1048576) (hs : ∀ v ∈ l, v.s.length ≤ 1048576) (d : D) (hd : SlD d (eVs l)) (i : Int) : Pure Try.prog N.expr_column [.d d, .d (eI i)] (eV (vCol l i)) := by
  refine F.expr_column.go mixed rfl ?_
  have hP := C.tuple_Pick1 l (by omega) d hd i
  have hV := C.value_Valid (vAt l i) (by
    unfold vAt
    split
    · simp [vNull]
    · rw [List.getD_eq_getElem?_getD]
      cases h : l[i.toNat]? with
      | none => simp [vNull]
      | some v => have := hs v (List.mem_of_getElem? h); simp; omega)
  unfold vCol vOrN
  have hg : ([(vAt l i).ds] : List (List D))[(0 : Nat)]? = some (vAt l i).ds := rfl
  cases hv : vValid (vAt l i) with
  | true =>
    rw [hv] at hV
    repeat' first
      | refine st ?_
      | ((with_reducible apply go_i); (conv => whnf))
      | ((with_reducible apply k_pn); (· first | exact hP | exact hV))
      | ((with_reducible apply k_pc); (· first | exact hP | exact hV))
      | (with_reducible apply k_d <;> intro _)
      | (with_reducible apply k_b <;> intro _)
    all_goals rfl
  | false =>
    rw [hv] at hV
    repeat' first
      | refine st ?_
      | ((with_reducible apply go_i); (conv => whnf))
      | ((with_reducible apply k_pn); (· first | exact hP | exact hV | exact C.value_Null))
      | ((with_reducible apply k_pc); (· first | exact hP | exact hV | exact C.value_Null))
      | (with_reducible apply k_d <;> intro _)
      | (with_reducible apply k_b <;> intro _)
    all_goals rfl
theorem vAt_s {l : List Vl} (hs : ∀ v ∈ l, v.s.length ≤ 1048576) (i : Int) : (vAt l i).s.length ≤ 1048576 := by
  unfold vAt
  split
  · simp [vNull]
  · rw [List.getD_eq_getElem?_getD]
    cases h : l[i.toNat]? with
    | none => simp [vNull]
    | some v => exact hs v (List.mem_of_getElem? h)
def vLf (op n : Int) (v : Vl) (l : List Vl) : Vl := vOrN (if op = 2 then vAt l n else v)
theorem C.r11_leaf (op n : Int) (v : Vl) (name : List UInt8) (da : D) (hvs : v.s.length ≤ 1048576) (l : List Vl) (hl : l.length ≤ 1048576) (hs : ∀ v ∈ l, v.s.length ≤ 1048576) (d : D) (hd : SlD d (eVs l)) : Pure Try.prog N.bt_ref11_leaf [eX op n v name da, .d d] (eV (vLf op n v l)) := by
  refine F.bt_ref11_leaf.go mixed rfl ?_
  have hA := C.r8_At l (by omega) d hd n
  by_cases h : op = 2
  · have hV := C.r7_Valid (vAt l n) (by have := vAt_s hs n; omega)
    unfold vLf
    rw [if_pos h]
    unfold vOrN
    cases hv : vValid (vAt l n) with
    | true =>
      rw [hv] at hV
      repeat' first
        | refine st ?_
        | ((with_reducible apply go_i); (conv => whnf))
        | ((with_reducible apply k_pn); (· first | exact hA | exact hV))
        | ((with_reducible apply k_pc); (· first | exact hA | exact hV))
        | (with_reducible apply k_d <;> intro _)
        | (with_reducible apply k_b <;> intro _)
      all_goals rfl
    | false =>
      rw [hv] at hV
      repeat' first
        | refine st ?_
        | ((with_reducible apply go_i); (conv => whnf))
        | ((with_reducible apply k_pn); (· first | exact hA | exact hV | exact C.r7_Null))
        | ((with_reducible apply k_pc); (· first | exact hA | exact hV | exact C.r7_Null))
        | (with_reducible apply k_d <;> intro _)
        | (with_reducible apply k_b <;> intro _)
      all_goals rfl
  · have hV := C.r7_Valid v (by omega)
    unfold vLf
    rw [if_neg h]
    unfold vOrN
    cases hv : vValid v with
    | true =>
      rw [hv] at hV
      repeat' first
        | refine st ?_
        | ((with_reducible apply go_i); (conv => whnf))
        | ((with_reducible apply k_pn); (· first | exact hA | exact hV))
        | ((with_reducible apply k_pc); (· first | exact hA | exact hV))
        | (with_reducible apply k_d <;> intro _)
        | (with_reducible apply k_b <;> intro _)
      all_goals rfl
    | false =>
      rw [hv] at hV
      repeat' first
        | refine st ?_
        | ((with_reducible apply go_i); (conv => whnf))
        | ((with_reducible apply k_pn); (· first | exact hA | exact hV | exact C.r7_Null))
        | ((with_reducible apply k_pc); (· first | exact hA | exact hV | exact C.r7_Null))
        | (with_reducible apply k_d <;> intro _)
        | (with_reducible apply k_b <;> intro _)
      all_goals rfl
def vCp (op : Int) (a b : Vl) : Int := if op = 7 then vEq a b else if op = 8 then tNot (vEq a b) else if op = 9 then vLess a b else if op = 11 then vLess b a else if op = 10 then tNot (vLess b a) else tNot (vLess a b)
theorem C.expr_comparison (op : Int) (a b : Vl) : Pure Try.prog N.expr_comparison [.d (eI op), eV a, eV b] (.d (eI (vCp op a b))) := by
  refine F.expr_comparison.go mixed rfl ?_
  repeat' first
    | refine st ?_
    | ((with_reducible apply go_i); (conv => whnf))
    | ((with_reducible apply k_pn); (· first | exact C.value_Equal _ _ | exact C.value_Not _ | exact C.value_Less _ _))
    | ((with_reducible apply k_pc); (· first | exact C.value_Equal _ _ | exact C.value_Not _ | exact C.value_Less _ _))
    | (with_reducible apply k_d <;> intro _)
    | (with_reducible apply k_b <;> intro _)
  all_goals simp [vCp, *]
theorem C.r11_compared (op : Int) (a b : Vl) : Pure Try.prog N.bt_ref11_compared [.d (eI op), eV a, eV b] (.d (eI (vCp op a b))) := by
  refine F.bt_ref11_compared.go mixed rfl ?_
  repeat' first
    | refine st ?_
    | ((with_reducible apply go_i); (conv => whnf))
    | ((with_reducible apply k_pn); (· first | exact C.r7_Equal _ _ | exact C.r7_Not _ | exact C.r7_Less _ _))
    | ((with_reducible apply k_pc); (· first | exact C.r7_Equal _ _ | exact C.r7_Not _ | exact C.r7_Less _ _))
    | (with_reducible apply k_d <;> intro _)
    | (with_reducible apply k_b <;> intro _)
  all_goals simp [vCp, *]
def isK (l : List Vl) (k : Int) : Bool := l.all fun v => decide (v.k = k)
theorem C.r11_are (l : List Vl) (hl : l.length ≤ 1048576) (d : D) (hd : SlD d (eVs l)) (k : Int) : Pure Try.prog N.bt_ref11_are [.d d, .d (eI k)] (.d (.bool (isK l k))) := by
  refine F.bt_ref11_are.go mixed rfl ?_
  have h1 := eVs_len l
  have hm := eVs_mem l
  repeat' first
    | refine st ?_
    | ((with_reducible apply go_i); (conv => whnf))
    | (with_reducible apply k_d <;> intro _)
    | (with_reducible apply k_b <;> intro _)
  refine x_loop1 mixed Lt.bt_ref11_are_l0 Lk.bt_ref11_are_l0 (fun (i : Nat) => [.d (eI i)]) (fun i => []) (fun i => i ≤ l.length ∧ (l.take i).all (fun v => decide (v.k = k)) = true) (fun i => l.length - i) 0 rfl rfl rfl rfl (fun _ _ => ⟨rfl, rfl⟩) rfl ⟨by omega, rfl⟩ ?_
  repeat' first
    | refine st ?_
    | ((with_reducible apply go_i); (conv => whnf))
    | (with_reducible apply k_d <;> intro _)
    | (with_reducible apply k_b <;> intro _)
  intro i ⟨h2, h3⟩
  cases hx : l[i]? with
  | some v =>
    have hlt := (List.getElem?_eq_some_iff.1 hx).1
    have hg := eVs_get hx
    by_cases hk : v.k = k
    · repeat' first
        | refine st ?_
        | ((with_reducible apply go_i); (conv => whnf))
        | (with_reducible apply k_d <;> intro _)
        | (with_reducible apply k_b <;> intro _)
      refine ⟨i + 1, rfl, rfl, rfl, by omega, by omega, ?_⟩
      rw [all_take_succ hx, h3, decide_eq_true hk]; rfl
    · repeat' first
        | refine st ?_
        | ((with_reducible apply go_i); (conv => whnf))
        | (with_reducible apply k_d <;> intro _)
        | (with_reducible apply k_b <;> intro _)
      rw [isK, all_none hx (decide_eq_false hk)]
  | none =>
    have hge := List.getElem?_eq_none_iff.1 hx
    rw [List.take_of_length_le hge] at h3
    repeat' first
      | refine st ?_
      | ((with_reducible apply go_i); (conv => whnf))
      | (with_reducible apply k_d <;> intro _)
      | (with_reducible apply k_b <;> intro _)
    rw [isK, h3]
def vPr (a b : Int) : Vl := if a ≠ 0 ∧ w64 (Int.tdiv 1125899906842624 (max a (0 - a))) < max b (0 - b) then vNull else vInt (w64 (a * b))
theorem C.expr_product (a b : Int) (ha : nSm a) (hb : nSm b) : Pure Try.prog N.expr_product [.d (eI a), .d (eI b)] (eV (vPr a b)) := by
  refine F.expr_product.go mixed rfl ?_
  obtain ⟨a1, a2⟩ := ha
  obtain ⟨b1, b2⟩ := hb
  unfold vPr
  by_cases h0 : a = 0
  · rw [if_neg (by omega)]
    repeat' first
      | refine st ?_
      | ((with_reducible apply go_i); (conv => whnf))
      | ((with_reducible apply k_pn); (· first | exact C.value_Null | exact C.value_Int _))
      | ((with_reducible apply k_pc); (· first | exact C.value_Null | exact C.value_Int _))
      | (with_reducible apply k_d <;> intro _)
      | (with_reducible apply k_b <;> intro _)
    all_goals rfl
  · have hne : max a (0 - a) ≠ 0 := by omega
    by_cases h1 : w64 (Int.tdiv 1125899906842624 (max a (0 - a))) < max b (0 - b)
    · rw [if_pos ⟨h0, h1⟩]
      repeat' first
        | refine st ?_
        | ((with_reducible apply go_i); (conv => whnf))
        | ((with_reducible apply k_pn); (· first | exact C.value_Null | exact C.value_Int _))
        | ((with_reducible apply k_pc); (· first | exact C.value_Null | exact C.value_Int _))
        | (with_reducible apply k_d <;> intro _)
        | (with_reducible apply k_b <;> intro _)
      all_goals rfl
    · rw [if_neg (fun h => h1 h.2)]
      repeat' first
        | refine st ?_
        | ((with_reducible apply go_i); (conv => whnf))
        | ((with_reducible apply k_pn); (· first | exact C.value_Null | exact C.value_Int _))
        | ((with_reducible apply k_pc); (· first | exact C.value_Null | exact C.value_Int _))
        | (with_reducible apply k_d <;> intro _)
        | (with_reducible apply k_b <;> intro _)
      all_goals rfl
def vBin (op a b : Int) : Vl := if op = 13 then vInt (a + b) else if op = 14 then vInt (a - b) else if op = 15 then vPr a b else if b = 0 then vNull else if op = 16 then vInt (w64 (a.tdiv b)) else vInt (a.tmod b)
theorem C.r11_abs (a : Int) (ha : nSm a) : Pure Try.prog N.bt_ref11_abs [.d (eI a)] (.d (eI (max a (0 - a)))) := by
  refine F.bt_ref11_abs.go mixed rfl ?_
  obtain ⟨a1, a2⟩ := ha
  repeat' first
    | refine st ?_
    | ((with_reducible apply go_i); (conv => whnf))
    | (with_reducible apply k_d <;> intro _)
    | (with_reducible apply k_b <;> intro _)
theorem C.r11_computed (op a b : Int) (ha : nSm a) (hb : nSm b) : Pure Try.prog N.bt_ref11_computed [.d (eI op), .d (eI a), .d (eI b)] (eV (vBin op a b)) := by
  refine F.bt_ref11_computed.go mixed rfl ?_
  have hA := C.r11_abs a ha
  have hB := C.r11_abs b hb
  obtain ⟨a1, a2⟩ := ha
  obtain ⟨b1, b2⟩ := hb
  by_cases h13 : op = 13
  · subst h13
    repeat' first
      | refine st ?_
      | ((with_reducible apply go_i); (conv => whnf))
      | ((with_reducible apply k_pn); (· exact C.r7_Int _))
      | ((with_reducible apply k_pc); (· exact C.r7_Int _))
      | (with_reducible apply k_d <;> intro _)
      | (with_reducible apply k_b <;> intro _)
    all_goals rfl
  by_cases h14 : op = 14
  · subst h14
    repeat' first
      | refine st ?_
      | ((with_reducible apply go_i); (conv => whnf))
      | ((with_reducible apply k_pn); (· exact C.r7_Int _))
      | ((with_reducible apply k_pc); (· exact C.r7_Int _))
      | (with_reducible apply k_d <;> intro _)
      | (with_reducible apply k_b <;> intro _)
    all_goals rfl
  by_cases h15 : op = 15
  · subst h15
    show Go _
    have e : vBin 15 a b = vPr a b := rfl
    rw [e]
    unfold vPr
    by_cases h0 : a = 0
    · rw [if_neg (by omega)]
      repeat' first
        | refine st ?_
        | ((with_reducible apply go_i); (conv => whnf))
        | ((with_reducible apply k_pn); (· first | exact C.r7_Null | exact C.r7_Int _))
        | ((with_reducible apply k_pc); (· first | exact C.r7_Null | exact C.r7_Int _))
        | (with_reducible apply k_d <;> intro _)
        | (with_reducible apply k_b <;> intro _)
      all_goals rfl
    · have hne : max a (0 - a) ≠ 0 := by omega
      by_cases h1 : w64 (Int.tdiv 1125899906842624 (max a (0 - a))) < max b (0 - b)
      · rw [if_pos ⟨h0, h1⟩]
        repeat' first
          | refine st ?_
          | ((with_reducible apply go_i); (conv => whnf))
          | ((with_reducible apply k_pn); (· first | exact hA | exact hB | exact C.r7_Null | exact C.r7_Int _))
          | ((with_reducible apply k_pc); (· first | exact hA | exact hB | exact C.r7_Null | exact C.r7_Int _))
          | (with_reducible apply k_d <;> intro _)
          | (with_reducible apply k_b <;> intro _)
        all_goals rfl
      · rw [if_neg (fun h => h1 h.2)]
        repeat' first
          | refine st ?_
          | ((with_reducible apply go_i); (conv => whnf))
          | ((with_reducible apply k_pn); (· first | exact hA | exact hB | exact C.r7_Null | exact C.r7_Int _))
          | ((with_reducible apply k_pc); (· first | exact hA | exact hB | exact C.r7_Null | exact C.r7_Int _))
          | (with_reducible apply k_d <;> intro _)
          | (with_reducible apply k_b <;> intro _)
        all_goals rfl
  unfold vBin
  rw [if_neg h13, if_neg h14, if_neg h15]
  by_cases h0 : b = 0
  · rw [if_pos h0]
    repeat' first
      | refine st ?_
      | ((with_reducible apply go_i); (conv => whnf))
      | ((with_reducible apply k_pn); (· first | exact C.r7_Null | exact C.r7_Int _))
      | ((with_reducible apply k_pc); (· first | exact C.r7_Null | exact C.r7_Int _))
      | (with_reducible apply k_d <;> intro _)
      | (with_reducible apply k_b <;> intro _)
    all_goals rfl
  rw [if_neg h0]
  by_cases h16 : op = 16
  · rw [if_pos h16]
    repeat' first
      | refine st ?_
      | ((with_reducible apply go_i); (conv => whnf))
      | ((with_reducible apply k_pn); (· first | exact C.r7_Null | exact C.r7_Int _))
      | ((with_reducible apply k_pc); (· first | exact C.r7_Null | exact C.r7_Int _))
      | (with_reducible apply k_d <;> intro _)
      | (with_reducible apply k_b <;> intro _)
    all_goals rfl
  · rw [if_neg h16]
    repeat' first
      | refine st ?_
      | ((with_reducible apply go_i); (conv => whnf))
      | ((with_reducible apply k_pn); (· first | exact C.r7_Null | exact C.r7_Int _))
      | ((with_reducible apply k_pc); (· first | exact C.r7_Null | exact C.r7_Int _))
      | (with_reducible apply k_d <;> intro _)
      | (with_reducible apply k_b <;> intro _)
    all_goals rfl
end Go.Proofs
