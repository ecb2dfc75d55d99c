/- Operators on texts, integers and periods. No condition. -/
import Derived.Test.YtdhdhhgdeokiiaaE4
set_option linter.unusedSimpArgs false
set_option linter.unusedVariables false
set_option maxRecDepth 10000
set_option maxHeartbeats 4000000
namespace Go.Proofs
open Go.Bi

/-! ### Texts -/
def tCat (l : List Vl) : List UInt8 := (l.map Vl.s).flatten
theorem tCat_succ {l : List Vl} {i : Nat} {v : Vl} (h : l[i]? = some v) : tCat (l.take (i + 1)) = tCat (l.take i) ++ v.s := by
  unfold tCat
  rw [List.take_add_one, h]; simp
theorem tCat_le (l : List Vl) (hs : ∀ v ∈ l, v.s.length ≤ 200) : (tCat l).length ≤ 200 * l.length := by
  induction l with
  | nil => simp [tCat]
  | cons v l ih =>
    have h1 := hs v (by simp)
    have h2 := ih fun v hv => hs v (by simp [hv])
    have : tCat (v :: l) = v.s ++ tCat l := by simp [tCat]
    rw [this, List.length_append, List.length_cons]
    omega
def vTxt (op : Int) (l : List Vl) : Vl := if isK l 2 then (if op = 20 then vInt (tCat l).length else vText (tCat l)) else vNull
theorem C.expr_text (op : Int) (l : List Vl) (hl : l.length ≤ 1048576) (hs : ∀ v ∈ l, v.s.length ≤ 200) : Pure Try.prog N.expr_text [.d (eI op), .d (.sl (eVs l))] (eV (vTxt op l)) := by
  refine F.expr_text.go mixed rfl ?_
  have h1 := eVs_len l
  have hm := eVs_mem l
  have hT := C.value_Text (tCat l) (by have := tCat_le l hs; omega)
  repeat' first
    | refine st ?_
    | ((with_reducible apply go_i); (conv => whnf))
    | (with_reducible apply k_d <;> intro _)
    | (with_reducible apply k_b <;> intro _)
  refine x_loop3 mixed Lt.expr_text_l0 Lk.expr_text_l0 (fun (i : Nat) (n : Int) (s : List UInt8) => [.d (eI n), .d (.str s), .d (eI i)]) (fun i n s => [.cells [.d (eI 0), .d (eI 0), .d (.str [])]]) (fun i n s => i ≤ l.length ∧ isK (l.take i) 2 = true ∧ s = tCat (l.take i) ∧ n = s.length) (fun i _ _ => l.length - i) 0 0 [] rfl rfl rfl rfl (fun _ _ _ _ => ⟨rfl, rfl⟩) rfl ⟨by omega, rfl, rfl, rfl⟩ ?_
  repeat' first
    | refine st ?_
    | ((with_reducible apply go_i); (conv => whnf))
    | (with_reducible apply k_d <;> intro _)
    | (with_reducible apply k_b <;> intro _)
  intro i n s ⟨h2, h3, h4, h5⟩
  have h6 : s.length ≤ 200 * 1048576 := by
    rw [h4]
    have := tCat_le (l.take i) fun v hv => hs v (List.mem_of_mem_take hv)
    have h7 : (l.take i).length ≤ 1048576 := by rw [List.length_take]; omega
    omega
  cases hx : l[i]? with
  | some v =>
    have hlt := (List.getElem?_eq_some_iff.1 hx).1
    have hg := eVs_get hx
    have hv := hs v (List.mem_of_getElem? hx)
    by_cases hk : v.k = 2
    · repeat' first
        | refine st ?_
        | ((with_reducible apply go_i); (conv => whnf))
        | (with_reducible apply k_d <;> intro _)
        | (with_reducible apply k_b <;> intro _)
      refine ⟨i + 1, _, _, rfl, rfl, rfl, by omega, by omega, ?_, ?_, ?_⟩
      · rw [isK, all_take_succ hx]; rw [isK] at h3; rw [h3, decide_eq_true hk]; rfl
      · rw [tCat_succ hx, h4]
      · rw [h5]; simp
    · repeat' first
        | refine st ?_
        | ((with_reducible apply go_i); (conv => whnf))
        | ((with_reducible apply k_pn); (· exact C.value_Null))
        | ((with_reducible apply k_pc); (· exact C.value_Null))
        | (with_reducible apply k_d <;> intro _)
        | (with_reducible apply k_b <;> intro _)
      have : isK l 2 = false := all_none hx (decide_eq_false hk)
      rw [vTxt, this]; rfl
  | none =>
    have hge := List.getElem?_eq_none_iff.1 hx
    rw [List.take_of_length_le hge] at h3 h4
    unfold vTxt
    rw [h3, if_pos rfl]
    by_cases h20 : op = 20
    · rw [if_pos h20, ← h4, ← h5]
      repeat' first
        | refine st ?_
        | ((with_reducible apply go_i); (conv => whnf))
        | ((with_reducible apply k_pn); (· exact C.value_Int _))
        | ((with_reducible apply k_pc); (· exact C.value_Int _))
        | (with_reducible apply k_d <;> intro _)
        | (with_reducible apply k_b <;> intro _)
    · rw [if_neg h20]
      subst h4
      repeat' first
        | refine st ?_
        | ((with_reducible apply go_i); (conv => whnf))
        | ((with_reducible apply k_pn); (· exact hT))
        | ((with_reducible apply k_pc); (· exact hT))
        | (with_reducible apply k_d <;> intro _)
        | (with_reducible apply k_b <;> intro _)
theorem C.r11_texts19 (a b : Vl) (ha : a.s.length ≤ 200) (hb : b.s.length ≤ 200) : Pure Try.prog N.bt_ref11_texts [.d (eI 19), .d (.sl (eVs [a, b]))] (eV (vTxt 19 [a, b])) := by
  refine F.bt_ref11_texts.go mixed rfl ?_
  have hA := C.r11_are [a, b] (by simp) (.sl (eVs [a, b])) sld_sl 2
  have hT := C.r7_Text (a.s ++ b.s) (by simp; omega)
  have e : vTxt 19 [a, b] = if isK [a, b] 2 then vText (a.s ++ b.s) else vNull := by unfold vTxt tCat; simp
  rw [e]
  have hm := eVs_mem [a, b]
  have hg0 : (eVs [a, b])[(0 : Nat)]? = some a.ds := rfl
  have hg1 : (eVs [a, b])[(1 : Nat)]? = some b.ds := rfl
  have hln : (eVs [a, b]).length = 2 := rfl
  obtain ⟨es, hes⟩ : ∃ es, es = eVs [a, b] := ⟨_, rfl⟩
  rw [← hes] at hA hm hg0 hg1 hln ⊢
  cases hk : isK [a, b] 2 with
  | true =>
    rw [hk] at hA
    repeat' first
      | refine st ?_
      | ((with_reducible apply go_i); (conv => whnf))
      | ((with_reducible apply k_pn); (· first | exact hA | exact hT))
      | ((with_reducible apply k_pc); (· first | exact hA | exact hT))
      | (with_reducible apply k_d <;> intro _)
      | (with_reducible apply k_b <;> intro _)
    all_goals rfl
  | false =>
    rw [hk] at hA
    repeat' first
      | refine st ?_
      | ((with_reducible apply go_i); (conv => whnf))
      | ((with_reducible apply k_pn); (· first | exact hA | exact C.r7_Null))
      | ((with_reducible apply k_pc); (· first | exact hA | exact C.r7_Null))
      | (with_reducible apply k_d <;> intro _)
      | (with_reducible apply k_b <;> intro _)
    all_goals rfl
theorem C.r11_texts20 (a : Vl) (ha : a.s.length ≤ 200) : Pure Try.prog N.bt_ref11_texts [.d (eI 20), .d (.sl (eVs [a]))] (eV (vTxt 20 [a])) := by
  refine F.bt_ref11_texts.go mixed rfl ?_
  have hA := C.r11_are [a] (by simp) (.sl (eVs [a])) sld_sl 2
  have e : vTxt 20 [a] = if isK [a] 2 then vInt a.s.length else vNull := by unfold vTxt tCat; simp
  rw [e]
  have hm := eVs_mem [a]
  have hg0 : (eVs [a])[(0 : Nat)]? = some a.ds := rfl
  have hln : (eVs [a]).length = 1 := rfl
  obtain ⟨es, hes⟩ : ∃ es, es = eVs [a] := ⟨_, rfl⟩
  rw [← hes] at hA hm hg0 hln ⊢
  cases hk : isK [a] 2 with
  | true =>
    rw [hk] at hA
    repeat' first
      | refine st ?_
      | ((with_reducible apply go_i); (conv => whnf))
      | ((with_reducible apply k_pn); (· first | exact hA | exact C.r7_Int _))
      | ((with_reducible apply k_pc); (· first | exact hA | exact C.r7_Int _))
      | (with_reducible apply k_d <;> intro _)
      | (with_reducible apply k_b <;> intro _)
    all_goals rfl
  | false =>
    rw [hk] at hA
    repeat' first
      | refine st ?_
      | ((with_reducible apply go_i); (conv => whnf))
      | ((with_reducible apply k_pn); (· first | exact hA | exact C.r7_Null))
      | ((with_reducible apply k_pc); (· first | exact hA | exact C.r7_Null))
      | (with_reducible apply k_d <;> intro _)
      | (with_reducible apply k_b <;> intro _)
    all_goals rfl

/-! ### Integers -/
def vNeg (a : Int) : Vl := vInt (0 - a)
def vAr (op a b : Int) : Vl := if op = 18 then vNeg a else vBin op a b
def vAri (op : Int) (l : List Vl) : Vl := if isK l 1 then vAr op (l.getD 0 vNull).n (l.getD (l.length - 1) vNull).n else vNull
theorem C.expr_arithmetic (op : Int) (l : List Vl) (a b : Vl) (ha : l[0]? = some a) (hb : l[l.length - 1]? = some b) (hl : l.length ≤ 1048576) (hn : ∀ v ∈ l, nSm v.n) (hop : 13 ≤ op ∧ op ≤ 18) : Pure Try.prog N.expr_arithmetic [.d (eI op), .d (.sl (eVs l))] (eV (vAri op l)) := by
  refine F.expr_arithmetic.go mixed rfl ?_
  have h1 := eVs_len l
  have hm := eVs_mem l
  have hlp := (List.getElem?_eq_some_iff.1 ha).1
  have hg0 : (eVs l)[(0 : Nat)]? = some a.ds := eVs_get ha
  have hgz : (eVs l)[(((eVs l).length : Int) - 1).toNat]? = some b.ds := by
    rw [h1, show ((l.length : Int) - 1).toNat = l.length - 1 by omega]
    exact eVs_get hb
  have na := hn a (List.mem_of_getElem? ha)
  have nb := hn b (List.mem_of_getElem? hb)
  have hP := C.expr_product a.n b.n na nb
  have e : vAri op l = if isK l 1 then vAr op a.n b.n else vNull := by
    unfold vAri
    rw [List.getD_eq_getElem?_getD, List.getD_eq_getElem?_getD, ha, hb]; rfl
  rw [e]
  obtain ⟨na1, na2⟩ := na
  obtain ⟨nb1, nb2⟩ := nb
  repeat' first
    | refine st ?_
    | ((with_reducible apply go_i); (conv => whnf))
    | (with_reducible apply k_d <;> intro _)
    | (with_reducible apply k_b <;> intro _)
  refine x_loop1 mixed Lt.expr_arithmetic_l0 Lk.expr_arithmetic_l0 (fun (i : Nat) => [.d (eI i)]) (fun i => [.cells [.d (eI 0), .d (eI 0), .d (.str [])]]) (fun i => i ≤ l.length ∧ isK (l.take i) 1 = true) (fun i => l.length - i) 0 rfl rfl rfl rfl (fun _ _ => ⟨rfl, rfl⟩) rfl ⟨by omega, rfl⟩ ?_
  repeat' first
    | refine st ?_
    | ((with_reducible apply go_i); (conv => whnf))
    | (with_reducible apply k_d <;> intro _)
    | (with_reducible apply k_b <;> intro _)
  intro i ⟨h2, h3⟩
  cases hx : l[i]? with
  | some v =>
    have hlt := (List.getElem?_eq_some_iff.1 hx).1
    have hg := eVs_get hx
    by_cases hk : v.k = 1
    · repeat' first
        | refine st ?_
        | ((with_reducible apply go_i); (conv => whnf))
        | (with_reducible apply k_d <;> intro _)
        | (with_reducible apply k_b <;> intro _)
      refine ⟨i + 1, rfl, rfl, rfl, by omega, by omega, ?_⟩
      rw [isK, all_take_succ hx]; rw [isK] at h3; rw [h3, decide_eq_true hk]; rfl
    · repeat' first
        | refine st ?_
        | ((with_reducible apply go_i); (conv => whnf))
        | ((with_reducible apply k_pn); (· exact C.value_Null))
        | ((with_reducible apply k_pc); (· exact C.value_Null))
        | (with_reducible apply k_d <;> intro _)
        | (with_reducible apply k_b <;> intro _)
      have : isK l 1 = false := all_none hx (decide_eq_false hk)
      rw [this]; rfl
  | none =>
    have hge := List.getElem?_eq_none_iff.1 hx
    rw [List.take_of_length_le hge] at h3
    rw [h3, if_pos rfl]
    unfold vAr
    by_cases h18 : op = 18
    · rw [if_pos h18]
      subst h18
      repeat' first
        | refine st ?_
        | ((with_reducible apply go_i); (conv => whnf))
        | ((with_reducible apply k_pn); (· exact C.value_Int _))
        | ((with_reducible apply k_pc); (· exact C.value_Int _))
        | (with_reducible apply k_d <;> intro _)
        | (with_reducible apply k_b <;> intro _)
      rfl
    rw [if_neg h18]
    by_cases h13 : op = 13
    · subst h13
      repeat' first
        | refine st ?_
        | ((with_reducible apply go_i); (conv => whnf))
        | ((with_reducible apply k_pn); (· exact C.value_Int _))
        | ((with_reducible apply k_pc); (· exact C.value_Int _))
        | (with_reducible apply k_d <;> intro _)
        | (with_reducible apply k_b <;> intro _)
      rfl
    by_cases h14 : op = 14
    · subst h14
      repeat' first
        | refine st ?_
        | ((with_reducible apply go_i); (conv => whnf))
        | ((with_reducible apply k_pn); (· exact C.value_Int _))
        | ((with_reducible apply k_pc); (· exact C.value_Int _))
        | (with_reducible apply k_d <;> intro _)
        | (with_reducible apply k_b <;> intro _)
      rfl
    by_cases h15 : op = 15
    · subst h15
      repeat' first
        | refine st ?_
        | ((with_reducible apply go_i); (conv => whnf))
        | ((with_reducible apply k_pn); (· exact hP))
        | ((with_reducible apply k_pc); (· exact hP))
        | (with_reducible apply k_d <;> intro _)
        | (with_reducible apply k_b <;> intro _)
      rfl
    unfold vBin
    rw [if_neg h13, if_neg h14, if_neg h15]
    by_cases h0 : b.n = 0
    · rw [if_pos h0]
      repeat' first
        | refine st ?_
        | ((with_reducible apply go_i); (conv => whnf))
        | ((with_reducible apply k_pn); (· exact C.value_Null))
        | ((with_reducible apply k_pc); (· exact C.value_Null))
        | (with_reducible apply k_d <;> intro _)
        | (with_reducible apply k_b <;> intro _)
    rw [if_neg h0]
    by_cases h16 : op = 16
    · rw [if_pos h16]
      repeat' first
        | refine st ?_
        | ((with_reducible apply go_i); (conv => whnf))
        | ((with_reducible apply k_pn); (· exact C.value_Int _))
        | ((with_reducible apply k_pc); (· exact C.value_Int _))
        | (with_reducible apply k_d <;> intro _)
        | (with_reducible apply k_b <;> intro _)
      rfl
    · rw [if_neg h16]
      repeat' first
        | refine st ?_
        | ((with_reducible apply go_i); (conv => whnf))
        | ((with_reducible apply k_pn); (· exact C.value_Int _))
        | ((with_reducible apply k_pc); (· exact C.value_Int _))
        | (with_reducible apply k_d <;> intro _)
        | (with_reducible apply k_b <;> intro _)

/-! ### Periods -/
def isI2 (a b : Vl) : Bool := decide (a.k = 1) && decide (b.k = 1)
theorem C.expr_period (a b : Vl) : Pure Try.prog N.expr_period [eV a, eV b] (.tup [eP a.n b.n, .d (.bool (isI2 a b))]) := by
  refine F.expr_period.go mixed rfl ?_
  unfold isI2
  by_cases ha : a.k = 1
  · rw [decide_eq_true ha]
    repeat' first
      | refine st ?_
      | ((with_reducible apply go_i); (conv => whnf))
      | (with_reducible apply k_d <;> intro _)
      | (with_reducible apply k_b <;> intro _)
    all_goals rfl
  · rw [decide_eq_false ha]
    repeat' first
      | refine st ?_
      | ((with_reducible apply go_i); (conv => whnf))
      | (with_reducible apply k_d <;> intro _)
      | (with_reducible apply k_b <;> intro _)
    all_goals rfl
def vRel (r : Int) (a b c d : Vl) : Vl := if isK [a, b, c, d] 1 && (rel a.n b.n c.n d.n).2 then vBool (decide ((rel a.n b.n c.n d.n).1 = r)) else vNull
theorem isK4 (a b c d : Vl) : isK [a, b, c, d] 1 = (isI2 a b && isI2 c d) := by simp [isK, isI2, Bool.and_assoc]
theorem C.expr_related (r : Int) (a b c d : Vl) : Pure Try.prog N.expr_related [.d (eI r), .d (.sl (eVs [a, b, c, d]))] (eV (vRel r a b c d)) := by
  refine F.expr_related.go mixed rfl ?_
  have hm := eVs_mem [a, b, c, d]
  have hg0 : (eVs [a, b, c, d])[(0 : Nat)]? = some a.ds := rfl
  have hg1 : (eVs [a, b, c, d])[(1 : Nat)]? = some b.ds := rfl
  have hg2 : (eVs [a, b, c, d])[(2 : Nat)]? = some c.ds := rfl
  have hg3 : (eVs [a, b, c, d])[(3 : Nat)]? = some d.ds := rfl
  have hln : (eVs [a, b, c, d]).length = 4 := rfl
  have hR := C.allen_Relation a.n b.n c.n d.n
  have hP := C.expr_period a b
  have hQ := C.expr_period c d
  unfold vRel
  rw [isK4]
  obtain ⟨es, hes⟩ : ∃ es, es = eVs [a, b, c, d] := ⟨_, rfl⟩
  rw [← hes] at hm hg0 hg1 hg2 hg3 hln ⊢
  cases h1 : isI2 a b with
  | false =>
    rw [h1] at hP
    repeat' first
      | refine st ?_
      | ((with_reducible apply go_i); (conv => whnf))
      | ((with_reducible apply k_pn); (· first | exact hP | exact hQ | exact hR | exact C.value_Null))
      | ((with_reducible apply k_pc); (· first | exact hP | exact hQ | exact hR | exact C.value_Null))
      | (with_reducible apply k_d <;> intro _)
      | (with_reducible apply k_b <;> intro _)
    all_goals rfl
  | true =>
    rw [h1] at hP
    cases h2 : isI2 c d with
    | false =>
      rw [h2] at hQ
      repeat' first
        | refine st ?_
        | ((with_reducible apply go_i); (conv => whnf))
        | ((with_reducible apply k_pn); (· first | exact hP | exact hQ | exact hR | exact C.value_Null))
        | ((with_reducible apply k_pc); (· first | exact hP | exact hQ | exact hR | exact C.value_Null))
        | (with_reducible apply k_d <;> intro _)
        | (with_reducible apply k_b <;> intro _)
      all_goals rfl
    | true =>
      rw [h2] at hQ
      cases h3 : (rel a.n b.n c.n d.n).2 with
      | false =>
        rw [h3] at hR
        repeat' first
          | refine st ?_
          | ((with_reducible apply go_i); (conv => whnf))
          | ((with_reducible apply k_pn); (· first | exact hP | exact hQ | exact hR | exact C.value_Null))
          | ((with_reducible apply k_pc); (· first | exact hP | exact hQ | exact hR | exact C.value_Null))
          | (with_reducible apply k_d <;> intro _)
          | (with_reducible apply k_b <;> intro _)
        all_goals rfl
      | true =>
        rw [h3] at hR
        repeat' first
          | refine st ?_
          | ((with_reducible apply go_i); (conv => whnf))
          | ((with_reducible apply k_pn); (· first | exact hP | exact hQ | exact hR | exact C.value_Bool _))
          | ((with_reducible apply k_pc); (· first | exact hP | exact hQ | exact hR | exact C.value_Bool _))
          | (with_reducible apply k_d <;> intro _)
          | (with_reducible apply k_b <;> intro _)
        all_goals rfl
theorem C.r11_related (r : Int) (a b c d : Vl) : Pure Try.prog N.bt_ref11_related [.d (eI r), .d (.sl (eVs [a, b, c, d]))] (eV (vRel r a b c d)) := by
  refine F.bt_ref11_related.go mixed rfl ?_
  have hm := eVs_mem [a, b, c, d]
  have hg0 : (eVs [a, b, c, d])[(0 : Nat)]? = some a.ds := rfl
  have hg1 : (eVs [a, b, c, d])[(1 : Nat)]? = some b.ds := rfl
  have hg2 : (eVs [a, b, c, d])[(2 : Nat)]? = some c.ds := rfl
  have hg3 : (eVs [a, b, c, d])[(3 : Nat)]? = some d.ds := rfl
  have hln : (eVs [a, b, c, d]).length = 4 := rfl
  have hR := C.ref_Relation a.n b.n c.n d.n
  have hA := C.r11_are [a, b, c, d] (by simp) (.sl (eVs [a, b, c, d])) sld_sl 1
  unfold vRel
  obtain ⟨es, hes⟩ : ∃ es, es = eVs [a, b, c, d] := ⟨_, rfl⟩
  rw [← hes] at hm hg0 hg1 hg2 hg3 hln hA ⊢
  cases h1 : isK [a, b, c, d] 1 with
  | false =>
    rw [h1] at hA
    repeat' first
      | refine st ?_
      | ((with_reducible apply go_i); (conv => whnf))
      | ((with_reducible apply k_pn); (· first | exact hA | exact hR | exact C.r7_Null))
      | ((with_reducible apply k_pc); (· first | exact hA | exact hR | exact C.r7_Null))
      | (with_reducible apply k_d <;> intro _)
      | (with_reducible apply k_b <;> intro _)
    all_goals rfl
  | true =>
    rw [h1] at hA
    cases h3 : (rel a.n b.n c.n d.n).2 with
    | false =>
      rw [h3] at hR
      repeat' first
        | refine st ?_
        | ((with_reducible apply go_i); (conv => whnf))
        | ((with_reducible apply k_pn); (· first | exact hA | exact hR | exact C.r7_Null))
        | ((with_reducible apply k_pc); (· first | exact hA | exact hR | exact C.r7_Null))
        | (with_reducible apply k_d <;> intro _)
        | (with_reducible apply k_b <;> intro _)
      all_goals rfl
    | true =>
      rw [h3] at hR
      repeat' first
        | refine st ?_
        | ((with_reducible apply go_i); (conv => whnf))
        | ((with_reducible apply k_pn); (· first | exact hA | exact hR | exact C.r7_Bool _))
        | ((with_reducible apply k_pc); (· first | exact hA | exact hR | exact C.r7_Bool _))
        | (with_reducible apply k_d <;> intro _)
        | (with_reducible apply k_b <;> intro _)
      all_goals rfl
end Go.Proofs
