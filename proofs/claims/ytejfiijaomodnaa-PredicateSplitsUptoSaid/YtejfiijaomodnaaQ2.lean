/- Texts of this claim, joined. No condition. -/
import Derived.Test.YtejfiijaomodnaaQ1
section
/- Operators on texts, integers and periods. No condition. -/
set_option linter.unusedSimpArgs false
set_option linter.unusedVariables false
set_option maxRecDepth 10000
set_option maxHeartbeats 4000000
namespace Go.Proofs
open Go.Bi

/-! ### Texts -/
def tCat (l : List Vl) : List UInt8 := (l.map Vl.s).flatten
theorem tCat_succ {l : List Vl} {i : Nat} {v : Vl} (h : l[i]? = some v) : tCat (l.take (i + 1)) = tCat (l.take i) ++ v.s := by
  unfold tCat
  rw [List.take_add_one, h]; simp
theorem tCat_le (l : List Vl) (hs : ∀ v ∈ l, v.s.length ≤ 200) : (tCat l).length ≤ 200 * l.length := by
  induction l with
  | nil => simp [tCat]
  | cons v l ih =>
    have h1 := hs v (by simp)
    have h2 := ih fun v hv => hs v (by simp [hv])
    have : tCat (v :: l) = v.s ++ tCat l := by simp [tCat]
    rw [this, List.length_append, List.length_cons]
    omega
def vTxt (op : Int) (l : List Vl) : Vl := if isK l 2 then (if op = 20 then vInt (tCat l).length else vText (tCat l)) else vNull
theorem C.expr_text (op : Int) (l : List Vl) (hl : l.length ≤ 1048576) (hs : ∀ v ∈ l, v.s.length ≤ 200) : Pure Try.prog N.expr_text [.d (eI op), .d (.sl (eVs l))] (eV (vTxt op l)) := by
  refine F.expr_text.go mixed rfl ?_
  have h1 := eVs_len l
  have hm := eVs_mem l
  have hT := C.value_Text (tCat l) (by have := tCat_le l hs; omega)
  repeat' first
    | refine st ?_
    | ((with_reducible apply go_i); (conv => whnf))
    | (with_reducible apply k_d <;> intro _)
    | (with_reducible apply k_b <;> intro _)
  refine x_loop3 mixed Lt.expr_text_l0 Lk.expr_text_l0 (fun (i : Nat) (n : Int) (s : List UInt8) => [.d (eI n), .d (.str s), .d (eI i)]) (fun i n s => [.cells [.d (eI 0), .d (eI 0), .d (.str [])]]) (fun i n s => i ≤ l.length ∧ isK (l.take i) 2 = true ∧ s = tCat (l.take i) ∧ n = s.length) (fun i _ _ => l.length - i) 0 0 [] rfl rfl rfl rfl (fun _ _ _ _ => ⟨rfl, rfl⟩) rfl ⟨by omega, rfl, rfl, rfl⟩ ?_
  repeat' first
    | refine st ?_
    | ((with_reducible apply go_i); (conv => whnf))
    | (with_reducible apply k_d <;> intro _)
    | (with_reducible apply k_b <;> intro _)
  intro i n s ⟨h2, h3, h4, h5⟩
  have h6 : s.length ≤ 200 * 1048576 := by
    rw [h4]
    have := tCat_le (l.take i) fun v hv => hs v (List.mem_of_mem_take hv)
    have h7 : (l.take i).length ≤ 1048576 := by rw [List.length_take]; omega
    omega
  cases hx : l[i]? with
  | some v =>
    have hlt := (List.getElem?_eq_some_iff.1 hx).1
    have hg := eVs_get hx
    have hv := hs v (List.mem_of_getElem? hx)
    by_cases hk : v.k = 2
    · repeat' first
        | refine st ?_
        | ((with_reducible apply go_i); (conv => whnf))
        | (with_reducible apply k_d <;> intro _)
        | (with_reducible apply k_b <;> intro _)
      refine ⟨i + 1, _, _, rfl, rfl, rfl, by omega, by omega, ?_, ?_, ?_⟩
      · rw [isK, all_take_succ hx]; rw [isK] at h3; rw [h3, decide_eq_true hk]; rfl
      · rw [tCat_succ hx, h4]
      · rw [h5]; simp
    · repeat' first
        | refine st ?_
        | ((with_reducible apply go_i); (conv => whnf))
        | ((with_reducible apply k_pn); (· exact C.value_Null))
        | ((with_reducible apply k_pc); (· exact C.value_Null))
        | (with_reducible apply k_d <;> intro _)
        | (with_reducible apply k_b <;> intro _)
      have : isK l 2 = false := all_none hx (decide_eq_false hk)
      rw [vTxt, this]; rfl
  | none =>
    have hge := List.getElem?_eq_none_iff.1 hx
    rw [List.take_of_length_le hge] at h3 h4
    unfold vTxt
    rw [h3, if_pos rfl]
    by_cases h20 : op = 20
    · rw [if_pos h20, ← h4, ← h5]
      repeat' first
        | refine st ?_
        | ((with_reducible apply go_i); (conv => whnf))
        | ((with_reducible apply k_pn); (· exact C.value_Int _))
        | ((with_reducible apply k_pc); (· exact C.value_Int _))
        | (with_reducible apply k_d <;> intro _)
        | (with_reducible apply k_b <;> intro _)
    · rw [if_neg h20]
      subst h4
      repeat' first
        | refine st ?_
        | ((with_reducible apply go_i); (conv => whnf))
        | ((with_reducible apply k_pn); (· exact hT))
        | ((with_reducible apply k_pc); (· exact hT))
        | (with_reducible apply k_d <;> intro _)
        | (with_reducible apply k_b <;> intro _)
/-! ### Integers -/
def vNeg (a : Int) : Vl := vInt (0 - a)
def vAr (op a b : Int) : Vl := if op = 18 then vNeg a else vBin op a b
def vAri (op : Int) (l : List Vl) : Vl := if isK l 1 then vAr op (l.getD 0 vNull).n (l.getD (l.length - 1) vNull).n else vNull
theorem C.expr_arithmetic (op : Int) (l : List Vl) (a b : Vl) (ha : l[0]? = some a) (hb : l[l.length - 1]? = some b) (hl : l.length ≤ 1048576) (hn : ∀ v ∈ l, nSm v.n) (hop : 13 ≤ op ∧ op ≤ 18) : Pure Try.prog N.expr_arithmetic [.d (eI op), .d (.sl (eVs l))] (eV (vAri op l)) := by
  refine F.expr_arithmetic.go mixed rfl ?_
  have h1 := eVs_len l
  have hm := eVs_mem l
  have hlp := (List.getElem?_eq_some_iff.1 ha).1
  have hg0 : (eVs l)[(0 : Nat)]? = some a.ds := eVs_get ha
  have hgz : (eVs l)[(((eVs l).length : Int) - 1).toNat]? = some b.ds := by
    rw [h1, show ((l.length : Int) - 1).toNat = l.length - 1 by omega]
    exact eVs_get hb
  have na := hn a (List.mem_of_getElem? ha)
  have nb := hn b (List.mem_of_getElem? hb)
  have hP := C.expr_product a.n b.n na nb
  have e : vAri op l = if isK l 1 then vAr op a.n b.n else vNull := by
    unfold vAri
    rw [List.getD_eq_getElem?_getD, List.getD_eq_getElem?_getD, ha, hb]; rfl
  rw [e]
  obtain ⟨na1, na2⟩ := na
  obtain ⟨nb1, nb2⟩ := nb
  repeat' first
    | refine st ?_
    | ((with_reducible apply go_i); (conv => whnf))
    | (with_reducible apply k_d <;> intro _)
    | (with_reducible apply k_b <;> intro _)
  refine x_loop1 mixed Lt.expr_arithmetic_l0 Lk.expr_arithmetic_l0 (fun (i : Nat) => [.d (eI i)]) (fun i => [.cells [.d (eI 0), .d (eI 0), .d (.str [])]]) (fun i => i ≤ l.length ∧ isK (l.take i) 1 = true) (fun i => l.length - i) 0 rfl rfl rfl rfl (fun _ _ => ⟨rfl, rfl⟩) rfl ⟨by omega, rfl⟩ ?_
  repeat' first
    | refine st ?_
    | ((with_reducible apply go_i); (conv => whnf))
    | (with_reducible apply k_d <;> intro _)
    | (with_reducible apply k_b <;> intro _)
  intro i ⟨h2, h3⟩
  cases hx : l[i]? with
  | some v =>
    have hlt := (List.getElem?_eq_some_iff.1 hx).1
    have hg := eVs_get hx
    by_cases hk : v.k = 1
    · repeat' first
        | refine st ?_
        | ((with_reducible apply go_i); (conv => whnf))
        | (with_reducible apply k_d <;> intro _)
        | (with_reducible apply k_b <;> intro _)
      refine ⟨i + 1, rfl, rfl, rfl, by omega, by omega, ?_⟩
      rw [isK, all_take_succ hx]; rw [isK] at h3; rw [h3, decide_eq_true hk]; rfl
    · repeat' first
        | refine st ?_
        | ((with_reducible apply go_i); (conv => whnf))
        | ((with_reducible apply k_pn); (· exact C.value_Null))
        | ((with_reducible apply k_pc); (· exact C.value_Null))
        | (with_reducible apply k_d <;> intro _)
        | (with_reducible apply k_b <;> intro _)
      have : isK l 1 = false := all_none hx (decide_eq_false hk)
      rw [this]; rfl
  | none =>
    have hge := List.getElem?_eq_none_iff.1 hx
    rw [List.take_of_length_le hge] at h3
    rw [h3, if_pos rfl]
    unfold vAr
    by_cases h18 : op = 18
    · rw [if_pos h18]
      subst h18
      repeat' first
        | refine st ?_
        | ((with_reducible apply go_i); (conv => whnf))
        | ((with_reducible apply k_pn); (· exact C.value_Int _))
        | ((with_reducible apply k_pc); (· exact C.value_Int _))
        | (with_reducible apply k_d <;> intro _)
        | (with_reducible apply k_b <;> intro _)
      rfl
    rw [if_neg h18]
    by_cases h13 : op = 13
    · subst h13
      repeat' first
        | refine st ?_
        | ((with_reducible apply go_i); (conv => whnf))
        | ((with_reducible apply k_pn); (· exact C.value_Int _))
        | ((with_reducible apply k_pc); (· exact C.value_Int _))
        | (with_reducible apply k_d <;> intro _)
        | (with_reducible apply k_b <;> intro _)
      rfl
    by_cases h14 : op = 14
    · subst h14
      repeat' first
        | refine st ?_
        | ((with_reducible apply go_i); (conv => whnf))
        | ((with_reducible apply k_pn); (· exact C.value_Int _))
        | ((with_reducible apply k_pc); (· exact C.value_Int _))
        | (with_reducible apply k_d <;> intro _)
        | (with_reducible apply k_b <;> intro _)
      rfl
    by_cases h15 : op = 15
    · subst h15
      repeat' first
        | refine st ?_
        | ((with_reducible apply go_i); (conv => whnf))
        | ((with_reducible apply k_pn); (· exact hP))
        | ((with_reducible apply k_pc); (· exact hP))
        | (with_reducible apply k_d <;> intro _)
        | (with_reducible apply k_b <;> intro _)
      rfl
    unfold vBin
    rw [if_neg h13, if_neg h14, if_neg h15]
    by_cases h0 : b.n = 0
    · rw [if_pos h0]
      repeat' first
        | refine st ?_
        | ((with_reducible apply go_i); (conv => whnf))
        | ((with_reducible apply k_pn); (· exact C.value_Null))
        | ((with_reducible apply k_pc); (· exact C.value_Null))
        | (with_reducible apply k_d <;> intro _)
        | (with_reducible apply k_b <;> intro _)
    rw [if_neg h0]
    by_cases h16 : op = 16
    · rw [if_pos h16]
      repeat' first
        | refine st ?_
        | ((with_reducible apply go_i); (conv => whnf))
        | ((with_reducible apply k_pn); (· exact C.value_Int _))
        | ((with_reducible apply k_pc); (· exact C.value_Int _))
        | (with_reducible apply k_d <;> intro _)
        | (with_reducible apply k_b <;> intro _)
      rfl
    · rw [if_neg h16]
      repeat' first
        | refine st ?_
        | ((with_reducible apply go_i); (conv => whnf))
        | ((with_reducible apply k_pn); (· exact C.value_Int _))
        | ((with_reducible apply k_pc); (· exact C.value_Int _))
        | (with_reducible apply k_d <;> intro _)
        | (with_reducible apply k_b <;> intro _)

/-! ### Periods -/
def isI2 (a b : Vl) : Bool := decide (a.k = 1) && decide (b.k = 1)
theorem C.expr_period (a b : Vl) : Pure Try.prog N.expr_period [eV a, eV b] (.tup [eP a.n b.n, .d (.bool (isI2 a b))]) := by
  refine F.expr_period.go mixed rfl ?_
  unfold isI2
  by_cases ha : a.k = 1
  · rw [decide_eq_true ha]
    repeat' first
      | refine st ?_
      | ((with_reducible apply go_i); (conv => whnf))
      | (with_reducible apply k_d <;> intro _)
      | (with_reducible apply k_b <;> intro _)
    all_goals rfl
  · rw [decide_eq_false ha]
    repeat' first
      | refine st ?_
      | ((with_reducible apply go_i); (conv => whnf))
      | (with_reducible apply k_d <;> intro _)
      | (with_reducible apply k_b <;> intro _)
    all_goals rfl
def vRel (r : Int) (a b c d : Vl) : Vl := if isK [a, b, c, d] 1 && (rel a.n b.n c.n d.n).2 then vBool (decide ((rel a.n b.n c.n d.n).1 = r)) else vNull
theorem isK4 (a b c d : Vl) : isK [a, b, c, d] 1 = (isI2 a b && isI2 c d) := by simp [isK, isI2, Bool.and_assoc]
theorem C.expr_related (r : Int) (a b c d : Vl) : Pure Try.prog N.expr_related [.d (eI r), .d (.sl (eVs [a, b, c, d]))] (eV (vRel r a b c d)) := by
  refine F.expr_related.go mixed rfl ?_
  have hm := eVs_mem [a, b, c, d]
  have hg0 : (eVs [a, b, c, d])[(0 : Nat)]? = some a.ds := rfl
  have hg1 : (eVs [a, b, c, d])[(1 : Nat)]? = some b.ds := rfl
  have hg2 : (eVs [a, b, c, d])[(2 : Nat)]? = some c.ds := rfl
  have hg3 : (eVs [a, b, c, d])[(3 : Nat)]? = some d.ds := rfl
  have hln : (eVs [a, b, c, d]).length = 4 := rfl
  have hR := C.allen_Relation a.n b.n c.n d.n
  have hP := C.expr_period a b
  have hQ := C.expr_period c d
  unfold vRel
  rw [isK4]
  obtain ⟨es, hes⟩ : ∃ es, es = eVs [a, b, c, d] := ⟨_, rfl⟩
  rw [← hes] at hm hg0 hg1 hg2 hg3 hln ⊢
  cases h1 : isI2 a b with
  | false =>
    rw [h1] at hP
    repeat' first
      | refine st ?_
      | ((with_reducible apply go_i); (conv => whnf))
      | ((with_reducible apply k_pn); (· first | exact hP | exact hQ | exact hR | exact C.value_Null))
      | ((with_reducible apply k_pc); (· first | exact hP | exact hQ | exact hR | exact C.value_Null))
      | (with_reducible apply k_d <;> intro _)
      | (with_reducible apply k_b <;> intro _)
    all_goals rfl
  | true =>
    rw [h1] at hP
    cases h2 : isI2 c d with
    | false =>
      rw [h2] at hQ
      repeat' first
        | refine st ?_
        | ((with_reducible apply go_i); (conv => whnf))
        | ((with_reducible apply k_pn); (· first | exact hP | exact hQ | exact hR | exact C.value_Null))
        | ((with_reducible apply k_pc); (· first | exact hP | exact hQ | exact hR | exact C.value_Null))
        | (with_reducible apply k_d <;> intro _)
        | (with_reducible apply k_b <;> intro _)
      all_goals rfl
    | true =>
      rw [h2] at hQ
      cases h3 : (rel a.n b.n c.n d.n).2 with
      | false =>
        rw [h3] at hR
        repeat' first
          | refine st ?_
          | ((with_reducible apply go_i); (conv => whnf))
          | ((with_reducible apply k_pn); (· first | exact hP | exact hQ | exact hR | exact C.value_Null))
          | ((with_reducible apply k_pc); (· first | exact hP | exact hQ | exact hR | exact C.value_Null))
          | (with_reducible apply k_d <;> intro _)
          | (with_reducible apply k_b <;> intro _)
        all_goals rfl
      | true =>
        rw [h3] at hR
        repeat' first
          | refine st ?_
          | ((with_reducible apply go_i); (conv => whnf))
          | ((with_reducible apply k_pn); (· first | exact hP | exact hQ | exact hR | exact C.value_Bool _))
          | ((with_reducible apply k_pc); (· first | exact hP | exact hQ | exact hR | exact C.value_Bool _))
          | (with_reducible apply k_d <;> intro _)
          | (with_reducible apply k_b <;> intro _)
        all_goals rfl
end Go.Proofs
end
section
/- The value of an expression. No condition. -/
set_option linter.unusedSimpArgs false
set_option linter.unusedVariables false
set_option maxRecDepth 10000
set_option maxHeartbeats 4000000
namespace Go.Proofs
open Go.Bi

def coa : List Vl → Vl
  | [] => vNull
  | v :: l => if v.k = 0 then coa l else v
def evOp (op n : Int) (v : Vl) (l : List Vl) (row : List Vl) : Vl :=
  if op = 1 then v
  else if op = 2 then vCol row n
  else if op = 22 then (if vTruth (l.getD 0 vNull) = 2 then l.getD 1 vNull else l.getD 2 vNull)
  else if op = 4 then vOf (tNot (vTruth (l.getD 0 vNull)))
  else if op = 5 ∨ op = 6 then vOf (lgF op (l.getD 0 vNull) (l.drop 1))
  else if op = 21 then vBool (decide ((l.getD 0 vNull).k = 0))
  else if op = 23 then coa l
  else if op = 24 then vRel n (l.getD 0 vNull) (l.getD 1 vNull) (l.getD 2 vNull) (l.getD 3 vNull)
  else if op = 19 ∨ op = 20 then vTxt op l
  else if 13 ≤ op ∧ op ≤ 18 then vAri op l
  else vOf (vCp op (l.getD 0 vNull) (l.getD 1 vNull))
mutual
def ev (row : List Vl) : Ex → Vl
  | .mk op n v name nl args => if fmd op n v name args.length then evOp op n v (evs row args) row else vNull
def evs (row : List Vl) : List Ex → List Vl
  | [] => []
  | e :: es => ev row e :: evs row es
end
theorem evs_eq (row : List Vl) : ∀ l, evs row l = l.map (ev row)
  | [] => by simp [evs]
  | e :: es => by simp [evs, evs_eq row es]
theorem ev_mk (row : List Vl) (op n : Int) (v : Vl) (name : List UInt8) (nl : Bool) (args : List Ex) : ev row (.mk op n v name nl args) = if fmd op n v name args.length then evOp op n v (args.map (ev row)) row else vNull := by
  rw [ev, evs_eq]
theorem cnt_case {op : Int} {k : Nat} (h : (cnt op k).1 = true) : ((op = 1 ∨ op = 2) ∧ k = 0) ∨ ((op = 4 ∨ op = 18 ∨ op = 20 ∨ op = 21) ∧ k = 1) ∨ ((7 ≤ op ∧ op ≤ 17 ∨ op = 19) ∧ k = 2) ∨ ((op = 5 ∨ op = 6) ∧ 2 ≤ k) ∨ (op = 22 ∧ k = 3) ∨ (op = 23 ∧ 1 ≤ k) ∨ (op = 24 ∧ k = 4) := by
  unfold cnt at h
  repeat' split at h
  all_goals (simp at h)
  all_goals omega
theorem fmd_cnt {op n : Int} {v : Vl} {name : List UInt8} {k : Nat} (h : fmd op n v name k = true) : (cnt op k).1 = true := by
  unfold fmd at h
  simp only [Bool.and_eq_true] at h
  exact h.1.1
theorem fmd_1v {n : Int} {v : Vl} {name : List UInt8} {k : Nat} (h : fmd 1 n v name k = true) : vValid v = true := by
  unfold fmd at h
  simp only [Bool.and_eq_true, if_true] at h
  exact h.2.2
theorem vNull_valid : vValid vNull = true := by decide
theorem vOrN_valid (v : Vl) : vValid (vOrN v) = true := by
  unfold vOrN
  split
  · assumption
  · exact vNull_valid
theorem vBool_valid (b : Bool) : vValid (vBool b) = true := by cases b <;> decide
theorem vOf_valid (t : Int) : vValid (vOf t) = true := by
  unfold vOf
  split
  · exact vBool_valid _
  · split
    · exact vBool_valid _
    · exact vNull_valid
theorem vInt_valid (n : Int) : vValid (vInt n) = true := vOrN_valid _
theorem getD_valid {l : List Vl} (h : ∀ v ∈ l, vValid v = true) (i : Nat) : vValid (l.getD i vNull) = true := by
  rw [List.getD_eq_getElem?_getD]
  cases hx : l[i]? with
  | none => exact vNull_valid
  | some v => exact h v (List.mem_of_getElem? hx)
theorem coa_valid : ∀ {l : List Vl}, (∀ v ∈ l, vValid v = true) → vValid (coa l) = true
  | [], _ => vNull_valid
  | v :: l, h => by
    unfold coa
    split
    · exact coa_valid fun x hx => h x (by simp [hx])
    · exact h v (by simp)
theorem evOp_valid {op n : Int} {v : Vl} {l row : List Vl} (hl : ∀ v ∈ l, vValid v = true) (h1 : op = 1 → vValid v = true) : vValid (evOp op n v l row) = true := by
  unfold evOp
  split
  · rename_i h; exact h1 h
  split
  · exact vOrN_valid _
  split
  · split
    · exact getD_valid hl 1
    · exact getD_valid hl 2
  split
  · exact vOf_valid _
  split
  · exact vOf_valid _
  split
  · exact vBool_valid _
  split
  · exact coa_valid hl
  split
  · unfold vRel
    split
    · exact vBool_valid _
    · exact vNull_valid
  split
  · unfold vTxt
    split
    · split <;> exact vOrN_valid _
    · exact vNull_valid
  split
  · unfold vAri vAr vNeg vBin vPr
    repeat' split
    all_goals first | exact vOrN_valid _ | exact vNull_valid
  · exact vOf_valid _
theorem ev_valid (row : List Vl) : ∀ e, vValid (ev row e) = true := by
  refine Ex.ind fun op n v name nl args ih => ?_
  rw [ev_mk]
  split
  · rename_i h
    refine evOp_valid (fun w hw => ?_) (fun e => ?_)
    · obtain ⟨a, ha, rfl⟩ := List.mem_map.1 hw
      exact ih a ha
    · subst e; exact fmd_1v h
  · exact vNull_valid
theorem ev_s (row : List Vl) (e : Ex) : (ev row e).s.length ≤ 200 := valid_s (ev_valid row e)
theorem evs_s (row : List Vl) (args : List Ex) : ∀ v ∈ args.map (ev row), v.s.length ≤ 200 := fun v hv => by
  obtain ⟨a, _, rfl⟩ := List.mem_map.1 hv
  exact ev_s row a
theorem evs_n (row : List Vl) (args : List Ex) : ∀ v ∈ args.map (ev row), nSm v.n := fun v hv => by
  obtain ⟨a, _, rfl⟩ := List.mem_map.1 hv
  exact valid_n (ev_valid row a)
abbrev z3 : List D := [eI 0, eI 0, .str []]
def Lv (row : List Vl) (args : List Ex) (i : Nat) : List (List D) := eVs ((args.take i).map (ev row)) ++ List.replicate (args.length - i) z3
theorem Lv_len (row : List Vl) (args : List Ex) (i : Nat) (h : i ≤ args.length) : (Lv row args i).length = args.length := by
  unfold Lv
  rw [List.length_append, eVs_len, List.length_map, List.length_take, List.length_replicate]
  omega
theorem Lv_mem (row : List Vl) (args : List Ex) (i : Nat) : ∀ e ∈ Lv row args i, e.length = 3 := by
  intro e he
  rcases List.mem_append.1 he with h | h
  · exact eVs_mem _ e h
  · rw [List.eq_of_mem_replicate h]; rfl
theorem Lv_get {row : List Vl} {args : List Ex} {i : Nat} (h : i < args.length) : (Lv row args i)[i]? = some z3 := by
  unfold Lv
  rw [List.getElem?_append_right (by rw [eVs_len, List.length_map, List.length_take]; omega)]
  rw [eVs_len, List.length_map, List.length_take, List.getElem?_replicate, if_pos (by omega)]
theorem Lv_set {row : List Vl} {args : List Ex} {i : Nat} {x : Ex} (h : args[i]? = some x) : (Lv row args i).set i (ev row x).ds = Lv row args (i + 1) := by
  have hlt := (List.getElem?_eq_some_iff.1 h).1
  have hl : (eVs ((args.take i).map (ev row))).length = i := by rw [eVs_len, List.length_map, List.length_take]; omega
  unfold Lv
  rw [List.set_append_right _ _ (by omega), hl, Nat.sub_self]
  rw [show args.length - i = (args.length - (i + 1)) + 1 by omega, List.replicate_succ, List.set_cons_zero]
  rw [List.take_add_one, h]
  simp [eVs]
theorem Lv_end {row : List Vl} {args : List Ex} {i : Nat} (h : args.length ≤ i) : Lv row args i = eVs (args.map (ev row)) := by
  unfold Lv
  rw [List.take_of_length_le h, show args.length - i = 0 by omega]
  simp
theorem Lv_zero (row : List Vl) (args : List Ex) (n : Nat) (h : n = args.length) : List.replicate ((n : Int)).toNat z3 = Lv row args 0 := by
  unfold Lv
  subst h
  simp [eVs]
end Go.Proofs
end
section
/- Expressions mapped by closures: Shift, the program's and the reference's. No condition. -/
set_option linter.unusedSimpArgs false
set_option linter.unusedVariables false
set_option maxRecDepth 10000
set_option maxHeartbeats 4000000
namespace Go.Bi
/-- A nil slice in a variable becomes an array of our own without elements, ahead of a loop. -/
theorem x_nilc {P : Program} {n nb : Nat} {cd : IC} {N : Sl → List AO → Prop} {E0 : Nat → Sl → List AO → Prop} {R : Sl → List AO → Prop} {L : Sl} {os : List AO} (id off sz : Nat) (hsz : Nat.blt 0 sz = true) {cs : List AV} (ho : os[id]? = some (.cells cs)) (hn : cs[off]? = some (.d .nil))
    (k : LoopX P n nb cd N E0 R L ((os ++ [AO.arr [] sz 0 true]).set id (.cells (cs.set off (.arr os.length 0))))) : LoopX P n nb cd N E0 R L os := by
  have hw := weak_nilc (n := n) (nb := nb) (ρ := ofL L) (os := os) id off sz (Nat.lt_of_lt_of_le Nat.zero_lt_one (Nat.le_of_ble_eq_true hsz)) ho hn
  refine ⟨fun code hc c M G w a hR => ?_⟩
  obtain ⟨M', G', hR'⟩ := hw c M G w a hR
  exact k.h code hc c M' G' w a hR'
end Go.Bi
namespace Go.Proofs
open Go.Bi

theorem mG_ds (f : Nat → Nat) (ds : List D) : mG f (.agg (ds.map .d)) = .agg (ds.map .d) := by
  simp only [mG, List.map_map]
  congr 1
theorem mA_ds (f : Nat → Nat) (ds : List D) : mA f (.agg (ds.map .d)) = .agg (ds.map .d) := by
  simp only [mA, mG, List.map_map]
  congr 1
theorem bnd_ds (ds : List D) (n : Nat) : (AV.agg (ds.map .d)).bnd2 n := by
  intro c hc
  obtain ⟨x, _, rfl⟩ := List.mem_map.1 hc
  trivial
/-- A contract of a closure (or of what is handed one) over one captured variable, wherever that stands. -/
theorem liftA {g : FuncId} (a : AV) {x y : D} {r : AV} (ds : List D) (h : CallSpec Try.prog g [.agg (ds.map .d), a] [.cells [.d x]] (fun r' os' => r' = r ∧ os' = [.cells [.d y]])) (a' : Nat → AV) (ha : ∀ id n, mG (rn [id] n) a = a' id) (hba : a.bnd2 1) (hr : ∀ f, mA f r = r) {os : List AO} {id : Nat} (ho : os[id]? = some (.cells [.d x])) :
    CallSpec Try.prog g [.agg (ds.map .d), a' id] os (fun r' os' => r' = r ∧ os' = os.set id (.cells [.d y])) := by
  have := CallSpec.frame (K := fun r' os' => r' = r ∧ os' = os.set id (.cells [.d y])) h [id] os rfl (by simp) (fun i o hx => ?_) (fun z hz => ?_) (fun o hx => ?_) ?_
  · rw [List.map_cons, List.map_cons, List.map_nil, mG_ds, ha] at this; exact this
  · cases i with
    | zero => simp at hx; subst hx; exact ho
    | succ i => simp at hx
  · simp only [List.mem_cons, List.not_mem_nil, or_false] at hz
    rcases hz with rfl | rfl
    · exact bnd_ds _ _
    · exact hba
  · cases List.mem_singleton.1 hx
    simp [AO.bnd, AV.bnd1]
  · rintro _ _ ⟨rfl, rfl⟩
    refine ⟨hr _, ?_⟩
    simp [putA, mO, mC]
theorem liftP {g : FuncId} {x y : D} {r : AV} {ds : List D} (h : CallSpec Try.prog g [.agg (ds.map .d), .ptr 0 0] [.cells [.d x]] (fun r' os' => r' = r ∧ os' = [.cells [.d y]])) (hr : ∀ f, mA f r = r) {os : List AO} {id : Nat} (ho : os[id]? = some (.cells [.d x])) :
    CallSpec Try.prog g [.agg (ds.map .d), .ptr id 0] os (fun r' os' => r' = r ∧ os' = os.set id (.cells [.d y])) :=
  liftA _ _ h (fun id => .ptr id 0) (fun id n => rfl) (by simp [AV.bnd2, AV.bnd1]) hr ho
theorem liftF {g f : FuncId} {x y : D} {r : AV} {ds : List D} (h : CallSpec Try.prog g [.agg (ds.map .d), .clo f [0]] [.cells [.d x]] (fun r' os' => r' = r ∧ os' = [.cells [.d y]])) (hr : ∀ f, mA f r = r) {os : List AO} {id : Nat} (ho : os[id]? = some (.cells [.d x])) :
    CallSpec Try.prog g [.agg (ds.map .d), .clo f [id]] os (fun r' os' => r' = r ∧ os' = os.set id (.cells [.d y])) :=
  liftA _ _ h (fun id => .clo f [id]) (fun id n => rfl) (by simp [AV.bnd2, AV.bnd1]) hr ho

mutual
def mapX (φ : Ex → Ex) : Ex → Ex
  | .mk op n v nm nl args => if op = 2 then φ (.mk op n v nm true (mapXs φ args)) else .mk op n v nm true (mapXs φ args)
def mapXs (φ : Ex → Ex) : List Ex → List Ex
  | [] => []
  | a :: l => mapX φ a :: mapXs φ l
end
theorem mapXs_eq (φ : Ex → Ex) : ∀ l, mapXs φ l = l.map (mapX φ)
  | [] => by simp [mapXs]
  | a :: l => by simp [mapXs, mapXs_eq φ l]
theorem mapX_mk (φ : Ex → Ex) (op n : Int) (v : Vl) (nm : List UInt8) (nl : Bool) (args : List Ex) : mapX φ (.mk op n v nm nl args) = if op = 2 then φ (.mk op n v nm true (args.map (mapX φ))) else .mk op n v nm true (args.map (mapX φ)) := by
  rw [mapX, mapXs_eq]
def Mt (φ : Ex → Ex) (l : List Ex) (i : Nat) : List (List D) := xL ((l.take i).map φ)
theorem Mt_len (φ : Ex → Ex) (l : List Ex) (i : Nat) (h : i ≤ l.length) : (Mt φ l i).length = i := by
  unfold Mt
  rw [xL_len, List.length_map, List.length_take]
  omega
theorem Mt_mem (φ : Ex → Ex) (l : List Ex) (i : Nat) : ∀ e ∈ Mt φ l i, e.length = 7 := xL_mem _
theorem Mt_succ {φ : Ex → Ex} {l : List Ex} {i : Nat} {c : Ex} (h : l[i]? = some c) : Mt φ l i ++ [(φ c).ds] = Mt φ l (i + 1) := by
  unfold Mt
  rw [List.take_add_one, h]
  simp [xL]
theorem Mt_end {φ : Ex → Ex} {l : List Ex} {i : Nat} (h : l.length ≤ i) : Mt φ l i = xL (l.map φ) := by
  unfold Mt
  rw [List.take_of_length_le h]
theorem ng_true (l : List (List D)) : ng true l = if l.isEmpty then .nil else .sl l := by unfold ng; rw [Bool.true_and]
theorem C.expr_mapped (g : FuncId) (y : D) (φ : Ex → Ex) (hg : ∀ x : Ex, CallSpec Try.prog g [x.av, .ptr 0 0] [.cells [.d y]] (fun r os => r = (φ x).av ∧ os = [.cells [.d y]])) : ∀ e : Ex, e.bk ≤ 1048576 → CallSpec Try.prog N.expr_mapped [e.av, .clo g [0]] [.cells [.d y]] (fun r os => r = (mapX φ e).av ∧ os = [.cells [.d y]]) := by
  refine Ex.ind fun op n v nm nl args ih hb => ?_
  obtain ⟨b1, b2, b3, b4⟩ := Ex.bk_bounds hb
  obtain ⟨Z, hZ⟩ : ∃ Z, Z = (mapX φ (.mk op n v nm nl args)).av := ⟨_, rfl⟩
  rw [← hZ]
  rw [mapX_mk] at hZ
  rw [Ex.av_mk]
  refine F.expr_mapped.goX mixed rfl ?_
  have h1 := xL_len args
  have hm := xL_mem args
  obtain ⟨da, hda⟩ : ∃ d, d = ng nl (xL args) := ⟨_, rfl⟩
  have hsd : SlD da (xL args) := by rw [hda]; exact sld_ng
  rw [← hda]
  have r0 : v.k = v.k := rfl
  have r1 : v.s = v.s := rfl
  have r2 : nm = nm := rfl
  repeat' first
    | refine st ?_
    | ((with_reducible apply go_i); (conv => whnf))
    | (with_reducible apply k_d <;> intro _)
    | (with_reducible apply k_b <;> intro _)
  refine x_nil 5 7 rfl rfl ?_
  repeat' first
    | refine st ?_
    | ((with_reducible apply go_i); (conv => whnf))
    | (with_reducible apply k_d <;> intro _)
    | (with_reducible apply k_b <;> intro _)
  refine x_loop2 mixed Lt.expr_mapped_l0 Lk.expr_mapped_l0 (fun (i : Nat) (w : List (List D) × Bool) => [.arr 3 w.1.length, .d (eI i)]) (fun i w => [.cells [.d y], .cells [.d (eI op), .d (eI n), .d (eI v.k), .d (eI v.n), .d (.str v.s), .d (.str nm), .d da], .cells [.d (eI 0), .d (eI 0), .d (eI 0), .d (eI 0), .d (.str []), .d (.str []), .d .nil], .arr w.1 7 0 w.2]) (fun i w => i ≤ args.length ∧ w.1 = Mt (mapX φ) args i ∧ w.2 = w.1.isEmpty) (fun i _ => args.length - i) 0 ([], true) rfl rfl rfl rfl (fun _ _ _ => ⟨rfl, rfl⟩) rfl ⟨by omega, rfl, rfl⟩ ?_
  repeat' first
    | refine st ?_
    | ((with_reducible apply go_i); (conv => whnf))
    | (with_reducible apply k_d <;> intro _)
    | (with_reducible apply k_b <;> intro _)
  intro i w ⟨h4, h5, h6⟩
  obtain ⟨A, b⟩ := w
  dsimp only at h5 h6 ⊢
  have hAl : A.length = i := by rw [h5]; exact Mt_len _ args i (by omega)
  have hAm : ∀ e ∈ A, e.length = 7 := by rw [h5]; exact Mt_mem _ _ _
  cases hx : args[i]? with
  | some x =>
    have hlt := (List.getElem?_eq_some_iff.1 hx).1
    have hs := Mt_succ (φ := mapX φ) hx
    have hg := xL_get hx
    have hi := ih x (List.mem_of_getElem? hx) (b4 x (List.mem_of_getElem? hx))
    rw [← h5] at hs
    have hL : ∀ os : List AO, os[0]? = some (.cells [.d y]) → CallSpec Try.prog N.expr_mapped [x.av, .clo g [0]] os (fun r' os' => r' = (mapX φ x).av ∧ os' = os.set 0 (.cells [.d y])) := fun os ho => liftF (id := 0) hi (fun f => mA_ds f _) ho
    obtain ⟨z, hz⟩ : ∃ z, z = mapX φ x := ⟨_, rfl⟩
    rw [← hz] at hs hL
    obtain ⟨o1, n1, v1, m1, l1, a1⟩ := x
    obtain ⟨o2, n2, v2, m2, l2, a2⟩ := z
    rw [Ex.ds_mk] at hg hs
    simp only [Ex.av_mk] at hL
    repeat' first
      | refine st ?_
      | ((with_reducible apply go_i); (conv => whnf))
      | ((with_reducible apply k_nc); (· first | exact hL _ rfl); (try rintro _ _ ⟨rfl, rfl⟩))
      | ((with_reducible apply k_pr); (· first | exact hL _ rfl))
      | ((with_reducible apply k_cs); (· first | exact hL _ rfl); (try rintro _ _ ⟨rfl, rfl⟩))
      | ((with_reducible apply k_cal); refine st ?_; (with_reducible apply k_chk); (· exact rfl); refine st ?_; (with_reducible apply k_cs); (· first | exact hL _ rfl); (try rintro _ _ ⟨rfl, rfl⟩))
      | (with_reducible apply k_d <;> intro _)
      | (with_reducible apply k_b <;> intro _)
    exact ⟨i + 1, (A ++ [xds o2 n2 v2 m2 (ng l2 (xL a2))], false), rfl, rfl, rfl, by omega, by omega, hs, by simp⟩
  | none =>
    have hge := List.getElem?_eq_none_iff.1 hx
    rw [Mt_end hge] at h5
    have hx' : (Ex.mk op n v nm true (args.map (mapX φ))).av = eX op n v nm (if A.isEmpty then .nil else .sl A) := by rw [Ex.av_mk, ng_true, ← h5]
    have hφ : ∀ os : List AO, os[0]? = some (.cells [.d y]) → CallSpec Try.prog g [(Ex.mk op n v nm true (args.map (mapX φ))).av, .ptr 0 0] os (fun r' os' => r' = (φ (.mk op n v nm true (args.map (mapX φ)))).av ∧ os' = os.set 0 (.cells [.d y])) := fun os ho => liftP (id := 0) (hg _) (fun f => mA_ds f _) ho
    rw [← h6] at hx'
    by_cases h2 : op = 2
    · rw [if_pos h2] at hZ
      obtain ⟨z, hz⟩ : ∃ z, z = φ (.mk op n v nm true (args.map (mapX φ))) := ⟨_, rfl⟩
      rw [← hz] at hZ hφ
      rw [hx'] at hφ
      obtain ⟨o2, n2, v2, m2, l2, a2⟩ := z
      simp only [Ex.av_mk] at hZ hφ
      rw [hZ]
      cases b with
      | true =>
        rw [if_pos rfl] at hφ
        repeat' first
          | refine st ?_
          | ((with_reducible apply go_i); (conv => whnf))
          | ((with_reducible apply k_nc); (· first | exact hφ _ rfl); (try rintro _ _ ⟨rfl, rfl⟩))
          | ((with_reducible apply k_pr); (· first | exact hφ _ rfl))
          | ((with_reducible apply k_cs); (· first | exact hφ _ rfl); (try rintro _ _ ⟨rfl, rfl⟩))
          | ((with_reducible apply k_cal); refine st ?_; (with_reducible apply k_chk); (· exact rfl); refine st ?_; (with_reducible apply k_cs); (· first | exact hφ _ rfl); (try rintro _ _ ⟨rfl, rfl⟩))
          | (with_reducible apply k_d <;> intro _)
          | (with_reducible apply k_b <;> intro _)
        all_goals exact ⟨rfl, rfl⟩
      | false =>
        rw [if_neg (by simp)] at hφ
        repeat' first
          | refine st ?_
          | ((with_reducible apply go_i); (conv => whnf))
          | ((with_reducible apply k_nc); (· first | exact hφ _ rfl); (try rintro _ _ ⟨rfl, rfl⟩))
          | ((with_reducible apply k_pr); (· first | exact hφ _ rfl))
          | ((with_reducible apply k_cs); (· first | exact hφ _ rfl); (try rintro _ _ ⟨rfl, rfl⟩))
          | ((with_reducible apply k_cal); refine st ?_; (with_reducible apply k_chk); (· exact rfl); refine st ?_; (with_reducible apply k_cs); (· first | exact hφ _ rfl); (try rintro _ _ ⟨rfl, rfl⟩))
          | (with_reducible apply k_d <;> intro _)
          | (with_reducible apply k_b <;> intro _)
        all_goals exact ⟨rfl, rfl⟩
    · rw [if_neg h2, hx'] at hZ
      rw [hZ]
      cases b with
      | true =>
        repeat' first
          | refine st ?_
          | ((with_reducible apply go_i); (conv => whnf))
          | (with_reducible apply k_d <;> intro _)
          | (with_reducible apply k_b <;> intro _)
        all_goals exact ⟨rfl, rfl⟩
      | false =>
        repeat' first
          | refine st ?_
          | ((with_reducible apply go_i); (conv => whnf))
          | (with_reducible apply k_d <;> intro _)
          | (with_reducible apply k_b <;> intro _)
        all_goals exact ⟨rfl, rfl⟩
/-- Shift. -/
def shC (k : Int) : Ex → Ex
  | .mk op n v nm nl args => .mk op (w64 (n + k)) v nm nl args
def shf (k : Int) (e : Ex) : Ex := mapX (shC k) e
theorem C.Shift_c1 (k : Int) (x : Ex) : CallSpec Try.prog N.expr_Shift_c1 [x.av, .ptr 0 0] [.cells [.d (eI k)]] (fun r os => r = (shC k x).av ∧ os = [.cells [.d (eI k)]]) := by
  obtain ⟨op, n, v, nm, nl, args⟩ := x
  rw [shC, Ex.av_mk, Ex.av_mk]
  refine F.expr_Shift_c1.goX mixed rfl ?_
  repeat' first
    | refine st ?_
    | ((with_reducible apply go_i); (conv => whnf))
    | (with_reducible apply k_d <;> intro _)
    | (with_reducible apply k_b <;> intro _)
  all_goals exact ⟨rfl, rfl⟩
theorem C.expr_Shift (e : Ex) (he : e.bk ≤ 1048576) (k : Int) : Pure Try.prog N.expr_Shift [e.av, .d (eI k)] (shf k e).av := by
  have hM := C.expr_mapped N.expr_Shift_c1 (eI k) (shC k) (C.Shift_c1 k) e he
  have hL : ∀ os : List AO, os[1]? = some (.cells [.d (eI k)]) → CallSpec Try.prog N.expr_mapped [e.av, .clo N.expr_Shift_c1 [1]] os (fun r' os' => r' = (mapX (shC k) e).av ∧ os' = os.set 1 (.cells [.d (eI k)])) := fun os ho => liftF (id := 1) hM (fun f => mA_ds f _) ho
  unfold shf
  obtain ⟨z, hz⟩ : ∃ z, z = mapX (shC k) e := ⟨_, rfl⟩
  rw [← hz] at hL ⊢
  obtain ⟨o1, n1, v1, m1, l1, a1⟩ := e
  obtain ⟨o2, n2, v2, m2, l2, a2⟩ := z
  simp only [Ex.av_mk] at hL ⊢
  refine F.expr_Shift.go mixed rfl ?_
  repeat' first
    | refine st ?_
    | ((with_reducible apply go_i); (conv => whnf))
    | ((with_reducible apply k_nc); (· first | exact hL _ rfl); (try rintro _ _ ⟨rfl, rfl⟩))
    | ((with_reducible apply k_pr); (· first | exact hL _ rfl))
    | ((with_reducible apply k_cs); (· first | exact hL _ rfl); (try rintro _ _ ⟨rfl, rfl⟩))
    | ((with_reducible apply k_cal); refine st ?_; (with_reducible apply k_chk); (· exact rfl); refine st ?_; (with_reducible apply k_cs); (· first | exact hL _ rfl); (try rintro _ _ ⟨rfl, rfl⟩))
    | (with_reducible apply k_d <;> intro _)
    | (with_reducible apply k_b <;> intro _)
  all_goals rfl
theorem shf_mk (k op n : Int) (v : Vl) (nm : List UInt8) (nl : Bool) (args : List Ex) : shf k (.mk op n v nm nl args) = .mk op (if op = 2 then w64 (n + k) else n) v nm true (args.map (shf k)) := by
  unfold shf
  rw [mapX_mk]
  by_cases h : op = 2
  · rw [if_pos h, if_pos h]; rfl
  · rw [if_neg h, if_neg h]
theorem C.r11_Shift (k : Int) : ∀ e : Ex, e.bk ≤ 1048576 → Pure Try.prog N.bt_ref11_Shift [e.av, .d (eI k)] (shf k e).av := by
  refine Ex.ind fun op n v nm nl args ih hb => ?_
  obtain ⟨b1, b2, b3, b4⟩ := Ex.bk_bounds hb
  rw [shf_mk, Ex.av_mk]
  refine F.bt_ref11_Shift.go mixed rfl ?_
  have h1 := xL_len args
  have hm := xL_mem args
  obtain ⟨da, hda⟩ : ∃ d, d = ng nl (xL args) := ⟨_, rfl⟩
  have hsd : SlD da (xL args) := by rw [hda]; exact sld_ng
  rw [← hda]
  have r0 : v.k = v.k := rfl
  have r1 : v.s = v.s := rfl
  have r2 : nm = nm := rfl
  obtain ⟨n', hn'⟩ : ∃ n', n' = (if op = 2 then w64 (n + k) else n) := ⟨_, rfl⟩
  rw [← hn', Ex.av_mk, ng_true]
  by_cases h2 : op = 2
  · rw [if_pos h2] at hn'
    subst hn'
    repeat' first
      | refine st ?_
      | ((with_reducible apply go_i); (conv => whnf))
      | (with_reducible apply k_d <;> intro _)
      | (with_reducible apply k_b <;> intro _)
    refine x_nilc 2 6 7 rfl rfl rfl ?_
    refine x_loop2 mixed Lt.bt_ref11_Shift_l0 Lk.bt_ref11_Shift_l0 (fun (i : Nat) (w : List (List D) × Bool) => [.d (eI i)]) (fun i w => [.cells [.d (eI op), .d (eI n), .d (eI v.k), .d (eI v.n), .d (.str v.s), .d (.str nm), .d da], .cells [.d (eI 0), .d (eI 0), .d (eI 0), .d (eI 0), .d (.str []), .d (.str []), .d .nil], .cells [.d (eI op), .d (eI (w64 (n + k))), .d (eI v.k), .d (eI v.n), .d (.str v.s), .d (.str nm), .arr 3 w.1.length], .arr w.1 7 0 w.2]) (fun i w => i ≤ args.length ∧ w.1 = Mt (shf k) args i ∧ w.2 = w.1.isEmpty) (fun i _ => args.length - i) 0 ([], true) rfl rfl rfl rfl (fun _ _ _ => ⟨rfl, rfl⟩) rfl ⟨by omega, rfl, rfl⟩ ?_
    repeat' first
      | refine st ?_
      | ((with_reducible apply go_i); (conv => whnf))
      | (with_reducible apply k_d <;> intro _)
      | (with_reducible apply k_b <;> intro _)
    intro i w ⟨h4, h5, h6⟩
    obtain ⟨A, b⟩ := w
    dsimp only at h5 h6 ⊢
    have hAl : A.length = i := by rw [h5]; exact Mt_len _ args i (by omega)
    have hAm : ∀ e ∈ A, e.length = 7 := by rw [h5]; exact Mt_mem _ _ _
    cases hx : args[i]? with
    | some x =>
      have hlt := (List.getElem?_eq_some_iff.1 hx).1
      have hs := Mt_succ (φ := shf k) hx
      have hg := xL_get hx
      have hi := ih x (List.mem_of_getElem? hx) (b4 x (List.mem_of_getElem? hx))
      rw [← h5] at hs
      obtain ⟨z, hz⟩ : ∃ z, z = shf k x := ⟨_, rfl⟩
      rw [← hz] at hs hi
      obtain ⟨o1, n1, v1, m1, l1, a1⟩ := x
      obtain ⟨o2, n2, v2, m2, l2, a2⟩ := z
      rw [Ex.ds_mk] at hg hs
      rw [Ex.av_mk, Ex.av_mk] at hi
      repeat' first
        | refine st ?_
        | ((with_reducible apply go_i); (conv => whnf))
        | ((with_reducible apply k_pn); (· exact hi))
        | ((with_reducible apply k_pc); (· exact hi))
        | (with_reducible apply k_d <;> intro _)
        | (with_reducible apply k_b <;> intro _)
      exact ⟨i + 1, (A ++ [xds o2 n2 v2 m2 (ng l2 (xL a2))], false), rfl, rfl, rfl, by omega, by omega, hs, by simp⟩
    | none =>
      have hge := List.getElem?_eq_none_iff.1 hx
      rw [Mt_end hge] at h5
      rw [← h5, ← h6]
      cases b with
      | true =>
        rw [if_pos rfl]
        repeat' first
          | refine st ?_
          | ((with_reducible apply go_i); (conv => whnf))
          | (with_reducible apply k_d <;> intro _)
          | (with_reducible apply k_b <;> intro _)
        all_goals rfl
      | false =>
        rw [if_neg (by simp)]
        repeat' first
          | refine st ?_
          | ((with_reducible apply go_i); (conv => whnf))
          | (with_reducible apply k_d <;> intro _)
          | (with_reducible apply k_b <;> intro _)
        all_goals rfl
  · rw [if_neg h2] at hn'
    rw [hn']
    repeat' first
      | refine st ?_
      | ((with_reducible apply go_i); (conv => whnf))
      | (with_reducible apply k_d <;> intro _)
      | (with_reducible apply k_b <;> intro _)
    refine x_nilc 2 6 7 rfl rfl rfl ?_
    refine x_loop2 mixed Lt.bt_ref11_Shift_l0 Lk.bt_ref11_Shift_l0 (fun (i : Nat) (w : List (List D) × Bool) => [.d (eI i)]) (fun i w => [.cells [.d (eI op), .d (eI n), .d (eI v.k), .d (eI v.n), .d (.str v.s), .d (.str nm), .d da], .cells [.d (eI 0), .d (eI 0), .d (eI 0), .d (eI 0), .d (.str []), .d (.str []), .d .nil], .cells [.d (eI op), .d (eI n), .d (eI v.k), .d (eI v.n), .d (.str v.s), .d (.str nm), .arr 3 w.1.length], .arr w.1 7 0 w.2]) (fun i w => i ≤ args.length ∧ w.1 = Mt (shf k) args i ∧ w.2 = w.1.isEmpty) (fun i _ => args.length - i) 0 ([], true) rfl rfl rfl rfl (fun _ _ _ => ⟨rfl, rfl⟩) rfl ⟨by omega, rfl, rfl⟩ ?_
    repeat' first
      | refine st ?_
      | ((with_reducible apply go_i); (conv => whnf))
      | (with_reducible apply k_d <;> intro _)
      | (with_reducible apply k_b <;> intro _)
    intro i w ⟨h4, h5, h6⟩
    obtain ⟨A, b⟩ := w
    dsimp only at h5 h6 ⊢
    have hAl : A.length = i := by rw [h5]; exact Mt_len _ args i (by omega)
    have hAm : ∀ e ∈ A, e.length = 7 := by rw [h5]; exact Mt_mem _ _ _
    cases hx : args[i]? with
    | some x =>
      have hlt := (List.getElem?_eq_some_iff.1 hx).1
      have hs := Mt_succ (φ := shf k) hx
      have hg := xL_get hx
      have hi := ih x (List.mem_of_getElem? hx) (b4 x (List.mem_of_getElem? hx))
      rw [← h5] at hs
      obtain ⟨z, hz⟩ : ∃ z, z = shf k x := ⟨_, rfl⟩
      rw [← hz] at hs hi
      obtain ⟨o1, n1, v1, m1, l1, a1⟩ := x
      obtain ⟨o2, n2, v2, m2, l2, a2⟩ := z
      rw [Ex.ds_mk] at hg hs
      rw [Ex.av_mk, Ex.av_mk] at hi
      repeat' first
        | refine st ?_
        | ((with_reducible apply go_i); (conv => whnf))
        | ((with_reducible apply k_pn); (· exact hi))
        | ((with_reducible apply k_pc); (· exact hi))
        | (with_reducible apply k_d <;> intro _)
        | (with_reducible apply k_b <;> intro _)
      exact ⟨i + 1, (A ++ [xds o2 n2 v2 m2 (ng l2 (xL a2))], false), rfl, rfl, rfl, by omega, by omega, hs, by simp⟩
    | none =>
      have hge := List.getElem?_eq_none_iff.1 hx
      rw [Mt_end hge] at h5
      rw [← h5, ← h6]
      cases b with
      | true =>
        rw [if_pos rfl]
        repeat' first
          | refine st ?_
          | ((with_reducible apply go_i); (conv => whnf))
          | (with_reducible apply k_d <;> intro _)
          | (with_reducible apply k_b <;> intro _)
        all_goals rfl
      | false =>
        rw [if_neg (by simp)]
        repeat' first
          | refine st ?_
          | ((with_reducible apply go_i); (conv => whnf))
          | (with_reducible apply k_d <;> intro _)
          | (with_reducible apply k_b <;> intro _)
        all_goals rfl
end Go.Proofs
end
section
/- Conjuncts: what 'each' does with a closure. No condition. -/
set_option linter.unusedSimpArgs false
set_option linter.unusedVariables false
set_option maxRecDepth 10000
set_option maxHeartbeats 4000000
namespace Go.Bi
theorem mC_id {f : Nat → Nat} {k : Nat} (hf : ∀ i, i < k → f i = i) {c : AV} (h : c.bnd1 k) : mC f c = c := by
  cases c with
  | ptr id off => simp only [mC]; rw [hf id h]
  | aptr id len i off => simp only [mC]; rw [hf id h]
  | arr id len => simp only [mC]; rw [hf id h]
  | clo g caps =>
    simp only [mC]
    congr 1
    conv => rhs; rw [← List.map_id caps]
    exact List.map_congr_left fun i hi => hf i (h i hi)
  | iter id => simp only [mC]; rw [hf id h]
  | mp id => simp only [mC]; rw [hf id h]
  | mit id => simp only [mC]; rw [hf id h]
  | _ => rfl
theorem mG_id {f : Nat → Nat} {k : Nat} (hf : ∀ i, i < k → f i = i) {c : AV} (h : c.bnd2 k) : mG f c = c := by
  cases c with
  | agg cs =>
    simp only [mG]
    congr 1
    conv => rhs; rw [← List.map_id cs]
    exact List.map_congr_left fun c hc => mC_id hf (h c hc)
  | ptr id off => exact mC_id (c := .ptr id off) hf h
  | aptr id len i off => exact mC_id (c := .aptr id len i off) hf h
  | arr id len => exact mC_id (c := .arr id len) hf h
  | clo g caps => exact mC_id (c := .clo g caps) hf h
  | iter id => exact mC_id (c := .iter id) hf h
  | mp id => exact mC_id (c := .mp id) hf h
  | mit id => exact mC_id (c := .mit id) hf h
  | _ => rfl
theorem mO_id {f : Nat → Nat} {k : Nat} (hf : ∀ i, i < k → f i = i) {o : AO} (h : o.bnd k) : mO f o = o := by
  cases o with
  | cells cs =>
    simp only [mO]
    congr 1
    conv => rhs; rw [← List.map_id cs]
    exact List.map_congr_left fun c hc => mC_id hf (h c hc)
  | map kvs =>
    simp only [mO]
    congr 1
    conv => rhs; rw [← List.map_id kvs]
    exact List.map_congr_left fun p hp => by rw [mG_id hf (h p hp)]; rfl
  | mit m n s => simp only [mO]; rw [hf m h]
  | _ => rfl
/-- A contract over the first objects, among more. -/
theorem CallSpec.pre {P : Program} {g : FuncId} {args : List AV} {bs : List AO} {Q : AV → List AO → Prop} (h : CallSpec P g args bs Q) (rest : List AO) (hba : ∀ a ∈ args, a.bnd2 bs.length) (hbo : ∀ o ∈ bs, o.bnd bs.length) {K : AV → List AO → Prop}
    (hk : ∀ r bs', Q r bs' → bs'.length = bs.length ∧ (∀ o ∈ bs', o.bnd bs.length) ∧ (∀ f, mA f r = r) ∧ K r (bs' ++ rest)) : CallSpec P g args (bs ++ rest) K := by
  have hf : ∀ n i, i < bs.length → rn (List.range bs.length) n i = i := fun n i hi => by
    rw [rn_lt (by simpa using hi), List.getD_eq_getElem?_getD]
    simp [hi]
  have := CallSpec.frame (K := K) h (List.range bs.length) (bs ++ rest) (by simp) List.nodup_range (fun i o hx => ?_) hba hbo (fun r bs' hq => ?_)
  · have e : args.map (mG (rn (List.range bs.length) (bs ++ rest).length)) = args := by
      conv => rhs; rw [← List.map_id args]
      exact List.map_congr_left fun a ha => mG_id (hf _) (hba a ha)
    rwa [e] at this
  · have hi := (List.getElem?_eq_some_iff.1 hx).1
    have e := hf (bs ++ rest).length i hi
    rw [rn_lt (by simpa using hi)] at e
    rw [e, List.getElem?_append_left hi, hx, mO_id (hf _) (hbo o (List.mem_of_getElem? hx))]
  · obtain ⟨h1, h2, h3, h4⟩ := hk r bs' hq
    rw [h3]
    obtain ⟨g1, g2, g3, g4⟩ := putA_get (rn (List.range bs.length) (bs ++ rest).length) (List.range bs.length) bs' (bs ++ rest) List.nodup_range (fun s hs => by simp at hs ⊢; omega) (by simp [h1])
    have e : putA (rn (List.range bs.length) (bs ++ rest).length) (List.range bs.length) bs' (bs ++ rest) = bs' ++ rest := by
      refine List.ext_getElem? fun j => ?_
      rcases Nat.lt_or_ge j bs.length with hj | hj
      · have hb : bs'[j]? = some bs'[j] := List.getElem?_eq_getElem (by omega)
        rw [g1 j j _ (by simp [hj]) hb, List.getElem?_append_left (by omega), hb, mO_id (hf _) (h2 _ (List.mem_of_getElem? hb))]
      · rcases Nat.lt_or_ge j (bs ++ rest).length with hj2 | hj2
        · rw [g2 j hj2 (by simp; omega), List.getElem?_append_right hj, List.getElem?_append_right (by omega), h1]
        · rw [List.getElem?_eq_none (by rw [g4]; simp at hj2 ⊢; omega), List.getElem?_eq_none (by simp at hj2 ⊢; omega)]
    rw [e]
    exact h4
end Go.Bi
namespace Go.Proofs
open Go.Bi

def isAnd (op n : Int) (v : Vl) (nm : List UInt8) (k : Nat) : Bool := decide (op = 5 ∧ 2 ≤ k ∧ n = 0 ∧ nm = [] ∧ v = vNull)
mutual
/-- The conjuncts. -/
def cj : Ex → List Ex
  | .mk op n v nm nl args => if isAnd op n v nm args.length then cjs args else [.mk op n v nm nl args]
def cjs : List Ex → List Ex
  | [] => []
  | a :: l => cj a ++ cjs l
end
theorem cjs_eq : ∀ l, cjs l = l.flatMap cj
  | [] => by simp [cjs]
  | a :: l => by simp [cjs, cjs_eq l]
theorem cj_mk (op n : Int) (v : Vl) (nm : List UInt8) (nl : Bool) (args : List Ex) : cj (.mk op n v nm nl args) = if isAnd op n v nm args.length then args.flatMap cj else [.mk op n v nm nl args] := by rw [cj, cjs_eq]
theorem flatMap_len {l : List Ex} {f : Ex → List Ex} (h : ∀ a ∈ l, (f a).length ≤ a.bk) : (l.flatMap f).length ≤ bulkLL (xL l) := by
  induction l with
  | nil => simp
  | cons a l ih =>
    have h1 := h a (by simp)
    have h2 := ih fun b hb => h b (by simp [hb])
    rw [List.flatMap_cons, List.length_append]
    simp only [xL, List.map_cons, bulkLL]
    unfold Ex.bk at h1
    unfold xL at h2
    omega
theorem cj_len : ∀ e : Ex, (cj e).length ≤ e.bk := by
  refine Ex.ind fun op n v nm nl args ih => ?_
  have hb := Ex.bk_mk op n v nm nl args
  rw [cj_mk]
  split
  · have := flatMap_len ih
    omega
  · simp; omega
theorem cj_bk : ∀ e : Ex, ∀ x ∈ cj e, x.bk ≤ e.bk := by
  refine Ex.ind fun op n v nm nl args ih x hx => ?_
  rw [cj_mk] at hx
  split at hx
  · obtain ⟨a, ha, hxa⟩ := List.mem_flatMap.1 hx
    have := ih a ha x hxa
    have := Ex.bk_arg (op := op) (n := n) (v := v) (name := nm) (nl := nl) ha
    omega
  · simp at hx; subst hx; omega
theorem cjt_succ {l : List Ex} {i : Nat} {x : Ex} (h : l[i]? = some x) : (l.take (i + 1)).flatMap cj = (l.take i).flatMap cj ++ cj x := by
  rw [List.take_add_one, h]; simp
theorem cjd_succ {l : List Ex} {i : Nat} {x : Ex} (h : l[i]? = some x) : (l.drop i).flatMap cj = cj x ++ (l.drop (i + 1)).flatMap cj := by
  obtain ⟨hlt, he⟩ := List.getElem?_eq_some_iff.1 h
  rw [List.drop_eq_getElem_cons hlt, he]; simp
theorem cjt_len (l : List Ex) (i : Nat) : ((l.take i).flatMap cj).length ≤ bulkLL (xL l) := by
  have h1 : ((l.take i).flatMap cj).length ≤ (l.flatMap cj).length := by
    conv => rhs; rw [← List.take_append_drop i l, List.flatMap_append, List.length_append]
    omega
  have h2 := flatMap_len (l := l) (f := cj) (fun a _ => cj_len a)
  omega
theorem isAnd_t {op n : Int} {v : Vl} {nm : List UInt8} {k : Nat} (h : isAnd op n v nm k = true) : op = 5 ∧ 2 ≤ k ∧ n = 0 ∧ nm = [] ∧ v.k = 0 ∧ v.n = 0 ∧ v.s = [] := by
  unfold isAnd at h
  obtain ⟨h1, h2, h3, h4, h5⟩ := of_decide_eq_true h
  subst h5
  exact ⟨h1, h2, h3, h4, rfl, rfl, rfl⟩
theorem isAnd_f {op n : Int} {v : Vl} {nm : List UInt8} {k : Nat} (h : isAnd op n v nm k = false) (h1 : op = 5) (h2 : 2 ≤ k) (h3 : n = 0) (h4 : nm = []) (h5 : v.k = 0) (h6 : v.n = 0) (h7 : v.s = []) : False := by
  unfold isAnd at h
  have := of_decide_eq_false h
  exact this ⟨h1, h2, h3, h4, by cases v; simp_all [vNull]⟩

theorem C.each_l (g : FuncId) (sz : Nat) (f : List (List D) → Ex → List (List D)) (ok : Nat → List (List D) → Prop) (hg : ∀ x : Ex, x.bk ≤ 1048576 → ∀ (k : Nat) (s : List (List D)), ok (k + 1) s → ok k (f s x) ∧ CallSpec Try.prog g [x.av, .ptr 0 0] [.cells [.arr 1 s.length], .arr s sz 0 s.isEmpty] (fun r os => r = .tup [] ∧ os = [.cells [.arr 1 (f s x).length], .arr (f s x) sz 0 (f s x).isEmpty])) : ∀ e : Ex, e.bk ≤ 1048576 → ∀ (k : Nat) (s : List (List D)), ok (k + (cj e).length) s → ok k ((cj e).foldl f s) ∧ CallSpec Try.prog N.predicate_each [e.av, .clo g [0]] [.cells [.arr 1 s.length], .arr s sz 0 s.isEmpty] (fun r os => r = .tup [] ∧ os = [.cells [.arr 1 ((cj e).foldl f s).length], .arr ((cj e).foldl f s) sz 0 ((cj e).foldl f s).isEmpty]) := by
  have hP : ∀ x : Ex, x.bk ≤ 1048576 → ∀ (k : Nat) (s : List (List D)), ok (k + 1) s → ∀ rest, CallSpec Try.prog g [x.av, .ptr 0 0] ([.cells [.arr 1 s.length], .arr s sz 0 s.isEmpty] ++ rest) (fun r os => r = .tup [] ∧ os = [.cells [.arr 1 (f s x).length], .arr (f s x) sz 0 (f s x).isEmpty] ++ rest) := fun x hx k s hs rest =>
    CallSpec.pre (hg x hx k s hs).2 rest (by
      intro a ha
      simp only [List.mem_cons, List.not_mem_nil, or_false] at ha
      rcases ha with rfl | rfl
      · exact bnd_ds _ _
      all_goals simp [AV.bnd2, AV.bnd1]) (by intro o ho; simp at ho; (try rcases ho with rfl | rfl | rfl) <;> (try rcases ho with rfl | rfl) <;> (try subst ho) <;> simp [AO.bnd, AV.bnd1]) (by rintro r bs' ⟨rfl, rfl⟩; exact ⟨rfl, by intro o ho; simp at ho; (try rcases ho with rfl | rfl | rfl) <;> (try rcases ho with rfl | rfl) <;> (try subst ho) <;> simp [AO.bnd, AV.bnd1], fun f => rfl, rfl, rfl⟩)
  refine Ex.ind fun op n v nm nl args ih hb k s hs => ?_
  obtain ⟨b1, b2, b3, b4⟩ := Ex.bk_bounds hb
  have h1 := xL_len args
  have hm := xL_mem args
  have hP' := hP (.mk op n v nm nl args) hb k s
  have hg' := hg (.mk op n v nm nl args) hb k s
  rw [cj_mk] at hs ⊢
  rw [Ex.av_mk] at hP' ⊢
  obtain ⟨da, hda⟩ : ∃ d, d = ng nl (xL args) := ⟨_, rfl⟩
  have hsd : SlD da (xL args) := by rw [hda]; exact sld_ng
  rw [← hda] at hP' ⊢
  cases hA : isAnd op n v nm args.length with
  | false =>
    have hF := isAnd_f hA
    rw [hA, if_neg (by simp)] at hs
    rw [if_neg (by simp)]
    have hq := hP' hs
    rw [List.foldl_cons, List.foldl_nil]
    refine ⟨(hg' hs).1, ?_⟩
    refine F.predicate_each.goX mixed rfl ?_
    repeat' first
      | refine st ?_
      | ((with_reducible apply go_i); (conv => whnf))
      | ((with_reducible apply k_nc); (· first | exact hq _); (try rintro _ _ ⟨rfl, rfl⟩))
      | ((with_reducible apply k_pr); (· first | exact hq _))
      | ((with_reducible apply k_cs); (· first | exact hq _); (try rintro _ _ ⟨rfl, rfl⟩))
      | ((with_reducible apply k_cal); refine st ?_; (with_reducible apply k_chk); (· exact rfl); refine st ?_; (with_reducible apply k_cs); (· first | exact hq _); (try rintro _ _ ⟨rfl, rfl⟩))
      | (with_reducible apply k_d <;> intro _)
      | (with_reducible apply k_b <;> intro _)
    all_goals first | exact ⟨rfl, rfl⟩ | (exfalso; exact hF (by assumption) (by omega) (by assumption) (by assumption) (by assumption) (by assumption) (by assumption)) | (exfalso; simp_all; done)
  | true =>
    obtain ⟨c1, c2, c3, c4, c5, c6, c7⟩ := isAnd_t hA
    rw [hA, if_pos rfl] at hs
    rw [if_pos rfl]
    have key : ∀ i, i ≤ args.length → ok (k + ((args.drop i).flatMap cj).length) (((args.take i).flatMap cj).foldl f s) := by
      intro i
      induction i with
      | zero => intro _; simpa using hs
      | succ i ihi =>
        intro hi
        have hx : args[i]? = some args[i] := List.getElem?_eq_getElem (by omega)
        have hi' := ihi (by omega)
        rw [cjd_succ hx, List.length_append, show ∀ a b : Nat, k + (a + b) = k + b + a by intros; omega] at hi'
        rw [cjt_succ hx, List.foldl_append]
        exact (ih _ (List.mem_of_getElem? hx) (b4 _ (List.mem_of_getElem? hx)) _ _ hi').1
    have keyE := key args.length (Nat.le_refl _)
    rw [List.take_length, List.drop_length] at keyE
    refine ⟨keyE, ?_⟩
    refine F.predicate_each.goX mixed rfl ?_
    repeat' first
      | refine st ?_
      | ((with_reducible apply go_i); (conv => whnf))
      | (with_reducible apply k_d <;> intro _)
      | (with_reducible apply k_b <;> intro _)
    refine x_loop1 mixed Lt.predicate_each_l0 Lk.predicate_each_l0 (fun (i : Nat) => [.d (eI i)]) (fun i => [.cells [.arr 1 (((args.take i).flatMap cj).foldl f s).length], .arr (((args.take i).flatMap cj).foldl f s) sz 0 (((args.take i).flatMap cj).foldl f s).isEmpty] ++ [.cells [.d (eI op), .d (eI n), .d (eI v.k), .d (eI v.n), .d (.str v.s), .d (.str nm), .d da]]) (fun i => i ≤ args.length) (fun i => args.length - i) 0 rfl rfl rfl rfl (fun _ _ => ⟨rfl, rfl⟩) rfl (Nat.zero_le _) ?_
    repeat' first
      | refine st ?_
      | ((with_reducible apply go_i); (conv => whnf))
      | (with_reducible apply k_d <;> intro _)
      | (with_reducible apply k_b <;> intro _)
    intro i h4
    obtain ⟨t, ht⟩ : ∃ t, t = ((args.take i).flatMap cj).foldl f s := ⟨_, rfl⟩
    have hkt := key i h4
    rw [← ht] at hkt ⊢
    cases hx : args[i]? with
    | some x =>
      have hlt := (List.getElem?_eq_some_iff.1 hx).1
      have hgx := xL_get hx
      have hxm := List.mem_of_getElem? hx
      rw [cjd_succ hx, List.length_append, show ∀ a b : Nat, k + (a + b) = k + b + a by intros; omega] at hkt
      have hi := ih x hxm (b4 x hxm) _ t hkt
      have hn : ((args.take (i + 1)).flatMap cj).foldl f s = (cj x).foldl f t := by rw [cjt_succ hx, List.foldl_append, ht]
      have hL : ∀ rest, CallSpec Try.prog N.predicate_each [x.av, .clo g [0]] ([.cells [.arr 1 t.length], .arr t sz 0 t.isEmpty] ++ rest) (fun r os => r = .tup [] ∧ os = [.cells [.arr 1 (((args.take (i + 1)).flatMap cj).foldl f s).length], .arr (((args.take (i + 1)).flatMap cj).foldl f s) sz 0 (((args.take (i + 1)).flatMap cj).foldl f s).isEmpty] ++ rest) := fun rest => by
        rw [hn]
        exact CallSpec.pre hi.2 rest (by
          intro a ha
          simp only [List.mem_cons, List.not_mem_nil, or_false] at ha
          rcases ha with rfl | rfl
          · exact bnd_ds _ _
          · simp [AV.bnd2, AV.bnd1]) (by intro o ho; simp at ho; (try rcases ho with rfl | rfl | rfl) <;> (try rcases ho with rfl | rfl) <;> (try subst ho) <;> simp [AO.bnd, AV.bnd1]) (by rintro r bs' ⟨rfl, rfl⟩; exact ⟨rfl, by intro o ho; simp at ho; (try rcases ho with rfl | rfl | rfl) <;> (try rcases ho with rfl | rfl) <;> (try subst ho) <;> simp [AO.bnd, AV.bnd1], fun f => rfl, rfl, rfl⟩)
      obtain ⟨o1, n1, v1, m1, l1, a1⟩ := x
      rw [Ex.ds_mk] at hgx
      simp only [Ex.av_mk] at hL
      repeat' first
        | refine st ?_
        | ((with_reducible apply go_i); (conv => whnf))
        | ((with_reducible apply k_nc); (· first | exact hL _); (try rintro _ _ ⟨rfl, rfl⟩))
        | ((with_reducible apply k_pr); (· first | exact hL _))
        | ((with_reducible apply k_cs); (· first | exact hL _); (try rintro _ _ ⟨rfl, rfl⟩))
        | ((with_reducible apply k_cal); refine st ?_; (with_reducible apply k_chk); (· exact rfl); refine st ?_; (with_reducible apply k_cs); (· first | exact hL _); (try rintro _ _ ⟨rfl, rfl⟩))
        | (with_reducible apply k_d <;> intro _)
        | (with_reducible apply k_b <;> intro _)
      exact ⟨i + 1, rfl, rfl, rfl, by omega, by omega⟩
    | none =>
      have hge := List.getElem?_eq_none_iff.1 hx
      rw [List.take_of_length_le hge] at ht
      rw [← ht]
      repeat' first
        | refine st ?_
        | ((with_reducible apply go_i); (conv => whnf))
        | (with_reducible apply k_d <;> intro _)
        | (with_reducible apply k_b <;> intro _)
      all_goals exact ⟨rfl, rfl⟩

theorem C.each_d (g : FuncId)  (f : D → Ex → D) (ok : Nat → D → Prop) (hg : ∀ x : Ex, x.bk ≤ 1048576 → ∀ (k : Nat) (s : D), ok (k + 1) s → ok k (f s x) ∧ CallSpec Try.prog g [x.av, .ptr 0 0] [.cells [.d s]] (fun r os => r = .tup [] ∧ os = [.cells [.d (f s x)]])) : ∀ e : Ex, e.bk ≤ 1048576 → ∀ (k : Nat) (s : D), ok (k + (cj e).length) s → ok k ((cj e).foldl f s) ∧ CallSpec Try.prog N.predicate_each [e.av, .clo g [0]] [.cells [.d s]] (fun r os => r = .tup [] ∧ os = [.cells [.d ((cj e).foldl f s)]]) := by
  have hP : ∀ x : Ex, x.bk ≤ 1048576 → ∀ (k : Nat) (s : D), ok (k + 1) s → ∀ rest, CallSpec Try.prog g [x.av, .ptr 0 0] ([.cells [.d s]] ++ rest) (fun r os => r = .tup [] ∧ os = [.cells [.d (f s x)]] ++ rest) := fun x hx k s hs rest =>
    CallSpec.pre (hg x hx k s hs).2 rest (by
      intro a ha
      simp only [List.mem_cons, List.not_mem_nil, or_false] at ha
      rcases ha with rfl | rfl
      · exact bnd_ds _ _
      all_goals simp [AV.bnd2, AV.bnd1]) (by intro o ho; simp at ho; (try rcases ho with rfl | rfl | rfl) <;> (try rcases ho with rfl | rfl) <;> (try subst ho) <;> simp [AO.bnd, AV.bnd1]) (by rintro r bs' ⟨rfl, rfl⟩; exact ⟨rfl, by intro o ho; simp at ho; (try rcases ho with rfl | rfl | rfl) <;> (try rcases ho with rfl | rfl) <;> (try subst ho) <;> simp [AO.bnd, AV.bnd1], fun f => rfl, rfl, rfl⟩)
  refine Ex.ind fun op n v nm nl args ih hb k s hs => ?_
  obtain ⟨b1, b2, b3, b4⟩ := Ex.bk_bounds hb
  have h1 := xL_len args
  have hm := xL_mem args
  have hP' := hP (.mk op n v nm nl args) hb k s
  have hg' := hg (.mk op n v nm nl args) hb k s
  rw [cj_mk] at hs ⊢
  rw [Ex.av_mk] at hP' ⊢
  obtain ⟨da, hda⟩ : ∃ d, d = ng nl (xL args) := ⟨_, rfl⟩
  have hsd : SlD da (xL args) := by rw [hda]; exact sld_ng
  rw [← hda] at hP' ⊢
  cases hA : isAnd op n v nm args.length with
  | false =>
    have hF := isAnd_f hA
    rw [hA, if_neg (by simp)] at hs
    rw [if_neg (by simp)]
    have hq := hP' hs
    rw [List.foldl_cons, List.foldl_nil]
    refine ⟨(hg' hs).1, ?_⟩
    refine F.predicate_each.goX mixed rfl ?_
    repeat' first
      | refine st ?_
      | ((with_reducible apply go_i); (conv => whnf))
      | ((with_reducible apply k_nc); (· first | exact hq _); (try rintro _ _ ⟨rfl, rfl⟩))
      | ((with_reducible apply k_pr); (· first | exact hq _))
      | ((with_reducible apply k_cs); (· first | exact hq _); (try rintro _ _ ⟨rfl, rfl⟩))
      | ((with_reducible apply k_cal); refine st ?_; (with_reducible apply k_chk); (· exact rfl); refine st ?_; (with_reducible apply k_cs); (· first | exact hq _); (try rintro _ _ ⟨rfl, rfl⟩))
      | (with_reducible apply k_d <;> intro _)
      | (with_reducible apply k_b <;> intro _)
    all_goals first | exact ⟨rfl, rfl⟩ | (exfalso; exact hF (by assumption) (by omega) (by assumption) (by assumption) (by assumption) (by assumption) (by assumption)) | (exfalso; simp_all; done)
  | true =>
    obtain ⟨c1, c2, c3, c4, c5, c6, c7⟩ := isAnd_t hA
    rw [hA, if_pos rfl] at hs
    rw [if_pos rfl]
    have key : ∀ i, i ≤ args.length → ok (k + ((args.drop i).flatMap cj).length) (((args.take i).flatMap cj).foldl f s) := by
      intro i
      induction i with
      | zero => intro _; simpa using hs
      | succ i ihi =>
        intro hi
        have hx : args[i]? = some args[i] := List.getElem?_eq_getElem (by omega)
        have hi' := ihi (by omega)
        rw [cjd_succ hx, List.length_append, show ∀ a b : Nat, k + (a + b) = k + b + a by intros; omega] at hi'
        rw [cjt_succ hx, List.foldl_append]
        exact (ih _ (List.mem_of_getElem? hx) (b4 _ (List.mem_of_getElem? hx)) _ _ hi').1
    have keyE := key args.length (Nat.le_refl _)
    rw [List.take_length, List.drop_length] at keyE
    refine ⟨keyE, ?_⟩
    refine F.predicate_each.goX mixed rfl ?_
    repeat' first
      | refine st ?_
      | ((with_reducible apply go_i); (conv => whnf))
      | (with_reducible apply k_d <;> intro _)
      | (with_reducible apply k_b <;> intro _)
    refine x_loop1 mixed Lt.predicate_each_l0 Lk.predicate_each_l0 (fun (i : Nat) => [.d (eI i)]) (fun i => [.cells [.d (((args.take i).flatMap cj).foldl f s)]] ++ [.cells [.d (eI op), .d (eI n), .d (eI v.k), .d (eI v.n), .d (.str v.s), .d (.str nm), .d da]]) (fun i => i ≤ args.length) (fun i => args.length - i) 0 rfl rfl rfl rfl (fun _ _ => ⟨rfl, rfl⟩) rfl (Nat.zero_le _) ?_
    repeat' first
      | refine st ?_
      | ((with_reducible apply go_i); (conv => whnf))
      | (with_reducible apply k_d <;> intro _)
      | (with_reducible apply k_b <;> intro _)
    intro i h4
    obtain ⟨t, ht⟩ : ∃ t, t = ((args.take i).flatMap cj).foldl f s := ⟨_, rfl⟩
    have hkt := key i h4
    rw [← ht] at hkt ⊢
    cases hx : args[i]? with
    | some x =>
      have hlt := (List.getElem?_eq_some_iff.1 hx).1
      have hgx := xL_get hx
      have hxm := List.mem_of_getElem? hx
      rw [cjd_succ hx, List.length_append, show ∀ a b : Nat, k + (a + b) = k + b + a by intros; omega] at hkt
      have hi := ih x hxm (b4 x hxm) _ t hkt
      have hn : ((args.take (i + 1)).flatMap cj).foldl f s = (cj x).foldl f t := by rw [cjt_succ hx, List.foldl_append, ht]
      have hL : ∀ rest, CallSpec Try.prog N.predicate_each [x.av, .clo g [0]] ([.cells [.d t]] ++ rest) (fun r os => r = .tup [] ∧ os = [.cells [.d (((args.take (i + 1)).flatMap cj).foldl f s)]] ++ rest) := fun rest => by
        rw [hn]
        exact CallSpec.pre hi.2 rest (by
          intro a ha
          simp only [List.mem_cons, List.not_mem_nil, or_false] at ha
          rcases ha with rfl | rfl
          · exact bnd_ds _ _
          · simp [AV.bnd2, AV.bnd1]) (by intro o ho; simp at ho; (try rcases ho with rfl | rfl | rfl) <;> (try rcases ho with rfl | rfl) <;> (try subst ho) <;> simp [AO.bnd, AV.bnd1]) (by rintro r bs' ⟨rfl, rfl⟩; exact ⟨rfl, by intro o ho; simp at ho; (try rcases ho with rfl | rfl | rfl) <;> (try rcases ho with rfl | rfl) <;> (try subst ho) <;> simp [AO.bnd, AV.bnd1], fun f => rfl, rfl, rfl⟩)
      obtain ⟨o1, n1, v1, m1, l1, a1⟩ := x
      rw [Ex.ds_mk] at hgx
      simp only [Ex.av_mk] at hL
      repeat' first
        | refine st ?_
        | ((with_reducible apply go_i); (conv => whnf))
        | ((with_reducible apply k_nc); (· first | exact hL _); (try rintro _ _ ⟨rfl, rfl⟩))
        | ((with_reducible apply k_pr); (· first | exact hL _))
        | ((with_reducible apply k_cs); (· first | exact hL _); (try rintro _ _ ⟨rfl, rfl⟩))
        | ((with_reducible apply k_cal); refine st ?_; (with_reducible apply k_chk); (· exact rfl); refine st ?_; (with_reducible apply k_cs); (· first | exact hL _); (try rintro _ _ ⟨rfl, rfl⟩))
        | (with_reducible apply k_d <;> intro _)
        | (with_reducible apply k_b <;> intro _)
      exact ⟨i + 1, rfl, rfl, rfl, by omega, by omega⟩
    | none =>
      have hge := List.getElem?_eq_none_iff.1 hx
      rw [List.take_of_length_le hge] at ht
      rw [← ht]
      repeat' first
        | refine st ?_
        | ((with_reducible apply go_i); (conv => whnf))
        | (with_reducible apply k_d <;> intro _)
        | (with_reducible apply k_b <;> intro _)
      all_goals exact ⟨rfl, rfl⟩

theorem C.each_s (g : FuncId) (sz : Nat) (z : D) (f : List (List D) → Ex → List (List D)) (ok : Nat → List (List D) → Prop) (hg : ∀ x : Ex, x.bk ≤ 1048576 → ∀ (k : Nat) (s : List (List D)), ok (k + 1) s → ok k (f s x) ∧ CallSpec Try.prog g [x.av, .ptr 0 0, .ptr 1 0] [.cells [.d z], .cells [.arr 2 s.length], .arr s sz 0 s.isEmpty] (fun r os => r = .tup [] ∧ os = [.cells [.d z], .cells [.arr 2 (f s x).length], .arr (f s x) sz 0 (f s x).isEmpty])) : ∀ e : Ex, e.bk ≤ 1048576 → ∀ (k : Nat) (s : List (List D)), ok (k + (cj e).length) s → ok k ((cj e).foldl f s) ∧ CallSpec Try.prog N.predicate_each [e.av, .clo g [0, 1]] [.cells [.d z], .cells [.arr 2 s.length], .arr s sz 0 s.isEmpty] (fun r os => r = .tup [] ∧ os = [.cells [.d z], .cells [.arr 2 ((cj e).foldl f s).length], .arr ((cj e).foldl f s) sz 0 ((cj e).foldl f s).isEmpty]) := by
  have hP : ∀ x : Ex, x.bk ≤ 1048576 → ∀ (k : Nat) (s : List (List D)), ok (k + 1) s → ∀ rest, CallSpec Try.prog g [x.av, .ptr 0 0, .ptr 1 0] ([.cells [.d z], .cells [.arr 2 s.length], .arr s sz 0 s.isEmpty] ++ rest) (fun r os => r = .tup [] ∧ os = [.cells [.d z], .cells [.arr 2 (f s x).length], .arr (f s x) sz 0 (f s x).isEmpty] ++ rest) := fun x hx k s hs rest =>
    CallSpec.pre (hg x hx k s hs).2 rest (by
      intro a ha
      simp only [List.mem_cons, List.not_mem_nil, or_false] at ha
      rcases ha with rfl | rfl | rfl
      · exact bnd_ds _ _
      all_goals simp [AV.bnd2, AV.bnd1]) (by intro o ho; simp at ho; (try rcases ho with rfl | rfl | rfl) <;> (try rcases ho with rfl | rfl) <;> (try subst ho) <;> simp [AO.bnd, AV.bnd1]) (by rintro r bs' ⟨rfl, rfl⟩; exact ⟨rfl, by intro o ho; simp at ho; (try rcases ho with rfl | rfl | rfl) <;> (try rcases ho with rfl | rfl) <;> (try subst ho) <;> simp [AO.bnd, AV.bnd1], fun f => rfl, rfl, rfl⟩)
  refine Ex.ind fun op n v nm nl args ih hb k s hs => ?_
  obtain ⟨b1, b2, b3, b4⟩ := Ex.bk_bounds hb
  have h1 := xL_len args
  have hm := xL_mem args
  have hP' := hP (.mk op n v nm nl args) hb k s
  have hg' := hg (.mk op n v nm nl args) hb k s
  rw [cj_mk] at hs ⊢
  rw [Ex.av_mk] at hP' ⊢
  obtain ⟨da, hda⟩ : ∃ d, d = ng nl (xL args) := ⟨_, rfl⟩
  have hsd : SlD da (xL args) := by rw [hda]; exact sld_ng
  rw [← hda] at hP' ⊢
  cases hA : isAnd op n v nm args.length with
  | false =>
    have hF := isAnd_f hA
    rw [hA, if_neg (by simp)] at hs
    rw [if_neg (by simp)]
    have hq := hP' hs
    rw [List.foldl_cons, List.foldl_nil]
    refine ⟨(hg' hs).1, ?_⟩
    refine F.predicate_each.goX mixed rfl ?_
    repeat' first
      | refine st ?_
      | ((with_reducible apply go_i); (conv => whnf))
      | ((with_reducible apply k_nc); (· first | exact hq _); (try rintro _ _ ⟨rfl, rfl⟩))
      | ((with_reducible apply k_pr); (· first | exact hq _))
      | ((with_reducible apply k_cs); (· first | exact hq _); (try rintro _ _ ⟨rfl, rfl⟩))
      | ((with_reducible apply k_cal); refine st ?_; (with_reducible apply k_chk); (· exact rfl); refine st ?_; (with_reducible apply k_cs); (· first | exact hq _); (try rintro _ _ ⟨rfl, rfl⟩))
      | (with_reducible apply k_d <;> intro _)
      | (with_reducible apply k_b <;> intro _)
    all_goals first | exact ⟨rfl, rfl⟩ | (exfalso; exact hF (by assumption) (by omega) (by assumption) (by assumption) (by assumption) (by assumption) (by assumption)) | (exfalso; simp_all; done)
  | true =>
    obtain ⟨c1, c2, c3, c4, c5, c6, c7⟩ := isAnd_t hA
    rw [hA, if_pos rfl] at hs
    rw [if_pos rfl]
    have key : ∀ i, i ≤ args.length → ok (k + ((args.drop i).flatMap cj).length) (((args.take i).flatMap cj).foldl f s) := by
      intro i
      induction i with
      | zero => intro _; simpa using hs
      | succ i ihi =>
        intro hi
        have hx : args[i]? = some args[i] := List.getElem?_eq_getElem (by omega)
        have hi' := ihi (by omega)
        rw [cjd_succ hx, List.length_append, show ∀ a b : Nat, k + (a + b) = k + b + a by intros; omega] at hi'
        rw [cjt_succ hx, List.foldl_append]
        exact (ih _ (List.mem_of_getElem? hx) (b4 _ (List.mem_of_getElem? hx)) _ _ hi').1
    have keyE := key args.length (Nat.le_refl _)
    rw [List.take_length, List.drop_length] at keyE
    refine ⟨keyE, ?_⟩
    refine F.predicate_each.goX mixed rfl ?_
    repeat' first
      | refine st ?_
      | ((with_reducible apply go_i); (conv => whnf))
      | (with_reducible apply k_d <;> intro _)
      | (with_reducible apply k_b <;> intro _)
    refine x_loop1 mixed Lt.predicate_each_l0 Lk.predicate_each_l0 (fun (i : Nat) => [.d (eI i)]) (fun i => [.cells [.d z], .cells [.arr 2 (((args.take i).flatMap cj).foldl f s).length], .arr (((args.take i).flatMap cj).foldl f s) sz 0 (((args.take i).flatMap cj).foldl f s).isEmpty] ++ [.cells [.d (eI op), .d (eI n), .d (eI v.k), .d (eI v.n), .d (.str v.s), .d (.str nm), .d da]]) (fun i => i ≤ args.length) (fun i => args.length - i) 0 rfl rfl rfl rfl (fun _ _ => ⟨rfl, rfl⟩) rfl (Nat.zero_le _) ?_
    repeat' first
      | refine st ?_
      | ((with_reducible apply go_i); (conv => whnf))
      | (with_reducible apply k_d <;> intro _)
      | (with_reducible apply k_b <;> intro _)
    intro i h4
    obtain ⟨t, ht⟩ : ∃ t, t = ((args.take i).flatMap cj).foldl f s := ⟨_, rfl⟩
    have hkt := key i h4
    rw [← ht] at hkt ⊢
    cases hx : args[i]? with
    | some x =>
      have hlt := (List.getElem?_eq_some_iff.1 hx).1
      have hgx := xL_get hx
      have hxm := List.mem_of_getElem? hx
      rw [cjd_succ hx, List.length_append, show ∀ a b : Nat, k + (a + b) = k + b + a by intros; omega] at hkt
      have hi := ih x hxm (b4 x hxm) _ t hkt
      have hn : ((args.take (i + 1)).flatMap cj).foldl f s = (cj x).foldl f t := by rw [cjt_succ hx, List.foldl_append, ht]
      have hL : ∀ rest, CallSpec Try.prog N.predicate_each [x.av, .clo g [0, 1]] ([.cells [.d z], .cells [.arr 2 t.length], .arr t sz 0 t.isEmpty] ++ rest) (fun r os => r = .tup [] ∧ os = [.cells [.d z], .cells [.arr 2 (((args.take (i + 1)).flatMap cj).foldl f s).length], .arr (((args.take (i + 1)).flatMap cj).foldl f s) sz 0 (((args.take (i + 1)).flatMap cj).foldl f s).isEmpty] ++ rest) := fun rest => by
        rw [hn]
        exact CallSpec.pre hi.2 rest (by
          intro a ha
          simp only [List.mem_cons, List.not_mem_nil, or_false] at ha
          rcases ha with rfl | rfl
          · exact bnd_ds _ _
          · simp [AV.bnd2, AV.bnd1]) (by intro o ho; simp at ho; (try rcases ho with rfl | rfl | rfl) <;> (try rcases ho with rfl | rfl) <;> (try subst ho) <;> simp [AO.bnd, AV.bnd1]) (by rintro r bs' ⟨rfl, rfl⟩; exact ⟨rfl, by intro o ho; simp at ho; (try rcases ho with rfl | rfl | rfl) <;> (try rcases ho with rfl | rfl) <;> (try subst ho) <;> simp [AO.bnd, AV.bnd1], fun f => rfl, rfl, rfl⟩)
      obtain ⟨o1, n1, v1, m1, l1, a1⟩ := x
      rw [Ex.ds_mk] at hgx
      simp only [Ex.av_mk] at hL
      repeat' first
        | refine st ?_
        | ((with_reducible apply go_i); (conv => whnf))
        | ((with_reducible apply k_nc); (· first | exact hL _); (try rintro _ _ ⟨rfl, rfl⟩))
        | ((with_reducible apply k_pr); (· first | exact hL _))
        | ((with_reducible apply k_cs); (· first | exact hL _); (try rintro _ _ ⟨rfl, rfl⟩))
        | ((with_reducible apply k_cal); refine st ?_; (with_reducible apply k_chk); (· exact rfl); refine st ?_; (with_reducible apply k_cs); (· first | exact hL _); (try rintro _ _ ⟨rfl, rfl⟩))
        | (with_reducible apply k_d <;> intro _)
        | (with_reducible apply k_b <;> intro _)
      exact ⟨i + 1, rfl, rfl, rfl, by omega, by omega⟩
    | none =>
      have hge := List.getElem?_eq_none_iff.1 hx
      rw [List.take_of_length_le hge] at ht
      rw [← ht]
      repeat' first
        | refine st ?_
        | ((with_reducible apply go_i); (conv => whnf))
        | (with_reducible apply k_d <;> intro _)
        | (with_reducible apply k_b <;> intro _)
      all_goals exact ⟨rfl, rfl⟩
end Go.Proofs
end
section
/- Columns of an expression: sorted and compact; the program's visit. No condition. -/
set_option linter.unusedSimpArgs false
set_option linter.unusedVariables false
set_option maxRecDepth 10000
set_option maxHeartbeats 4000000
namespace Go.Proofs
open Go.Bi

theorem enters_Sort : Bi.Enters Try.prog N.slices_Sort__int_int := ⟨_, Try.func23, by kernel_rfl, by decide⟩
theorem enters_Compact : Bi.Enters Try.prog N.slices_Compact__int_int := ⟨_, Try.func24, by kernel_rfl, by decide⟩
def srt (zs : List Int) : List Int := zs.mergeSort fun x y => decide (x ≤ y)
theorem srt_len (zs : List Int) : (srt zs).length = zs.length := by simp [srt]
def cmp0 (zs : List Int) : List Int := Lib.compact zs ++ List.replicate (zs.length - (Lib.compact zs).length) 0
theorem bnd_arr (n : Nat) (es : List (List D)) (sz frz : Nat) (nl : Bool) : (AO.arr es sz frz nl).bnd n := by simp [AO.bnd]
theorem C.slices_Sort (zs : List Int) (nl : Bool) (hz : zs.length < 4611686018427387904) {os : List AO} {id : Nat} (ho : os[id]? = some (.arr (eIs zs) 1 0 nl)) :
    CallSpec Try.prog N.slices_Sort__int_int [.arr id (eIs zs).length] os (fun r os' => r = .tup [] ∧ os' = os.set id (.arr (eIs (srt zs)) 1 0 nl)) :=
  lift1 (fun id => [.arr id (eIs zs).length]) (sort_own Try.lays189 enters_Sort zs nl hz) (fun _ => rfl) (fun _ => rfl) (fun _ => rfl) (fun _ _ => rfl) (by simp [AV.bnd2, AV.bnd1]) (bnd_arr ..) ho
theorem C.slices_Compact (zs : List Int) (nl : Bool) (hz : zs.length ≤ 9223372036854775807) {os : List AO} {id : Nat} (ho : os[id]? = some (.arr (eIs zs) 1 0 nl)) :
    CallSpec Try.prog N.slices_Compact__int_int [.arr id (eIs zs).length] os (fun r os' => r = .d (if nl then .nil else .sl (eIs (Lib.compact zs))) ∧ os' = os.set id (.arr (eIs (cmp0 zs)) 1 (if nl then 0 else (Lib.compact zs).length) nl)) :=
  lift1 (fun id => [.arr id (eIs zs).length]) (compact_own Try.laysNm220 enters_Compact zs nl hz) (fun _ => rfl) (fun _ => rfl) (fun _ => rfl) (fun _ _ => rfl) (by simp [AV.bnd2, AV.bnd1]) (bnd_arr ..) ho

/-! ### What visit gathers -/
mutual
def rawC : Ex → List Int
  | .mk op n v nm nl args => (if op = 2 then [n] else []) ++ rawCs args
def rawCs : List Ex → List Int
  | [] => []
  | a :: l => rawC a ++ rawCs l
end
theorem rawCs_eq : ∀ l, rawCs l = l.flatMap rawC
  | [] => by simp [rawCs]
  | a :: l => by simp [rawCs, rawCs_eq l]
theorem rawC_mk (op n : Int) (v : Vl) (nm : List UInt8) (nl : Bool) (args : List Ex) : rawC (.mk op n v nm nl args) = (if op = 2 then [n] else []) ++ args.flatMap rawC := by rw [rawC, rawCs_eq]
theorem flatMap_len2 {l : List Ex} {f : Ex → List Int} (h : ∀ a ∈ l, (f a).length ≤ a.bk) : (l.flatMap f).length ≤ bulkLL (xL l) := by
  induction l with
  | nil => simp
  | cons a l ih =>
    have h1 := h a (by simp)
    have h2 := ih fun b hb => h b (by simp [hb])
    rw [List.flatMap_cons, List.length_append]
    simp only [xL, List.map_cons, bulkLL]
    unfold Ex.bk at h1
    unfold xL at h2
    omega
theorem rawC_len : ∀ e : Ex, (rawC e).length ≤ e.bk := by
  refine Ex.ind fun op n v nm nl args ih => ?_
  have hb := Ex.bk_mk op n v nm nl args
  have := flatMap_len2 ih
  rw [rawC_mk, List.length_append]
  split <;> simp only [List.length_cons, List.length_nil] <;> omega
def own (op n : Int) : List Int := if op = 2 then [n] else []
theorem eIs_app2 (a b : List Int) : eIs (a ++ b) = eIs a ++ eIs b := by simp [eIs]
theorem C.Columns_c1 (op n : Int) (v : Vl) (nm : List UInt8) (d : D) (zs : List Int) (hz : zs.length ≤ 4194304) :
    CallSpec Try.prog N.expr_Columns_c1 [eX op n v nm d, .ptr 0 0] [.cells [.arr 1 (eIs zs).length], .arr (eIs zs) 1 0 (eIs zs).isEmpty] (fun r os => r = .tup [] ∧ os = [.cells [.arr 1 (eIs (zs ++ own op n)).length], .arr (eIs (zs ++ own op n)) 1 0 (eIs (zs ++ own op n)).isEmpty]) := by
  obtain ⟨b, hb⟩ : ∃ b, b = (eIs zs).isEmpty := ⟨_, rfl⟩
  rw [← hb]
  have hl := eIs_len zs
  unfold own
  by_cases h : op = 2
  · rw [if_pos h, eIs_app2]
    have e1 : (eIs zs ++ eIs [n]).isEmpty = false := by simp [eIs]
    rw [e1]
    refine F.expr_Columns_c1.goX mixed rfl ?_
    repeat' first
      | refine st ?_
      | ((with_reducible apply go_i); (conv => whnf))
      | (with_reducible apply k_d <;> intro _)
      | (with_reducible apply k_b <;> intro _)
    all_goals exact ⟨rfl, by simp [eIs]⟩
  · rw [if_neg h, List.append_nil, ← hb]
    refine F.expr_Columns_c1.goX mixed rfl ?_
    repeat' first
      | refine st ?_
      | ((with_reducible apply go_i); (conv => whnf))
      | (with_reducible apply k_d <;> intro _)
      | (with_reducible apply k_b <;> intro _)
    all_goals exact ⟨rfl, rfl⟩
theorem mem2 {α : Type} {x a b : α} (h : x ∈ [a, b]) : x = a ∨ x = b := by simpa using h
/-- A contract over the variable and its array, among more objects. -/
theorem pre2 {g : FuncId} {ds : List D} {a : AV} (ha : a.bnd2 2) {zs ys : List Int} (h : CallSpec Try.prog g [.agg (ds.map .d), a] [.cells [.arr 1 (eIs zs).length], .arr (eIs zs) 1 0 (eIs zs).isEmpty] (fun r os => r = .tup [] ∧ os = [.cells [.arr 1 (eIs ys).length], .arr (eIs ys) 1 0 (eIs ys).isEmpty])) (rest : List AO) :
    CallSpec Try.prog g [.agg (ds.map .d), a] ([.cells [.arr 1 (eIs zs).length], .arr (eIs zs) 1 0 (eIs zs).isEmpty] ++ rest) (fun r os => r = .tup [] ∧ os = [.cells [.arr 1 (eIs ys).length], .arr (eIs ys) 1 0 (eIs ys).isEmpty] ++ rest) := by
  refine CallSpec.pre h rest (fun x hx => ?_) (fun o ho => ?_) ?_
  · rcases mem2 hx with rfl | rfl
    · exact bnd_ds _ _
    · exact ha
  · rcases mem2 ho with rfl | rfl <;> simp [AO.bnd, AV.bnd1]
  · rintro r bs' ⟨rfl, rfl⟩
    refine ⟨rfl, fun o ho => ?_, fun f => rfl, rfl, rfl⟩
    rcases mem2 ho with rfl | rfl <;> simp [AO.bnd, AV.bnd1]
theorem rawt_succ {l : List Ex} {i : Nat} {x : Ex} (h : l[i]? = some x) : (l.take (i + 1)).flatMap rawC = (l.take i).flatMap rawC ++ rawC x := by
  rw [List.take_add_one, h]; simp
theorem rawt_len (l : List Ex) (i : Nat) : ((l.take i).flatMap rawC).length ≤ bulkLL (xL l) := by
  have h1 : ((l.take i).flatMap rawC).length ≤ (l.flatMap rawC).length := by
    conv => rhs; rw [← List.take_append_drop i l, List.flatMap_append, List.length_append]
    omega
  have h2 := flatMap_len2 (l := l) (f := rawC) (fun a _ => rawC_len a)
  omega
theorem rawt_x : ∀ {l : List Ex} {i : Nat} {x : Ex}, l[i]? = some x → ((l.take i).flatMap rawC).length + x.bk ≤ bulkLL (xL l)
  | [], i, x, h => by simp at h
  | a :: l, 0, x, h => by
    simp at h
    subst h
    simp only [xL, List.map_cons, bulkLL, List.take_zero, List.flatMap_nil, List.length_nil]
    unfold Ex.bk
    omega
  | a :: l, i + 1, x, h => by
    have := rawt_x (l := l) (i := i) (x := x) (by simpa using h)
    have h1 := rawC_len a
    rw [List.take_succ_cons, List.flatMap_cons, List.length_append]
    simp only [xL, List.map_cons, bulkLL]
    unfold Ex.bk at *
    unfold xL at this
    omega
theorem C.visit : ∀ e : Ex, e.bk ≤ 1048576 → ∀ zs : List Int, zs.length + e.bk ≤ 2097152 → CallSpec Try.prog N.expr_visit [e.av, .clo N.expr_Columns_c1 [0]] [.cells [.arr 1 (eIs zs).length], .arr (eIs zs) 1 0 (eIs zs).isEmpty] (fun r os => r = .tup [] ∧ os = [.cells [.arr 1 (eIs (zs ++ rawC e)).length], .arr (eIs (zs ++ rawC e)) 1 0 (eIs (zs ++ rawC e)).isEmpty]) := by
  refine Ex.ind fun op n v nm nl args ih hb zs hz => ?_
  obtain ⟨b1, b2, b3, b4⟩ := Ex.bk_bounds hb
  have hbm := Ex.bk_mk op n v nm nl args
  have hC1 : ∀ rest, CallSpec Try.prog N.expr_Columns_c1 [eX op n v nm (ng nl (xL args)), .ptr 0 0] ([.cells [.arr 1 (eIs zs).length], .arr (eIs zs) 1 0 (eIs zs).isEmpty] ++ rest) (fun r os => r = .tup [] ∧ os = [.cells [.arr 1 (eIs (zs ++ own op n)).length], .arr (eIs (zs ++ own op n)) 1 0 (eIs (zs ++ own op n)).isEmpty] ++ rest) := fun rest =>
    pre2 (ds := xds op n v nm (ng nl (xL args))) (by simp [AV.bnd2, AV.bnd1]) (C.Columns_c1 op n v nm _ zs (by omega)) rest
  rw [rawC_mk, ← own, ← List.append_assoc, Ex.av_mk]
  obtain ⟨z1, hz1⟩ : ∃ z, z = zs ++ own op n := ⟨_, rfl⟩
  have hz1l : z1.length ≤ zs.length + 1 := by
    rw [hz1, List.length_append]
    unfold own
    split <;> simp
  rw [← hz1] at hC1 ⊢
  have h1 := xL_len args
  have hm := xL_mem args
  obtain ⟨da, hda⟩ : ∃ d, d = ng nl (xL args) := ⟨_, rfl⟩
  have hsd : SlD da (xL args) := by rw [hda]; exact sld_ng
  rw [← hda] at hC1 ⊢
  have r0 : v.k = v.k := rfl
  have r1 : v.s = v.s := rfl
  have r2 : nm = nm := rfl
  refine F.expr_visit.goX mixed rfl ?_
  obtain ⟨e0, he0⟩ : ∃ b, b = (eIs zs).isEmpty := ⟨_, rfl⟩
  rw [← he0] at hC1 ⊢
  repeat' first
    | refine st ?_
    | ((with_reducible apply go_i); (conv => whnf))
    | ((with_reducible apply k_nc); (· first | exact hC1 _); (try rintro _ _ ⟨rfl, rfl⟩))
    | ((with_reducible apply k_pr); (· first | exact hC1 _))
    | ((with_reducible apply k_cs); (· first | exact hC1 _); (try rintro _ _ ⟨rfl, rfl⟩))
    | ((with_reducible apply k_cal); refine st ?_; (with_reducible apply k_chk); (· exact rfl); refine st ?_; (with_reducible apply k_cs); (· first | exact hC1 _); (try rintro _ _ ⟨rfl, rfl⟩))
    | (with_reducible apply k_d <;> intro _)
    | (with_reducible apply k_b <;> intro _)
  refine x_loop1 mixed Lt.expr_visit_l0 Lk.expr_visit_l0 (fun (i : Nat) => [.d (eI i)]) (fun i => [.cells [.arr 1 (eIs (z1 ++ (args.take i).flatMap rawC)).length], .arr (eIs (z1 ++ (args.take i).flatMap rawC)) 1 0 (eIs (z1 ++ (args.take i).flatMap rawC)).isEmpty] ++ [.cells [.d (eI op), .d (eI n), .d (eI v.k), .d (eI v.n), .d (.str v.s), .d (.str nm), .d da]]) (fun i => i ≤ args.length) (fun i => args.length - i) 0 rfl rfl rfl (by simp) (fun _ _ => ⟨rfl, rfl⟩) rfl (Nat.zero_le _) ?_
  repeat' first
    | refine st ?_
    | ((with_reducible apply go_i); (conv => whnf))
    | (with_reducible apply k_d <;> intro _)
    | (with_reducible apply k_b <;> intro _)
  intro i h4
  have hrl := rawt_len args i
  cases hx : args[i]? with
  | some x =>
    have hlt := (List.getElem?_eq_some_iff.1 hx).1
    have hgx := xL_get hx
    have hxm := List.mem_of_getElem? hx
    have hxb : bulkL x.ds ≤ bulkLL (xL args) := bulkLL_mem (List.mem_map.2 ⟨x, hxm, rfl⟩)
    have hxk := Ex.bk_arg (op := op) (n := n) (v := v) (name := nm) (nl := nl) hxm
    have hs := rawt_succ hx
    obtain ⟨t, ht⟩ : ∃ t, t = z1 ++ (args.take i).flatMap rawC := ⟨_, rfl⟩
    have hi := ih x hxm (b4 x hxm) t (by
      have h0 := rawt_x hx
      rw [ht, List.length_append]
      omega)
    have hn : z1 ++ (args.take (i + 1)).flatMap rawC = t ++ rawC x := by rw [hs, ht, List.append_assoc]
    rw [← hn] at hi
    rw [← ht]
    have hL := fun rest => pre2 (ds := x.ds) (by simp [AV.bnd2, AV.bnd1]) hi rest
    obtain ⟨e1, he1⟩ : ∃ b, b = (eIs t).isEmpty := ⟨_, rfl⟩
    rw [← he1] at hL ⊢
    obtain ⟨o1, n1, v1, m1, l1, a1⟩ := x
    rw [Ex.ds_mk] at hgx hL
    repeat' first
      | refine st ?_
      | ((with_reducible apply go_i); (conv => whnf))
      | ((with_reducible apply k_nc); (· first | exact hL _); (try rintro _ _ ⟨rfl, rfl⟩))
      | ((with_reducible apply k_pr); (· first | exact hL _))
      | ((with_reducible apply k_cs); (· first | exact hL _); (try rintro _ _ ⟨rfl, rfl⟩))
      | ((with_reducible apply k_cal); refine st ?_; (with_reducible apply k_chk); (· exact rfl); refine st ?_; (with_reducible apply k_cs); (· first | exact hL _); (try rintro _ _ ⟨rfl, rfl⟩))
      | (with_reducible apply k_d <;> intro _)
      | (with_reducible apply k_b <;> intro _)
    exact ⟨i + 1, rfl, rfl, rfl, by omega, by omega⟩
  | none =>
    have hge := List.getElem?_eq_none_iff.1 hx
    rw [List.take_of_length_le hge]
    repeat' first
      | refine st ?_
      | ((with_reducible apply go_i); (conv => whnf))
      | (with_reducible apply k_d <;> intro _)
      | (with_reducible apply k_b <;> intro _)
    all_goals exact ⟨rfl, rfl⟩
end Go.Proofs
end
section
/- Columns: the program's and the reference's. No condition. -/
set_option linter.unusedSimpArgs false
set_option linter.unusedVariables false
set_option maxRecDepth 10000
set_option maxHeartbeats 4000000
namespace Go.Proofs
open Go.Bi

/-! ### Plain: ascending lists -/
def Asc (l : List Int) : Prop := l.Pairwise (· < ·)
theorem asc_ext : ∀ {l m : List Int}, Asc l → Asc m → (∀ x, x ∈ l ↔ x ∈ m) → l = m
  | [], [], _, _, _ => rfl
  | [], b :: m, _, _, h => by have := (h b).2 (by simp); simp at this
  | a :: l, [], _, _, h => by have := (h a).1 (by simp); simp at this
  | a :: l, b :: m, h1, h2, h => by
    have g1 := List.pairwise_cons.1 h1
    have g2 := List.pairwise_cons.1 h2
    have hab : a = b := by
      have ha := (h a).1 (by simp)
      have hb := (h b).2 (by simp)
      rcases List.mem_cons.1 ha with e | ha
      · exact e
      · rcases List.mem_cons.1 hb with e | hb
        · exact e.symm
        · have q1 := g1.1 b hb
          have q2 := g2.1 a ha
          omega
    subst hab
    congr 1
    refine asc_ext g1.2 g2.2 fun x => ⟨fun hx => ?_, fun hx => ?_⟩
    · have q := g1.1 x hx
      rcases List.mem_cons.1 ((h x).1 (List.mem_cons_of_mem _ hx)) with e | hx'
      · omega
      · exact hx'
    · have q := g2.1 x hx
      rcases List.mem_cons.1 ((h x).2 (List.mem_cons_of_mem _ hx)) with e | hx'
      · omega
      · exact hx'
theorem compact_asc (d : Array Int) (hs : ∀ i j : Nat, i ≤ j → j < d.size → d[i]! ≤ d[j]!) : ∀ m, m ≤ d.size → Asc (Lib.compactUpTo d m) ∧ ∀ x, x ∈ Lib.compactUpTo d m ↔ ∃ j, j < m ∧ d[j]! = x
  | 0, _ => by
    refine ⟨by simp [Lib.compactUpTo, Asc], fun x => ?_⟩
    simp [Lib.compactUpTo]
  | m + 1, hm => by
    obtain ⟨h1, h2⟩ := compact_asc d hs m (by omega)
    rw [Lib.compactUpTo_succ]
    cases hk : Lib.keeps d m with
    | true =>
      rw [if_pos rfl]
      have hk' : m = 0 ∨ d[m]! ≠ d[m - 1]! := of_decide_eq_true hk
      constructor
      · refine List.pairwise_append.2 ⟨h1, by simp, fun x hx y hy => ?_⟩
        simp at hy
        subst hy
        obtain ⟨j, hj, rfl⟩ := (h2 x).1 hx
        have q1 := hs j (m - 1) (by omega) (by omega)
        have q2 := hs (m - 1) m (by omega) (by omega)
        rcases hk' with h0 | hne
        · omega
        · omega
      · intro x
        rw [List.mem_append, h2]
        constructor
        · rintro (⟨j, hj, e⟩ | hx)
          · exact ⟨j, by omega, e⟩
          · simp at hx; exact ⟨m, by omega, hx.symm⟩
        · rintro ⟨j, hj, e⟩
          rcases Nat.lt_succ_iff_lt_or_eq.1 hj with h | rfl
          · exact .inl ⟨j, h, e⟩
          · exact .inr (by simp [e])
    | false =>
      rw [if_neg (by decide), List.append_nil]
      have hk' : ¬ (m = 0 ∨ d[m]! ≠ d[m - 1]!) := of_decide_eq_false hk
      refine ⟨h1, fun x => ?_⟩
      rw [h2]
      constructor
      · rintro ⟨j, hj, e⟩; exact ⟨j, by omega, e⟩
      · rintro ⟨j, hj, e⟩
        rcases Nat.lt_succ_iff_lt_or_eq.1 hj with h | rfl
        · exact ⟨j, h, e⟩
        · have q1 : ¬ j = 0 := fun e => hk' (.inl e)
          have q2 : d[j]! = d[j - 1]! := Classical.byContradiction fun e => hk' (.inr e)
          exact ⟨j - 1, by omega, by rw [← q2]; exact e⟩
theorem compact_srt (zs : List Int) : Asc (Lib.compact (srt zs)) ∧ ∀ x, x ∈ Lib.compact (srt zs) ↔ x ∈ zs := by
  have hp : (srt zs).Pairwise fun a b => a ≤ b := by
    have := List.pairwise_mergeSort (le := fun x y : Int => decide (x ≤ y)) (by intro a b c h1 h2; simp at *; omega) (by intro a b; simp; omega) zs
    refine this.imp fun h => ?_
    simpa using h
  have hsz : (srt zs).toArray.size = (srt zs).length := by simp
  have hget : ∀ i, i < (srt zs).length → (srt zs).toArray[i]! = (srt zs).getD i 0 := by
    intro i hi
    rw [getElem!_pos _ i (by simpa using hi), List.getD_eq_getElem?_getD, List.getElem?_eq_getElem hi]
    simp
  have hs : ∀ i j : Nat, i ≤ j → j < (srt zs).toArray.size → (srt zs).toArray[i]! ≤ (srt zs).toArray[j]! := by
    intro i j hij hj
    rw [hsz] at hj
    rw [hget i (by omega), hget j hj]
    rcases Nat.lt_or_ge i j with h | h
    · have := List.pairwise_iff_getElem.1 hp i j (by omega) hj h
      rw [List.getD_eq_getElem?_getD, List.getD_eq_getElem?_getD, List.getElem?_eq_getElem (show i < _ by omega), List.getElem?_eq_getElem hj]
      exact this
    · obtain rfl : i = j := by omega
      exact Int.le_refl _
  obtain ⟨h1, h2⟩ := compact_asc (srt zs).toArray hs (srt zs).length (by simp)
  refine ⟨h1, fun x => ?_⟩
  unfold Lib.compact
  rw [h2]
  have hmem : x ∈ srt zs ↔ x ∈ zs := by unfold srt; exact List.mem_mergeSort
  rw [← hmem, List.mem_iff_getElem?]
  constructor
  · rintro ⟨j, hj, e⟩
    refine ⟨j, ?_⟩
    rw [hget j hj, List.getD_eq_getElem?_getD, List.getElem?_eq_getElem hj] at e
    rw [List.getElem?_eq_getElem hj]
    exact congrArg some e
  · rintro ⟨j, e⟩
    have hj := (List.getElem?_eq_some_iff.1 e).1
    refine ⟨j, hj, ?_⟩
    rw [hget j hj, List.getD_eq_getElem?_getD, e]; rfl

/-! ### The program's Columns -/
def cols (e : Ex) : List Int := Lib.compact (srt (rawC e))
def colsD (e : Ex) : D := if (eIs (rawC e)).isEmpty then .nil else .sl (eIs (cols e))
theorem cols_asc (e : Ex) : Asc (cols e) := (compact_srt (rawC e)).1
theorem cols_mem (e : Ex) (x : Int) : x ∈ cols e ↔ x ∈ rawC e := (compact_srt (rawC e)).2 x
theorem cols_len (e : Ex) : (cols e).length ≤ e.bk := by
  have h1 := compact_len (srt (rawC e))
  have h2 := srt_len (rawC e)
  have h3 := rawC_len e
  unfold cols
  omega
theorem colsD_sl (e : Ex) : SlD (colsD e) (eIs (cols e)) := by
  unfold colsD
  split
  · rename_i h
    have : rawC e = [] := by
      cases hx : rawC e with
      | nil => rfl
      | cons a l => rw [hx] at h; cases h
    refine .inl ⟨rfl, ?_⟩
    have hc : cols e = [] := by
      rw [List.eq_nil_iff_forall_not_mem]
      intro x hx
      rw [cols_mem, this] at hx
      cases hx
    rw [hc]; rfl
  · exact .inr rfl
theorem C.expr_Columns (e : Ex) (he : e.bk ≤ 1048576) : Pure Try.prog N.expr_Columns [e.av] (.d (colsD e)) := by
  have hv := C.visit e he [] (by simp; omega)
  rw [List.nil_append] at hv
  have hrl := rawC_len e
  unfold colsD cols
  obtain ⟨zs, hzs⟩ : ∃ z, z = rawC e := ⟨_, rfl⟩
  rw [← hzs] at hv hrl ⊢
  have hb : ∀ ds : List D, CallSpec Try.prog N.expr_visit [.agg (ds.map .d), .clo N.expr_Columns_c1 [0]] [.cells [.arr 1 0], .arr [] 1 0 true] (fun r os => r = .tup [] ∧ os = [.cells [.arr 1 (eIs zs).length], .arr (eIs zs) 1 0 (eIs zs).isEmpty]) → ∀ E : List AV, CallSpec Try.prog N.expr_visit [.agg (ds.map .d), .clo N.expr_Columns_c1 [1]] [.cells E, .cells [.d .nil]] (fun r os => r = .tup [] ∧ os = [.cells E, .cells [.arr 2 (eIs zs).length], .arr (eIs zs) 1 0 (eIs zs).isEmpty]) := by
    intro ds hE E
    refine CallSpec.nilc 1 0 1 rfl (cs := [.d .nil]) rfl rfl ?_
    have := CallSpec.frame (K := fun r os => r = .tup [] ∧ os = [.cells E, .cells [.arr 2 (eIs zs).length], .arr (eIs zs) 1 0 (eIs zs).isEmpty]) hE [1, 2] [.cells E, .cells [.arr 2 0], .arr [] 1 0 true] rfl (by decide) (fun i o h => by
      match i, h with
      | 0, h => cases h; rfl
      | 1, h => cases h; rfl
      | i + 2, h => simp at h) (fun a ha => by
        rcases mem2 ha with rfl | rfl
        · exact bnd_ds _ _
        · simp [AV.bnd2, AV.bnd1]) (fun o ho => by
        rcases mem2 ho with rfl | rfl <;> simp [AO.bnd, AV.bnd1]) (by rintro r bs' ⟨rfl, rfl⟩; exact ⟨rfl, rfl⟩)
    rw [List.map_cons, List.map_cons, List.map_nil, mG_ds] at this
    exact this
  have hB := hb e.ds hv
  obtain ⟨op, n, v, nm, nl, args⟩ := e
  rw [Ex.ds_mk] at hB
  rw [Ex.av_mk]
  obtain ⟨b, hbb⟩ : ∃ b, b = (eIs zs).isEmpty := ⟨_, rfl⟩
  rw [← hbb] at hB ⊢
  have s1 : ∀ (os : List AO) (id : Nat), os[id]? = some (.arr (eIs zs) 1 0 b) → CallSpec Try.prog N.slices_Sort__int_int [.arr id (eIs zs).length] os (fun r os' => r = .tup [] ∧ os' = os.set id (.arr (eIs (srt zs)) 1 0 b)) := fun os id ho => C.slices_Sort zs b (by omega) ho
  have hsl := srt_len zs
  have hle : (eIs zs).length = (eIs (srt zs)).length := by rw [eIs_len, eIs_len, hsl]
  have s2 : ∀ (os : List AO) (id : Nat), os[id]? = some (.arr (eIs (srt zs)) 1 0 b) → CallSpec Try.prog N.slices_Compact__int_int [.arr id (eIs zs).length] os (fun r os' => r = .d (if b then .nil else .sl (eIs (Lib.compact (srt zs)))) ∧ os' = os.set id (.arr (eIs (cmp0 (srt zs))) 1 (if b then 0 else (Lib.compact (srt zs)).length) b)) := fun os id ho => by rw [hle]; exact C.slices_Compact (srt zs) b (by omega) ho
  refine F.expr_Columns.go mixed rfl ?_
  cases b with
  | true =>
    repeat' first
      | (with_reducible apply k_cal)
      | refine st ?_
      | ((with_reducible apply go_i); (conv => whnf))
      | ((with_reducible apply k_nc); (· first | exact hB _ | exact s1 _ _ rfl | exact s2 _ _ rfl); (try rintro _ _ ⟨rfl, rfl⟩))
      | ((with_reducible apply k_pr); (· first | exact hB _ | exact s1 _ _ rfl | exact s2 _ _ rfl))
      | ((with_reducible apply k_cs); (· first | exact hB _ | exact s1 _ _ rfl | exact s2 _ _ rfl); (try rintro _ _ ⟨rfl, rfl⟩))
      | ((with_reducible apply k_cal); refine st ?_; (with_reducible apply k_chk); (· exact rfl); refine st ?_; (with_reducible apply k_cs); (· first | exact hB _ | exact s1 _ _ rfl | exact s2 _ _ rfl); (try rintro _ _ ⟨rfl, rfl⟩))
      | (with_reducible apply k_d <;> intro _)
      | (with_reducible apply k_b <;> intro _)
    all_goals rfl
  | false =>
    repeat' first
      | (with_reducible apply k_cal)
      | refine st ?_
      | ((with_reducible apply go_i); (conv => whnf))
      | ((with_reducible apply k_nc); (· first | exact hB _ | exact s1 _ _ rfl | exact s2 _ _ rfl); (try rintro _ _ ⟨rfl, rfl⟩))
      | ((with_reducible apply k_pr); (· first | exact hB _ | exact s1 _ _ rfl | exact s2 _ _ rfl))
      | ((with_reducible apply k_cs); (· first | exact hB _ | exact s1 _ _ rfl | exact s2 _ _ rfl); (try rintro _ _ ⟨rfl, rfl⟩))
      | ((with_reducible apply k_cal); refine st ?_; (with_reducible apply k_chk); (· exact rfl); refine st ?_; (with_reducible apply k_cs); (· first | exact hB _ | exact s1 _ _ rfl | exact s2 _ _ rfl); (try rintro _ _ ⟨rfl, rfl⟩))
      | (with_reducible apply k_d <;> intro _)
      | (with_reducible apply k_b <;> intro _)
    all_goals rfl
end Go.Proofs
end
