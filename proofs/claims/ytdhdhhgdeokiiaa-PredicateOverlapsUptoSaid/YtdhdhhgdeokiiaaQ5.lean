/- Texts of this claim, joined. No condition. -/
import Derived.Test.YtdhdhhgdeokiiaaQ4
section
/- Kinds of operators. No condition. -/
set_option linter.unusedSimpArgs false
set_option linter.unusedVariables false
set_option maxRecDepth 10000
set_option maxHeartbeats 4000000
namespace Go.Proofs
open Go.Bi

def uniF (k : Int) : List Int → Int × Bool
  | [] => (k, true)
  | x :: l => if x = 0 then uniF k l else if k ≠ 0 ∧ k ≠ x then (0, false) else uniF x l
def uni (l : List Int) : Int × Bool := uniF 0 l
theorem uniF_drop {k : Int} {l : List Int} {i : Nat} {x : Int} (h : l[i]? = some x) : uniF k (l.drop i) = if x = 0 then uniF k (l.drop (i + 1)) else if k ≠ 0 ∧ k ≠ x then (0, false) else uniF x (l.drop (i + 1)) := by
  obtain ⟨hlt, he⟩ := List.getElem?_eq_some_iff.1 h
  rw [List.drop_eq_getElem_cons hlt, he]; rfl
theorem C.expr_unite (l : List Int) (hl : l.length ≤ 1048577) (d : D) (hd : SlD d (eIs l)) : Pure Try.prog N.expr_unite [.d d] (.tup [.d (eI (uni l).1), .d (.bool (uni l).2)]) := by
  refine F.expr_unite.go mixed rfl ?_
  have h1 := eIs_len l
  have hm := eIs_mem l
  repeat' first
    | refine st ?_
    | ((with_reducible apply go_i); (conv => whnf))
    | (with_reducible apply k_d <;> intro _)
    | (with_reducible apply k_b <;> intro _)
  refine x_loop2 mixed Lt.expr_unite_l0 Lk.expr_unite_l0 (fun (i : Nat) (k : Int) => [.d (eI k), .d (eI i)]) (fun i k => []) (fun i k => i ≤ l.length ∧ uni l = uniF k (l.drop i)) (fun i _ => l.length - i) 0 0 rfl rfl rfl rfl (fun _ _ _ => ⟨rfl, rfl⟩) rfl ⟨by omega, rfl⟩ ?_
  repeat' first
    | refine st ?_
    | ((with_reducible apply go_i); (conv => whnf))
    | (with_reducible apply k_d <;> intro _)
    | (with_reducible apply k_b <;> intro _)
  intro i k ⟨h2, h3⟩
  cases hx : l[i]? with
  | some x =>
    have hlt := (List.getElem?_eq_some_iff.1 hx).1
    have hg := eIs_get hx
    rw [uniF_drop hx] at h3
    by_cases hx0 : x = 0
    · rw [if_pos hx0] at h3
      repeat' first
        | refine st ?_
        | ((with_reducible apply go_i); (conv => whnf))
        | (with_reducible apply k_d <;> intro _)
        | (with_reducible apply k_b <;> intro _)
      exact ⟨i + 1, _, rfl, rfl, rfl, by omega, by omega, h3⟩
    · rw [if_neg hx0] at h3
      by_cases hk : k ≠ 0 ∧ k ≠ x
      · rw [if_pos hk] at h3
        rw [h3]
        obtain ⟨hk1, hk2⟩ := hk
        repeat' first
          | refine st ?_
          | ((with_reducible apply go_i); (conv => whnf))
          | (with_reducible apply k_d <;> intro _)
          | (with_reducible apply k_b <;> intro _)
        all_goals rfl
      · rw [if_neg hk] at h3
        by_cases hk0 : k = 0
        · repeat' first
            | refine st ?_
            | ((with_reducible apply go_i); (conv => whnf))
            | (with_reducible apply k_d <;> intro _)
            | (with_reducible apply k_b <;> intro _)
          exact ⟨i + 1, _, rfl, rfl, rfl, by omega, by omega, h3⟩
        · have hkx : k = x := by omega
          repeat' first
            | refine st ?_
            | ((with_reducible apply go_i); (conv => whnf))
            | (with_reducible apply k_d <;> intro _)
            | (with_reducible apply k_b <;> intro _)
          exact ⟨i + 1, _, rfl, rfl, rfl, by omega, by omega, h3⟩
  | none =>
    have hge := List.getElem?_eq_none_iff.1 hx
    rw [List.drop_eq_nil_of_le hge] at h3
    rw [h3]
    repeat' first
      | refine st ?_
      | ((with_reducible apply go_i); (conv => whnf))
      | (with_reducible apply k_d <;> intro _)
      | (with_reducible apply k_b <;> intro _)
    all_goals rfl
theorem C.r11_Join (l : List Int) (hl : l.length ≤ 1048577) (d : D) (hd : SlD d (eIs l)) : Pure Try.prog N.bt_ref11_Join [.d d] (.tup [.d (eI (uni l).1), .d (.bool (uni l).2)]) := by
  refine F.bt_ref11_Join.go mixed rfl ?_
  have h1 := eIs_len l
  have hm := eIs_mem l
  repeat' first
    | refine st ?_
    | ((with_reducible apply go_i); (conv => whnf))
    | (with_reducible apply k_d <;> intro _)
    | (with_reducible apply k_b <;> intro _)
  refine x_loop2 mixed Lt.bt_ref11_Join_l0 Lk.bt_ref11_Join_l0 (fun (i : Nat) (k : Int) => [.d (eI k), .d (eI i)]) (fun i k => []) (fun i k => i ≤ l.length ∧ uni l = uniF k (l.drop i)) (fun i _ => l.length - i) 0 0 rfl rfl rfl rfl (fun _ _ _ => ⟨rfl, rfl⟩) rfl ⟨by omega, rfl⟩ ?_
  repeat' first
    | refine st ?_
    | ((with_reducible apply go_i); (conv => whnf))
    | (with_reducible apply k_d <;> intro _)
    | (with_reducible apply k_b <;> intro _)
  intro i k ⟨h2, h3⟩
  cases hx : l[i]? with
  | some x =>
    have hlt := (List.getElem?_eq_some_iff.1 hx).1
    have hg := eIs_get hx
    rw [uniF_drop hx] at h3
    by_cases hx0 : x = 0
    · rw [if_pos hx0] at h3
      repeat' first
        | refine st ?_
        | ((with_reducible apply go_i); (conv => whnf))
        | (with_reducible apply k_d <;> intro _)
        | (with_reducible apply k_b <;> intro _)
      exact ⟨i + 1, _, rfl, rfl, rfl, by omega, by omega, h3⟩
    · rw [if_neg hx0] at h3
      by_cases hk : k ≠ 0 ∧ k ≠ x
      · rw [if_pos hk] at h3
        rw [h3]
        obtain ⟨hk1, hk2⟩ := hk
        repeat' first
          | refine st ?_
          | ((with_reducible apply go_i); (conv => whnf))
          | (with_reducible apply k_d <;> intro _)
          | (with_reducible apply k_b <;> intro _)
        all_goals rfl
      · rw [if_neg hk] at h3
        by_cases hk0 : k = 0
        · repeat' first
            | refine st ?_
            | ((with_reducible apply go_i); (conv => whnf))
            | (with_reducible apply k_d <;> intro _)
            | (with_reducible apply k_b <;> intro _)
          exact ⟨i + 1, _, rfl, rfl, rfl, by omega, by omega, h3⟩
        · have hkx : k = x := by omega
          repeat' first
            | refine st ?_
            | ((with_reducible apply go_i); (conv => whnf))
            | (with_reducible apply k_d <;> intro _)
            | (with_reducible apply k_b <;> intro _)
          exact ⟨i + 1, _, rfl, rfl, rfl, by omega, by omega, h3⟩
  | none =>
    have hge := List.getElem?_eq_none_iff.1 hx
    rw [List.drop_eq_nil_of_le hge] at h3
    rw [h3]
    repeat' first
      | refine st ?_
      | ((with_reducible apply go_i); (conv => whnf))
      | (with_reducible apply k_d <;> intro _)
      | (with_reducible apply k_b <;> intro _)
    all_goals rfl
def allK (l : List Int) (c : Int) : Bool := l.all fun x => decide (x = c ∨ x = 0)
theorem uni_all (c : Int) (hc : c ≠ 0) : ∀ (l : List Int) (k : Int), ((uniF k (l ++ [c])).2 && decide ((uniF k (l ++ [c])).1 = c)) = (decide (k = 0 ∨ k = c) && allK l c)
  | [], k => by
    simp only [List.nil_append, uniF, if_neg hc, allK, List.all_nil, Bool.and_true]
    by_cases h : k ≠ 0 ∧ k ≠ c
    · rw [if_pos h, decide_eq_false (show ¬ (k = 0 ∨ k = c) by omega)]; rfl
    · rw [if_neg h, decide_eq_true (show k = 0 ∨ k = c by omega)]; simp
  | x :: l, k => by
    have ih := uni_all c hc l
    simp only [List.cons_append, uniF, allK, List.all_cons] at ih ⊢
    by_cases hx : x = 0
    · rw [if_pos hx, ih k, decide_eq_true (show x = c ∨ x = 0 from .inr hx)]; simp
    · rw [if_neg hx]
      by_cases h : k ≠ 0 ∧ k ≠ x
      · rw [if_pos h]
        by_cases hxc : x = c
        · rw [decide_eq_false (show ¬ (k = 0 ∨ k = c) by omega)]; simp
        · rw [decide_eq_false (show ¬ (x = c ∨ x = 0) by omega)]; simp
      · rw [if_neg h, ih x]
        by_cases hxc : x = c
        · rw [decide_eq_true (show x = 0 ∨ x = c from .inr hxc), decide_eq_true (show x = c ∨ x = 0 from .inl hxc), decide_eq_true (show k = 0 ∨ k = c by omega)]; simp
        · rw [decide_eq_false (show ¬ (x = 0 ∨ x = c) by omega), decide_eq_false (show ¬ (x = c ∨ x = 0) by omega)]; simp
theorem C.clone_nil : Pure Try.prog N.slices_Clone__int_int [.d .nil] (.d .nil) := by
  refine F.slices_Clone__int_int.go mixed rfl ?_
  repeat' first
    | refine st ?_
    | ((with_reducible apply go_i); (conv => whnf))
    | (with_reducible apply k_d <;> intro _)
    | (with_reducible apply k_b <;> intro _)
theorem C.clone_sl (es : List (List D)) (hl : es.length ≤ 1048577) (hm : ∀ e ∈ es, e.length = 1) : CallSpec Try.prog N.slices_Clone__int_int [.d (.sl es)] [] (fun r os => r = .arr 0 es.length ∧ os = [.arr es 1 0 false]) := by
  refine F.slices_Clone__int_int.goO mixed rfl ?_
  have h0 : ([] : List (List D)).length = 0 := rfl
  have h00 : (([] : List (List D)) ++ es).length = es.length := rfl
  have hb : (([] : List (List D)).length + es.length) * 8 ≤ 140737488355328 ∧ ([] : List (List D)).length + es.length ≤ 9223372036854775807 := by rw [h0]; omega
  repeat' first
    | refine st ?_
    | ((with_reducible apply go_i); (conv => whnf))
    | (with_reducible apply k_d <;> intro _)
    | (with_reducible apply k_b <;> intro _)
  all_goals (refine ⟨rfl, ?_⟩; cases es <;> rfl)
theorem eIs_app (l : List Int) (x : Int) : eIs l ++ [[eI x]] = eIs (l ++ [x]) := by simp [eIs]
theorem C.expr_all (l : List Int) (hl : l.length ≤ 1048576) (d : D) (hd : SlD d (eIs l)) (c : Int) (hc : c ≠ 0) : Pure Try.prog N.expr_all [.d d, .d (eI c)] (.d (.bool (allK l c))) := by
  refine F.expr_all.go mixed rfl ?_
  have h1 := eIs_len l
  have hm := eIs_mem l
  have hU := C.expr_unite (l ++ [c]) (by simp; omega) (.sl (eIs (l ++ [c]))) sld_sl
  have hres := uni_all c hc l 0
  rw [show decide ((0 : Int) = 0 ∨ (0 : Int) = c) = true from rfl, Bool.true_and] at hres
  rw [← hres]
  unfold uni at hU
  rw [← eIs_app] at hU
  obtain ⟨x, b⟩ : ∃ x b, uniF 0 (l ++ [c]) = (x, b) := ⟨_, _, rfl⟩
  rcases hd with ⟨rfl, he⟩ | rfl
  · rw [he] at hU
    repeat' first
      | refine st ?_
      | ((with_reducible apply go_i); (conv => whnf))
      | ((with_reducible apply k_pn); (· first | exact C.clone_nil | exact hU))
      | ((with_reducible apply k_pc); (· first | exact C.clone_nil | exact hU))
      | (with_reducible apply k_d <;> intro _)
      | (with_reducible apply k_b <;> intro _)
    all_goals simp [*]
  · have hC := C.clone_sl (eIs l) (by omega) hm
    have ha : (eIs l ++ [[eI c]]).length = l.length + 1 := by simp [h1]
    repeat' first
      | refine st ?_
      | ((with_reducible apply go_i); (conv => whnf))
      | ((with_reducible apply k_pn); (· exact hU))
      | ((with_reducible apply k_pc); (· exact hU))
      | ((with_reducible apply k_nc); (· first | exact hC); (try rintro _ _ ⟨rfl, rfl⟩))
      | ((with_reducible apply k_pr); (· first | exact hC))
      | ((with_reducible apply k_cs); (· first | exact hC); (try rintro _ _ ⟨rfl, rfl⟩))
      | ((with_reducible apply k_cal); refine st ?_; (with_reducible apply k_chk); (· exact rfl); refine st ?_; (with_reducible apply k_cs); (· first | exact hC); (try rintro _ _ ⟨rfl, rfl⟩))
      | (with_reducible apply k_d <;> intro _)
      | (with_reducible apply k_b <;> intro _)
    all_goals simp [*]
theorem C.r11_all (l : List Int) (hl : l.length ≤ 1048577) (d : D) (hd : SlD d (eIs l)) (c : Int) : Pure Try.prog N.bt_ref11_all [.d d, .d (eI c)] (.d (.bool (allK l c))) := by
  refine F.bt_ref11_all.go mixed rfl ?_
  have h1 := eIs_len l
  have hm := eIs_mem l
  repeat' first
    | refine st ?_
    | ((with_reducible apply go_i); (conv => whnf))
    | (with_reducible apply k_d <;> intro _)
    | (with_reducible apply k_b <;> intro _)
  refine x_loop1 mixed Lt.bt_ref11_all_l0 Lk.bt_ref11_all_l0 (fun (i : Nat) => [.d (eI i)]) (fun i => []) (fun i => i ≤ l.length ∧ (l.take i).all (fun x => decide (x = c ∨ x = 0)) = true) (fun i => l.length - i) 0 rfl rfl rfl rfl (fun _ _ => ⟨rfl, rfl⟩) rfl ⟨by omega, rfl⟩ ?_
  repeat' first
    | refine st ?_
    | ((with_reducible apply go_i); (conv => whnf))
    | (with_reducible apply k_d <;> intro _)
    | (with_reducible apply k_b <;> intro _)
  intro i ⟨h2, h3⟩
  cases hx : l[i]? with
  | some x =>
    have hlt := (List.getElem?_eq_some_iff.1 hx).1
    have hg := eIs_get hx
    by_cases hk : x = c
    · repeat' first
        | refine st ?_
        | ((with_reducible apply go_i); (conv => whnf))
        | (with_reducible apply k_d <;> intro _)
        | (with_reducible apply k_b <;> intro _)
      refine ⟨i + 1, rfl, rfl, rfl, by omega, by omega, ?_⟩
      rw [all_take_succ hx, h3, decide_eq_true (show x = c ∨ x = 0 from .inl hk)]; rfl
    · by_cases hk0 : x = 0
      · repeat' first
          | refine st ?_
          | ((with_reducible apply go_i); (conv => whnf))
          | (with_reducible apply k_d <;> intro _)
          | (with_reducible apply k_b <;> intro _)
        refine ⟨i + 1, rfl, rfl, rfl, by omega, by omega, ?_⟩
        rw [all_take_succ hx, h3, decide_eq_true (show x = c ∨ x = 0 from .inr hk0)]; rfl
      · repeat' first
          | refine st ?_
          | ((with_reducible apply go_i); (conv => whnf))
          | (with_reducible apply k_d <;> intro _)
          | (with_reducible apply k_b <;> intro _)
        rw [allK, all_none hx (decide_eq_false (show ¬ (x = c ∨ x = 0) by omega))]
  | none =>
    have hge := List.getElem?_eq_none_iff.1 hx
    rw [List.take_of_length_le hge] at h3
    repeat' first
      | refine st ?_
      | ((with_reducible apply go_i); (conv => whnf))
      | (with_reducible apply k_d <;> intro _)
      | (with_reducible apply k_b <;> intro _)
    rw [allK, h3]
end Go.Proofs
end
section
/- The kind of an operator's answer. No condition. -/
set_option linter.unusedSimpArgs false
set_option linter.unusedVariables false
set_option maxRecDepth 10000
set_option maxHeartbeats 4000000
namespace Go.Proofs
open Go.Bi

def res (op : Int) (v : Vl) (l : List Int) : Int × Bool :=
  if op = 1 then (v.k, true)
  else if op = 4 ∨ op = 5 ∨ op = 6 then (3, allK l 3)
  else if op = 7 ∨ op = 8 ∨ op = 9 ∨ op = 10 ∨ op = 11 ∨ op = 12 then (3, (uni l).2)
  else if op = 19 then (2, allK l 2)
  else if op = 20 then (1, allK l 2)
  else if op = 21 then (3, true)
  else if op = 22 then ((uni (l.drop 1)).1, (uni (l.drop 1)).2 && allK (l.take 1) 3)
  else if op = 23 then uni l
  else if op = 24 then (3, allK l 1) else (1, allK l 1)
theorem eIs_drop (l : List Int) (i : Nat) : (eIs l).drop i = eIs (l.drop i) := by simp [eIs]
theorem eIs_take (l : List Int) (i : Nat) : (eIs l).take i = eIs (l.take i) := by simp [eIs]
theorem C.expr_result (op n : Int) (v : Vl) (name : List UInt8) (d0 : D) (l : List Int) (hl : l.length ≤ 1048576) (d : D) (hd : SlD d (eIs l)) (h22 : op = 22 → 1 ≤ l.length) : Pure Try.prog N.expr_result [eX op n v name d0, .d d] (.tup [.d (eI (res op v l).1), .d (.bool (res op v l).2)]) := by
  refine F.expr_result.go mixed rfl ?_
  have h1 := eIs_len l
  have hm := eIs_mem l
  by_cases h22' : op = 22
  · subst h22'
    have hl1 := h22 rfl
    rcases hd with ⟨rfl, he⟩ | rfl
    · rw [he] at h1; simp at h1; omega
    have hU := C.expr_unite (l.drop 1) (by simp; omega) (.sl (eIs (l.drop 1))) sld_sl
    have hA := C.expr_all (l.take 1) (by simp; omega) (.sl (eIs (l.take 1))) sld_sl 3 (by decide)
    have hcut : ((eIs l).drop (1 : Int).toNat).take (((eIs l).length : Int).toNat - (1 : Int).toNat) = eIs (l.drop 1) := by
      rw [← eIs_drop, show (1 : Int).toNat = 1 from rfl, List.take_of_length_le]
      simp
    have hcut2 : ((eIs l).drop ((0 : Nat) : Int).toNat).take ((1 : Int).toNat - ((0 : Nat) : Int).toNat) = eIs (l.take 1) := by
      rw [← eIs_take]; rfl
    rw [show res 22 v l = ((uni (l.drop 1)).1, (uni (l.drop 1)).2 && allK (l.take 1) 3) from rfl]
    obtain ⟨⟨k, b⟩, hkb⟩ : ∃ kb, uni (l.drop 1) = kb := ⟨_, rfl⟩
    rw [hkb] at hU ⊢
    obtain ⟨z, hz⟩ : ∃ z, allK (l.take 1) 3 = z := ⟨_, rfl⟩
    rw [hz] at hA ⊢
    obtain ⟨e1, he1⟩ : ∃ e1, e1 = eIs (l.drop 1) := ⟨_, rfl⟩
    obtain ⟨e2, he2⟩ : ∃ e2, e2 = eIs (l.take 1) := ⟨_, rfl⟩
    rw [← he1] at hU hcut
    rw [← he2] at hA hcut2
    have hel : ((eIs l).length : Int) = l.length := by rw [h1]
    obtain ⟨es, hes⟩ : ∃ es, es = eIs l := ⟨_, rfl⟩
    rw [← hes] at hcut hcut2 hel hm h1 ⊢
    cases b with
    | false =>
      repeat' first
        | refine st ?_
        | ((with_reducible apply go_i); (conv => whnf))
        | (with_reducible apply k_d <;> intro _)
        | (with_reducible apply k_b <;> intro _)
      all_goals (try rw [hcut])
      repeat' first
        | refine st ?_
        | ((with_reducible apply go_i); (conv => whnf))
        | ((with_reducible apply k_pn); (· exact hU))
        | ((with_reducible apply k_pc); (· exact hU))
        | (with_reducible apply k_d <;> intro _)
        | (with_reducible apply k_b <;> intro _)
      all_goals rfl
    | true =>
      repeat' first
        | refine st ?_
        | ((with_reducible apply go_i); (conv => whnf))
        | (with_reducible apply k_d <;> intro _)
        | (with_reducible apply k_b <;> intro _)
      all_goals (try rw [hcut])
      repeat' first
        | refine st ?_
        | ((with_reducible apply go_i); (conv => whnf))
        | ((with_reducible apply k_pn); (· exact hU))
        | ((with_reducible apply k_pc); (· exact hU))
        | (with_reducible apply k_d <;> intro _)
        | (with_reducible apply k_b <;> intro _)
      all_goals (try rw [hcut2])
      repeat' first
        | refine st ?_
        | ((with_reducible apply go_i); (conv => whnf))
        | ((with_reducible apply k_pn); (· exact hA))
        | ((with_reducible apply k_pc); (· exact hA))
        | (with_reducible apply k_d <;> intro _)
        | (with_reducible apply k_b <;> intro _)
      all_goals rfl
  have A3 := C.expr_all l hl d hd 3 (by decide)
  have A2 := C.expr_all l hl d hd 2 (by decide)
  have A1 := C.expr_all l hl d hd 1 (by decide)
  have U := C.expr_unite l (by omega) d hd
  repeat' first
    | refine st ?_
    | ((with_reducible apply go_i); (conv => whnf))
    | ((with_reducible apply k_pn); (· first | exact A3 | exact A2 | exact A1 | exact U))
    | ((with_reducible apply k_pc); (· first | exact A3 | exact A2 | exact A1 | exact U))
    | (with_reducible apply k_d <;> intro _)
    | (with_reducible apply k_b <;> intro _)
  all_goals first
    | (subst_vars; rfl)
    | (simp only [res]; rw [if_neg (by omega), if_neg (by omega), if_neg (by omega), if_neg (by omega), if_neg (by omega), if_neg (by omega), if_neg (by omega), if_neg (by omega), if_neg (by omega)])
theorem C.r11_result2 (n : Int) (v : Vl) (name : List UInt8) (d0 : D) (l ks : List Int) (d : D) (hd : SlD d (eIs l)) (dk : D) (hdk : SlD dk (eIs ks)) (k : Int) (h0 : 0 ≤ n) (hk : ks[n.toNat]? = some k) : Pure Try.prog N.bt_ref11_result [eX 2 n v name d0, .d d, .d dk] (.tup [.d (eI k), .d (.bool true)]) := by
  refine F.bt_ref11_result.go mixed rfl ?_
  have h1 := eIs_len ks
  have hm := eIs_mem ks
  have hg := eIs_get hk
  have hlt := (List.getElem?_eq_some_iff.1 hk).1
  have hn2 : n < (eIs ks).length := by omega
  repeat' first
    | refine st ?_
    | ((with_reducible apply go_i); (conv => whnf))
    | (with_reducible apply k_d <;> intro _)
    | (with_reducible apply k_b <;> intro _)
  all_goals rfl
theorem C.r11_result (op n : Int) (v : Vl) (name : List UInt8) (d0 : D) (l : List Int) (hl : l.length ≤ 1048576) (d : D) (hd : SlD d (eIs l)) (dk : D) (h22 : op = 22 → 1 ≤ l.length) (hop : op = 1 ∨ 4 ≤ op ∧ op ≤ 24) (h2 : op ≠ 2) : Pure Try.prog N.bt_ref11_result [eX op n v name d0, .d d, .d dk] (.tup [.d (eI (res op v l).1), .d (.bool (res op v l).2)]) := by
  refine F.bt_ref11_result.go mixed rfl ?_
  have h1 := eIs_len l
  have hm := eIs_mem l
  by_cases h22' : op = 22
  · subst h22'
    have hl1 := h22 rfl
    rcases hd with ⟨rfl, he⟩ | rfl
    · rw [he] at h1; simp at h1; omega
    have hU := C.r11_Join (l.drop 1) (by simp; omega) (.sl (eIs (l.drop 1))) sld_sl
    have hA := C.r11_all (l.take 1) (by simp; omega) (.sl (eIs (l.take 1))) sld_sl 3
    have hcut : ((eIs l).drop (1 : Int).toNat).take (((eIs l).length : Int).toNat - (1 : Int).toNat) = eIs (l.drop 1) := by
      rw [← eIs_drop, show (1 : Int).toNat = 1 from rfl, List.take_of_length_le]
      simp
    have hcut2 : ((eIs l).drop ((0 : Nat) : Int).toNat).take ((1 : Int).toNat - ((0 : Nat) : Int).toNat) = eIs (l.take 1) := by
      rw [← eIs_take]; rfl
    rw [show res 22 v l = ((uni (l.drop 1)).1, (uni (l.drop 1)).2 && allK (l.take 1) 3) from rfl]
    obtain ⟨⟨k, b⟩, hkb⟩ : ∃ kb, uni (l.drop 1) = kb := ⟨_, rfl⟩
    rw [hkb] at hU ⊢
    obtain ⟨z, hz⟩ : ∃ z, allK (l.take 1) 3 = z := ⟨_, rfl⟩
    rw [hz] at hA ⊢
    obtain ⟨e1, he1⟩ : ∃ e1, e1 = eIs (l.drop 1) := ⟨_, rfl⟩
    obtain ⟨e2, he2⟩ : ∃ e2, e2 = eIs (l.take 1) := ⟨_, rfl⟩
    rw [← he1] at hU hcut
    rw [← he2] at hA hcut2
    have hel : ((eIs l).length : Int) = l.length := by rw [h1]
    obtain ⟨es, hes⟩ : ∃ es, es = eIs l := ⟨_, rfl⟩
    rw [← hes] at hcut hcut2 hel hm h1 ⊢
    cases b with
    | false =>
      repeat' first
        | refine st ?_
        | ((with_reducible apply go_i); (conv => whnf))
        | (with_reducible apply k_d <;> intro _)
        | (with_reducible apply k_b <;> intro _)
      all_goals (try rw [hcut])
      repeat' first
        | refine st ?_
        | ((with_reducible apply go_i); (conv => whnf))
        | ((with_reducible apply k_pn); (· exact hU))
        | ((with_reducible apply k_pc); (· exact hU))
        | (with_reducible apply k_d <;> intro _)
        | (with_reducible apply k_b <;> intro _)
      all_goals rfl
    | true =>
      repeat' first
        | refine st ?_
        | ((with_reducible apply go_i); (conv => whnf))
        | (with_reducible apply k_d <;> intro _)
        | (with_reducible apply k_b <;> intro _)
      all_goals (try rw [hcut])
      repeat' first
        | refine st ?_
        | ((with_reducible apply go_i); (conv => whnf))
        | ((with_reducible apply k_pn); (· exact hU))
        | ((with_reducible apply k_pc); (· exact hU))
        | (with_reducible apply k_d <;> intro _)
        | (with_reducible apply k_b <;> intro _)
      all_goals (try rw [hcut2])
      repeat' first
        | refine st ?_
        | ((with_reducible apply go_i); (conv => whnf))
        | ((with_reducible apply k_pn); (· exact hA))
        | ((with_reducible apply k_pc); (· exact hA))
        | (with_reducible apply k_d <;> intro _)
        | (with_reducible apply k_b <;> intro _)
      all_goals rfl
  have A3 := C.r11_all l (by omega) d hd 3
  have A2 := C.r11_all l (by omega) d hd 2
  have A1 := C.r11_all l (by omega) d hd 1
  have U := C.r11_Join l (by omega) d hd
  repeat' first
    | refine st ?_
    | ((with_reducible apply go_i); (conv => whnf))
    | ((with_reducible apply k_pn); (· first | exact A3 | exact A2 | exact A1 | exact U))
    | ((with_reducible apply k_pc); (· first | exact A3 | exact A2 | exact A1 | exact U))
    | (with_reducible apply k_d <;> intro _)
    | (with_reducible apply k_b <;> intro _)
  all_goals first
    | (subst_vars; rfl)
    | (have : op = 24 := by omega
       subst this; rfl)
end Go.Proofs
end
section
/- Check: the kind of an expression. No condition. -/
set_option linter.unusedSimpArgs false
set_option linter.unusedVariables false
set_option maxRecDepth 10000
set_option maxHeartbeats 4000000
namespace Go.Proofs
open Go.Bi

/-- The first error. -/
def fe : List (Int × Int) → Int
  | [] => 0
  | r :: rs => if r.2 = 0 then fe rs else r.2
def ckF (op n : Int) (v : Vl) (name : List UInt8) (ks : List Int) (k : Nat) (rs : List (Int × Int)) : Int × Int :=
  if (cnt op k).2 = false then (0, 7) else if fmd op n v name k = false then (0, 8)
  else if op = 2 then (if 0 ≤ n ∧ n < ks.length then (ks.getD n.toNat 0, 0) else (0, 13))
  else if fe rs = 0 then (if (res op v (rs.map Prod.fst)).2 then ((res op v (rs.map Prod.fst)).1, 0) else (0, 7)) else (0, fe rs)
mutual
def chk (ks : List Int) : Ex → Int × Int
  | .mk op n v name nl args => ckF op n v name ks args.length (chkL ks args)
def chkL (ks : List Int) : List Ex → List (Int × Int)
  | [] => []
  | e :: es => chk ks e :: chkL ks es
end
theorem chkL_eq (ks : List Int) : ∀ l, chkL ks l = l.map (chk ks)
  | [] => by simp [chkL]
  | e :: es => by simp [chkL, chkL_eq ks es]
theorem chk_mk (ks : List Int) (op n : Int) (v : Vl) (name : List UInt8) (nl : Bool) (args : List Ex) : chk ks (.mk op n v name nl args) = ckF op n v name ks args.length (args.map (chk ks)) := by rw [chk, chkL_eq]
theorem fe_drop {l : List (Int × Int)} {i : Nat} {x : Int × Int} (h : l[i]? = some x) : fe (l.drop i) = if x.2 = 0 then fe (l.drop (i + 1)) else x.2 := by
  obtain ⟨hlt, he⟩ := List.getElem?_eq_some_iff.1 h
  rw [List.drop_eq_getElem_cons hlt, he]; rfl
def Kv (rs : List (Int × Int)) (i : Nat) : List (List D) := eIs ((rs.take i).map Prod.fst)
theorem Kv_len (rs : List (Int × Int)) (i : Nat) (h : i ≤ rs.length) : (Kv rs i).length = i := by
  unfold Kv
  rw [eIs_len, List.length_map, List.length_take]
  omega
theorem Kv_succ {rs : List (Int × Int)} {i : Nat} {x : Int × Int} (h : rs[i]? = some x) : Kv rs i ++ [[eI x.1]] = Kv rs (i + 1) := by
  unfold Kv
  rw [List.take_add_one, h]
  simp [eIs]
theorem Kv_end {rs : List (Int × Int)} {i : Nat} (h : rs.length ≤ i) : Kv rs i = eIs (rs.map Prod.fst) := by
  unfold Kv
  rw [List.take_of_length_le h]
theorem ckF_known {op n : Int} {v : Vl} {name : List UInt8} {ks : List Int} {k : Nat} {rs : List (Int × Int)} (h : fmd op n v name k = true) (h2 : op ≠ 2) : ckF op n v name ks k rs = if fe rs = 0 then (if (res op v (rs.map Prod.fst)).2 then ((res op v (rs.map Prod.fst)).1, 0) else (0, 7)) else (0, fe rs) := by
  have hc := cnt_case (fmd_cnt h)
  unfold ckF
  have : (cnt op k).2 = true := by
    unfold cnt
    repeat' split
    all_goals first | rfl | omega
  rw [this, h, if_neg (by simp), if_neg (by simp), if_neg h2]
theorem C.expr_check (ks : List Int) (hks : ks.length ≤ 1048576) (dk : D) (hdk : SlD dk (eIs ks)) : ∀ e : Ex, e.bk ≤ 1048576 → Pure Try.prog N.expr_check [e.av, .d dk] (.tup [.d (eI (chk ks e).1), .d (eI (chk ks e).2)]) := by
  refine Ex.ind fun op n v name nl args ih hbk => ?_
  obtain ⟨b1, b2, b3, b4⟩ := Ex.bk_bounds hbk
  have ih' : ∀ a ∈ args, Pure Try.prog N.expr_check [a.av, .d dk] (.tup [.d (eI (chk ks a).1), .d (eI (chk ks a).2)]) := fun a ha => ih a ha (b4 a ha)
  clear ih
  rw [Ex.av_mk, chk_mk]
  refine F.expr_check.go mixed rfl ?_
  have hlen := xL_len args
  have hF := C.expr_formed op n v name (ng nl (xL args)) (xL args) sld_ng b2 (by omega)
  rw [hlen] at hF
  have hC := C.expr_counts op args.length
  have hm := xL_mem args
  have hd : SlD (ng nl (xL args)) (xL args) := sld_ng
  have hget : ∀ (i : Nat) (op' n' : Int) (v' : Vl) (name' : List UInt8) (nl' : Bool) (args' : List Ex), args[i]? = some (.mk op' n' v' name' nl' args') → (xL args)[i]? = some (xds op' n' v' name' (ng nl' (xL args'))) := fun i op' n' v' name' nl' args' h => by
    rw [← Ex.ds_mk]; exact xL_get h
  obtain ⟨d, hde⟩ : ∃ d, d = ng nl (xL args) := ⟨_, rfl⟩
  rw [← hde] at hF hd ⊢
  obtain ⟨es, hes⟩ : ∃ es, es = xL args := ⟨_, rfl⟩
  rw [← hes] at hlen hm hd hget
  rw [← hlen] at hC
  obtain ⟨rs, hrs⟩ : ∃ rs, rs = args.map (chk ks) := ⟨_, rfl⟩
  have hrl : rs.length = args.length := by rw [hrs, List.length_map]
  have hrg : ∀ (i : Nat) (x : Ex), args[i]? = some x → rs[i]? = some (chk ks x) := fun i x h => by rw [hrs, List.getElem?_map, h]; rfl
  rw [← hrs]
  cases hk : (cnt op args.length).2 with
  | false =>
    have e : ckF op n v name ks args.length rs = (0, 7) := by unfold ckF; rw [hk, if_pos rfl]
    rw [e]
    rw [hlen, hk, ← hlen] at hC
    repeat' first
      | refine st ?_
      | ((with_reducible apply go_i); (conv => whnf))
      | ((with_reducible apply k_pn); (· exact hC))
      | ((with_reducible apply k_pc); (· exact hC))
      | (with_reducible apply k_d <;> intro _)
      | (with_reducible apply k_b <;> intro _)
    all_goals rfl
  | true =>
  rw [hlen, hk, ← hlen] at hC
  cases hf : fmd op n v name args.length with
  | false =>
    have e : ckF op n v name ks args.length rs = (0, 8) := by unfold ckF; rw [hk, if_neg (by simp), hf, if_pos rfl]
    rw [e]
    rw [hf] at hF
    repeat' first
      | refine st ?_
      | ((with_reducible apply go_i); (conv => whnf))
      | ((with_reducible apply k_pn); (· first | exact hC | exact hF))
      | ((with_reducible apply k_pc); (· first | exact hC | exact hF))
      | (with_reducible apply k_d <;> intro _)
      | (with_reducible apply k_b <;> intro _)
    all_goals rfl
  | true =>
  rw [hf] at hF
  have hkl := eIs_len ks
  have hkm := eIs_mem ks
  by_cases h2 : op = 2
  · subst h2
    by_cases hn : 0 ≤ n ∧ n < ks.length
    · have e : ckF 2 n v name ks args.length rs = (ks.getD n.toNat 0, 0) := by unfold ckF; rw [hk, if_neg (by simp), hf, if_neg (by simp), if_pos rfl, if_pos hn]
      rw [e]
      obtain ⟨n1, n2⟩ := hn
      have hx : ks[n.toNat]? = some (ks.getD n.toNat 0) := by
        rw [List.getD_eq_getElem?_getD, List.getElem?_eq_getElem (by omega)]; rfl
      have hg := eIs_get hx
      have n3 : n < (eIs ks).length := by omega
      repeat' first
        | refine st ?_
        | ((with_reducible apply go_i); (conv => whnf))
        | ((with_reducible apply k_pn); (· first | exact hC | exact hF))
        | ((with_reducible apply k_pc); (· first | exact hC | exact hF))
        | (with_reducible apply k_d <;> intro _)
        | (with_reducible apply k_b <;> intro _)
      all_goals rfl
    · have e : ckF 2 n v name ks args.length rs = (0, 13) := by unfold ckF; rw [hk, if_neg (by simp), hf, if_neg (by simp), if_pos rfl, if_neg hn]
      rw [e]
      by_cases hn0 : n < 0
      · repeat' first
          | refine st ?_
          | ((with_reducible apply go_i); (conv => whnf))
          | ((with_reducible apply k_pn); (· first | exact hC | exact hF))
          | ((with_reducible apply k_pc); (· first | exact hC | exact hF))
          | (with_reducible apply k_d <;> intro _)
          | (with_reducible apply k_b <;> intro _)
        all_goals rfl
      · have n3 : (eIs ks).length ≤ n := by omega
        repeat' first
          | refine st ?_
          | ((with_reducible apply go_i); (conv => whnf))
          | ((with_reducible apply k_pn); (· first | exact hC | exact hF))
          | ((with_reducible apply k_pc); (· first | exact hC | exact hF))
          | (with_reducible apply k_d <;> intro _)
          | (with_reducible apply k_b <;> intro _)
        all_goals rfl
  have hq := ckF_known (ks := ks) (rs := rs) hf h2
  obtain ⟨q, hqe⟩ : ∃ q, q = ckF op n v name ks args.length rs := ⟨_, rfl⟩
  rw [← hqe] at hq ⊢
  have hcnt := cnt_case (fmd_cnt hf)
  repeat' first
    | refine st ?_
    | ((with_reducible apply go_i); (conv => whnf))
    | ((with_reducible apply k_pn); (· first | exact hC | exact hF))
    | ((with_reducible apply k_pc); (· first | exact hC | exact hF))
    | (with_reducible apply k_d <;> intro _)
    | (with_reducible apply k_b <;> intro _)
  refine x_nil 8 1 rfl rfl ?_
  repeat' first
    | refine st ?_
    | ((with_reducible apply go_i); (conv => whnf))
    | (with_reducible apply k_d <;> intro _)
    | (with_reducible apply k_b <;> intro _)
  refine x_loop2 mixed Lt.expr_check_l0 Lk.expr_check_l0 (fun (i : Nat) (w : List (List D) × Bool) => [.arr 1 w.1.length, .d (eI i)]) (fun i w => [.cells [.d (eI op), .d (eI n), .d (eI v.k), .d (eI v.n), .d (.str v.s), .d (.str name), .d d], .arr w.1 1 0 w.2]) (fun i w => i ≤ args.length ∧ w.1 = Kv rs i ∧ w.2 = w.1.isEmpty ∧ fe rs = fe (rs.drop i)) (fun i _ => args.length - i) 0 ([], true) rfl rfl rfl rfl (fun _ _ _ => ⟨rfl, rfl⟩) rfl ⟨by omega, rfl, rfl, rfl⟩ ?_
  repeat' first
    | refine st ?_
    | ((with_reducible apply go_i); (conv => whnf))
    | (with_reducible apply k_d <;> intro _)
    | (with_reducible apply k_b <;> intro _)
  intro i w ⟨h4, h5, h6, h7⟩
  obtain ⟨A, b⟩ := w
  dsimp only at h5 h6 h7 ⊢
  have hAl : A.length = i := by rw [h5]; exact Kv_len rs i (by omega)
  have hAm : ∀ e ∈ A, e.length = 1 := by rw [h5]; exact eIs_mem _
  cases hx : args[i]? with
  | some x =>
    have hlt := (List.getElem?_eq_some_iff.1 hx).1
    have hI := ih' x (List.mem_of_getElem? hx)
    have hr := hrg i x hx
    have hs := Kv_succ hr
    rw [fe_drop hr] at h7
    rw [← h5] at hs
    obtain ⟨⟨k, er⟩, hke⟩ : ∃ ke, ke = chk ks x := ⟨_, rfl⟩
    rw [← hke] at hI hs h7
    obtain ⟨op', n', v', name', nl', args'⟩ := x
    rw [Ex.av_mk] at hI
    have hg := hget i _ _ _ _ _ _ hx
    by_cases her : er = 0
    · rw [if_pos her] at h7
      repeat' first
        | refine st ?_
        | ((with_reducible apply go_i); (conv => whnf))
        | ((with_reducible apply k_pn); (· exact hI))
        | ((with_reducible apply k_pc); (· exact hI))
        | (with_reducible apply k_d <;> intro _)
        | (with_reducible apply k_b <;> intro _)
      exact ⟨i + 1, (A ++ [[eI k]], false), rfl, rfl, rfl, by omega, by omega, hs, by simp, h7⟩
    · rw [if_neg her] at h7
      dsimp only at h7
      rw [h7, if_neg her] at hq
      rw [hq]
      repeat' first
        | refine st ?_
        | ((with_reducible apply go_i); (conv => whnf))
        | ((with_reducible apply k_pn); (· exact hI))
        | ((with_reducible apply k_pc); (· exact hI))
        | (with_reducible apply k_d <;> intro _)
        | (with_reducible apply k_b <;> intro _)
      all_goals rfl
  | none =>
    have hge := List.getElem?_eq_none_iff.1 hx
    rw [List.drop_eq_nil_of_le (by omega)] at h7
    rw [h7, if_pos (show fe [] = 0 from rfl)] at hq
    rw [Kv_end (by omega)] at h5
    clear hrg
    obtain ⟨l, hl⟩ : ∃ l, l = rs.map Prod.fst := ⟨_, rfl⟩
    have hll : l.length = args.length := by rw [hl, List.length_map, hrl]
    rw [← hl] at h5 hq
    have h22 : op = 22 → 1 ≤ l.length := fun e => by omega
    obtain ⟨⟨kr, br⟩, hre⟩ : ∃ r, r = res op v l := ⟨_, rfl⟩
    cases b with
    | true =>
      have hA0 : A = [] := by simpa using h6
      subst hA0
      have hR := C.expr_result op n v name d l (by omega) .nil (.inl ⟨rfl, h5.symm⟩) h22
      rw [← hre] at hR hq
      rw [hq]
      cases br with
      | true =>
        repeat' first
          | refine st ?_
          | ((with_reducible apply go_i); (conv => whnf))
          | ((with_reducible apply k_pn); (· exact hR))
          | ((with_reducible apply k_pc); (· exact hR))
          | (with_reducible apply k_d <;> intro _)
          | (with_reducible apply k_b <;> intro _)
        all_goals rfl
      | false =>
        repeat' first
          | refine st ?_
          | ((with_reducible apply go_i); (conv => whnf))
          | ((with_reducible apply k_pn); (· exact hR))
          | ((with_reducible apply k_pc); (· exact hR))
          | (with_reducible apply k_d <;> intro _)
          | (with_reducible apply k_b <;> intro _)
        all_goals rfl
    | false =>
      have hR := C.expr_result op n v name d l (by omega) (.sl (eIs l)) sld_sl h22
      rw [← hre, ← h5] at hR
      rw [← hre] at hq
      rw [hq]
      cases br with
      | true =>
        repeat' first
          | refine st ?_
          | ((with_reducible apply go_i); (conv => whnf))
          | ((with_reducible apply k_pn); (· exact hR))
          | ((with_reducible apply k_pc); (· exact hR))
          | (with_reducible apply k_d <;> intro _)
          | (with_reducible apply k_b <;> intro _)
        all_goals rfl
      | false =>
        repeat' first
          | refine st ?_
          | ((with_reducible apply go_i); (conv => whnf))
          | ((with_reducible apply k_pn); (· exact hR))
          | ((with_reducible apply k_pc); (· exact hR))
          | (with_reducible apply k_d <;> intro _)
          | (with_reducible apply k_b <;> intro _)
        all_goals rfl
theorem C.expr_Check (ks : List Int) (hks : ks.length ≤ 1048576) (dk : D) (hdk : SlD dk (eIs ks)) (e : Ex) (he : e.bk ≤ 1048576) : Pure Try.prog N.expr_Check [e.av, .d dk] (.tup [.d (eI (if 24 < dep e then (0, 26) else chk ks e).1), .d (eI (if 24 < dep e then ((0, 26) : Int × Int) else chk ks e).2)]) := by
  have hD := C.expr_Depth e he
  have hC := C.expr_check ks hks dk hdk e he
  obtain ⟨kr, hre⟩ : ∃ r, r = chk ks e := ⟨_, rfl⟩
  obtain ⟨dp, hdp⟩ : ∃ dp, dp = dep e := ⟨_, rfl⟩
  rw [← hre] at hC ⊢
  rw [← hdp] at hD ⊢
  obtain ⟨op, n, v, name, nl, args⟩ := e
  rw [Ex.av_mk] at hC hD ⊢
  refine F.expr_Check.go mixed rfl ?_
  by_cases h : 24 < dp
  · rw [if_pos h]
    have h2 : (24 : Int) < ((min 25 dp : Nat) : Int) := by omega
    repeat' first
      | refine st ?_
      | ((with_reducible apply go_i); (conv => whnf))
      | ((with_reducible apply k_pn); (· first | exact hD | exact hC))
      | ((with_reducible apply k_pc); (· first | exact hD | exact hC))
      | (with_reducible apply k_d <;> intro _)
      | (with_reducible apply k_b <;> intro _)
    all_goals rfl
  · rw [if_neg h]
    have h2 : ((min 25 dp : Nat) : Int) ≤ 24 := by omega
    repeat' first
      | refine st ?_
      | ((with_reducible apply go_i); (conv => whnf))
      | ((with_reducible apply k_pn); (· first | exact hD | exact hC))
      | ((with_reducible apply k_pc); (· first | exact hD | exact hC))
      | (with_reducible apply k_d <;> intro _)
      | (with_reducible apply k_b <;> intro _)
    all_goals rfl
end Go.Proofs
end
section
/- The examples of the chapter. No condition. -/
set_option linter.unusedSimpArgs false
set_option linter.unusedVariables false
set_option maxRecDepth 10000
set_option maxHeartbeats 4000000
namespace Go.Proofs
open Go.Bi

def nuE (n : Int) : Ex := .mk 1 0 ⟨1, n, []⟩ [] true []
def noE : Ex := .mk 1 0 vNull [] true []
def aE : Ex := .mk 1 0 ⟨2, 0, [97]⟩ [] true []
def twE (op : Int) (a b : Ex) : Ex := .mk op 0 vNull [] false [a, b]
def isE (a : Ex) : Ex := .mk 21 0 vNull [] false [a]
theorem C.law_num (n : Int) : Pure Try.prog N.bt_law11_num [.d (eI n)] (nuE n).av := by
  rw [nuE, Ex.av_mk]
  refine F.bt_law11_num.go mixed rfl ?_
  repeat' first
    | refine st ?_
    | ((with_reducible apply go_i); (conv => whnf))
    | (with_reducible apply k_d <;> intro _)
    | (with_reducible apply k_b <;> intro _)
  all_goals rfl
theorem C.law_two (op : Int) (a b : Ex) : Pure Try.prog N.bt_law11_two [.d (eI op), a.av, b.av] (twE op a b).av := by
  rw [twE, Ex.av_mk]
  obtain ⟨o1, n1, v1, m1, l1, a1⟩ := a
  obtain ⟨o2, n2, v2, m2, l2, a2⟩ := b
  rw [Ex.av_mk, Ex.av_mk]
  refine F.bt_law11_two.go mixed rfl ?_
  repeat' first
    | refine st ?_
    | ((with_reducible apply go_i); (conv => whnf))
    | (with_reducible apply k_d <;> intro _)
    | (with_reducible apply k_b <;> intro _)
  all_goals (simp only [xL, List.map_cons, List.map_nil, Ex.ds_mk]; rfl)
theorem nuE_av (n : Int) : (nuE n).av = eX 1 0 ⟨1, n, []⟩ [] .nil := by rw [nuE, Ex.av_mk]; rfl
theorem noE_av : noE.av = eX 1 0 vNull [] .nil := by rw [noE, Ex.av_mk]; rfl
theorem aE_av : aE.av = eX 1 0 ⟨2, 0, [97]⟩ [] .nil := by rw [aE, Ex.av_mk]; rfl
theorem twE_av (op : Int) (a b : Ex) : (twE op a b).av = eX op 0 vNull [] (ng false (xL [a, b])) := by rw [twE, Ex.av_mk]
theorem isE_av (a : Ex) : (isE a).av = eX 21 0 vNull [] (.sl [a.ds]) := by rw [isE, Ex.av_mk]; rfl
def ckT (ks : List Int) (e : Ex) : Int × Int := if 24 < dep e then (0, 26) else chk ks e
theorem ck1 : ckT [] (twE 23 noE aE) = (2, 0) := by decide +kernel
theorem ck2 : ckT [] (twE 13 (nuE 1) aE) = (0, 7) := by decide +kernel
theorem ev1 : ev [] (twE 16 (nuE 7) (nuE (-2))) = ⟨1, -3, []⟩ := by decide +kernel
theorem ev2 : ev [] (twE 17 (nuE (-7)) (nuE 2)) = ⟨1, -1, []⟩ := by decide +kernel
theorem ev3 : vTruth (ev [] (twE 7 (nuE 1) noE)) = 1 := by decide +kernel
theorem ev4 : vTruth (ev [] (isE noE)) = 2 := by decide +kernel
theorem ev5 : ev [] (twE 13 (nuE 1) aE) = vNull := by decide +kernel
theorem C.law_awake : Pure Try.prog N.bt_law11_awake [] (.d (.bool true)) := by
  refine F.bt_law11_awake.go mixed rfl ?_
  have n1 := C.law_num 1
  have n7 := C.law_num 7
  have nm2 := C.law_num (-2)
  have nm3 := C.law_num (-3)
  have nm7 := C.law_num (-7)
  have n2 := C.law_num 2
  have nm1 := C.law_num (-1)
  have t1 := C.law_two 23 noE aE
  have t2 := C.law_two 13 (nuE 1) aE
  have t3 := C.law_two 16 (nuE 7) (nuE (-2))
  have t4 := C.law_two 17 (nuE (-7)) (nuE 2)
  have t5 := C.law_two 7 (nuE 1) noE
  have c1 := C.expr_Check [] (by simp) .nil (.inl ⟨rfl, rfl⟩) (twE 23 noE aE) (by decide +kernel)
  have c2 := C.expr_Check [] (by simp) .nil (.inl ⟨rfl, rfl⟩) (twE 13 (nuE 1) aE) (by decide +kernel)
  have e1 := C.expr_Eval [] (by simp) (by simp) .nil (.inl ⟨rfl, rfl⟩) (twE 16 (nuE 7) (nuE (-2))) (by decide +kernel)
  have e2 := C.expr_Eval [] (by simp) (by simp) .nil (.inl ⟨rfl, rfl⟩) (twE 17 (nuE (-7)) (nuE 2)) (by decide +kernel)
  have e3 := C.expr_Eval [] (by simp) (by simp) .nil (.inl ⟨rfl, rfl⟩) (twE 7 (nuE 1) noE) (by decide +kernel)
  have e4 := C.expr_Eval [] (by simp) (by simp) .nil (.inl ⟨rfl, rfl⟩) (isE noE) (by decide +kernel)
  have e5 := C.expr_Eval [] (by simp) (by simp) .nil (.inl ⟨rfl, rfl⟩) (twE 13 (nuE 1) aE) (by decide +kernel)
  rw [show (if 24 < dep (twE 23 noE aE) then ((0, 26) : Int × Int) else chk [] (twE 23 noE aE)) = (2, 0) from ck1] at c1
  rw [show (if 24 < dep (twE 13 (nuE 1) aE) then ((0, 26) : Int × Int) else chk [] (twE 13 (nuE 1) aE)) = (0, 7) from ck2] at c2
  rw [twE_av] at e3
  rw [isE_av] at e4
  replace e3 := C.expr_Truth_of [] .nil _ _ _ _ _ _ e3
  replace e4 := C.expr_Truth_of [] .nil _ _ _ _ _ _ e4
  rw [ev1] at e1
  rw [ev2] at e2
  rw [ev3] at e3
  rw [ev4] at e4
  rw [ev5] at e5
  rw [nuE_av] at n1 n7 nm2 nm3 nm7 n2 nm1
  rw [twE_av] at t1 t2 t3 t4 t5 c1 c2 e1 e2 e5
  simp only [nuE_av, noE_av, aE_av] at t1 t2 t3 t4 t5
  have hno : noE.ds = xds 1 0 vNull [] .nil := by rw [noE, Ex.ds_mk]; rfl
  rw [hno] at e4
  repeat' first
    | refine st ?_
    | ((with_reducible apply go_i); (conv => whnf))
    | ((with_reducible apply k_pn); (· first | exact n1 | exact n7 | exact nm2 | exact nm3 | exact nm7 | exact n2 | exact nm1 | exact t1 | exact t2 | exact t3 | exact t4 | exact t5 | exact c1 | exact c2 | exact e1 | exact e2 | exact e3 | exact e4 | exact e5))
    | ((with_reducible apply k_pc); (· first | exact n1 | exact n7 | exact nm2 | exact nm3 | exact nm7 | exact n2 | exact nm1 | exact t1 | exact t2 | exact t3 | exact t4 | exact t5 | exact c1 | exact c2 | exact e1 | exact e2 | exact e3 | exact e4 | exact e5))
    | (with_reducible apply k_d <;> intro _)
    | (with_reducible apply k_b <;> intro _)
  all_goals rfl
end Go.Proofs
end
section
/- Same: expressions are compared. No condition. -/
set_option linter.unusedSimpArgs false
set_option linter.unusedVariables false
set_option maxRecDepth 10000
set_option maxHeartbeats 4000000
namespace Go.Proofs
open Go.Bi

mutual
def smE : Ex → Ex → Bool
  | .mk op n v name nl args, .mk op' n' v' name' nl' args' => decide (op = op') && decide (n = n') && decide (v = v') && decide (name = name') && smL args args'
def smL : List Ex → List Ex → Bool
  | [], [] => true
  | a :: l, b :: m => smE a b && smL l m
  | [], _ :: _ => false
  | _ :: _, [] => false
end
theorem smL_eq : ∀ l m, smL l m = (decide (l.length = m.length) && (l.zip m).all fun p => smE p.1 p.2)
  | [], [] => by simp [smL]
  | a :: l, b :: m => by
    rw [smL, smL_eq l m]
    simp only [List.length_cons, List.zip_cons_cons, List.all_cons]
    cases smE a b <;> simp
  | [], _ :: _ => by simp [smL]
  | _ :: _, [] => by simp [smL]
theorem smE_mk (op n : Int) (v : Vl) (name : List UInt8) (nl : Bool) (args : List Ex) (op' n' : Int) (v' : Vl) (name' : List UInt8) (nl' : Bool) (args' : List Ex) : smE (.mk op n v name nl args) (.mk op' n' v' name' nl' args') = (decide (op = op') && decide (n = n') && decide (v = v') && decide (name = name') && smL args args') := by rw [smE]
theorem smE_refl : ∀ e, smE e e = true := by
  refine Ex.ind fun op n v name nl args ih => ?_
  rw [smE_mk, smL_eq]
  simp only [decide_true, Bool.true_and, List.all_eq_true]
  intro p hp
  obtain ⟨i, hi, rfl⟩ := List.mem_iff_getElem.1 hp
  rw [List.getElem_zip]
  exact ih _ (List.getElem_mem _)
theorem all_take_succ3 {α : Type} {p : α → Bool} {l : List α} {i : Nat} {x : α} (h : l[i]? = some x) : (l.take (i + 1)).all p = ((l.take i).all p && p x) := by
  rw [List.take_add_one, h]; simp
theorem all_none3 {α : Type} {p : α → Bool} {l : List α} {i : Nat} {x : α} (h : l[i]? = some x) (hx : p x = false) : l.all p = false := by
  rw [Bool.eq_false_iff]
  intro e
  have := List.all_eq_true.1 e x (List.mem_of_getElem? h)
  rw [hx] at this; cases this
theorem xL_get' {args : List Ex} (i : Nat) (op' n' : Int) (v' : Vl) (name' : List UInt8) (nl' : Bool) (args' : List Ex) (h : args[i]? = some (.mk op' n' v' name' nl' args')) : (xL args)[i]? = some (xds op' n' v' name' (ng nl' (xL args'))) := by
  rw [← Ex.ds_mk]; exact xL_get h
theorem C.equalFunc (args args' : List Ex) (hl : args.length ≤ 2097152) (hl' : args'.length ≤ 2097152) (ih : ∀ a ∈ args, ∀ b ∈ args', Pure Try.prog N.expr_Same [a.av, b.av] (.d (.bool (smE a b)))) (d d' : D) (hd : SlD d (xL args)) (hd' : SlD d' (xL args')) : Pure Try.prog N.slices_EqualFunc__api_Expr__api_Expr_api_Expr_api_Expr [.d d, .d d', .d (.fn N.expr_Same)] (.d (.bool (smL args args'))) := by
  refine F.slices_EqualFunc__api_Expr__api_Expr_api_Expr_api_Expr.go mixed rfl ?_
  have hlen := xL_len args
  have hm := xL_mem args
  have hlen' := xL_len args'
  have hm' := xL_mem args'
  have hget := xL_get' (args := args)
  have hget' := xL_get' (args := args')
  obtain ⟨es, hes⟩ : ∃ es, es = xL args := ⟨_, rfl⟩
  rw [← hes] at hlen hm hd hget
  obtain ⟨es', hes'⟩ : ∃ es, es = xL args' := ⟨_, rfl⟩
  rw [← hes'] at hlen' hm' hd' hget'
  obtain ⟨q, hq⟩ : ∃ q, q = smL args args' := ⟨_, rfl⟩
  rw [← hq]
  rw [smL_eq] at hq
  by_cases hll : args.length = args'.length
  rotate_left
  · rw [decide_eq_false hll, Bool.false_and] at hq
    rw [hq]
    repeat' first
      | refine st ?_
      | ((with_reducible apply go_i); (conv => whnf))
      | (with_reducible apply k_d <;> intro _)
      | (with_reducible apply k_b <;> intro _)
    all_goals first | rfl | (exfalso; omega)
  rw [decide_eq_true hll, Bool.true_and] at hq
  have hl2 : es.length = es'.length := by omega
  repeat' first
    | refine st ?_
    | ((with_reducible apply go_i); (conv => whnf))
    | (with_reducible apply k_d <;> intro _)
    | (with_reducible apply k_b <;> intro _)
  refine x_loop1 mixed Lt.slices_EqualFunc__api_Expr__api_Expr_api_Expr_api_Expr_l0 Lk.slices_EqualFunc__api_Expr__api_Expr_api_Expr_api_Expr_l0 (fun (i : Nat) => [.d (eI i)]) (fun i => []) (fun i => i ≤ args.length ∧ ((args.zip args').take i).all (fun p => smE p.1 p.2) = true) (fun i => args.length - i) 0 rfl rfl rfl rfl (fun _ _ => ⟨rfl, rfl⟩) rfl ⟨by omega, rfl⟩ ?_
  repeat' first
    | refine st ?_
    | ((with_reducible apply go_i); (conv => whnf))
    | (with_reducible apply k_d <;> intro _)
    | (with_reducible apply k_b <;> intro _)
  intro i ⟨h4, h5⟩
  cases hx : args[i]? with
  | some x =>
    have hlt := (List.getElem?_eq_some_iff.1 hx).1
    obtain ⟨y, hy⟩ : ∃ y, args'[i]? = some y := ⟨_, List.getElem?_eq_getElem (by omega)⟩
    have hz : (args.zip args')[i]? = some (x, y) := List.getElem?_zip_eq_some.2 ⟨hx, hy⟩
    have hI := ih x (List.mem_of_getElem? hx) y (List.mem_of_getElem? hy)
    have hs := all_take_succ3 (p := fun p : Ex × Ex => smE p.1 p.2) hz
    have hn := all_none3 (p := fun p : Ex × Ex => smE p.1 p.2) hz
    rw [h5, Bool.true_and] at hs
    dsimp only at hs hn
    obtain ⟨b, hb⟩ : ∃ b, b = smE x y := ⟨_, rfl⟩
    rw [← hb] at hI hs hn
    obtain ⟨o1, n1, v1, m1, l1, a1⟩ := x
    obtain ⟨o2, n2, v2, m2, l2, a2⟩ := y
    rw [Ex.av_mk, Ex.av_mk] at hI
    have hg := hget i _ _ _ _ _ _ hx
    have hg' : es'[((i : Nat) : Int).toNat]? = _ := hget' i _ _ _ _ _ _ hy
    have hlt' : (i : Int) < es'.length := by omega
    cases b with
    | true =>
      repeat' first
        | refine st ?_
        | ((with_reducible apply go_i); (conv => whnf))
        | ((with_reducible apply k_pn); (· exact hI))
        | ((with_reducible apply k_pc); (· exact hI))
        | (with_reducible apply k_d <;> intro _)
        | (with_reducible apply k_b <;> intro _)
      exact ⟨i + 1, rfl, rfl, rfl, by omega, by omega, hs⟩
    | false =>
      rw [hn rfl] at hq
      rw [hq]
      repeat' first
        | refine st ?_
        | ((with_reducible apply go_i); (conv => whnf))
        | ((with_reducible apply k_pn); (· exact hI))
        | ((with_reducible apply k_pc); (· exact hI))
        | (with_reducible apply k_d <;> intro _)
        | (with_reducible apply k_b <;> intro _)
      all_goals rfl
  | none =>
    have hge := List.getElem?_eq_none_iff.1 hx
    rw [List.take_of_length_le (by rw [List.length_zip]; omega)] at h5
    rw [h5] at hq
    rw [hq]
    repeat' first
      | refine st ?_
      | ((with_reducible apply go_i); (conv => whnf))
      | (with_reducible apply k_d <;> intro _)
      | (with_reducible apply k_b <;> intro _)
    all_goals rfl
theorem C.expr_Same : ∀ a : Ex, a.bk ≤ 2097152 → ∀ b : Ex, b.bk ≤ 2097152 → Pure Try.prog N.expr_Same [a.av, b.av] (.d (.bool (smE a b))) := by
  refine Ex.ind fun op n v name nl args ih hbk b hbb => ?_
  obtain ⟨op', n', v', name', nl', args'⟩ := b
  obtain ⟨b1, b2, b3, b4⟩ := Ex.bk_bounds hbk
  obtain ⟨c1, c2, c3, c4⟩ := Ex.bk_bounds hbb
  have hE := C.equalFunc args args' b1 c1 (fun a ha b hb => ih a ha (b4 a ha) b (c4 b hb)) (ng nl (xL args)) (ng nl' (xL args')) sld_ng sld_ng
  rw [Ex.av_mk, Ex.av_mk, smE_mk]
  obtain ⟨d, hde⟩ : ∃ d, d = ng nl (xL args) := ⟨_, rfl⟩
  obtain ⟨d', hde'⟩ : ∃ d, d = ng nl' (xL args') := ⟨_, rfl⟩
  rw [← hde, ← hde'] at hE ⊢
  refine F.expr_Same.go mixed rfl ?_
  obtain ⟨q, hq⟩ : ∃ q, q = smL args args' := ⟨_, rfl⟩
  rw [← hq] at hE ⊢
  have hv : decide (v = v') = (decide (v.k = v'.k) && (decide (v.n = v'.n) && decide (v.s = v'.s))) := by
    rw [Bool.eq_iff_iff]
    simp only [decide_eq_true_eq, Bool.and_eq_true, vl_eq]
  rw [hv]
  repeat' first
    | refine st ?_
    | ((with_reducible apply go_i); (conv => whnf))
    | ((with_reducible apply k_pn); (· exact hE))
    | ((with_reducible apply k_pc); (· exact hE))
    | (with_reducible apply k_d <;> intro _)
    | (with_reducible apply k_b <;> intro _)
  all_goals simp_all
theorem C.r11_Same : ∀ a : Ex, a.bk ≤ 2097152 → ∀ b : Ex, b.bk ≤ 2097152 → Pure Try.prog N.bt_ref11_Same [a.av, b.av] (.d (.bool (smE a b))) := by
  refine Ex.ind fun op n v name nl args ih hbk b hbb => ?_
  obtain ⟨op', n', v', name', nl', args'⟩ := b
  obtain ⟨b1, b2, b3, b4⟩ := Ex.bk_bounds hbk
  obtain ⟨c1, c2, c3, c4⟩ := Ex.bk_bounds hbb
  have ih' : ∀ a ∈ args, ∀ b ∈ args', Pure Try.prog N.bt_ref11_Same [a.av, b.av] (.d (.bool (smE a b))) := fun a ha b hb => ih a ha (b4 a ha) b (c4 b hb)
  clear ih
  rw [Ex.av_mk, Ex.av_mk, smE_mk]
  have hd : SlD (ng nl (xL args)) (xL args) := sld_ng
  have hd' : SlD (ng nl' (xL args')) (xL args') := sld_ng
  have hlen := xL_len args
  have hm := xL_mem args
  have hlen' := xL_len args'
  have hm' := xL_mem args'
  have hget := xL_get' (args := args)
  have hget' := xL_get' (args := args')
  obtain ⟨d, hde⟩ : ∃ d, d = ng nl (xL args) := ⟨_, rfl⟩
  obtain ⟨d', hde'⟩ : ∃ d, d = ng nl' (xL args') := ⟨_, rfl⟩
  rw [← hde] at hd ⊢
  rw [← hde'] at hd' ⊢
  obtain ⟨es, hes⟩ : ∃ es, es = xL args := ⟨_, rfl⟩
  rw [← hes] at hlen hm hd hget
  obtain ⟨es', hes'⟩ : ∃ es, es = xL args' := ⟨_, rfl⟩
  rw [← hes'] at hlen' hm' hd' hget'
  refine F.bt_ref11_Same.go mixed rfl ?_
  have hv : decide (v = v') = (decide (v.k = v'.k) && (decide (v.n = v'.n) && decide (v.s = v'.s))) := by
    rw [Bool.eq_iff_iff]
    simp only [decide_eq_true_eq, Bool.and_eq_true, vl_eq]
  by_cases hall : op = op' ∧ n = n' ∧ v = v' ∧ name = name' ∧ args.length = args'.length
  rotate_left
  · have hr : (decide (op = op') && decide (n = n') && decide (v = v') && decide (name = name') && smL args args') = false := by
      rw [Bool.eq_false_iff]
      intro h
      simp only [Bool.and_eq_true, decide_eq_true_eq, smL_eq] at h
      exact hall ⟨h.1.1.1.1, h.1.1.1.2, h.1.1.2, h.1.2, h.2.1⟩
    rw [hr]
    clear hr
    have hlle : ((es.length : Int) = es'.length) ↔ args.length = args'.length := by omega
    rw [vl_eq] at hall
    clear hget hget' ih'
    by_cases g1 : op = op'
    rotate_left
    · repeat' first
        | refine st ?_
        | ((with_reducible apply go_i); (conv => whnf))
        | (with_reducible apply k_d <;> intro _)
        | (with_reducible apply k_b <;> intro _)
      all_goals rfl
    by_cases g2 : n = n'
    rotate_left
    · repeat' first
        | refine st ?_
        | ((with_reducible apply go_i); (conv => whnf))
        | (with_reducible apply k_d <;> intro _)
        | (with_reducible apply k_b <;> intro _)
      all_goals rfl
    by_cases g3 : v.k = v'.k ∧ v.n = v'.n ∧ v.s = v'.s
    rotate_left
    · repeat' first
        | refine st ?_
        | ((with_reducible apply go_i); (conv => whnf))
        | (with_reducible apply k_d <;> intro _)
        | (with_reducible apply k_b <;> intro _)
      all_goals first | rfl | (exfalso; simp_all)
    obtain ⟨g3, g4, g5⟩ := g3
    by_cases g6 : name = name'
    rotate_left
    · repeat' first
        | refine st ?_
        | ((with_reducible apply go_i); (conv => whnf))
        | (with_reducible apply k_d <;> intro _)
        | (with_reducible apply k_b <;> intro _)
      all_goals first | rfl | (exfalso; simp_all)
    have g7 : ¬ (es.length : Int) = es'.length := fun h => hall ⟨g1, g2, ⟨g3, g4, g5⟩, g6, hlle.1 h⟩
    repeat' first
      | refine st ?_
      | ((with_reducible apply go_i); (conv => whnf))
      | (with_reducible apply k_d <;> intro _)
      | (with_reducible apply k_b <;> intro _)
    all_goals first | rfl | (exfalso; simp_all; done) | (exfalso; omega)
  obtain ⟨rfl, rfl, rfl, rfl, hll⟩ := hall
  obtain ⟨q, hq⟩ : ∃ q, q = (decide (op = op) && decide (n = n) && decide (v = v) && decide (name = name) && smL args args') := ⟨_, rfl⟩
  rw [← hq]
  rw [smL_eq, decide_eq_true hll] at hq
  simp only [decide_true, Bool.true_and] at hq
  have hl2 : (es.length : Int) = es'.length := by omega
  have hl3 : es.length = es'.length := by omega
  have r1 : v.s = v.s := rfl
  have r2 : name = name := rfl
  repeat' first
    | refine st ?_
    | ((with_reducible apply go_i); (conv => whnf))
    | (with_reducible apply k_d <;> intro _)
    | (with_reducible apply k_b <;> intro _)
  refine x_loop1 mixed Lt.bt_ref11_Same_l0 Lk.bt_ref11_Same_l0 (fun (i : Nat) => [.d (eI i)]) (fun i => [.cells [.d (eI op), .d (eI n), .d (eI v.k), .d (eI v.n), .d (.str v.s), .d (.str name), .d d], .cells [.d (eI op), .d (eI n), .d (eI v.k), .d (eI v.n), .d (.str v.s), .d (.str name), .d d']]) (fun i => i ≤ args.length ∧ ((args.zip args').take i).all (fun p => smE p.1 p.2) = true) (fun i => args.length - i) 0 rfl rfl rfl rfl (fun _ _ => ⟨rfl, rfl⟩) rfl ⟨by omega, rfl⟩ ?_
  repeat' first
    | refine st ?_
    | ((with_reducible apply go_i); (conv => whnf))
    | (with_reducible apply k_d <;> intro _)
    | (with_reducible apply k_b <;> intro _)
  intro i ⟨h4, h5⟩
  cases hx : args[i]? with
  | some x =>
    have hlt := (List.getElem?_eq_some_iff.1 hx).1
    obtain ⟨y, hy⟩ : ∃ y, args'[i]? = some y := ⟨_, List.getElem?_eq_getElem (by omega)⟩
    have hz : (args.zip args')[i]? = some (x, y) := List.getElem?_zip_eq_some.2 ⟨hx, hy⟩
    have hI := ih' x (List.mem_of_getElem? hx) y (List.mem_of_getElem? hy)
    have hs := all_take_succ3 (p := fun p : Ex × Ex => smE p.1 p.2) hz
    have hn := all_none3 (p := fun p : Ex × Ex => smE p.1 p.2) hz
    rw [h5, Bool.true_and] at hs
    dsimp only at hs hn
    obtain ⟨b, hb⟩ : ∃ b, b = smE x y := ⟨_, rfl⟩
    rw [← hb] at hI hs hn
    obtain ⟨o1, n1, v1, m1, l1, a1⟩ := x
    obtain ⟨o2, n2, v2, m2, l2, a2⟩ := y
    rw [Ex.av_mk, Ex.av_mk] at hI
    have hg := hget i _ _ _ _ _ _ hx
    have hg' : es'[((i : Nat) : Int).toNat]? = _ := hget' i _ _ _ _ _ _ hy
    have hlt' : (i : Int) < es'.length := by omega
    cases b with
    | true =>
      repeat' first
        | refine st ?_
        | ((with_reducible apply go_i); (conv => whnf))
        | ((with_reducible apply k_pn); (· exact hI))
        | ((with_reducible apply k_pc); (· exact hI))
        | (with_reducible apply k_d <;> intro _)
        | (with_reducible apply k_b <;> intro _)
      exact ⟨i + 1, rfl, rfl, rfl, by omega, by omega, hs⟩
    | false =>
      rw [hn rfl] at hq
      rw [hq]
      repeat' first
        | refine st ?_
        | ((with_reducible apply go_i); (conv => whnf))
        | ((with_reducible apply k_pn); (· exact hI))
        | ((with_reducible apply k_pc); (· exact hI))
        | (with_reducible apply k_d <;> intro _)
        | (with_reducible apply k_b <;> intro _)
      all_goals rfl
  | none =>
    have hge := List.getElem?_eq_none_iff.1 hx
    rw [List.take_of_length_le (by rw [List.length_zip]; omega)] at h5
    rw [h5] at hq
    rw [hq]
    repeat' first
      | refine st ?_
      | ((with_reducible apply go_i); (conv => whnf))
      | (with_reducible apply k_d <;> intro _)
      | (with_reducible apply k_b <;> intro _)
    all_goals rfl
theorem L.ExprCompares (a b : Ex) (ha : a.bk ≤ 1048576) (hb : b.bk ≤ 1048576) : Pure Try.prog N.bt_law11_ExprCompares [a.av, b.av] (.d (.bool true)) := by
  have h1 := C.expr_Same a (by omega) b (by omega)
  have h2 := C.r11_Same a (by omega) b (by omega)
  have h3 := C.expr_Same a (by omega) a (by omega)
  have h4 := C.expr_Depth a ha
  have h5 := C.r11_Depth a ha
  rw [smE_refl] at h3
  obtain ⟨q, hq⟩ : ∃ q, q = smE a b := ⟨_, rfl⟩
  rw [← hq] at h1 h2
  obtain ⟨dp, hdp⟩ : ∃ dp, dp = dep a := ⟨_, rfl⟩
  rw [← hdp] at h4 h5
  obtain ⟨op, n, v, name, nl, args⟩ := a
  obtain ⟨op', n', v', name', nl', args'⟩ := b
  rw [Ex.av_mk] at h1 h2 h3 h4 h5 ⊢
  rw [Ex.av_mk] at h1 h2 ⊢
  refine F.bt_law11_ExprCompares.go mixed rfl ?_
  repeat' first
    | refine st ?_
    | ((with_reducible apply go_i); (conv => whnf))
    | ((with_reducible apply k_pn); (· first | exact h1 | exact h2 | exact h3 | exact h4 | exact h5 | exact C.law_awake))
    | ((with_reducible apply k_pc); (· first | exact h1 | exact h2 | exact h3 | exact h4 | exact h5 | exact C.law_awake))
    | (with_reducible apply k_d <;> intro _)
    | (with_reducible apply k_b <;> intro _)
  all_goals simp_all
end Go.Proofs
end
section
/- The examples of the chapter. No condition. -/
set_option linter.unusedSimpArgs false
set_option linter.unusedVariables false
set_option maxRecDepth 10000
set_option maxHeartbeats 4000000
namespace Go.Proofs
open Go.Bi

def cmE (op i n : Int) : Ex := .mk op 0 vNull [] false [.mk 2 i vNull [] true [], .mk 1 0 ⟨1, n, []⟩ [] true []]
def anE (a b : Ex) : Ex := .mk 5 0 vNull [] false [a, b]
def mE : Ex := .mk 9 0 vNull [] false [.mk 1 0 ⟨1, 3, []⟩ [] true [], .mk 2 0 vNull [] true []]
theorem cmE_av (op i n : Int) : (cmE op i n).av = eX op 0 vNull [] (.sl [[eI 2, eI i, eI 0, eI 0, .str [], .str [], .nil], [eI 1, eI 0, eI 1, eI n, .str [], .str [], .nil]]) := by rw [cmE, Ex.av_mk]; rfl
theorem mE_av : mE.av = eX 9 0 vNull [] (.sl [[eI 1, eI 0, eI 1, eI 3, .str [], .str [], .nil], [eI 2, eI 0, eI 0, eI 0, .str [], .str [], .nil]]) := by rw [mE, Ex.av_mk]; rfl
theorem anE_av (a b : Ex) : (anE a b).av = eX 5 0 vNull [] (.sl [a.ds, b.ds]) := by rw [anE, Ex.av_mk]; rfl
theorem C.law12_compare (op i n : Int) : Pure Try.prog N.bt_law12_compare [.d (eI op), .d (eI i), .d (eI n)] (cmE op i n).av := by
  rw [cmE_av]
  refine F.bt_law12_compare.go mixed rfl ?_
  repeat' first
    | refine st ?_
    | ((with_reducible apply go_i); (conv => whnf))
    | (with_reducible apply k_d <;> intro _)
    | (with_reducible apply k_b <;> intro _)
  all_goals rfl
theorem C.law12_and (a b : Ex) : Pure Try.prog N.bt_law12_and [a.av, b.av] (anE a b).av := by
  rw [anE_av]
  obtain ⟨o1, n1, v1, m1, l1, a1⟩ := a
  obtain ⟨o2, n2, v2, m2, l2, a2⟩ := b
  rw [Ex.av_mk, Ex.av_mk, Ex.ds_mk, Ex.ds_mk]
  refine F.bt_law12_and.go mixed rfl ?_
  repeat' first
    | refine st ?_
    | ((with_reducible apply go_i); (conv => whnf))
    | (with_reducible apply k_d <;> intro _)
    | (with_reducible apply k_b <;> intro _)
  all_goals rfl
theorem aw1 : win (anE (cmE 10 0 5) (cmE 11 1 5)) 0 1 = ((5, 6), true) := by decide +kernel
theorem aw2 : neverB (anE mE (cmE 10 0 4)) = false := by decide +kernel
theorem aw3 : neverB (anE mE (cmE 9 0 4)) = true := by decide +kernel
theorem aw4 : nsl (eDs (conds (anE mE (cmE 10 0 4)))) = .sl [[eI 11, eI 0, eI 1, eI 3, .str []], [eI 10, eI 0, eI 1, eI 4, .str []]] := by kernel_rfl
theorem aw5 : nsl (xL ((cj (anE (anE (cmE 10 0 5) (cmE 11 1 5)) (cmE 8 2 0))).map (shf 0))) = .sl [(shf 0 (cmE 10 0 5)).ds, (shf 0 (cmE 11 1 5)).ds, (shf 0 (cmE 8 2 0)).ds] := by kernel_rfl
theorem aw6 : (shf 0 (cmE 8 2 0)).ds = (cmE 8 2 0).ds := by kernel_rfl
theorem C.law12_awake : Pure Try.prog N.bt_law12_awake [] (.d (.bool true)) := by
  have c1 := C.law12_compare 10 0 5
  have c2 := C.law12_compare 11 1 5
  have c3 := C.law12_compare 8 2 0
  have c4 := C.law12_compare 7 0 3
  have c5 := C.law12_compare 10 0 4
  have c6 := C.law12_compare 9 0 4
  have n1 := C.law12_and (cmE 10 0 5) (cmE 11 1 5)
  have n2 := C.law12_and (anE (cmE 10 0 5) (cmE 11 1 5)) (cmE 8 2 0)
  have n3 := C.law12_and mE (cmE 10 0 4)
  have n4 := C.law12_and mE (cmE 9 0 4)
  have w1 := C.predicate_Window (anE (cmE 10 0 5) (cmE 11 1 5)) (by decide +kernel) 0 1
  have j1 := C.predicate_Conjuncts (anE (anE (cmE 10 0 5) (cmE 11 1 5)) (cmE 8 2 0)) (by decide +kernel)
  have d1 := C.predicate_Conditions (anE mE (cmE 10 0 4)) (by decide +kernel)
  have v1 := C.predicate_Never (anE mE (cmE 10 0 4)) (by decide +kernel)
  have v2 := C.predicate_Never (anE mE (cmE 9 0 4)) (by decide +kernel)
  have s1 := C.r11_Same (cmE 8 2 0) (by decide +kernel) (cmE 8 2 0) (by decide +kernel)
  rw [smE_refl] at s1
  rw [aw1] at w1
  rw [aw2] at v1
  rw [aw3] at v2
  rw [aw4] at d1
  rw [aw5, aw6] at j1
  have e3 : (cmE 8 2 0).ds = xds 8 0 vNull [] (.sl [[eI 2, eI 2, eI 0, eI 0, .str [], .str [], .nil], [eI 1, eI 0, eI 1, eI 0, .str [], .str [], .nil]]) := by rw [cmE, Ex.ds_mk]; rfl
  rw [e3] at j1
  obtain ⟨x1, hx1⟩ : ∃ x, x = (shf 0 (cmE 10 0 5)).ds := ⟨_, rfl⟩
  obtain ⟨x2, hx2⟩ : ∃ x, x = (shf 0 (cmE 11 1 5)).ds := ⟨_, rfl⟩
  have l1 : x1.length = 7 := by rw [hx1]; exact shf_ds_len _ _
  have l2 : x2.length = 7 := by rw [hx2]; exact shf_ds_len _ _
  rw [← hx1, ← hx2] at j1
  have hm : ∀ e ∈ [x1, x2, xds 8 0 vNull [] (.sl [[eI 2, eI 2, eI 0, eI 0, .str [], .str [], .nil], [eI 1, eI 0, eI 1, eI 0, .str [], .str [], .nil]])], e.length = 7 := by
    intro e he
    simp only [List.mem_cons, List.not_mem_nil, or_false] at he
    rcases he with rfl | rfl | rfl
    · exact l1
    · exact l2
    · rfl
  simp only [cmE_av, mE_av, anE_av] at c1 c2 c3 c4 c5 c6 n1 n2 n3 n4 w1 j1 d1 v1 v2 s1
  have e1 : (cmE 10 0 5).ds = xds 10 0 vNull [] (.sl [[eI 2, eI 0, eI 0, eI 0, .str [], .str [], .nil], [eI 1, eI 0, eI 1, eI 5, .str [], .str [], .nil]]) := by rw [cmE, Ex.ds_mk]; rfl
  have e2 : (cmE 11 1 5).ds = xds 11 0 vNull [] (.sl [[eI 2, eI 1, eI 0, eI 0, .str [], .str [], .nil], [eI 1, eI 0, eI 1, eI 5, .str [], .str [], .nil]]) := by rw [cmE, Ex.ds_mk]; rfl
  have e4 : (cmE 10 0 4).ds = xds 10 0 vNull [] (.sl [[eI 2, eI 0, eI 0, eI 0, .str [], .str [], .nil], [eI 1, eI 0, eI 1, eI 4, .str [], .str [], .nil]]) := by rw [cmE, Ex.ds_mk]; rfl
  have e5 : (cmE 9 0 4).ds = xds 9 0 vNull [] (.sl [[eI 2, eI 0, eI 0, eI 0, .str [], .str [], .nil], [eI 1, eI 0, eI 1, eI 4, .str [], .str [], .nil]]) := by rw [cmE, Ex.ds_mk]; rfl
  have e6 : mE.ds = xds 9 0 vNull [] (.sl [[eI 1, eI 0, eI 1, eI 3, .str [], .str [], .nil], [eI 2, eI 0, eI 0, eI 0, .str [], .str [], .nil]]) := by rw [mE, Ex.ds_mk]; rfl
  have e7 : (anE (cmE 10 0 5) (cmE 11 1 5)).ds = xds 5 0 vNull [] (.sl [(cmE 10 0 5).ds, (cmE 11 1 5).ds]) := by rw [anE, Ex.ds_mk]; rfl
  rw [e7] at n2 j1
  rw [e1, e2] at n1 n2 w1 j1
  rw [e3] at n2 j1
  rw [e4, e6] at n3 d1 v1
  rw [e5, e6] at n4 v2
  refine F.bt_law12_awake.go mixed rfl ?_
  repeat' first
    | (with_reducible apply k_lk2)
    | refine st ?_
    | ((with_reducible apply go_i); (conv => whnf))
    | ((with_reducible apply k_pn); (· first | exact c1 | exact c2 | exact c3 | exact c4 | exact c5 | exact c6 | exact n1 | exact n2 | exact n3 | exact n4 | exact w1 | exact j1 | exact d1 | exact v1 | exact v2 | exact s1))
    | ((with_reducible apply k_pc); (· first | exact c1 | exact c2 | exact c3 | exact c4 | exact c5 | exact c6 | exact n1 | exact n2 | exact n3 | exact n4 | exact w1 | exact j1 | exact d1 | exact v1 | exact v2 | exact s1))
    | (with_reducible apply k_d <;> intro _)
    | (with_reducible apply k_b <;> intro _)
  all_goals rfl
end Go.Proofs
end
section
/- The law of windows that overlap. No condition. -/
set_option linter.unusedSimpArgs false
set_option linter.unusedVariables false
set_option maxRecDepth 10000
set_option maxHeartbeats 4000000
namespace Go.Proofs
open Go.Bi

def perB (a b : Int) : Bool := decide (0 ≤ a ∧ a < b ∧ b ≤ 1099511627776)
theorem C.r1_Valid (a b : Int) : Pure Try.prog N.bt_ref01_Valid [.agg [.d (eI a), .d (eI b)]] (.d (.bool (perB a b))) := by
  refine F.bt_ref01_Valid.go mixed rfl ?_
  obtain ⟨q, hq⟩ : ∃ q, q = perB a b := ⟨_, rfl⟩
  rw [← hq]
  unfold perB at hq
  have hq' : (decide (0 ≤ a) && (decide (a < b) && decide (b ≤ 1099511627776))) = q := by
    rw [hq, Bool.eq_iff_iff]
    simp
  clear hq
  repeat' first
    | refine st ?_
    | ((with_reducible apply go_i); (conv => whnf))
    | (with_reducible apply k_d <;> intro _)
    | (with_reducible apply k_b <;> intro _)
  all_goals simp_all
theorem C.r1_Overlaps (a b c d : Int) (h1 : perB a b = true) (h2 : perB c d = true) (h3 : a < d) (h4 : c < b) : Pure Try.prog N.bt_ref01_Overlaps [.agg [.d (eI a), .d (eI b)], .agg [.d (eI c), .d (eI d)]] (.d (.bool true)) := by
  have hV := C.r1_Valid a b
  have hW := C.r1_Valid c d
  rw [h1] at hV
  rw [h2] at hW
  refine F.bt_ref01_Overlaps.go mixed rfl ?_
  repeat' first
    | refine st ?_
    | ((with_reducible apply go_i); (conv => whnf))
    | ((with_reducible apply k_pn); (· first | exact hV | exact hW))
    | ((with_reducible apply k_pc); (· first | exact hV | exact hW))
    | (with_reducible apply k_d <;> intro _)
    | (with_reducible apply k_b <;> intro _)
  all_goals first | rfl | simp_all | (exfalso; omega)
theorem L.PredicateOverlaps (e : Ex) (he : e.bk ≤ 1048576) (row : List Vl) (hr : row.length ≤ 1048576) (hrs : ∀ v ∈ row, v.s.length ≤ 1048576) (dr : D) (hdr : SlD dr (eVs row)) (f t : Int) : Pure Try.prog N.bt_law12_PredicateOverlaps [e.av, .d dr, .d (eI f), .d (eI t)] (.d (.bool true)) := by
  have hat : ∀ i, (vAt row i).s.length ≤ 1048576 := fun i => by
    unfold vAt
    split
    · exact Nat.zero_le _
    · rw [List.getD_eq_getElem?_getD]
      cases hx : row[i.toNat]? with
      | none => exact Nat.zero_le _
      | some v => exact hrs v (List.mem_of_getElem? hx)
  have h1 := C.r8_At row (by omega) dr hdr f
  have h2 := C.r8_At row (by omega) dr hdr t
  have h3 := C.r7_Valid (vAt row f) (by have := hat f; omega)
  have h4 := C.r7_Valid (vAt row t) (by have := hat t; omega)
  have h5 := C.r1_Valid (vAt row f).n (vAt row t).n
  have h6 : Pure Try.prog N.expr_Truth [e.av, .d dr] (.d (eI (vTruth (ev row e)))) := by
    have hE := C.expr_Eval row hr hrs dr hdr e he
    obtain ⟨op, n, v, name, nl, args⟩ := e
    rw [Ex.av_mk] at hE ⊢
    exact C.expr_Truth_of row dr _ _ _ _ _ _ hE
  have h7 := C.predicate_Window e he f t
  have h8 := C.law12_awake
  have hS := @win_sat e row f t (vAt row f) (vAt row t) rfl rfl
  obtain ⟨w, hw⟩ : ∃ w, w = win e f t := ⟨_, rfl⟩
  rw [← hw] at h7 hS
  obtain ⟨tr, htr⟩ : ∃ x, x = vTruth (ev row e) := ⟨_, rfl⟩
  rw [← htr] at h6 hS
  clear hw htr
  obtain ⟨a, ha⟩ : ∃ a, a = vAt row f := ⟨_, rfl⟩
  obtain ⟨b, hb⟩ : ∃ b, b = vAt row t := ⟨_, rfl⟩
  rw [← ha] at h1 h3 h5 hS
  rw [← hb] at h2 h4 h5 hS
  clear ha hb hat
  obtain ⟨op, n, v, nm, nl, args⟩ := e
  rw [Ex.av_mk] at h6 h7 ⊢
  obtain ⟨da, hda⟩ : ∃ d, d = ng nl (xL args) := ⟨_, rfl⟩
  rw [← hda] at h6 h7 ⊢
  refine F.bt_law12_PredicateOverlaps.go mixed rfl ?_
  have q1 : a.s = a.s := rfl
  have q2 : b.s = b.s := rfl
  cases hva : vValid a with
  | false =>
    rw [hva] at h3
    repeat' first
      | refine st ?_
      | ((with_reducible apply go_i); (conv => whnf))
      | ((with_reducible apply k_pn); (· first | exact h1 | exact h2 | exact h3 | exact h4 | exact h5 | exact h6 | exact h8))
      | ((with_reducible apply k_pc); (· first | exact h1 | exact h2 | exact h3 | exact h4 | exact h5 | exact h6 | exact h8))
      | (with_reducible apply k_d <;> intro _)
      | (with_reducible apply k_b <;> intro _)
    all_goals rfl
  | true =>
  rw [hva] at h3
  cases hvb : vValid b with
  | false =>
    rw [hvb] at h4
    repeat' first
      | refine st ?_
      | ((with_reducible apply go_i); (conv => whnf))
      | ((with_reducible apply k_pn); (· first | exact h1 | exact h2 | exact h3 | exact h4 | exact h5 | exact h6 | exact h8))
      | ((with_reducible apply k_pc); (· first | exact h1 | exact h2 | exact h3 | exact h4 | exact h5 | exact h6 | exact h8))
      | (with_reducible apply k_d <;> intro _)
      | (with_reducible apply k_b <;> intro _)
    all_goals rfl
  | true =>
  rw [hvb] at h4
  cases hp : perB a.n b.n with
  | false =>
    rw [hp] at h5
    repeat' first
      | refine st ?_
      | ((with_reducible apply go_i); (conv => whnf))
      | ((with_reducible apply k_pn); (· first | exact h1 | exact h2 | exact h3 | exact h4 | exact h5 | exact h6 | exact h8))
      | ((with_reducible apply k_pc); (· first | exact h1 | exact h2 | exact h3 | exact h4 | exact h5 | exact h6 | exact h8))
      | (with_reducible apply k_d <;> intro _)
      | (with_reducible apply k_b <;> intro _)
    all_goals rfl
  | true =>
  rw [hp] at h5
  by_cases hall : a.k = 1 ∧ b.k = 1 ∧ tr = 2
  rotate_left
  · repeat' first
      | refine st ?_
      | ((with_reducible apply go_i); (conv => whnf))
      | ((with_reducible apply k_pn); (· first | exact h1 | exact h2 | exact h3 | exact h4 | exact h5 | exact h6 | exact h8))
      | ((with_reducible apply k_pc); (· first | exact h1 | exact h2 | exact h3 | exact h4 | exact h5 | exact h6 | exact h8))
      | (with_reducible apply k_d <;> intro _)
      | (with_reducible apply k_b <;> intro _)
    all_goals first | rfl | (exfalso; omega)
  obtain ⟨g1, g2, g3⟩ := hall
  obtain ⟨p1, p2, p3⟩ := of_decide_eq_true hp
  obtain ⟨lo, hi, hw, w1, w2, w3, w4, w5⟩ := hS g1 g2 hva hvb p1 p2 p3 g3
  subst hw
  have h9 := C.r1_Overlaps a.n b.n lo hi hp (decide_eq_true ⟨w1, w2, w3⟩) w4 w5
  rw [show winA ((lo, hi), true) = .tup [.agg [.d (eI lo), .d (eI hi)], .d (.bool true)] from rfl] at h7
  repeat' first
    | refine st ?_
    | ((with_reducible apply go_i); (conv => whnf))
    | ((with_reducible apply k_pn); (· first | exact h1 | exact h2 | exact h3 | exact h4 | exact h5 | exact h6 | exact h7 | exact h9 | exact h8))
    | ((with_reducible apply k_pc); (· first | exact h1 | exact h2 | exact h3 | exact h4 | exact h5 | exact h6 | exact h7 | exact h9 | exact h8))
    | (with_reducible apply k_d <;> intro _)
    | (with_reducible apply k_b <;> intro _)
  all_goals first | rfl | (exfalso; omega)
end Go.Proofs
end
