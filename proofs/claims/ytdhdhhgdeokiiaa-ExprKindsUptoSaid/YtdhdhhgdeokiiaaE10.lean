/- Kinds of operators. No condition. -/
import Derived.Test.YtdhdhhgdeokiiaaE7
set_option linter.unusedSimpArgs false
set_option linter.unusedVariables false
set_option maxRecDepth 10000
set_option maxHeartbeats 4000000
namespace Go.Proofs
open Go.Bi

def uniF (k : Int) : List Int → Int × Bool
  | [] => (k, true)
  | x :: l => if x = 0 then uniF k l else if k ≠ 0 ∧ k ≠ x then (0, false) else uniF x l
def uni (l : List Int) : Int × Bool := uniF 0 l
theorem uniF_drop {k : Int} {l : List Int} {i : Nat} {x : Int} (h : l[i]? = some x) : uniF k (l.drop i) = if x = 0 then uniF k (l.drop (i + 1)) else if k ≠ 0 ∧ k ≠ x then (0, false) else uniF x (l.drop (i + 1)) := by
  obtain ⟨hlt, he⟩ := List.getElem?_eq_some_iff.1 h
  rw [List.drop_eq_getElem_cons hlt, he]; rfl
theorem C.expr_unite (l : List Int) (hl : l.length ≤ 1048577) (d : D) (hd : SlD d (eIs l)) : Pure Try.prog N.expr_unite [.d d] (.tup [.d (eI (uni l).1), .d (.bool (uni l).2)]) := by
  refine F.expr_unite.go mixed rfl ?_
  have h1 := eIs_len l
  have hm := eIs_mem l
  repeat' first
    | refine st ?_
    | ((with_reducible apply go_i); (conv => whnf))
    | (with_reducible apply k_d <;> intro _)
    | (with_reducible apply k_b <;> intro _)
  refine x_loop2 mixed Lt.expr_unite_l0 Lk.expr_unite_l0 (fun (i : Nat) (k : Int) => [.d (eI k), .d (eI i)]) (fun i k => []) (fun i k => i ≤ l.length ∧ uni l = uniF k (l.drop i)) (fun i _ => l.length - i) 0 0 rfl rfl rfl rfl (fun _ _ _ => ⟨rfl, rfl⟩) rfl ⟨by omega, rfl⟩ ?_
  repeat' first
    | refine st ?_
    | ((with_reducible apply go_i); (conv => whnf))
    | (with_reducible apply k_d <;> intro _)
    | (with_reducible apply k_b <;> intro _)
  intro i k ⟨h2, h3⟩
  cases hx : l[i]? with
  | some x =>
    have hlt := (List.getElem?_eq_some_iff.1 hx).1
    have hg := eIs_get hx
    rw [uniF_drop hx] at h3
    by_cases hx0 : x = 0
    · rw [if_pos hx0] at h3
      repeat' first
        | refine st ?_
        | ((with_reducible apply go_i); (conv => whnf))
        | (with_reducible apply k_d <;> intro _)
        | (with_reducible apply k_b <;> intro _)
      exact ⟨i + 1, _, rfl, rfl, rfl, by omega, by omega, h3⟩
    · rw [if_neg hx0] at h3
      by_cases hk : k ≠ 0 ∧ k ≠ x
      · rw [if_pos hk] at h3
        rw [h3]
        obtain ⟨hk1, hk2⟩ := hk
        repeat' first
          | refine st ?_
          | ((with_reducible apply go_i); (conv => whnf))
          | (with_reducible apply k_d <;> intro _)
          | (with_reducible apply k_b <;> intro _)
        all_goals rfl
      · rw [if_neg hk] at h3
        by_cases hk0 : k = 0
        · repeat' first
            | refine st ?_
            | ((with_reducible apply go_i); (conv => whnf))
            | (with_reducible apply k_d <;> intro _)
            | (with_reducible apply k_b <;> intro _)
          exact ⟨i + 1, _, rfl, rfl, rfl, by omega, by omega, h3⟩
        · have hkx : k = x := by omega
          repeat' first
            | refine st ?_
            | ((with_reducible apply go_i); (conv => whnf))
            | (with_reducible apply k_d <;> intro _)
            | (with_reducible apply k_b <;> intro _)
          exact ⟨i + 1, _, rfl, rfl, rfl, by omega, by omega, h3⟩
  | none =>
    have hge := List.getElem?_eq_none_iff.1 hx
    rw [List.drop_eq_nil_of_le hge] at h3
    rw [h3]
    repeat' first
      | refine st ?_
      | ((with_reducible apply go_i); (conv => whnf))
      | (with_reducible apply k_d <;> intro _)
      | (with_reducible apply k_b <;> intro _)
    all_goals rfl
theorem C.r11_Join (l : List Int) (hl : l.length ≤ 1048577) (d : D) (hd : SlD d (eIs l)) : Pure Try.prog N.bt_ref11_Join [.d d] (.tup [.d (eI (uni l).1), .d (.bool (uni l).2)]) := by
  refine F.bt_ref11_Join.go mixed rfl ?_
  have h1 := eIs_len l
  have hm := eIs_mem l
  repeat' first
    | refine st ?_
    | ((with_reducible apply go_i); (conv => whnf))
    | (with_reducible apply k_d <;> intro _)
    | (with_reducible apply k_b <;> intro _)
  refine x_loop2 mixed Lt.bt_ref11_Join_l0 Lk.bt_ref11_Join_l0 (fun (i : Nat) (k : Int) => [.d (eI k), .d (eI i)]) (fun i k => []) (fun i k => i ≤ l.length ∧ uni l = uniF k (l.drop i)) (fun i _ => l.length - i) 0 0 rfl rfl rfl rfl (fun _ _ _ => ⟨rfl, rfl⟩) rfl ⟨by omega, rfl⟩ ?_
  repeat' first
    | refine st ?_
    | ((with_reducible apply go_i); (conv => whnf))
    | (with_reducible apply k_d <;> intro _)
    | (with_reducible apply k_b <;> intro _)
  intro i k ⟨h2, h3⟩
  cases hx : l[i]? with
  | some x =>
    have hlt := (List.getElem?_eq_some_iff.1 hx).1
    have hg := eIs_get hx
    rw [uniF_drop hx] at h3
    by_cases hx0 : x = 0
    · rw [if_pos hx0] at h3
      repeat' first
        | refine st ?_
        | ((with_reducible apply go_i); (conv => whnf))
        | (with_reducible apply k_d <;> intro _)
        | (with_reducible apply k_b <;> intro _)
      exact ⟨i + 1, _, rfl, rfl, rfl, by omega, by omega, h3⟩
    · rw [if_neg hx0] at h3
      by_cases hk : k ≠ 0 ∧ k ≠ x
      · rw [if_pos hk] at h3
        rw [h3]
        obtain ⟨hk1, hk2⟩ := hk
        repeat' first
          | refine st ?_
          | ((with_reducible apply go_i); (conv => whnf))
          | (with_reducible apply k_d <;> intro _)
          | (with_reducible apply k_b <;> intro _)
        all_goals rfl
      · rw [if_neg hk] at h3
        by_cases hk0 : k = 0
        · repeat' first
            | refine st ?_
            | ((with_reducible apply go_i); (conv => whnf))
            | (with_reducible apply k_d <;> intro _)
            | (with_reducible apply k_b <;> intro _)
          exact ⟨i + 1, _, rfl, rfl, rfl, by omega, by omega, h3⟩
        · have hkx : k = x := by omega
          repeat' first
            | refine st ?_
            | ((with_reducible apply go_i); (conv => whnf))
            | (with_reducible apply k_d <;> intro _)
            | (with_reducible apply k_b <;> intro _)
          exact ⟨i + 1, _, rfl, rfl, rfl, by omega, by omega, h3⟩
  | none =>
    have hge := List.getElem?_eq_none_iff.1 hx
    rw [List.drop_eq_nil_of_le hge] at h3
    rw [h3]
    repeat' first
      | refine st ?_
      | ((with_reducible apply go_i); (conv => whnf))
      | (with_reducible apply k_d <;> intro _)
      | (with_reducible apply k_b <;> intro _)
    all_goals rfl
def allK (l : List Int) (c : Int) : Bool := l.all fun x => decide (x = c ∨ x = 0)
theorem uni_all (c : Int) (hc : c ≠ 0) : ∀ (l : List Int) (k : Int), ((uniF k (l ++ [c])).2 && decide ((uniF k (l ++ [c])).1 = c)) = (decide (k = 0 ∨ k = c) && allK l c)
  | [], k => by
    simp only [List.nil_append, uniF, if_neg hc, allK, List.all_nil, Bool.and_true]
    by_cases h : k ≠ 0 ∧ k ≠ c
    · rw [if_pos h, decide_eq_false (show ¬ (k = 0 ∨ k = c) by omega)]; rfl
    · rw [if_neg h, decide_eq_true (show k = 0 ∨ k = c by omega)]; simp
  | x :: l, k => by
    have ih := uni_all c hc l
    simp only [List.cons_append, uniF, allK, List.all_cons] at ih ⊢
    by_cases hx : x = 0
    · rw [if_pos hx, ih k, decide_eq_true (show x = c ∨ x = 0 from .inr hx)]; simp
    · rw [if_neg hx]
      by_cases h : k ≠ 0 ∧ k ≠ x
      · rw [if_pos h]
        by_cases hxc : x = c
        · rw [decide_eq_false (show ¬ (k = 0 ∨ k = c) by omega)]; simp
        · rw [decide_eq_false (show ¬ (x = c ∨ x = 0) by omega)]; simp
      · rw [if_neg h, ih x]
        by_cases hxc : x = c
        · rw [decide_eq_true (show x = 0 ∨ x = c from .inr hxc), decide_eq_true (show x = c ∨ x = 0 from .inl hxc), decide_eq_true (show k = 0 ∨ k = c by omega)]; simp
        · rw [decide_eq_false (show ¬ (x = 0 ∨ x = c) by omega), decide_eq_false (show ¬ (x = c ∨ x = 0) by omega)]; simp
theorem C.clone_nil : Pure Try.prog N.slices_Clone__int_int [.d .nil] (.d .nil) := by
  refine F.slices_Clone__int_int.go mixed rfl ?_
  repeat' first
    | refine st ?_
    | ((with_reducible apply go_i); (conv => whnf))
    | (with_reducible apply k_d <;> intro _)
    | (with_reducible apply k_b <;> intro _)
theorem C.clone_sl (es : List (List D)) (hl : es.length ≤ 1048577) (hm : ∀ e ∈ es, e.length = 1) : CallSpec Try.prog N.slices_Clone__int_int [.d (.sl es)] [] (fun r os => r = .arr 0 es.length ∧ os = [.arr es 1 0 false]) := by
  refine F.slices_Clone__int_int.goO mixed rfl ?_
  have h0 : ([] : List (List D)).length = 0 := rfl
  have h00 : (([] : List (List D)) ++ es).length = es.length := rfl
  have hb : (([] : List (List D)).length + es.length) * 8 ≤ 140737488355328 ∧ ([] : List (List D)).length + es.length ≤ 9223372036854775807 := by rw [h0]; omega
  repeat' first
    | refine st ?_
    | ((with_reducible apply go_i); (conv => whnf))
    | (with_reducible apply k_d <;> intro _)
    | (with_reducible apply k_b <;> intro _)
  all_goals (refine ⟨rfl, ?_⟩; cases es <;> rfl)
theorem eIs_app (l : List Int) (x : Int) : eIs l ++ [[eI x]] = eIs (l ++ [x]) := by simp [eIs]
theorem C.expr_all (l : List Int) (hl : l.length ≤ 1048576) (d : D) (hd : SlD d (eIs l)) (c : Int) (hc : c ≠ 0) : Pure Try.prog N.expr_all [.d d, .d (eI c)] (.d (.bool (allK l c))) := by
  refine F.expr_all.go mixed rfl ?_
  have h1 := eIs_len l
  have hm := eIs_mem l
  have hU := C.expr_unite (l ++ [c]) (by simp; omega) (.sl (eIs (l ++ [c]))) sld_sl
  have hres := uni_all c hc l 0
  rw [show decide ((0 : Int) = 0 ∨ (0 : Int) = c) = true from rfl, Bool.true_and] at hres
  rw [← hres]
  unfold uni at hU
  rw [← eIs_app] at hU
  obtain ⟨x, b⟩ : ∃ x b, uniF 0 (l ++ [c]) = (x, b) := ⟨_, _, rfl⟩
  rcases hd with ⟨rfl, he⟩ | rfl
  · rw [he] at hU
    repeat' first
      | refine st ?_
      | ((with_reducible apply go_i); (conv => whnf))
      | ((with_reducible apply k_pn); (· first | exact C.clone_nil | exact hU))
      | ((with_reducible apply k_pc); (· first | exact C.clone_nil | exact hU))
      | (with_reducible apply k_d <;> intro _)
      | (with_reducible apply k_b <;> intro _)
    all_goals simp [*]
  · have hC := C.clone_sl (eIs l) (by omega) hm
    have ha : (eIs l ++ [[eI c]]).length = l.length + 1 := by simp [h1]
    repeat' first
      | refine st ?_
      | ((with_reducible apply go_i); (conv => whnf))
      | ((with_reducible apply k_pn); (· exact hU))
      | ((with_reducible apply k_pc); (· exact hU))
      | ((with_reducible apply k_nc); (· first | exact hC); (try rintro _ _ ⟨rfl, rfl⟩))
      | ((with_reducible apply k_pr); (· first | exact hC))
      | ((with_reducible apply k_cs); (· first | exact hC); (try rintro _ _ ⟨rfl, rfl⟩))
      | ((with_reducible apply k_cal); refine st ?_; (with_reducible apply k_chk); (· exact rfl); refine st ?_; (with_reducible apply k_cs); (· first | exact hC); (try rintro _ _ ⟨rfl, rfl⟩))
      | (with_reducible apply k_d <;> intro _)
      | (with_reducible apply k_b <;> intro _)
    all_goals simp [*]
theorem C.r11_all (l : List Int) (hl : l.length ≤ 1048577) (d : D) (hd : SlD d (eIs l)) (c : Int) : Pure Try.prog N.bt_ref11_all [.d d, .d (eI c)] (.d (.bool (allK l c))) := by
  refine F.bt_ref11_all.go mixed rfl ?_
  have h1 := eIs_len l
  have hm := eIs_mem l
  repeat' first
    | refine st ?_
    | ((with_reducible apply go_i); (conv => whnf))
    | (with_reducible apply k_d <;> intro _)
    | (with_reducible apply k_b <;> intro _)
  refine x_loop1 mixed Lt.bt_ref11_all_l0 Lk.bt_ref11_all_l0 (fun (i : Nat) => [.d (eI i)]) (fun i => []) (fun i => i ≤ l.length ∧ (l.take i).all (fun x => decide (x = c ∨ x = 0)) = true) (fun i => l.length - i) 0 rfl rfl rfl rfl (fun _ _ => ⟨rfl, rfl⟩) rfl ⟨by omega, rfl⟩ ?_
  repeat' first
    | refine st ?_
    | ((with_reducible apply go_i); (conv => whnf))
    | (with_reducible apply k_d <;> intro _)
    | (with_reducible apply k_b <;> intro _)
  intro i ⟨h2, h3⟩
  cases hx : l[i]? with
  | some x =>
    have hlt := (List.getElem?_eq_some_iff.1 hx).1
    have hg := eIs_get hx
    by_cases hk : x = c
    · repeat' first
        | refine st ?_
        | ((with_reducible apply go_i); (conv => whnf))
        | (with_reducible apply k_d <;> intro _)
        | (with_reducible apply k_b <;> intro _)
      refine ⟨i + 1, rfl, rfl, rfl, by omega, by omega, ?_⟩
      rw [all_take_succ hx, h3, decide_eq_true (show x = c ∨ x = 0 from .inl hk)]; rfl
    · by_cases hk0 : x = 0
      · repeat' first
          | refine st ?_
          | ((with_reducible apply go_i); (conv => whnf))
          | (with_reducible apply k_d <;> intro _)
          | (with_reducible apply k_b <;> intro _)
        refine ⟨i + 1, rfl, rfl, rfl, by omega, by omega, ?_⟩
        rw [all_take_succ hx, h3, decide_eq_true (show x = c ∨ x = 0 from .inr hk0)]; rfl
      · repeat' first
          | refine st ?_
          | ((with_reducible apply go_i); (conv => whnf))
          | (with_reducible apply k_d <;> intro _)
          | (with_reducible apply k_b <;> intro _)
        rw [allK, all_none hx (decide_eq_false (show ¬ (x = c ∨ x = 0) by omega))]
  | none =>
    have hge := List.getElem?_eq_none_iff.1 hx
    rw [List.take_of_length_le hge] at h3
    repeat' first
      | refine st ?_
      | ((with_reducible apply go_i); (conv => whnf))
      | (with_reducible apply k_d <;> intro _)
      | (with_reducible apply k_b <;> intro _)
    rw [allK, h3]
end Go.Proofs
