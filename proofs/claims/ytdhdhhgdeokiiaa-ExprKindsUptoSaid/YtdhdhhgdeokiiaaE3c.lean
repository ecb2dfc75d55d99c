/- What is well-formed. No condition. -/
import Derived.Test.YtdhdhhgdeokiiaaE3b
set_option linter.unusedSimpArgs false
set_option linter.unusedVariables false
set_option maxRecDepth 10000
set_option maxHeartbeats 4000000
namespace Go.Proofs
open Go.Bi

def fmd (op n : Int) (v : Vl) (name : List UInt8) (k : Nat) : Bool :=
  (cnt op k).1 && decide (name = []) && (if op = 1 then decide (n = 0) && vValid v else if op = 24 then decide (0 ≤ n ∧ n < 13) && decide (v = vNull) else if op = 2 then decide (v = vNull) else decide (n = 0) && decide (v = vNull))
theorem vNull_is (v : Vl) : decide (v = vNull) = (decide (v.k = 0) && (decide (v.n = 0) && decide (v.s = []))) := by
  rw [Bool.eq_iff_iff]
  simp only [decide_eq_true_eq, Bool.and_eq_true, vl_eq]
  exact Iff.rfl
theorem fmd_1 (n : Int) (v : Vl) (k : Nat) (h : (cnt 1 k).1 = true) : fmd 1 n v [] k = (decide (n = 0) && vValid v) := by unfold fmd; rw [h]; rfl
theorem fmd_24 (n : Int) (v : Vl) (k : Nat) (h : (cnt 24 k).1 = true) : fmd 24 n v [] k = (decide (0 ≤ n ∧ n < 13) && decide (v = vNull)) := by unfold fmd; rw [h]; rfl
theorem fmd_2 (n : Int) (v : Vl) (k : Nat) (h : (cnt 2 k).1 = true) : fmd 2 n v [] k = decide (v = vNull) := by unfold fmd; rw [h]; rfl
theorem fmd_o (op n : Int) (v : Vl) (k : Nat) (h : (cnt op k).1 = true) (h1 : op ≠ 1) (h2 : op ≠ 24) (h3 : op ≠ 2) : fmd op n v [] k = (decide (n = 0) && decide (v = vNull)) := by unfold fmd; rw [h, if_neg h1, if_neg h2, if_neg h3]; rfl
theorem C.expr_formed (op n : Int) (v : Vl) (name : List UInt8) (d : D) (es : List (List D)) (hd : SlD d es) (hs : v.s.length ≤ 1048576) (hl : es.length ≤ 1048576) : Pure Try.prog N.expr_formed [eX op n v name d] (.d (.bool (fmd op n v name es.length))) := by
  refine F.expr_formed.go mixed rfl ?_
  have hV := C.value_Valid v (by omega)
  have hC := C.expr_counts op es.length
  cases hc : (cnt op es.length).1 with
  | false =>
    have hr : fmd op n v name es.length = false := by unfold fmd; rw [hc]; rfl
    rw [hr]
    rw [hc] at hC
    repeat' first
      | refine st ?_
      | ((with_reducible apply go_i); (conv => whnf))
      | ((with_reducible apply k_pn); (· exact hC))
      | ((with_reducible apply k_pc); (· exact hC))
      | (with_reducible apply k_d <;> intro _)
      | (with_reducible apply k_b <;> intro _)
  | true =>
  rw [hc] at hC
  by_cases hn : name = []
  rotate_left
  · have hr : fmd op n v name es.length = false := by unfold fmd; rw [decide_eq_false hn, Bool.and_false]; rfl
    rw [hr]
    repeat' first
      | refine st ?_
      | ((with_reducible apply go_i); (conv => whnf))
      | ((with_reducible apply k_pn); (· exact hC))
      | ((with_reducible apply k_pc); (· exact hC))
      | (with_reducible apply k_d <;> intro _)
      | (with_reducible apply k_b <;> intro _)
    all_goals rfl
  subst hn
  by_cases h1 : op = 1
  · subst h1
    obtain ⟨r, hr⟩ : ∃ r, r = fmd 1 n v [] es.length := ⟨_, rfl⟩
    rw [← hr]
    rw [fmd_1 _ _ _ hc] at hr
    by_cases hn : n = 0
    · rw [decide_eq_true hn] at hr
      repeat' first
        | refine st ?_
        | ((with_reducible apply go_i); (conv => whnf))
        | ((with_reducible apply k_pn); (· first | exact hC | exact hV))
        | ((with_reducible apply k_pc); (· first | exact hC | exact hV))
        | (with_reducible apply k_d <;> intro _)
        | (with_reducible apply k_b <;> intro _)
      all_goals (rw [hr]; try rfl)
    · rw [decide_eq_false hn] at hr
      repeat' first
        | refine st ?_
        | ((with_reducible apply go_i); (conv => whnf))
        | ((with_reducible apply k_pn); (· first | exact hC | exact hV))
        | ((with_reducible apply k_pc); (· first | exact hC | exact hV))
        | (with_reducible apply k_d <;> intro _)
        | (with_reducible apply k_b <;> intro _)
      all_goals (rw [hr]; try rfl)
  by_cases h2 : op = 24
  · subst h2
    obtain ⟨r, hr⟩ : ∃ r, r = fmd 24 n v [] es.length := ⟨_, rfl⟩
    rw [← hr]
    rw [fmd_24 _ _ _ hc, vNull_is] at hr
    by_cases hn : 0 ≤ n ∧ n < 13
    · rw [decide_eq_true hn] at hr
      obtain ⟨n1, n2⟩ := hn
      have n3 : ¬ n < 0 := by omega
      have n4 : ¬ 13 ≤ n := by omega
      repeat' first
        | refine st ?_
        | ((with_reducible apply go_i); (conv => whnf))
        | ((with_reducible apply k_pn); (· first | exact hC | exact hV))
        | ((with_reducible apply k_pc); (· first | exact hC | exact hV))
        | (with_reducible apply k_d <;> intro _)
        | (with_reducible apply k_b <;> intro _)
      all_goals (rw [hr]; try (clear hr; simp_all [vNull]; try omega))
    · rw [decide_eq_false hn] at hr
      repeat' first
        | refine st ?_
        | ((with_reducible apply go_i); (conv => whnf))
        | ((with_reducible apply k_pn); (· first | exact hC | exact hV))
        | ((with_reducible apply k_pc); (· first | exact hC | exact hV))
        | (with_reducible apply k_d <;> intro _)
        | (with_reducible apply k_b <;> intro _)
      all_goals (rw [hr]; try (clear hr; simp_all [vNull]; try omega))
  by_cases h3 : op = 2
  · subst h3
    obtain ⟨r, hr⟩ : ∃ r, r = fmd 2 n v [] es.length := ⟨_, rfl⟩
    rw [← hr]
    rw [fmd_2 _ _ _ hc, vNull_is] at hr
    repeat' first
      | refine st ?_
      | ((with_reducible apply go_i); (conv => whnf))
      | ((with_reducible apply k_pn); (· first | exact hC | exact hV))
      | ((with_reducible apply k_pc); (· first | exact hC | exact hV))
      | (with_reducible apply k_d <;> intro _)
      | (with_reducible apply k_b <;> intro _)
    all_goals (rw [hr]; try rfl)
  obtain ⟨r, hr⟩ : ∃ r, r = fmd op n v [] es.length := ⟨_, rfl⟩
  rw [← hr]
  rw [fmd_o _ _ _ _ hc h1 h2 h3, vNull_is] at hr
  by_cases hn : n = 0
  · rw [decide_eq_true hn] at hr
    repeat' first
      | refine st ?_
      | ((with_reducible apply go_i); (conv => whnf))
      | ((with_reducible apply k_pn); (· first | exact hC | exact hV))
      | ((with_reducible apply k_pc); (· first | exact hC | exact hV))
      | (with_reducible apply k_d <;> intro _)
      | (with_reducible apply k_b <;> intro _)
    all_goals (rw [hr]; try rfl)
  · rw [decide_eq_false hn] at hr
    repeat' first
      | refine st ?_
      | ((with_reducible apply go_i); (conv => whnf))
      | ((with_reducible apply k_pn); (· first | exact hC | exact hV))
      | ((with_reducible apply k_pc); (· first | exact hC | exact hV))
      | (with_reducible apply k_d <;> intro _)
      | (with_reducible apply k_b <;> intro _)
    all_goals (rw [hr]; try rfl)
theorem C.r11_Formed (op n : Int) (v : Vl) (name : List UInt8) (d : D) (es : List (List D)) (hd : SlD d es) (hs : v.s.length ≤ 1048576) (hl : es.length ≤ 1048576) : Pure Try.prog N.bt_ref11_Formed [eX op n v name d] (.d (.bool (fmd op n v name es.length))) := by
  refine F.bt_ref11_Formed.go mixed rfl ?_
  have hV := C.r7_Valid v (by omega)
  have hC := C.r11_Arity op
  have hac := (ary_cnt op es.length hl).1
  cases hc : (cnt op es.length).1 with
  | false =>
    have hr : fmd op n v name es.length = false := by unfold fmd; rw [hc]; rfl
    rw [hr]
    rw [hc] at hac
    have hac : (ary op).1 < 0 ∨ (es.length : Int) < (ary op).1 ∨ (ary op).2 < (es.length : Int) := by
      have := of_decide_eq_false hac.symm
      omega
    repeat' first
      | refine st ?_
      | ((with_reducible apply go_i); (conv => whnf))
      | ((with_reducible apply k_pn); (· exact hC))
      | ((with_reducible apply k_pc); (· exact hC))
      | (with_reducible apply k_d <;> intro _)
      | (with_reducible apply k_b <;> intro _)
    all_goals first | rfl | (exfalso; omega)
  | true =>
  rw [hc] at hac
  have hac := of_decide_eq_true hac.symm
  have a1 : ¬ (ary op).1 < 0 := by omega
  have a2 : ¬ (es.length : Int) < (ary op).1 := by omega
  have a3 : ¬ (ary op).2 < (es.length : Int) := by omega
  clear hac
  by_cases hn : name = []
  rotate_left
  · have hr : fmd op n v name es.length = false := by unfold fmd; rw [decide_eq_false hn, Bool.and_false]; rfl
    rw [hr]
    repeat' first
      | refine st ?_
      | ((with_reducible apply go_i); (conv => whnf))
      | ((with_reducible apply k_pn); (· exact hC))
      | ((with_reducible apply k_pc); (· exact hC))
      | (with_reducible apply k_d <;> intro _)
      | (with_reducible apply k_b <;> intro _)
    all_goals rfl
  subst hn
  by_cases h1 : op = 1
  · subst h1
    obtain ⟨r, hr⟩ : ∃ r, r = fmd 1 n v [] es.length := ⟨_, rfl⟩
    rw [← hr]
    rw [fmd_1 _ _ _ hc] at hr
    by_cases hn : n = 0
    · rw [decide_eq_true hn] at hr
      repeat' first
        | refine st ?_
        | ((with_reducible apply go_i); (conv => whnf))
        | ((with_reducible apply k_pn); (· first | exact hC | exact hV | exact C.r7_Null))
        | ((with_reducible apply k_pc); (· first | exact hC | exact hV | exact C.r7_Null))
        | (with_reducible apply k_d <;> intro _)
        | (with_reducible apply k_b <;> intro _)
      all_goals (rw [hr]; try rfl)
    · rw [decide_eq_false hn] at hr
      repeat' first
        | refine st ?_
        | ((with_reducible apply go_i); (conv => whnf))
        | ((with_reducible apply k_pn); (· first | exact hC | exact hV | exact C.r7_Null))
        | ((with_reducible apply k_pc); (· first | exact hC | exact hV | exact C.r7_Null))
        | (with_reducible apply k_d <;> intro _)
        | (with_reducible apply k_b <;> intro _)
      all_goals (rw [hr]; try rfl)
  by_cases h2 : op = 24
  · subst h2
    obtain ⟨r, hr⟩ : ∃ r, r = fmd 24 n v [] es.length := ⟨_, rfl⟩
    rw [← hr]
    rw [fmd_24 _ _ _ hc, vNull_is] at hr
    by_cases hn : 0 ≤ n ∧ n < 13
    · rw [decide_eq_true hn] at hr
      obtain ⟨n1, n2⟩ := hn
      have n3 : ¬ n < 0 := by omega
      have n4 : ¬ 13 ≤ n := by omega
      repeat' first
        | refine st ?_
        | ((with_reducible apply go_i); (conv => whnf))
        | ((with_reducible apply k_pn); (· first | exact hC | exact hV | exact C.r7_Null))
        | ((with_reducible apply k_pc); (· first | exact hC | exact hV | exact C.r7_Null))
        | (with_reducible apply k_d <;> intro _)
        | (with_reducible apply k_b <;> intro _)
      all_goals (rw [hr]; try (clear hr; simp_all [vNull]; try omega))
    · rw [decide_eq_false hn] at hr
      repeat' first
        | refine st ?_
        | ((with_reducible apply go_i); (conv => whnf))
        | ((with_reducible apply k_pn); (· first | exact hC | exact hV | exact C.r7_Null))
        | ((with_reducible apply k_pc); (· first | exact hC | exact hV | exact C.r7_Null))
        | (with_reducible apply k_d <;> intro _)
        | (with_reducible apply k_b <;> intro _)
      all_goals (rw [hr]; try (clear hr; simp_all [vNull]; try omega))
  by_cases h3 : op = 2
  · subst h3
    obtain ⟨r, hr⟩ : ∃ r, r = fmd 2 n v [] es.length := ⟨_, rfl⟩
    rw [← hr]
    rw [fmd_2 _ _ _ hc, vNull_is] at hr
    repeat' first
      | refine st ?_
      | ((with_reducible apply go_i); (conv => whnf))
      | ((with_reducible apply k_pn); (· first | exact hC | exact hV | exact C.r7_Null))
      | ((with_reducible apply k_pc); (· first | exact hC | exact hV | exact C.r7_Null))
      | (with_reducible apply k_d <;> intro _)
      | (with_reducible apply k_b <;> intro _)
    all_goals (rw [hr]; try rfl)
  obtain ⟨r, hr⟩ : ∃ r, r = fmd op n v [] es.length := ⟨_, rfl⟩
  rw [← hr]
  rw [fmd_o _ _ _ _ hc h1 h2 h3, vNull_is] at hr
  by_cases hn : n = 0
  · rw [decide_eq_true hn] at hr
    repeat' first
      | refine st ?_
      | ((with_reducible apply go_i); (conv => whnf))
      | ((with_reducible apply k_pn); (· first | exact hC | exact hV | exact C.r7_Null))
      | ((with_reducible apply k_pc); (· first | exact hC | exact hV | exact C.r7_Null))
      | (with_reducible apply k_d <;> intro _)
      | (with_reducible apply k_b <;> intro _)
    all_goals (rw [hr]; try rfl)
  · rw [decide_eq_false hn] at hr
    repeat' first
      | refine st ?_
      | ((with_reducible apply go_i); (conv => whnf))
      | ((with_reducible apply k_pn); (· first | exact hC | exact hV | exact C.r7_Null))
      | ((with_reducible apply k_pc); (· first | exact hC | exact hV | exact C.r7_Null))
      | (with_reducible apply k_d <;> intro _)
      | (with_reducible apply k_b <;> intro _)
    all_goals (rw [hr]; try rfl)
end Go.Proofs
