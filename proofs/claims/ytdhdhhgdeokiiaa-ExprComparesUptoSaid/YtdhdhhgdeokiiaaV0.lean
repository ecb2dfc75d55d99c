/- Periods and their relations. No condition. -/
import Derived.Test.YtdhdhhgdeokiiaaIc0
import Derived.Test.YtdhdhhgdeokiiaaIc1
import Derived.Test.YtdhdhhgdeokiiaaO1
set_option linter.unusedSimpArgs false
set_option linter.unusedVariables false
set_option maxRecDepth 10000
set_option maxHeartbeats 4000000
namespace Go.Proofs
open Go.Bi

abbrev eI (n : Int) : D := .int .i64 n
abbrev eP (a b : Int) : AV := .agg [.d (eI a), .d (eI b)]
def eIs (l : List Int) : List (List D) := l.map fun r => [eI r]
theorem eIs_get {l : List Int} {i : Nat} {r : Int} (h : l[i]? = some r) : (eIs l)[i]? = some [eI r] := by simp [eIs, h]
theorem eIs_len (l : List Int) : (eIs l).length = l.length := by simp [eIs]
theorem eIs_mem (l : List Int) : ∀ e ∈ eIs l, e.length = 1 := by
  intro e he
  obtain ⟨x, _, rfl⟩ := List.mem_map.1 he
  rfl
theorem nsl_cnd {es : List (List D)} {nl : Bool} (h : nl = es.isEmpty) : CnD nl .nil (.sl es) = nsl es := by
  subst h
  cases es <;> rfl
theorem all_take_succ {α : Type} {f : α → Bool} {l : List α} {i : Nat} {x : α} (h : l[i]? = some x) : (l.take (i + 1)).all f = ((l.take i).all f && f x) := by
  simp only [List.take_add_one, h, List.all_append, Option.toList, List.all_cons, List.all_nil, Bool.and_true]
theorem all_none {α : Type} {f : α → Bool} {l : List α} {i : Nat} {x : α} (h : l[i]? = some x) (hx : f x = false) : l.all f = false := by
  rw [Bool.eq_false_iff]
  intro ha
  rw [List.all_eq_true.1 ha x (List.mem_of_getElem? h)] at hx
  cases hx
def valid (a b : Int) : Bool := decide (0 ≤ a ∧ a < b ∧ b ≤ 1099511627776)
theorem C.period_Valid (a b : Int) : Pure Try.prog N.period_Valid [eP a b] (.d (.bool (valid a b))) := by
  refine F.period_Valid.go mixed rfl ?_
  repeat' first
    | refine st ?_
    | (with_reducible apply k_d <;> intro _)
    | (with_reducible apply k_b <;> intro _)
  all_goals (simp_all [valid] <;> omega)
def rel (a b c d : Int) : Int × Bool :=
  if valid a b && valid c d then
    (if b < c then 0 else if b = c then 1 else if d < a then 12 else if d = a then 11 else if a = c ∧ b = d then 6
    else if a = c ∧ b < d then 3 else if a = c then 9 else if b = d ∧ a > c then 5 else if b = d then 7 else if a < c ∧ d < b then 8 else if c < a ∧ b < d then 4 else if a < c then 2 else 10, true)
  else (0, false)
theorem C.allen_Relation (a b c d : Int) : Pure Try.prog N.allen_Relation [eP a b, eP c d] (.tup [.d (.int .i64 (rel a b c d).1), .d (.bool (rel a b c d).2)]) := by
  refine F.allen_Relation.go mixed rfl ?_
  repeat' first
    | refine st ?_
    | ((with_reducible apply k_pn); (· exact C.period_Valid _ _))
    | ((with_reducible apply k_pc); (· exact C.period_Valid _ _))
    | (with_reducible apply k_d <;> intro _)
    | (with_reducible apply k_b <;> intro _)
  all_goals simp_all [rel]
  all_goals (repeat' split) <;> omega
theorem rel_range (a b c d : Int) : 0 ≤ (rel a b c d).1 ∧ (rel a b c d).1 < 13 := by
  by_cases h : (valid a b && valid c d) = true
  · rw [rel, if_pos h]
    dsimp only
    repeat' split
    all_goals omega
  · rw [rel, if_neg h]
    exact ⟨by decide, by decide⟩
theorem C.ref_Valid1 (a b : Int) : Pure Try.prog N.bt_ref01_Valid [eP a b] (.d (.bool (valid a b))) := by
  refine F.bt_ref01_Valid.go mixed rfl ?_
  repeat' first
    | refine st ?_
    | (with_reducible apply k_d <;> intro _)
    | (with_reducible apply k_b <;> intro _)
  all_goals (simp_all [valid] <;> omega)
def isR (r a b c d : Int) : Bool :=
  if r = 0 then decide (b < c) else if r = 1 then decide (b = c) else if r = 2 then decide (a < c ∧ c < b ∧ b < d) else if r = 3 then decide (a = c ∧ b < d) else if r = 4 then decide (c < a ∧ b < d)
  else if r = 5 then decide (b = d ∧ c < a) else if r = 6 then decide (a = c ∧ b = d) else if r = 7 then decide (b = d ∧ a < c) else if r = 8 then decide (a < c ∧ d < b) else if r = 9 then decide (a = c ∧ d < b)
  else if r = 10 then decide (c < a ∧ a < d ∧ d < b) else if r = 11 then decide (d = a) else if r = 12 then decide (d < a) else false
theorem C.ref_Is (r a b c d : Int) : Pure Try.prog N.bt_ref02_Is [.d (eI r), eP a b, eP c d] (.d (.bool (isR r a b c d))) := by
  refine F.bt_ref02_Is.go mixed rfl ?_
  repeat' first
    | refine st ?_
    | (with_reducible apply k_d <;> intro _)
    | (with_reducible apply k_b <;> intro _)
  all_goals simp_all [isR]
  all_goals (intros; omega)
theorem isR_at (a b c d : Int) (h1 : valid a b = true) (h2 : valid c d = true) : isR (rel a b c d).1 a b c d = true := by
  simp only [valid, decide_eq_true_eq] at h1 h2
  have h : (valid a b && valid c d) = true := by simp [valid, h1, h2]
  rw [rel, if_pos h]
  dsimp only
  repeat' split
  all_goals (simp [isR]; try omega)
theorem isR_of (r a b c d : Int) (h1 : valid a b = true) (h2 : valid c d = true) (h3 : isR r a b c d = true) : (rel a b c d).1 = r := by
  simp only [valid, decide_eq_true_eq] at h1 h2
  have h : (valid a b && valid c d) = true := by simp [valid, h1, h2]
  have hr : 0 ≤ r ∧ r < 13 := by
    by_cases hr : 0 ≤ r ∧ r < 13
    · exact hr
    · unfold isR at h3
      rw [if_neg (by omega), if_neg (by omega), if_neg (by omega), if_neg (by omega), if_neg (by omega), if_neg (by omega), if_neg (by omega), if_neg (by omega), if_neg (by omega), if_neg (by omega), if_neg (by omega), if_neg (by omega), if_neg (by omega)] at h3
      cases h3
  rw [rel, if_pos h]
  dsimp only
  rcases (show r = 0 ∨ r = 1 ∨ r = 2 ∨ r = 3 ∨ r = 4 ∨ r = 5 ∨ r = 6 ∨ r = 7 ∨ r = 8 ∨ r = 9 ∨ r = 10 ∨ r = 11 ∨ r = 12 by omega) with rfl | rfl | rfl | rfl | rfl | rfl | rfl | rfl | rfl | rfl | rfl | rfl | rfl
  · have hh := h3; simp only [isR, decide_eq_true_eq] at hh; simp at hh
    rw [if_pos (by omega)]
  · have hh := h3; simp only [isR, decide_eq_true_eq] at hh; simp at hh
    rw [if_neg (by omega), if_pos (by omega)]
  · have hh := h3; simp only [isR, decide_eq_true_eq] at hh; simp at hh
    rw [if_neg (by omega), if_neg (by omega), if_neg (by omega), if_neg (by omega), if_neg (by omega), if_neg (by omega), if_neg (by omega), if_neg (by omega), if_neg (by omega), if_neg (by omega), if_neg (by omega), if_pos (by omega)]
  · have hh := h3; simp only [isR, decide_eq_true_eq] at hh; simp at hh
    rw [if_neg (by omega), if_neg (by omega), if_neg (by omega), if_neg (by omega), if_neg (by omega), if_pos (by omega)]
  · have hh := h3; simp only [isR, decide_eq_true_eq] at hh; simp at hh
    rw [if_neg (by omega), if_neg (by omega), if_neg (by omega), if_neg (by omega), if_neg (by omega), if_neg (by omega), if_neg (by omega), if_neg (by omega), if_neg (by omega), if_neg (by omega), if_pos (by omega)]
  · have hh := h3; simp only [isR, decide_eq_true_eq] at hh; simp at hh
    rw [if_neg (by omega), if_neg (by omega), if_neg (by omega), if_neg (by omega), if_neg (by omega), if_neg (by omega), if_neg (by omega), if_pos (by omega)]
  · have hh := h3; simp only [isR, decide_eq_true_eq] at hh; simp at hh
    rw [if_neg (by omega), if_neg (by omega), if_neg (by omega), if_neg (by omega), if_pos (by omega)]
  · have hh := h3; simp only [isR, decide_eq_true_eq] at hh; simp at hh
    rw [if_neg (by omega), if_neg (by omega), if_neg (by omega), if_neg (by omega), if_neg (by omega), if_neg (by omega), if_neg (by omega), if_neg (by omega), if_pos (by omega)]
  · have hh := h3; simp only [isR, decide_eq_true_eq] at hh; simp at hh
    rw [if_neg (by omega), if_neg (by omega), if_neg (by omega), if_neg (by omega), if_neg (by omega), if_neg (by omega), if_neg (by omega), if_neg (by omega), if_neg (by omega), if_pos (by omega)]
  · have hh := h3; simp only [isR, decide_eq_true_eq] at hh; simp at hh
    rw [if_neg (by omega), if_neg (by omega), if_neg (by omega), if_neg (by omega), if_neg (by omega), if_neg (by omega), if_pos (by omega)]
  · have hh := h3; simp only [isR, decide_eq_true_eq] at hh; simp at hh
    rw [if_neg (by omega), if_neg (by omega), if_neg (by omega), if_neg (by omega), if_neg (by omega), if_neg (by omega), if_neg (by omega), if_neg (by omega), if_neg (by omega), if_neg (by omega), if_neg (by omega), if_neg (by omega)]
  · have hh := h3; simp only [isR, decide_eq_true_eq] at hh; simp at hh
    rw [if_neg (by omega), if_neg (by omega), if_neg (by omega), if_pos (by omega)]
  · have hh := h3; simp only [isR, decide_eq_true_eq] at hh; simp at hh
    rw [if_neg (by omega), if_neg (by omega), if_pos (by omega)]
theorem isR_eq (r a b c d : Int) (h1 : valid a b = true) (h2 : valid c d = true) : isR r a b c d = decide ((rel a b c d).1 = r) := by
  rw [Bool.eq_iff_iff, decide_eq_true_eq]
  exact ⟨isR_of r a b c d h1 h2, fun e => by rw [← e]; exact isR_at a b c d h1 h2⟩
theorem rel_is (a b c d : Int) : (rel a b c d).2 = (valid a b && valid c d) := by
  by_cases h : (valid a b && valid c d) = true
  · rw [rel, if_pos h, h]
  · rw [rel, if_neg h, Bool.eq_false_iff.2 h]
theorem rel_no {a b c d : Int} (h : (valid a b && valid c d) = false) : rel a b c d = (0, false) := by
  unfold rel; rw [h]; rfl
theorem C.ref_Holds (r a b c d : Int) : Pure Try.prog N.bt_ref02_Holds [.d (eI r), eP a b, eP c d] (.d (.bool ((rel a b c d).2 && decide ((rel a b c d).1 = r)))) := by
  refine F.bt_ref02_Holds.go mixed rfl ?_
  rw [rel_is]
  repeat' first
    | refine st ?_
    | ((with_reducible apply k_pn); (· first | exact C.ref_Valid1 _ _ | exact C.ref_Is _ _ _ _ _))
    | ((with_reducible apply k_pc); (· first | exact C.ref_Valid1 _ _ | exact C.ref_Is _ _ _ _ _))
    | (with_reducible apply k_d <;> intro _)
    | (with_reducible apply k_b <;> intro _)
  · rename_i h1 h2
    rw [isR_eq _ _ _ _ _ h1 h2, h1, h2]; rfl
  · rename_i h1 h2
    rw [h1, h2]; rfl
  · rename_i h1
    rw [h1]; rfl
theorem C.ref_Relation (a b c d : Int) : Pure Try.prog N.bt_ref02_Relation [eP a b, eP c d] (.tup [.d (.int .i64 (rel a b c d).1), .d (.bool (rel a b c d).2)]) := by
  refine F.bt_ref02_Relation.go mixed rfl ?_
  repeat' first
    | refine st ?_
    | (with_reducible apply k_d <;> intro _)
    | (with_reducible apply k_b <;> intro _)
  refine x_loop1 mixed Lt.bt_ref02_Relation_l0 Lk.bt_ref02_Relation_l0 (fun (i : Nat) => [.d (eI i)]) (fun i => [.cells [.d (eI a), .d (eI b)], .cells [.d (eI c), .d (eI d)]]) (fun i => i ≤ 13 ∧ ∀ j : Nat, j < i → ((rel a b c d).2 && decide ((rel a b c d).1 = j)) = false) (fun i => 13 - i) 0 rfl rfl rfl rfl (fun _ _ => ⟨rfl, rfl⟩) rfl ⟨by omega, by omega⟩ ?_
  repeat' first
    | refine st ?_
    | (with_reducible apply k_d <;> intro _)
    | (with_reducible apply k_b <;> intro _)
  intro i ⟨h1, h2⟩
  repeat' first
    | refine st ?_
    | ((with_reducible apply k_pn); (· exact C.ref_Holds _ _ _ _ _))
    | ((with_reducible apply k_pc); (· exact C.ref_Holds _ _ _ _ _))
    | (with_reducible apply k_d <;> intro _)
    | (with_reducible apply k_b <;> intro _)
  · rename_i h3 h4
    simp [h3, h4]
  · rename_i h3 h4
    refine ⟨i + 1, rfl, rfl, rfl, by omega, by omega, fun j hj => ?_⟩
    rcases Nat.lt_succ_iff_lt_or_eq.1 hj with h | rfl
    · exact h2 j h
    · rw [h3, decide_eq_false h4]; rfl
  · rename_i h3
    refine ⟨i + 1, rfl, rfl, rfl, by omega, by omega, fun j hj => ?_⟩
    rw [h3]; rfl
  · have : (rel a b c d).2 = false := by
      rw [Bool.eq_false_iff]
      intro h
      have hr := rel_range a b c d
      have := h2 (rel a b c d).1.toNat (by omega)
      rw [h] at this
      simp at this
      omega
    rw [rel_is] at this
    rw [rel_no this]
end Go.Proofs
