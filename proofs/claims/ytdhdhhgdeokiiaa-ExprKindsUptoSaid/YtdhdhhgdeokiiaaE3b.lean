/- The operators and their numbers of arguments. No condition. -/
import Derived.Test.YtdhdhhgdeokiiaaE3
set_option linter.unusedSimpArgs false
set_option linter.unusedVariables false
set_option maxRecDepth 10000
set_option maxHeartbeats 4000000
namespace Go.Proofs
open Go.Bi

/-! ### Operators -/
def cnt (op n : Int) : Bool × Bool :=
  if op = 1 ∨ op = 2 then (decide (n = 0), true)
  else if op = 4 ∨ op = 18 ∨ op = 20 ∨ op = 21 then (decide (n = 1), true)
  else if op = 7 ∨ op = 8 ∨ op = 9 ∨ op = 10 ∨ op = 11 ∨ op = 12 ∨ op = 13 ∨ op = 14 ∨ op = 15 ∨ op = 16 ∨ op = 17 ∨ op = 19 then (decide (n = 2), true)
  else if op = 5 ∨ op = 6 then (decide (2 ≤ n), true)
  else if op = 22 then (decide (n = 3), true)
  else if op = 23 then (decide (1 ≤ n), true)
  else if op = 24 then (decide (n = 4), true) else (false, false)
theorem C.expr_counts (op n : Int) : Pure Try.prog N.expr_counts [.d (eI op), .d (eI n)] (.tup [.d (.bool (cnt op n).1), .d (.bool (cnt op n).2)]) := by
  refine F.expr_counts.go mixed rfl ?_
  repeat' first
    | refine st ?_
    | ((with_reducible apply go_i); (conv => whnf))
    | (with_reducible apply k_d <;> intro _)
    | (with_reducible apply k_b <;> intro _)
  all_goals first
    | (subst_vars; rfl)
    | (simp only [cnt]; rw [if_neg (by omega), if_neg (by omega), if_neg (by omega), if_neg (by omega), if_neg (by omega), if_neg (by omega), if_neg (by omega)])
def ary (op : Int) : Int × Int :=
  if op = 1 ∨ op = 2 then (0, 0)
  else if op = 4 ∨ op = 18 ∨ op = 20 ∨ op = 21 then (1, 1)
  else if op = 7 ∨ op = 8 ∨ op = 9 ∨ op = 10 ∨ op = 11 ∨ op = 12 ∨ op = 13 ∨ op = 14 ∨ op = 15 ∨ op = 16 ∨ op = 17 ∨ op = 19 then (2, 2)
  else if op = 5 ∨ op = 6 then (2, 1099511627776)
  else if op = 22 then (3, 3)
  else if op = 23 then (1, 1099511627776)
  else if op = 24 then (4, 4) else (-1, 0)
theorem C.r11_Arity (op : Int) : Pure Try.prog N.bt_ref11_Arity [.d (eI op)] (.tup [.d (eI (ary op).1), .d (eI (ary op).2)]) := by
  refine F.bt_ref11_Arity.go mixed rfl ?_
  repeat' first
    | refine st ?_
    | ((with_reducible apply go_i); (conv => whnf))
    | (with_reducible apply k_d <;> intro _)
    | (with_reducible apply k_b <;> intro _)
  all_goals first
    | (subst_vars; rfl)
    | (simp only [ary]; rw [if_neg (by omega), if_neg (by omega), if_neg (by omega), if_neg (by omega), if_neg (by omega), if_neg (by omega), if_neg (by omega)])
theorem ary_cnt (op : Int) (k : Nat) (hk : k ≤ 1048576) : (cnt op k).1 = decide (¬ ((ary op).1 < 0 ∨ (k : Int) < (ary op).1 ∨ (ary op).2 < (k : Int))) ∧ (cnt op k).2 = decide (¬ (ary op).1 < 0) := by
  unfold cnt ary
  repeat' split
  all_goals (constructor <;> (rw [Bool.eq_iff_iff]; simp; try omega))
end Go.Proofs
