/- Operators on lists of values. No condition. -/
import Derived.Test.YtdhdhhgdeokiiaaE4
set_option linter.unusedSimpArgs false
set_option linter.unusedVariables false
set_option maxRecDepth 10000
set_option maxHeartbeats 4000000
namespace Go.Proofs
open Go.Bi

/-! ### Conjunctions and disjunctions -/
def lgS (op t : Int) (v : Vl) : Int := if op = 5 then tAnd t (vTruth v) else tOr t (vTruth v)
def lgF (op : Int) (a : Vl) (r : List Vl) : Int := r.foldl (lgS op) (vTruth a)
theorem foldl_take_succ {α β : Type} (f : β → α → β) (b : β) (l : List α) (i : Nat) (x : α) (h : l[i]? = some x) : (l.take (i + 1)).foldl f b = f ((l.take i).foldl f b) x := by
  rw [List.take_add_one, h]; simp
theorem C.r11_logic (op : Int) (a : Vl) (r : List Vl) (hl : r.length ≤ 1048576) : Pure Try.prog N.bt_ref11_logic [.d (eI op), .d (.sl (eVs (a :: r)))] (eV (vOf (lgF op a r))) := by
  refine F.bt_ref11_logic.go mixed rfl ?_
  have h1 : (eVs (a :: r)).length = r.length + 1 := by rw [eVs_len]; rfl
  have hm := eVs_mem (a :: r)
  have hg0 : (eVs (a :: r))[(0 : Nat)]? = some a.ds := rfl
  obtain ⟨es, hes⟩ : ∃ es, es = eVs (a :: r) := ⟨_, rfl⟩
  rw [← hes] at h1 hm hg0 ⊢
  repeat' first
    | refine st ?_
    | ((with_reducible apply go_i); (conv => whnf))
    | ((with_reducible apply k_pn); (· exact C.r7_Truth _))
    | ((with_reducible apply k_pc); (· exact C.r7_Truth _))
    | (with_reducible apply k_d <;> intro _)
    | (with_reducible apply k_b <;> intro _)
  refine x_loop2 mixed Lt.bt_ref11_logic_l0 Lk.bt_ref11_logic_l0 (fun (i : Nat) (t : Int) => [.d (eI t), .d (eI (i + 1))]) (fun i t => [.cells [.d (eI 0), .d (eI 0), .d (.str [])]]) (fun i t => i ≤ r.length ∧ t = (r.take i).foldl (lgS op) (vTruth a)) (fun i _ => r.length - i) 0 (vTruth a) rfl rfl rfl rfl (fun _ _ _ => ⟨rfl, rfl⟩) rfl ⟨by omega, rfl⟩ ?_
  repeat' first
    | refine st ?_
    | ((with_reducible apply go_i); (conv => whnf))
    | (with_reducible apply k_d <;> intro _)
    | (with_reducible apply k_b <;> intro _)
  intro i t ⟨h2, h3⟩
  cases hx : r[i]? with
  | some v =>
    have hlt := (List.getElem?_eq_some_iff.1 hx).1
    have hg : es[((i : Int) + 1).toNat]? = some v.ds := by
      rw [hes, show ((i : Int) + 1).toNat = i + 1 by omega]
      exact eVs_get (l := a :: r) (by simpa using hx)
    by_cases h5 : op = 5
    · repeat' first
        | refine st ?_
        | ((with_reducible apply go_i); (conv => whnf))
        | ((with_reducible apply k_pn); (· first | exact C.r7_Truth _ | exact C.r7_And _ _))
        | ((with_reducible apply k_pc); (· first | exact C.r7_Truth _ | exact C.r7_And _ _))
        | (with_reducible apply k_d <;> intro _)
        | (with_reducible apply k_b <;> intro _)
      refine ⟨i + 1, _, rfl, rfl, rfl, by omega, by omega, ?_⟩
      rw [foldl_take_succ _ _ _ _ _ hx, ← h3, lgS, if_pos h5]
    · repeat' first
        | refine st ?_
        | ((with_reducible apply go_i); (conv => whnf))
        | ((with_reducible apply k_pn); (· first | exact C.r7_Truth _ | exact C.r7_Or _ _))
        | ((with_reducible apply k_pc); (· first | exact C.r7_Truth _ | exact C.r7_Or _ _))
        | (with_reducible apply k_d <;> intro _)
        | (with_reducible apply k_b <;> intro _)
      refine ⟨i + 1, _, rfl, rfl, rfl, by omega, by omega, ?_⟩
      rw [foldl_take_succ _ _ _ _ _ hx, ← h3, lgS, if_neg h5]
  | none =>
    have hge := List.getElem?_eq_none_iff.1 hx
    rw [List.take_of_length_le hge] at h3
    subst h3
    repeat' first
      | refine st ?_
      | ((with_reducible apply go_i); (conv => whnf))
      | ((with_reducible apply k_pn); (· exact C.r7_Of _))
      | ((with_reducible apply k_pc); (· exact C.r7_Of _))
      | (with_reducible apply k_d <;> intro _)
      | (with_reducible apply k_b <;> intro _)
    rfl
theorem C.expr_logic4 (a : Vl) (r : List Vl) (hl : r.length ≤ 1048576) : Pure Try.prog N.expr_logic [.d (eI 4), .d (.sl (eVs (a :: r)))] (eV (vOf (tNot (vTruth a)))) := by
  refine F.expr_logic.go mixed rfl ?_
  have h1 : (eVs (a :: r)).length = r.length + 1 := by rw [eVs_len]; rfl
  have hm := eVs_mem (a :: r)
  have hg0 : (eVs (a :: r))[(0 : Nat)]? = some a.ds := rfl
  obtain ⟨es, hes⟩ : ∃ es, es = eVs (a :: r) := ⟨_, rfl⟩
  rw [← hes] at h1 hm hg0 ⊢
  repeat' first
    | refine st ?_
    | ((with_reducible apply go_i); (conv => whnf))
    | ((with_reducible apply k_pn); (· first | exact C.value_Truth _ | exact C.value_Not _ | exact C.value_Of _))
    | ((with_reducible apply k_pc); (· first | exact C.value_Truth _ | exact C.value_Not _ | exact C.value_Of _))
    | (with_reducible apply k_d <;> intro _)
    | (with_reducible apply k_b <;> intro _)
theorem C.expr_logic (op : Int) (h56 : op = 5 ∨ op = 6) (a : Vl) (r : List Vl) (hl : r.length ≤ 1048576) : Pure Try.prog N.expr_logic [.d (eI op), .d (.sl (eVs (a :: r)))] (eV (vOf (lgF op a r))) := by
  refine F.expr_logic.go mixed rfl ?_
  have h1 : (eVs (a :: r)).length = r.length + 1 := by rw [eVs_len]; rfl
  have hm := eVs_mem (a :: r)
  have hg0 : (eVs (a :: r))[(0 : Nat)]? = some a.ds := rfl
  have hcut : ((eVs (a :: r)).drop (1 : Int).toNat).take (((eVs (a :: r)).length : Int).toNat - (1 : Int).toNat) = eVs r := by
    rw [h1, show (1 : Int).toNat = 1 from rfl, show (((r.length + 1 : Nat) : Int)).toNat - 1 = r.length by omega]
    show ((eVs (a :: r)).drop 1).take r.length = _
    have : (eVs (a :: r)).drop 1 = eVs r := rfl
    rw [this, List.take_of_length_le (by rw [eVs_len]; omega)]
  obtain ⟨es, hes⟩ : ∃ es, es = eVs (a :: r) := ⟨_, rfl⟩
  rw [← hes] at h1 hm hg0 hcut ⊢
  obtain ⟨es2, hes2⟩ : ∃ es2, es2 = (es.drop (1 : Int).toNat).take ((es.length : Int).toNat - (1 : Int).toNat) := ⟨_, rfl⟩
  rw [← hes2] at hcut
  have h12 : es2.length = r.length := by rw [hcut, eVs_len]
  have hm2 : ∀ e ∈ es2, e.length = 3 := by rw [hcut]; exact eVs_mem r
  rcases h56 with rfl | rfl
  · repeat' first
      | refine st ?_
      | ((with_reducible apply go_i); (conv => whnf))
      | ((with_reducible apply k_pn); (· exact C.value_Truth _))
      | ((with_reducible apply k_pc); (· exact C.value_Truth _))
      | (with_reducible apply k_d <;> intro _)
      | (with_reducible apply k_b <;> intro _)
    all_goals (rw [← hes2])
    repeat' first
      | refine st ?_
      | ((with_reducible apply go_i); (conv => whnf))
      | ((with_reducible apply k_pn); (· exact C.value_Truth _))
      | ((with_reducible apply k_pc); (· exact C.value_Truth _))
      | (with_reducible apply k_d <;> intro _)
      | (with_reducible apply k_b <;> intro _)
    refine x_loop2 mixed Lt.expr_logic_l0 Lk.expr_logic_l0 (fun (i : Nat) (t : Int) => [.d (eI t), .d (eI i)]) (fun i t => [.cells [.d (eI 0), .d (eI 0), .d (.str [])]]) (fun i t => i ≤ r.length ∧ t = (r.take i).foldl (lgS 5) (vTruth a)) (fun i _ => r.length - i) 0 (vTruth a) rfl rfl rfl rfl (fun _ _ _ => ⟨rfl, rfl⟩) rfl ⟨by omega, rfl⟩ ?_
    repeat' first
      | refine st ?_
      | ((with_reducible apply go_i); (conv => whnf))
      | (with_reducible apply k_d <;> intro _)
      | (with_reducible apply k_b <;> intro _)
    intro i t ⟨h2, h3⟩
    cases hx : r[i]? with
    | some v =>
      have hlt := (List.getElem?_eq_some_iff.1 hx).1
      have hg : es2[(i : Int).toNat]? = some v.ds := by rw [hcut]; exact eVs_get (l := r) hx
      repeat' first
        | refine st ?_
        | ((with_reducible apply go_i); (conv => whnf))
        | ((with_reducible apply k_pn); (· first | exact C.value_Truth _ | exact C.value_And _ _))
        | ((with_reducible apply k_pc); (· first | exact C.value_Truth _ | exact C.value_And _ _))
        | (with_reducible apply k_d <;> intro _)
        | (with_reducible apply k_b <;> intro _)
      refine ⟨i + 1, _, rfl, rfl, rfl, by omega, by omega, ?_⟩
      rw [foldl_take_succ _ _ _ _ _ hx, ← h3]; rfl
    | none =>
      have hge := List.getElem?_eq_none_iff.1 hx
      rw [List.take_of_length_le hge] at h3
      subst h3
      repeat' first
        | refine st ?_
        | ((with_reducible apply go_i); (conv => whnf))
        | ((with_reducible apply k_pn); (· exact C.value_Of _))
        | ((with_reducible apply k_pc); (· exact C.value_Of _))
        | (with_reducible apply k_d <;> intro _)
        | (with_reducible apply k_b <;> intro _)
      rfl
  · repeat' first
      | refine st ?_
      | ((with_reducible apply go_i); (conv => whnf))
      | ((with_reducible apply k_pn); (· exact C.value_Truth _))
      | ((with_reducible apply k_pc); (· exact C.value_Truth _))
      | (with_reducible apply k_d <;> intro _)
      | (with_reducible apply k_b <;> intro _)
    all_goals (rw [← hes2])
    repeat' first
      | refine st ?_
      | ((with_reducible apply go_i); (conv => whnf))
      | ((with_reducible apply k_pn); (· exact C.value_Truth _))
      | ((with_reducible apply k_pc); (· exact C.value_Truth _))
      | (with_reducible apply k_d <;> intro _)
      | (with_reducible apply k_b <;> intro _)
    refine x_loop2 mixed Lt.expr_logic_l1 Lk.expr_logic_l1 (fun (i : Nat) (t : Int) => [.d (eI t), .d (eI i)]) (fun i t => [.cells [.d (eI 0), .d (eI 0), .d (.str [])]]) (fun i t => i ≤ r.length ∧ t = (r.take i).foldl (lgS 6) (vTruth a)) (fun i _ => r.length - i) 0 (vTruth a) rfl rfl rfl rfl (fun _ _ _ => ⟨rfl, rfl⟩) rfl ⟨by omega, rfl⟩ ?_
    repeat' first
      | refine st ?_
      | ((with_reducible apply go_i); (conv => whnf))
      | (with_reducible apply k_d <;> intro _)
      | (with_reducible apply k_b <;> intro _)
    intro i t ⟨h2, h3⟩
    cases hx : r[i]? with
    | some v =>
      have hlt := (List.getElem?_eq_some_iff.1 hx).1
      have hg : es2[(i : Int).toNat]? = some v.ds := by rw [hcut]; exact eVs_get (l := r) hx
      repeat' first
        | refine st ?_
        | ((with_reducible apply go_i); (conv => whnf))
        | ((with_reducible apply k_pn); (· first | exact C.value_Truth _ | exact C.value_Or _ _))
        | ((with_reducible apply k_pc); (· first | exact C.value_Truth _ | exact C.value_Or _ _))
        | (with_reducible apply k_d <;> intro _)
        | (with_reducible apply k_b <;> intro _)
      refine ⟨i + 1, _, rfl, rfl, rfl, by omega, by omega, ?_⟩
      rw [foldl_take_succ _ _ _ _ _ hx, ← h3]; rfl
    | none =>
      have hge := List.getElem?_eq_none_iff.1 hx
      rw [List.take_of_length_le hge] at h3
      subst h3
      repeat' first
        | refine st ?_
        | ((with_reducible apply go_i); (conv => whnf))
        | ((with_reducible apply k_pn); (· exact C.value_Of _))
        | ((with_reducible apply k_pc); (· exact C.value_Of _))
        | (with_reducible apply k_d <;> intro _)
        | (with_reducible apply k_b <;> intro _)
      rfl
end Go.Proofs
