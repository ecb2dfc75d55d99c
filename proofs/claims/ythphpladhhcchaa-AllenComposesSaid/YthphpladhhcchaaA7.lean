/- Contracts: Satisfied, the reference's relations, inverses, names. No condition. -/
import Derived.Test.YthphpladhhcchaaA6
set_option linter.unusedSimpArgs false
set_option linter.unusedVariables false
set_option maxRecDepth 10000
set_option maxHeartbeats 4000000
namespace Go.Proofs
open Go.Bi

def validQ (p : Int × Int) : Bool := valid p.1 p.2
def getQ (l : List (Int × Int)) (i : Int) : Int × Int := l.getD i.toNat (0, 0)
def okS (l : List (Int × Int)) (c : Con) : Bool := okC l.length c && sHas (sOfL c.rels) (relQ (getQ l c.a) (getQ l c.b))
def sat (l : List (Int × Int)) (c : List Con) : Bool := l.all validQ && c.all (okS l)
theorem all_take_succ {α : Type} {f : α → Bool} {l : List α} {i : Nat} {x : α} (h : l[i]? = some x) : (l.take (i + 1)).all f = ((l.take i).all f && f x) := by
  simp only [List.take_add_one, h, List.all_append, Option.toList, List.all_cons, List.all_nil, Bool.and_true]
theorem all_none {α : Type} {f : α → Bool} {l : List α} {i : Nat} {x : α} (h : l[i]? = some x) (hx : f x = false) : l.all f = false := by
  rw [Bool.eq_false_iff]
  intro ha
  rw [List.all_eq_true.1 ha x (List.mem_of_getElem? h)] at hx
  cases hx
theorem eQs_len (l : List (Int × Int)) : (eQs l).length = l.length := by simp [eQs]
theorem eQs_mem (l : List (Int × Int)) : ∀ e ∈ eQs l, e.length = 2 := by
  intro e he
  obtain ⟨c, _, rfl⟩ := List.mem_map.1 he
  rfl
theorem getQ_get {l : List (Int × Int)} {i : Int} (h : 0 ≤ i ∧ i < l.length) : l[i.toNat]? = some (getQ l i) := by
  unfold getQ
  rw [List.getD_eq_getElem?_getD, List.getElem?_eq_getElem (by omega)]
  rfl
theorem C.allen_Satisfied (l : List (Int × Int)) (hl : l.length ≤ 9223372036854775806) (d1 : D) (hd1 : SlD d1 (eQs l)) (c : List Con) (hc : c.length ≤ 9223372036854775806) (d2 : D) (hd2 : SlD d2 (eCons c)) :
    Pure Try.prog N.allen_Satisfied [.d d1, .d d2] (.d (.bool (sat l c))) := by
  refine F.allen_Satisfied.go mixed rfl ?_
  have hl1 := eQs_len l
  have hm1 := eQs_mem l
  have hl2 := eCons_len c
  have hm2 := eCons_mem c
  repeat' first
    | ((with_reducible apply go_i); (conv => whnf))
    | with_reducible apply k_caf
    | with_reducible apply k_n
    | ((with_reducible apply k_dt); (· first | assumption | omega))
    | ((with_reducible apply k_df); (· first | assumption | omega))
    | (with_reducible apply k_d <;> intro _)
    | with_reducible apply k_a
    | with_reducible apply k_o
    | ((with_reducible apply k_bt); (· assumption))
    | ((with_reducible apply k_bf); (· assumption))
    | ((with_reducible apply k_gc); (· assumption))
    | ((with_reducible apply k_gcs); (· assumption); (· first | assumption | omega | (simp only [List.length_cons, List.length_nil, List.length_map]; omega)))
    | ((with_reducible apply k_ste); (· assumption); (· first | assumption | omega))
    | ((with_reducible apply k_stc); (· first | assumption | omega | (simp only [List.length_cons, List.length_nil, List.length_map]; omega) | (simp; done)))
    | (with_reducible apply k_b <;> intro _)
    | ((with_reducible apply k_fz); (· assumption))
    | with_reducible apply k_mp
    | ((with_reducible apply k_wr); (· omega); (· omega))
    | with_reducible apply k_ww
    | ((with_reducible apply k_chk); (· first | omega | assumption | exact rfl | (simp only [List.length_cons, List.length_nil]; omega) | exact wrapu_nn _ | (intro e he; obtain ⟨x, _, rfl⟩ := List.mem_map.1 he; exact rfl) | (intro e he; cases List.mem_singleton.1 he; rfl) | (simp; done)))
    | ((with_reducible apply k_sl); (· first | assumption | exact sld_nsl | exact sld_sl | exact sld_nil | exact sld_cond (by assumption)))
  refine x_loop1 mixed Lt.allen_Satisfied_l0 Lk.allen_Satisfied_l0 (fun (i : Nat) => [.d (eI i)]) (fun i => []) (fun i => i ≤ l.length ∧ (l.take i).all validQ = true) (fun i => l.length - i) 0 rfl rfl rfl rfl (fun _ _ => ⟨rfl, rfl⟩) rfl ⟨by omega, rfl⟩ ?_
  repeat' first
    | ((with_reducible apply go_i); (conv => whnf))
    | with_reducible apply k_caf
    | with_reducible apply k_n
    | ((with_reducible apply k_dt); (· first | assumption | omega))
    | ((with_reducible apply k_df); (· first | assumption | omega))
    | (with_reducible apply k_d <;> intro _)
    | with_reducible apply k_a
    | with_reducible apply k_o
    | ((with_reducible apply k_bt); (· assumption))
    | ((with_reducible apply k_bf); (· assumption))
    | ((with_reducible apply k_gc); (· assumption))
    | ((with_reducible apply k_gcs); (· assumption); (· first | assumption | omega | (simp only [List.length_cons, List.length_nil, List.length_map]; omega)))
    | ((with_reducible apply k_ste); (· assumption); (· first | assumption | omega))
    | ((with_reducible apply k_stc); (· first | assumption | omega | (simp only [List.length_cons, List.length_nil, List.length_map]; omega) | (simp; done)))
    | (with_reducible apply k_b <;> intro _)
    | ((with_reducible apply k_fz); (· assumption))
    | with_reducible apply k_mp
    | ((with_reducible apply k_wr); (· omega); (· omega))
    | with_reducible apply k_ww
    | ((with_reducible apply k_chk); (· first | omega | assumption | exact rfl | (simp only [List.length_cons, List.length_nil]; omega) | exact wrapu_nn _ | (intro e he; obtain ⟨x, _, rfl⟩ := List.mem_map.1 he; exact rfl) | (intro e he; cases List.mem_singleton.1 he; rfl) | (simp; done)))
    | ((with_reducible apply k_sl); (· first | assumption | exact sld_nsl | exact sld_sl | exact sld_nil | exact sld_cond (by assumption)))
  intro i ⟨h1, h2⟩
  cases hx : l[i]? with
  | some p =>
    have hlt := (List.getElem?_eq_some_iff.1 hx).1
    have he := eQs_get hx
    repeat' first
      | ((with_reducible apply go_i); (conv => whnf))
      | ((with_reducible apply k_pc); (· first | exact C.period_Valid _ _))
      | with_reducible apply k_caf
      | with_reducible apply k_n
      | ((with_reducible apply k_dt); (· first | assumption | omega))
      | ((with_reducible apply k_df); (· first | assumption | omega))
      | (with_reducible apply k_d <;> intro _)
      | with_reducible apply k_a
      | with_reducible apply k_o
      | ((with_reducible apply k_bt); (· assumption))
      | ((with_reducible apply k_bf); (· assumption))
      | ((with_reducible apply k_gc); (· assumption))
      | ((with_reducible apply k_gcs); (· assumption); (· first | assumption | omega | (simp only [List.length_cons, List.length_nil, List.length_map]; omega)))
      | ((with_reducible apply k_ste); (· assumption); (· first | assumption | omega))
      | ((with_reducible apply k_stc); (· first | assumption | omega | (simp only [List.length_cons, List.length_nil, List.length_map]; omega) | (simp; done)))
      | (with_reducible apply k_b <;> intro _)
      | ((with_reducible apply k_fz); (· assumption))
      | with_reducible apply k_mp
      | ((with_reducible apply k_wr); (· omega); (· omega))
      | with_reducible apply k_ww
      | ((with_reducible apply k_chk); (· first | omega | assumption | exact rfl | (simp only [List.length_cons, List.length_nil]; omega) | exact wrapu_nn _ | (intro e he; obtain ⟨x, _, rfl⟩ := List.mem_map.1 he; exact rfl) | (intro e he; cases List.mem_singleton.1 he; rfl) | (simp; done)))
      | ((with_reducible apply k_sl); (· first | assumption | exact sld_nsl | exact sld_sl | exact sld_nil | exact sld_cond (by assumption)))
    · rename_i hv
      refine ⟨i + 1, rfl, rfl, rfl, by omega, by omega, ?_⟩
      rw [all_take_succ hx, h2]; exact hv
    · rename_i hv
      rw [sat, all_none hx hv]; rfl
  | none =>
    have hge := List.getElem?_eq_none_iff.1 hx
    rw [List.take_of_length_le hge] at h2
    repeat' first
      | ((with_reducible apply go_i); (conv => whnf))
      | with_reducible apply k_caf
      | with_reducible apply k_n
      | ((with_reducible apply k_dt); (· first | assumption | omega))
      | ((with_reducible apply k_df); (· first | assumption | omega))
      | (with_reducible apply k_d <;> intro _)
      | with_reducible apply k_a
      | with_reducible apply k_o
      | ((with_reducible apply k_bt); (· assumption))
      | ((with_reducible apply k_bf); (· assumption))
      | ((with_reducible apply k_gc); (· assumption))
      | ((with_reducible apply k_gcs); (· assumption); (· first | assumption | omega | (simp only [List.length_cons, List.length_nil, List.length_map]; omega)))
      | ((with_reducible apply k_ste); (· assumption); (· first | assumption | omega))
      | ((with_reducible apply k_stc); (· first | assumption | omega | (simp only [List.length_cons, List.length_nil, List.length_map]; omega) | (simp; done)))
      | (with_reducible apply k_b <;> intro _)
      | ((with_reducible apply k_fz); (· assumption))
      | with_reducible apply k_mp
      | ((with_reducible apply k_wr); (· omega); (· omega))
      | with_reducible apply k_ww
      | ((with_reducible apply k_chk); (· first | omega | assumption | exact rfl | (simp only [List.length_cons, List.length_nil]; omega) | exact wrapu_nn _ | (intro e he; obtain ⟨x, _, rfl⟩ := List.mem_map.1 he; exact rfl) | (intro e he; cases List.mem_singleton.1 he; rfl) | (simp; done)))
      | ((with_reducible apply k_sl); (· first | assumption | exact sld_nsl | exact sld_sl | exact sld_nil | exact sld_cond (by assumption)))
    refine x_loop1 mixed Lt.allen_Satisfied_l1 Lk.allen_Satisfied_l1 (fun (i : Nat) => [.d (eI i)]) (fun i => []) (fun i => i ≤ c.length ∧ (c.take i).all (okS l) = true) (fun i => c.length - i) 0 rfl rfl rfl rfl (fun _ _ => ⟨rfl, rfl⟩) rfl ⟨by omega, rfl⟩ ?_
    repeat' first
      | ((with_reducible apply go_i); (conv => whnf))
      | with_reducible apply k_caf
      | with_reducible apply k_n
      | ((with_reducible apply k_dt); (· first | assumption | omega))
      | ((with_reducible apply k_df); (· first | assumption | omega))
      | (with_reducible apply k_d <;> intro _)
      | with_reducible apply k_a
      | with_reducible apply k_o
      | ((with_reducible apply k_bt); (· assumption))
      | ((with_reducible apply k_bf); (· assumption))
      | ((with_reducible apply k_gc); (· assumption))
      | ((with_reducible apply k_gcs); (· assumption); (· first | assumption | omega | (simp only [List.length_cons, List.length_nil, List.length_map]; omega)))
      | ((with_reducible apply k_ste); (· assumption); (· first | assumption | omega))
      | ((with_reducible apply k_stc); (· first | assumption | omega | (simp only [List.length_cons, List.length_nil, List.length_map]; omega) | (simp; done)))
      | (with_reducible apply k_b <;> intro _)
      | ((with_reducible apply k_fz); (· assumption))
      | with_reducible apply k_mp
      | ((with_reducible apply k_wr); (· omega); (· omega))
      | with_reducible apply k_ww
      | ((with_reducible apply k_chk); (· first | omega | assumption | exact rfl | (simp only [List.length_cons, List.length_nil]; omega) | exact wrapu_nn _ | (intro e he; obtain ⟨x, _, rfl⟩ := List.mem_map.1 he; exact rfl) | (intro e he; cases List.mem_singleton.1 he; rfl) | (simp; done)))
      | ((with_reducible apply k_sl); (· first | assumption | exact sld_nsl | exact sld_sl | exact sld_nil | exact sld_cond (by assumption)))
    intro j ⟨h3, h4⟩
    cases hy : c[j]? with
    | none =>
      have hge := List.getElem?_eq_none_iff.1 hy
      rw [List.take_of_length_le hge] at h4
      repeat' first
        | ((with_reducible apply go_i); (conv => whnf))
        | with_reducible apply k_caf
        | with_reducible apply k_n
        | ((with_reducible apply k_dt); (· first | assumption | omega))
        | ((with_reducible apply k_df); (· first | assumption | omega))
        | (with_reducible apply k_d <;> intro _)
        | with_reducible apply k_a
        | with_reducible apply k_o
        | ((with_reducible apply k_bt); (· assumption))
        | ((with_reducible apply k_bf); (· assumption))
        | ((with_reducible apply k_gc); (· assumption))
        | ((with_reducible apply k_gcs); (· assumption); (· first | assumption | omega | (simp only [List.length_cons, List.length_nil, List.length_map]; omega)))
        | ((with_reducible apply k_ste); (· assumption); (· first | assumption | omega))
        | ((with_reducible apply k_stc); (· first | assumption | omega | (simp only [List.length_cons, List.length_nil, List.length_map]; omega) | (simp; done)))
        | (with_reducible apply k_b <;> intro _)
        | ((with_reducible apply k_fz); (· assumption))
        | with_reducible apply k_mp
        | ((with_reducible apply k_wr); (· omega); (· omega))
        | with_reducible apply k_ww
        | ((with_reducible apply k_chk); (· first | omega | assumption | exact rfl | (simp only [List.length_cons, List.length_nil]; omega) | exact wrapu_nn _ | (intro e he; obtain ⟨x, _, rfl⟩ := List.mem_map.1 he; exact rfl) | (intro e he; cases List.mem_singleton.1 he; rfl) | (simp; done)))
        | ((with_reducible apply k_sl); (· first | assumption | exact sld_nsl | exact sld_sl | exact sld_nil | exact sld_cond (by assumption)))
      rw [sat, h2, h4]; rfl
    | some x =>
      have hlt := (List.getElem?_eq_some_iff.1 hy).1
      have he := eCons_get hy
      have cof := C.allen_of x.rels x.d x.hd x.hl
      by_cases hok : okC l.length x = true
      · simp only [okC, Bool.and_eq_true, decide_eq_true_eq] at hok
        obtain ⟨ho1, ho2, ho3, ho4, ho5⟩ := hok
        have hof : sOf x.rels = (sOfL x.rels, true) := by simp [sOf, ho1]
        rw [hof] at cof
        have ga := eQs_get (getQ_get ⟨ho2, ho3⟩)
        have gb := eQs_get (getQ_get ⟨ho4, ho5⟩)
        have hk : okC l.length x = true := by simp [okC, ho1, ho2, ho3, ho4, ho5]
        repeat' first
          | ((with_reducible apply go_i); (conv => whnf))
          | ((with_reducible apply k_pc); (· first | exact cof | exact C.allen_Relation _ _ _ _ | exact C.allen_set_has _ _))
          | with_reducible apply k_caf
          | with_reducible apply k_n
          | ((with_reducible apply k_dt); (· first | assumption | omega))
          | ((with_reducible apply k_df); (· first | assumption | omega))
          | (with_reducible apply k_d <;> intro _)
          | with_reducible apply k_a
          | with_reducible apply k_o
          | ((with_reducible apply k_bt); (· assumption))
          | ((with_reducible apply k_bf); (· assumption))
          | ((with_reducible apply k_gc); (· assumption))
          | ((with_reducible apply k_gcs); (· assumption); (· first | assumption | omega | (simp only [List.length_cons, List.length_nil, List.length_map]; omega)))
          | ((with_reducible apply k_ste); (· assumption); (· first | assumption | omega))
          | ((with_reducible apply k_stc); (· first | assumption | omega | (simp only [List.length_cons, List.length_nil, List.length_map]; omega) | (simp; done)))
          | (with_reducible apply k_b <;> intro _)
          | ((with_reducible apply k_fz); (· assumption))
          | with_reducible apply k_mp
          | ((with_reducible apply k_wr); (· omega); (· omega))
          | with_reducible apply k_ww
          | ((with_reducible apply k_chk); (· first | omega | assumption | exact rfl | (simp only [List.length_cons, List.length_nil]; omega) | exact wrapu_nn _ | (intro e he; obtain ⟨x, _, rfl⟩ := List.mem_map.1 he; exact rfl) | (intro e he; cases List.mem_singleton.1 he; rfl) | (simp; done)))
          | ((with_reducible apply k_sl); (· first | assumption | exact sld_nsl | exact sld_sl | exact sld_nil | exact sld_cond (by assumption)))
        · rename_i hs
          refine ⟨j + 1, rfl, rfl, rfl, by omega, by omega, ?_⟩
          rw [all_take_succ hy, h4, okS, hk]; exact hs
        · rename_i hs
          have : okS l x = false := by rw [okS, hk]; exact hs
          rw [sat, all_none hy this, Bool.and_false]
      · have hbad : okS l x = false := by simp [okS, hok]
        have hsat : sat l c = false := by rw [sat, all_none hy hbad, Bool.and_false]
        rw [hsat]
        by_cases he1 : allEx x.rels = true
        · have hof : sOf x.rels = (sOfL x.rels, true) := by simp [sOf, he1]
          rw [hof] at cof
          have hb : ¬ (0 ≤ x.a ∧ x.a < l.length ∧ 0 ≤ x.b ∧ x.b < l.length) := fun h => hok (by simp [okC, he1, h])
          repeat' first
            | ((with_reducible apply go_i); (conv => whnf))
            | ((with_reducible apply k_pc); (· first | exact cof))
            | with_reducible apply k_caf
            | with_reducible apply k_n
            | ((with_reducible apply k_dt); (· first | assumption | omega))
            | ((with_reducible apply k_df); (· first | assumption | omega))
            | (with_reducible apply k_d <;> intro _)
            | with_reducible apply k_a
            | with_reducible apply k_o
            | ((with_reducible apply k_bt); (· assumption))
            | ((with_reducible apply k_bf); (· assumption))
            | ((with_reducible apply k_gc); (· assumption))
            | ((with_reducible apply k_gcs); (· assumption); (· first | assumption | omega | (simp only [List.length_cons, List.length_nil, List.length_map]; omega)))
            | ((with_reducible apply k_ste); (· assumption); (· first | assumption | omega))
            | ((with_reducible apply k_stc); (· first | assumption | omega | (simp only [List.length_cons, List.length_nil, List.length_map]; omega) | (simp; done)))
            | (with_reducible apply k_b <;> intro _)
            | ((with_reducible apply k_fz); (· assumption))
            | with_reducible apply k_mp
            | ((with_reducible apply k_wr); (· omega); (· omega))
            | with_reducible apply k_ww
            | ((with_reducible apply k_chk); (· first | omega | assumption | exact rfl | (simp only [List.length_cons, List.length_nil]; omega) | exact wrapu_nn _ | (intro e he; obtain ⟨x, _, rfl⟩ := List.mem_map.1 he; exact rfl) | (intro e he; cases List.mem_singleton.1 he; rfl) | (simp; done)))
            | ((with_reducible apply k_sl); (· first | assumption | exact sld_nsl | exact sld_sl | exact sld_nil | exact sld_cond (by assumption)))
          all_goals rfl
        · have hof : sOf x.rels = (0, false) := by simp [sOf, he1]
          rw [hof] at cof
          repeat' first
            | ((with_reducible apply go_i); (conv => whnf))
            | ((with_reducible apply k_pc); (· first | exact cof))
            | with_reducible apply k_caf
            | with_reducible apply k_n
            | ((with_reducible apply k_dt); (· first | assumption | omega))
            | ((with_reducible apply k_df); (· first | assumption | omega))
            | (with_reducible apply k_d <;> intro _)
            | with_reducible apply k_a
            | with_reducible apply k_o
            | ((with_reducible apply k_bt); (· assumption))
            | ((with_reducible apply k_bf); (· assumption))
            | ((with_reducible apply k_gc); (· assumption))
            | ((with_reducible apply k_gcs); (· assumption); (· first | assumption | omega | (simp only [List.length_cons, List.length_nil, List.length_map]; omega)))
            | ((with_reducible apply k_ste); (· assumption); (· first | assumption | omega))
            | ((with_reducible apply k_stc); (· first | assumption | omega | (simp only [List.length_cons, List.length_nil, List.length_map]; omega) | (simp; done)))
            | (with_reducible apply k_b <;> intro _)
            | ((with_reducible apply k_fz); (· assumption))
            | with_reducible apply k_mp
            | ((with_reducible apply k_wr); (· omega); (· omega))
            | with_reducible apply k_ww
            | ((with_reducible apply k_chk); (· first | omega | assumption | exact rfl | (simp only [List.length_cons, List.length_nil]; omega) | exact wrapu_nn _ | (intro e he; obtain ⟨x, _, rfl⟩ := List.mem_map.1 he; exact rfl) | (intro e he; cases List.mem_singleton.1 he; rfl) | (simp; done)))
            | ((with_reducible apply k_sl); (· first | assumption | exact sld_nsl | exact sld_sl | exact sld_nil | exact sld_cond (by assumption)))

/-! ### The reference -/
theorem C.ref_Valid1 (a b : Int) : Pure Try.prog N.bt_ref01_Valid [eP a b] (.d (.bool (valid a b))) := by
  refine F.bt_ref01_Valid.go mixed rfl ?_
  repeat' first
    | ((with_reducible apply go_i); (conv => whnf))
    | with_reducible apply k_caf
    | with_reducible apply k_n
    | ((with_reducible apply k_dt); (· first | assumption | omega))
    | ((with_reducible apply k_df); (· first | assumption | omega))
    | (with_reducible apply k_d <;> intro _)
    | with_reducible apply k_a
    | with_reducible apply k_o
    | ((with_reducible apply k_bt); (· assumption))
    | ((with_reducible apply k_bf); (· assumption))
    | ((with_reducible apply k_gc); (· assumption))
    | ((with_reducible apply k_gcs); (· assumption); (· first | assumption | omega | (simp only [List.length_cons, List.length_nil, List.length_map]; omega)))
    | ((with_reducible apply k_ste); (· assumption); (· first | assumption | omega))
    | ((with_reducible apply k_stc); (· first | assumption | omega | (simp only [List.length_cons, List.length_nil, List.length_map]; omega) | (simp; done)))
    | (with_reducible apply k_b <;> intro _)
    | ((with_reducible apply k_fz); (· assumption))
    | with_reducible apply k_mp
    | ((with_reducible apply k_wr); (· omega); (· omega))
    | with_reducible apply k_ww
    | ((with_reducible apply k_chk); (· first | omega | assumption | exact rfl | (simp only [List.length_cons, List.length_nil]; omega) | exact wrapu_nn _ | (intro e he; obtain ⟨x, _, rfl⟩ := List.mem_map.1 he; exact rfl) | (intro e he; cases List.mem_singleton.1 he; rfl) | (simp; done)))
    | ((with_reducible apply k_sl); (· first | assumption | exact sld_nsl | exact sld_sl | exact sld_nil | exact sld_cond (by assumption)))
  all_goals (simp_all [valid] <;> omega)
def isR (r a b c d : Int) : Bool :=
  if r = 0 then decide (b < c) else if r = 1 then decide (b = c) else if r = 2 then decide (a < c ∧ c < b ∧ b < d) else if r = 3 then decide (a = c ∧ b < d) else if r = 4 then decide (c < a ∧ b < d)
  else if r = 5 then decide (b = d ∧ c < a) else if r = 6 then decide (a = c ∧ b = d) else if r = 7 then decide (b = d ∧ a < c) else if r = 8 then decide (a < c ∧ d < b) else if r = 9 then decide (a = c ∧ d < b)
  else if r = 10 then decide (c < a ∧ a < d ∧ d < b) else if r = 11 then decide (d = a) else if r = 12 then decide (d < a) else false
theorem C.ref_Is (r a b c d : Int) : Pure Try.prog N.bt_ref02_Is [.d (eI r), eP a b, eP c d] (.d (.bool (isR r a b c d))) := by
  refine F.bt_ref02_Is.go mixed rfl ?_
  repeat' first
    | ((with_reducible apply go_i); (conv => whnf))
    | with_reducible apply k_caf
    | with_reducible apply k_n
    | ((with_reducible apply k_dt); (· first | assumption | omega))
    | ((with_reducible apply k_df); (· first | assumption | omega))
    | (with_reducible apply k_d <;> intro _)
    | with_reducible apply k_a
    | with_reducible apply k_o
    | ((with_reducible apply k_bt); (· assumption))
    | ((with_reducible apply k_bf); (· assumption))
    | ((with_reducible apply k_gc); (· assumption))
    | ((with_reducible apply k_gcs); (· assumption); (· first | assumption | omega | (simp only [List.length_cons, List.length_nil, List.length_map]; omega)))
    | ((with_reducible apply k_ste); (· assumption); (· first | assumption | omega))
    | ((with_reducible apply k_stc); (· first | assumption | omega | (simp only [List.length_cons, List.length_nil, List.length_map]; omega) | (simp; done)))
    | (with_reducible apply k_b <;> intro _)
    | ((with_reducible apply k_fz); (· assumption))
    | with_reducible apply k_mp
    | ((with_reducible apply k_wr); (· omega); (· omega))
    | with_reducible apply k_ww
    | ((with_reducible apply k_chk); (· first | omega | assumption | exact rfl | (simp only [List.length_cons, List.length_nil]; omega) | exact wrapu_nn _ | (intro e he; obtain ⟨x, _, rfl⟩ := List.mem_map.1 he; exact rfl) | (intro e he; cases List.mem_singleton.1 he; rfl) | (simp; done)))
    | ((with_reducible apply k_sl); (· first | assumption | exact sld_nsl | exact sld_sl | exact sld_nil | exact sld_cond (by assumption)))
  all_goals simp_all [isR]
  all_goals (intros; omega)
theorem isR_at (a b c d : Int) (h1 : valid a b = true) (h2 : valid c d = true) : isR (rel a b c d).1 a b c d = true := by
  simp only [valid, decide_eq_true_eq] at h1 h2
  have h : (valid a b && valid c d) = true := by simp [valid, h1, h2]
  rw [rel, if_pos h]
  dsimp only
  repeat' split
  all_goals (simp [isR]; try omega)
theorem isR_of (r a b c d : Int) (h1 : valid a b = true) (h2 : valid c d = true) (h3 : isR r a b c d = true) : (rel a b c d).1 = r := by
  simp only [valid, decide_eq_true_eq] at h1 h2
  have h : (valid a b && valid c d) = true := by simp [valid, h1, h2]
  have hr : 0 ≤ r ∧ r < 13 := by
    by_cases hr : 0 ≤ r ∧ r < 13
    · exact hr
    · unfold isR at h3
      rw [if_neg (by omega), if_neg (by omega), if_neg (by omega), if_neg (by omega), if_neg (by omega), if_neg (by omega), if_neg (by omega), if_neg (by omega), if_neg (by omega), if_neg (by omega), if_neg (by omega), if_neg (by omega), if_neg (by omega)] at h3
      cases h3
  rw [rel, if_pos h]
  dsimp only
  rcases (show r = 0 ∨ r = 1 ∨ r = 2 ∨ r = 3 ∨ r = 4 ∨ r = 5 ∨ r = 6 ∨ r = 7 ∨ r = 8 ∨ r = 9 ∨ r = 10 ∨ r = 11 ∨ r = 12 by omega) with rfl | rfl | rfl | rfl | rfl | rfl | rfl | rfl | rfl | rfl | rfl | rfl | rfl
  · have hh := h3; simp only [isR, decide_eq_true_eq] at hh; simp at hh
    rw [if_pos (by omega)]
  · have hh := h3; simp only [isR, decide_eq_true_eq] at hh; simp at hh
    rw [if_neg (by omega), if_pos (by omega)]
  · have hh := h3; simp only [isR, decide_eq_true_eq] at hh; simp at hh
    rw [if_neg (by omega), if_neg (by omega), if_neg (by omega), if_neg (by omega), if_neg (by omega), if_neg (by omega), if_neg (by omega), if_neg (by omega), if_neg (by omega), if_neg (by omega), if_neg (by omega), if_pos (by omega)]
  · have hh := h3; simp only [isR, decide_eq_true_eq] at hh; simp at hh
    rw [if_neg (by omega), if_neg (by omega), if_neg (by omega), if_neg (by omega), if_neg (by omega), if_pos (by omega)]
  · have hh := h3; simp only [isR, decide_eq_true_eq] at hh; simp at hh
    rw [if_neg (by omega), if_neg (by omega), if_neg (by omega), if_neg (by omega), if_neg (by omega), if_neg (by omega), if_neg (by omega), if_neg (by omega), if_neg (by omega), if_neg (by omega), if_pos (by omega)]
  · have hh := h3; simp only [isR, decide_eq_true_eq] at hh; simp at hh
    rw [if_neg (by omega), if_neg (by omega), if_neg (by omega), if_neg (by omega), if_neg (by omega), if_neg (by omega), if_neg (by omega), if_pos (by omega)]
  · have hh := h3; simp only [isR, decide_eq_true_eq] at hh; simp at hh
    rw [if_neg (by omega), if_neg (by omega), if_neg (by omega), if_neg (by omega), if_pos (by omega)]
  · have hh := h3; simp only [isR, decide_eq_true_eq] at hh; simp at hh
    rw [if_neg (by omega), if_neg (by omega), if_neg (by omega), if_neg (by omega), if_neg (by omega), if_neg (by omega), if_neg (by omega), if_neg (by omega), if_pos (by omega)]
  · have hh := h3; simp only [isR, decide_eq_true_eq] at hh; simp at hh
    rw [if_neg (by omega), if_neg (by omega), if_neg (by omega), if_neg (by omega), if_neg (by omega), if_neg (by omega), if_neg (by omega), if_neg (by omega), if_neg (by omega), if_pos (by omega)]
  · have hh := h3; simp only [isR, decide_eq_true_eq] at hh; simp at hh
    rw [if_neg (by omega), if_neg (by omega), if_neg (by omega), if_neg (by omega), if_neg (by omega), if_neg (by omega), if_pos (by omega)]
  · have hh := h3; simp only [isR, decide_eq_true_eq] at hh; simp at hh
    rw [if_neg (by omega), if_neg (by omega), if_neg (by omega), if_neg (by omega), if_neg (by omega), if_neg (by omega), if_neg (by omega), if_neg (by omega), if_neg (by omega), if_neg (by omega), if_neg (by omega), if_neg (by omega)]
  · have hh := h3; simp only [isR, decide_eq_true_eq] at hh; simp at hh
    rw [if_neg (by omega), if_neg (by omega), if_neg (by omega), if_pos (by omega)]
  · have hh := h3; simp only [isR, decide_eq_true_eq] at hh; simp at hh
    rw [if_neg (by omega), if_neg (by omega), if_pos (by omega)]
theorem isR_eq (r a b c d : Int) (h1 : valid a b = true) (h2 : valid c d = true) : isR r a b c d = decide ((rel a b c d).1 = r) := by
  rw [Bool.eq_iff_iff, decide_eq_true_eq]
  exact ⟨isR_of r a b c d h1 h2, fun e => by rw [← e]; exact isR_at a b c d h1 h2⟩
theorem rel_is (a b c d : Int) : (rel a b c d).2 = (valid a b && valid c d) := by
  by_cases h : (valid a b && valid c d) = true
  · rw [rel, if_pos h, h]
  · rw [rel, if_neg h, Bool.eq_false_iff.2 h]
theorem rel_no {a b c d : Int} (h : (valid a b && valid c d) = false) : rel a b c d = (0, false) := by
  unfold rel; rw [h]; rfl
theorem C.ref_Holds (r a b c d : Int) : Pure Try.prog N.bt_ref02_Holds [.d (eI r), eP a b, eP c d] (.d (.bool ((rel a b c d).2 && decide ((rel a b c d).1 = r)))) := by
  refine F.bt_ref02_Holds.go mixed rfl ?_
  rw [rel_is]
  repeat' first
    | ((with_reducible apply go_i); (conv => whnf))
    | ((with_reducible apply k_pc); (· first | exact C.ref_Valid1 _ _ | exact C.ref_Is _ _ _ _ _))
    | with_reducible apply k_caf
    | with_reducible apply k_n
    | ((with_reducible apply k_dt); (· first | assumption | omega))
    | ((with_reducible apply k_df); (· first | assumption | omega))
    | (with_reducible apply k_d <;> intro _)
    | with_reducible apply k_a
    | with_reducible apply k_o
    | ((with_reducible apply k_bt); (· assumption))
    | ((with_reducible apply k_bf); (· assumption))
    | ((with_reducible apply k_gc); (· assumption))
    | ((with_reducible apply k_gcs); (· assumption); (· first | assumption | omega | (simp only [List.length_cons, List.length_nil, List.length_map]; omega)))
    | ((with_reducible apply k_ste); (· assumption); (· first | assumption | omega))
    | ((with_reducible apply k_stc); (· first | assumption | omega | (simp only [List.length_cons, List.length_nil, List.length_map]; omega) | (simp; done)))
    | (with_reducible apply k_b <;> intro _)
    | ((with_reducible apply k_fz); (· assumption))
    | with_reducible apply k_mp
    | ((with_reducible apply k_wr); (· omega); (· omega))
    | with_reducible apply k_ww
    | ((with_reducible apply k_chk); (· first | omega | assumption | exact rfl | (simp only [List.length_cons, List.length_nil]; omega) | exact wrapu_nn _ | (intro e he; obtain ⟨x, _, rfl⟩ := List.mem_map.1 he; exact rfl) | (intro e he; cases List.mem_singleton.1 he; rfl) | (simp; done)))
    | ((with_reducible apply k_sl); (· first | assumption | exact sld_nsl | exact sld_sl | exact sld_nil | exact sld_cond (by assumption)))
  · rename_i h1 h2
    rw [isR_eq _ _ _ _ _ h1 h2, h1, h2]; rfl
  · rename_i h1 h2
    rw [h1, h2]; rfl
  · rename_i h1
    rw [h1]; rfl
theorem C.ref_Relation (a b c d : Int) : Pure Try.prog N.bt_ref02_Relation [eP a b, eP c d] (.tup [.d (.int .i64 (rel a b c d).1), .d (.bool (rel a b c d).2)]) := by
  refine F.bt_ref02_Relation.go mixed rfl ?_
  repeat' first
    | ((with_reducible apply go_i); (conv => whnf))
    | with_reducible apply k_caf
    | with_reducible apply k_n
    | ((with_reducible apply k_dt); (· first | assumption | omega))
    | ((with_reducible apply k_df); (· first | assumption | omega))
    | (with_reducible apply k_d <;> intro _)
    | with_reducible apply k_a
    | with_reducible apply k_o
    | ((with_reducible apply k_bt); (· assumption))
    | ((with_reducible apply k_bf); (· assumption))
    | ((with_reducible apply k_gc); (· assumption))
    | ((with_reducible apply k_gcs); (· assumption); (· first | assumption | omega | (simp only [List.length_cons, List.length_nil, List.length_map]; omega)))
    | ((with_reducible apply k_ste); (· assumption); (· first | assumption | omega))
    | ((with_reducible apply k_stc); (· first | assumption | omega | (simp only [List.length_cons, List.length_nil, List.length_map]; omega) | (simp; done)))
    | (with_reducible apply k_b <;> intro _)
    | ((with_reducible apply k_fz); (· assumption))
    | with_reducible apply k_mp
    | ((with_reducible apply k_wr); (· omega); (· omega))
    | with_reducible apply k_ww
    | ((with_reducible apply k_chk); (· first | omega | assumption | exact rfl | (simp only [List.length_cons, List.length_nil]; omega) | exact wrapu_nn _ | (intro e he; obtain ⟨x, _, rfl⟩ := List.mem_map.1 he; exact rfl) | (intro e he; cases List.mem_singleton.1 he; rfl) | (simp; done)))
    | ((with_reducible apply k_sl); (· first | assumption | exact sld_nsl | exact sld_sl | exact sld_nil | exact sld_cond (by assumption)))
  refine x_loop1 mixed Lt.bt_ref02_Relation_l0 Lk.bt_ref02_Relation_l0 (fun (i : Nat) => [.d (eI i)]) (fun i => [.cells [.d (eI a), .d (eI b)], .cells [.d (eI c), .d (eI d)]]) (fun i => i ≤ 13 ∧ ∀ j : Nat, j < i → ((rel a b c d).2 && decide ((rel a b c d).1 = j)) = false) (fun i => 13 - i) 0 rfl rfl rfl rfl (fun _ _ => ⟨rfl, rfl⟩) rfl ⟨by omega, by omega⟩ ?_
  repeat' first
    | ((with_reducible apply go_i); (conv => whnf))
    | with_reducible apply k_caf
    | with_reducible apply k_n
    | ((with_reducible apply k_dt); (· first | assumption | omega))
    | ((with_reducible apply k_df); (· first | assumption | omega))
    | (with_reducible apply k_d <;> intro _)
    | with_reducible apply k_a
    | with_reducible apply k_o
    | ((with_reducible apply k_bt); (· assumption))
    | ((with_reducible apply k_bf); (· assumption))
    | ((with_reducible apply k_gc); (· assumption))
    | ((with_reducible apply k_gcs); (· assumption); (· first | assumption | omega | (simp only [List.length_cons, List.length_nil, List.length_map]; omega)))
    | ((with_reducible apply k_ste); (· assumption); (· first | assumption | omega))
    | ((with_reducible apply k_stc); (· first | assumption | omega | (simp only [List.length_cons, List.length_nil, List.length_map]; omega) | (simp; done)))
    | (with_reducible apply k_b <;> intro _)
    | ((with_reducible apply k_fz); (· assumption))
    | with_reducible apply k_mp
    | ((with_reducible apply k_wr); (· omega); (· omega))
    | with_reducible apply k_ww
    | ((with_reducible apply k_chk); (· first | omega | assumption | exact rfl | (simp only [List.length_cons, List.length_nil]; omega) | exact wrapu_nn _ | (intro e he; obtain ⟨x, _, rfl⟩ := List.mem_map.1 he; exact rfl) | (intro e he; cases List.mem_singleton.1 he; rfl) | (simp; done)))
    | ((with_reducible apply k_sl); (· first | assumption | exact sld_nsl | exact sld_sl | exact sld_nil | exact sld_cond (by assumption)))
  intro i ⟨h1, h2⟩
  repeat' first
    | ((with_reducible apply go_i); (conv => whnf))
    | ((with_reducible apply k_pc); (· first | exact C.ref_Holds _ _ _ _ _))
    | with_reducible apply k_caf
    | with_reducible apply k_n
    | ((with_reducible apply k_dt); (· first | assumption | omega))
    | ((with_reducible apply k_df); (· first | assumption | omega))
    | (with_reducible apply k_d <;> intro _)
    | with_reducible apply k_a
    | with_reducible apply k_o
    | ((with_reducible apply k_bt); (· assumption))
    | ((with_reducible apply k_bf); (· assumption))
    | ((with_reducible apply k_gc); (· assumption))
    | ((with_reducible apply k_gcs); (· assumption); (· first | assumption | omega | (simp only [List.length_cons, List.length_nil, List.length_map]; omega)))
    | ((with_reducible apply k_ste); (· assumption); (· first | assumption | omega))
    | ((with_reducible apply k_stc); (· first | assumption | omega | (simp only [List.length_cons, List.length_nil, List.length_map]; omega) | (simp; done)))
    | (with_reducible apply k_b <;> intro _)
    | ((with_reducible apply k_fz); (· assumption))
    | with_reducible apply k_mp
    | ((with_reducible apply k_wr); (· omega); (· omega))
    | with_reducible apply k_ww
    | ((with_reducible apply k_chk); (· first | omega | assumption | exact rfl | (simp only [List.length_cons, List.length_nil]; omega) | exact wrapu_nn _ | (intro e he; obtain ⟨x, _, rfl⟩ := List.mem_map.1 he; exact rfl) | (intro e he; cases List.mem_singleton.1 he; rfl) | (simp; done)))
    | ((with_reducible apply k_sl); (· first | assumption | exact sld_nsl | exact sld_sl | exact sld_nil | exact sld_cond (by assumption)))
  · rename_i h3 h4
    simp [h3, h4]
  · rename_i h3 h4
    refine ⟨i + 1, rfl, rfl, rfl, by omega, by omega, fun j hj => ?_⟩
    rcases Nat.lt_succ_iff_lt_or_eq.1 hj with h | rfl
    · exact h2 j h
    · rw [h3, decide_eq_false h4]; rfl
  · rename_i h3
    refine ⟨i + 1, rfl, rfl, rfl, by omega, by omega, fun j hj => ?_⟩
    rw [h3]; rfl
  · have : (rel a b c d).2 = false := by
      rw [Bool.eq_false_iff]
      intro h
      have hr := rel_range a b c d
      have := h2 (rel a b c d).1.toNat (by omega)
      rw [h] at this
      simp at this
      omega
    rw [rel_is] at this
    rw [rel_no this]
theorem C.ref_Inverse (r : Int) : Pure Try.prog N.bt_ref02_Inverse [.d (eI r)] (.d (eI (inv r))) := by
  refine F.bt_ref02_Inverse.go mixed rfl ?_
  repeat' first
    | ((with_reducible apply go_i); (conv => whnf))
    | with_reducible apply k_caf
    | with_reducible apply k_n
    | ((with_reducible apply k_dt); (· first | assumption | omega))
    | ((with_reducible apply k_df); (· first | assumption | omega))
    | (with_reducible apply k_d <;> intro _)
    | with_reducible apply k_a
    | with_reducible apply k_o
    | ((with_reducible apply k_bt); (· assumption))
    | ((with_reducible apply k_bf); (· assumption))
    | ((with_reducible apply k_gc); (· assumption))
    | ((with_reducible apply k_gcs); (· assumption); (· first | assumption | omega | (simp only [List.length_cons, List.length_nil, List.length_map]; omega)))
    | ((with_reducible apply k_ste); (· assumption); (· first | assumption | omega))
    | ((with_reducible apply k_stc); (· first | assumption | omega | (simp only [List.length_cons, List.length_nil, List.length_map]; omega) | (simp; done)))
    | (with_reducible apply k_b <;> intro _)
    | ((with_reducible apply k_fz); (· assumption))
    | with_reducible apply k_mp
    | ((with_reducible apply k_wr); (· omega); (· omega))
    | with_reducible apply k_ww
    | ((with_reducible apply k_chk); (· first | omega | assumption | exact rfl | (simp only [List.length_cons, List.length_nil]; omega) | exact wrapu_nn _ | (intro e he; obtain ⟨x, _, rfl⟩ := List.mem_map.1 he; exact rfl) | (intro e he; cases List.mem_singleton.1 he; rfl) | (simp; done)))
    | ((with_reducible apply k_sl); (· first | assumption | exact sld_nsl | exact sld_sl | exact sld_nil | exact sld_cond (by assumption)))
  all_goals (simp only [inv, AV.d.injEq, D.int.injEq, true_and]; split <;> omega)
theorem C.ref_Ints (l k : List Int) (hl : l.length ≤ 9223372036854775806) (d1 d2 : D) (h1 : SlD d1 (eIs l)) (h2 : SlD d2 (eIs k)) : Pure Try.prog N.bt_ref02_Ints [.d d1, .d d2] (.d (.bool (decide (l = k)))) := by
  refine F.bt_ref02_Ints.go mixed rfl ?_
  have hl1 := eIs_len l
  have hl2 := eIs_len k
  repeat' first
    | ((with_reducible apply go_i); (conv => whnf))
    | with_reducible apply k_caf
    | with_reducible apply k_n
    | ((with_reducible apply k_dt); (· first | assumption | omega))
    | ((with_reducible apply k_df); (· first | assumption | omega))
    | (with_reducible apply k_d <;> intro _)
    | with_reducible apply k_a
    | with_reducible apply k_o
    | ((with_reducible apply k_bt); (· assumption))
    | ((with_reducible apply k_bf); (· assumption))
    | ((with_reducible apply k_gc); (· assumption))
    | ((with_reducible apply k_gcs); (· assumption); (· first | assumption | omega | (simp only [List.length_cons, List.length_nil, List.length_map]; omega)))
    | ((with_reducible apply k_ste); (· assumption); (· first | assumption | omega))
    | ((with_reducible apply k_stc); (· first | assumption | omega | (simp only [List.length_cons, List.length_nil, List.length_map]; omega) | (simp; done)))
    | (with_reducible apply k_b <;> intro _)
    | ((with_reducible apply k_fz); (· assumption))
    | with_reducible apply k_mp
    | ((with_reducible apply k_wr); (· omega); (· omega))
    | with_reducible apply k_ww
    | ((with_reducible apply k_chk); (· first | omega | assumption | exact rfl | (simp only [List.length_cons, List.length_nil]; omega) | exact wrapu_nn _ | (intro e he; obtain ⟨x, _, rfl⟩ := List.mem_map.1 he; exact rfl) | (intro e he; cases List.mem_singleton.1 he; rfl) | (simp; done)))
    | ((with_reducible apply k_sl); (· first | assumption | exact sld_nsl | exact sld_sl | exact sld_nil | exact sld_cond (by assumption)))
  · rename_i hne
    refine x_loop1 mixed Lt.bt_ref02_Ints_l0 Lk.bt_ref02_Ints_l0 (fun (i : Nat) => [.d (eI i)]) (fun i => []) (fun i => i ≤ l.length ∧ l.take i = k.take i) (fun i => l.length - i) 0 rfl rfl rfl rfl (fun _ _ => ⟨rfl, rfl⟩) rfl ⟨by omega, rfl⟩ ?_
    repeat' first
      | ((with_reducible apply go_i); (conv => whnf))
      | with_reducible apply k_caf
      | with_reducible apply k_n
      | ((with_reducible apply k_dt); (· first | assumption | omega))
      | ((with_reducible apply k_df); (· first | assumption | omega))
      | (with_reducible apply k_d <;> intro _)
      | with_reducible apply k_a
      | with_reducible apply k_o
      | ((with_reducible apply k_bt); (· assumption))
      | ((with_reducible apply k_bf); (· assumption))
      | ((with_reducible apply k_gc); (· assumption))
      | ((with_reducible apply k_gcs); (· assumption); (· first | assumption | omega | (simp only [List.length_cons, List.length_nil, List.length_map]; omega)))
      | ((with_reducible apply k_ste); (· assumption); (· first | assumption | omega))
      | ((with_reducible apply k_stc); (· first | assumption | omega | (simp only [List.length_cons, List.length_nil, List.length_map]; omega) | (simp; done)))
      | (with_reducible apply k_b <;> intro _)
      | ((with_reducible apply k_fz); (· assumption))
      | with_reducible apply k_mp
      | ((with_reducible apply k_wr); (· omega); (· omega))
      | with_reducible apply k_ww
      | ((with_reducible apply k_chk); (· first | omega | assumption | exact rfl | (simp only [List.length_cons, List.length_nil]; omega) | exact wrapu_nn _ | (intro e he; obtain ⟨x, _, rfl⟩ := List.mem_map.1 he; exact rfl) | (intro e he; cases List.mem_singleton.1 he; rfl) | (simp; done)))
      | ((with_reducible apply k_sl); (· first | assumption | exact sld_nsl | exact sld_sl | exact sld_nil | exact sld_cond (by assumption)))
    intro i ⟨h3, h4⟩
    cases hx : l[i]? with
    | none =>
      have hge := List.getElem?_eq_none_iff.1 hx
      repeat' first
        | ((with_reducible apply go_i); (conv => whnf))
        | with_reducible apply k_caf
        | with_reducible apply k_n
        | ((with_reducible apply k_dt); (· first | assumption | omega))
        | ((with_reducible apply k_df); (· first | assumption | omega))
        | (with_reducible apply k_d <;> intro _)
        | with_reducible apply k_a
        | with_reducible apply k_o
        | ((with_reducible apply k_bt); (· assumption))
        | ((with_reducible apply k_bf); (· assumption))
        | ((with_reducible apply k_gc); (· assumption))
        | ((with_reducible apply k_gcs); (· assumption); (· first | assumption | omega | (simp only [List.length_cons, List.length_nil, List.length_map]; omega)))
        | ((with_reducible apply k_ste); (· assumption); (· first | assumption | omega))
        | ((with_reducible apply k_stc); (· first | assumption | omega | (simp only [List.length_cons, List.length_nil, List.length_map]; omega) | (simp; done)))
        | (with_reducible apply k_b <;> intro _)
        | ((with_reducible apply k_fz); (· assumption))
        | with_reducible apply k_mp
        | ((with_reducible apply k_wr); (· omega); (· omega))
        | with_reducible apply k_ww
        | ((with_reducible apply k_chk); (· first | omega | assumption | exact rfl | (simp only [List.length_cons, List.length_nil]; omega) | exact wrapu_nn _ | (intro e he; obtain ⟨x, _, rfl⟩ := List.mem_map.1 he; exact rfl) | (intro e he; cases List.mem_singleton.1 he; rfl) | (simp; done)))
        | ((with_reducible apply k_sl); (· first | assumption | exact sld_nsl | exact sld_sl | exact sld_nil | exact sld_cond (by assumption)))
      rw [List.take_of_length_le hge, List.take_of_length_le (by omega)] at h4
      simp [h4]
    | some x =>
      have hlt := (List.getElem?_eq_some_iff.1 hx).1
      have hy : k[i]? = some k[i] := List.getElem?_eq_getElem (by omega)
      generalize k[i] = y at hy
      have g1 := eIs_get hx
      have g2 := eIs_get hy
      repeat' first
        | ((with_reducible apply go_i); (conv => whnf))
        | with_reducible apply k_caf
        | with_reducible apply k_n
        | ((with_reducible apply k_dt); (· first | assumption | omega))
        | ((with_reducible apply k_df); (· first | assumption | omega))
        | (with_reducible apply k_d <;> intro _)
        | with_reducible apply k_a
        | with_reducible apply k_o
        | ((with_reducible apply k_bt); (· assumption))
        | ((with_reducible apply k_bf); (· assumption))
        | ((with_reducible apply k_gc); (· assumption))
        | ((with_reducible apply k_gcs); (· assumption); (· first | assumption | omega | (simp only [List.length_cons, List.length_nil, List.length_map]; omega)))
        | ((with_reducible apply k_ste); (· assumption); (· first | assumption | omega))
        | ((with_reducible apply k_stc); (· first | assumption | omega | (simp only [List.length_cons, List.length_nil, List.length_map]; omega) | (simp; done)))
        | (with_reducible apply k_b <;> intro _)
        | ((with_reducible apply k_fz); (· assumption))
        | with_reducible apply k_mp
        | ((with_reducible apply k_wr); (· omega); (· omega))
        | with_reducible apply k_ww
        | ((with_reducible apply k_chk); (· first | omega | assumption | exact rfl | (simp only [List.length_cons, List.length_nil]; omega) | exact wrapu_nn _ | (intro e he; obtain ⟨x, _, rfl⟩ := List.mem_map.1 he; exact rfl) | (intro e he; cases List.mem_singleton.1 he; rfl) | (simp; done)))
        | ((with_reducible apply k_sl); (· first | assumption | exact sld_nsl | exact sld_sl | exact sld_nil | exact sld_cond (by assumption)))
      · rename_i e
        refine ⟨i + 1, rfl, rfl, rfl, by omega, by omega, ?_⟩
        rw [List.take_add_one, List.take_add_one, h4, hx, hy, e]
      · rename_i e
        have : l ≠ k := fun h => e (by rw [h, hy] at hx; cases hx; rfl)
        simp [this]
  · rename_i hne
    have : l ≠ k := fun e => hne (by rw [e])
    simp [this]
theorem nameR_get {i : Nat} (h : i < 13) : (nameL.map fun s => [D.str s])[i]? = some [.str (nameL.getD i [])] := by
  have : i < nameL.length := by simpa [nameL] using h
  simp [this]
theorem C.ref_Name (r : Int) : Pure Try.prog N.bt_ref02_Name [.d (eI r)] (.d (.str (name r))) := by
  refine F.bt_ref02_Name.go mixed rfl ?_
  by_cases h : isRel r = true
  · have h' : 0 ≤ r ∧ r < 13 := by simpa [isRel] using h
    have hg : (([[D.str [66, 69, 70, 79, 82, 69]], [.str [77, 69, 69, 84, 83]], [.str [79, 86, 69, 82, 76, 65, 80, 83]], [.str [83, 84, 65, 82, 84, 83]], [.str [68, 85, 82, 73, 78, 71]], [.str [70, 73, 78, 73, 83, 72, 69, 83]], [.str [69, 81, 85, 65, 76, 83]], [.str [70, 73, 78, 73, 83, 72, 69, 68, 66, 89]], [.str [67, 79, 78, 84, 65, 73, 78, 83]], [.str [83, 84, 65, 82, 84, 69, 68, 66, 89]], [.str [79, 86, 69, 82, 76, 65, 80, 80, 69, 68, 66, 89]], [.str [77, 69, 84, 66, 89]], [.str [65, 70, 84, 69, 82]]] : List (List D))[r.toNat]?) = _ := nameR_get (show r.toNat < 13 by omega)
    repeat' first
      | ((with_reducible apply go_i); (conv => whnf))
      | with_reducible apply k_caf
      | with_reducible apply k_n
      | ((with_reducible apply k_dt); (· first | assumption | omega))
      | ((with_reducible apply k_df); (· first | assumption | omega))
      | (with_reducible apply k_d <;> intro _)
      | with_reducible apply k_a
      | with_reducible apply k_o
      | ((with_reducible apply k_bt); (· assumption))
      | ((with_reducible apply k_bf); (· assumption))
      | ((with_reducible apply k_gc); (· assumption))
      | ((with_reducible apply k_gcs); (· assumption); (· first | assumption | omega | (simp only [List.length_cons, List.length_nil, List.length_map]; omega)))
      | ((with_reducible apply k_ste); (· assumption); (· first | assumption | omega))
      | ((with_reducible apply k_stc); (· first | assumption | omega | (simp only [List.length_cons, List.length_nil, List.length_map]; omega) | (simp; done)))
      | (with_reducible apply k_b <;> intro _)
      | ((with_reducible apply k_fz); (· assumption))
      | with_reducible apply k_mp
      | ((with_reducible apply k_wr); (· omega); (· omega))
      | with_reducible apply k_ww
      | ((with_reducible apply k_chk); (· first | omega | assumption | exact rfl | (simp only [List.length_cons, List.length_nil]; omega) | exact wrapu_nn _ | (intro e he; obtain ⟨x, _, rfl⟩ := List.mem_map.1 he; exact rfl) | (intro e he; cases List.mem_singleton.1 he; rfl) | (simp; done)))
      | ((with_reducible apply k_sl); (· first | assumption | exact sld_nsl | exact sld_sl | exact sld_nil | exact sld_cond (by assumption)))
    simp [name, h]
  · have h' : ¬ (0 ≤ r ∧ r < 13) := by simpa [isRel] using h
    repeat' first
      | ((with_reducible apply go_i); (conv => whnf))
      | with_reducible apply k_caf
      | with_reducible apply k_n
      | ((with_reducible apply k_dt); (· first | assumption | omega))
      | ((with_reducible apply k_df); (· first | assumption | omega))
      | (with_reducible apply k_d <;> intro _)
      | with_reducible apply k_a
      | with_reducible apply k_o
      | ((with_reducible apply k_bt); (· assumption))
      | ((with_reducible apply k_bf); (· assumption))
      | ((with_reducible apply k_gc); (· assumption))
      | ((with_reducible apply k_gcs); (· assumption); (· first | assumption | omega | (simp only [List.length_cons, List.length_nil, List.length_map]; omega)))
      | ((with_reducible apply k_ste); (· assumption); (· first | assumption | omega))
      | ((with_reducible apply k_stc); (· first | assumption | omega | (simp only [List.length_cons, List.length_nil, List.length_map]; omega) | (simp; done)))
      | (with_reducible apply k_b <;> intro _)
      | ((with_reducible apply k_fz); (· assumption))
      | with_reducible apply k_mp
      | ((with_reducible apply k_wr); (· omega); (· omega))
      | with_reducible apply k_ww
      | ((with_reducible apply k_chk); (· first | omega | assumption | exact rfl | (simp only [List.length_cons, List.length_nil]; omega) | exact wrapu_nn _ | (intro e he; obtain ⟨x, _, rfl⟩ := List.mem_map.1 he; exact rfl) | (intro e he; cases List.mem_singleton.1 he; rfl) | (simp; done)))
      | ((with_reducible apply k_sl); (· first | assumption | exact sld_nsl | exact sld_sl | exact sld_nil | exact sld_cond (by assumption)))
    all_goals simp [name, h]
theorem C.ref_Find (s : List UInt8) : Pure Try.prog N.bt_ref02_Find [.d (.str s)] (.d (eI (find s))) := by
  refine F.bt_ref02_Find.go mixed rfl ?_
  repeat' first
    | ((with_reducible apply go_i); (conv => whnf))
    | with_reducible apply k_caf
    | with_reducible apply k_n
    | ((with_reducible apply k_dt); (· first | assumption | omega))
    | ((with_reducible apply k_df); (· first | assumption | omega))
    | (with_reducible apply k_d <;> intro _)
    | with_reducible apply k_a
    | with_reducible apply k_o
    | ((with_reducible apply k_bt); (· assumption))
    | ((with_reducible apply k_bf); (· assumption))
    | ((with_reducible apply k_gc); (· assumption))
    | ((with_reducible apply k_gcs); (· assumption); (· first | assumption | omega | (simp only [List.length_cons, List.length_nil, List.length_map]; omega)))
    | ((with_reducible apply k_ste); (· assumption); (· first | assumption | omega))
    | ((with_reducible apply k_stc); (· first | assumption | omega | (simp only [List.length_cons, List.length_nil, List.length_map]; omega) | (simp; done)))
    | (with_reducible apply k_b <;> intro _)
    | ((with_reducible apply k_fz); (· assumption))
    | with_reducible apply k_mp
    | ((with_reducible apply k_wr); (· omega); (· omega))
    | with_reducible apply k_ww
    | ((with_reducible apply k_chk); (· first | omega | assumption | exact rfl | (simp only [List.length_cons, List.length_nil]; omega) | exact wrapu_nn _ | (intro e he; obtain ⟨x, _, rfl⟩ := List.mem_map.1 he; exact rfl) | (intro e he; cases List.mem_singleton.1 he; rfl) | (simp; done)))
    | ((with_reducible apply k_sl); (· first | assumption | exact sld_nsl | exact sld_sl | exact sld_nil | exact sld_cond (by assumption)))
  refine x_loop1 mixed Lt.bt_ref02_Find_l0 Lk.bt_ref02_Find_l0 (fun (i : Nat) => [.d (eI i)]) (fun i => []) (fun i => i ≤ 13 ∧ ∀ j, j < i → nameL[j]? ≠ some s) (fun i => 13 - i) 0 rfl rfl rfl rfl (fun _ _ => ⟨rfl, rfl⟩) rfl ⟨by omega, by omega⟩ ?_
  repeat' first
    | ((with_reducible apply go_i); (conv => whnf))
    | with_reducible apply k_caf
    | with_reducible apply k_n
    | ((with_reducible apply k_dt); (· first | assumption | omega))
    | ((with_reducible apply k_df); (· first | assumption | omega))
    | (with_reducible apply k_d <;> intro _)
    | with_reducible apply k_a
    | with_reducible apply k_o
    | ((with_reducible apply k_bt); (· assumption))
    | ((with_reducible apply k_bf); (· assumption))
    | ((with_reducible apply k_gc); (· assumption))
    | ((with_reducible apply k_gcs); (· assumption); (· first | assumption | omega | (simp only [List.length_cons, List.length_nil, List.length_map]; omega)))
    | ((with_reducible apply k_ste); (· assumption); (· first | assumption | omega))
    | ((with_reducible apply k_stc); (· first | assumption | omega | (simp only [List.length_cons, List.length_nil, List.length_map]; omega) | (simp; done)))
    | (with_reducible apply k_b <;> intro _)
    | ((with_reducible apply k_fz); (· assumption))
    | with_reducible apply k_mp
    | ((with_reducible apply k_wr); (· omega); (· omega))
    | with_reducible apply k_ww
    | ((with_reducible apply k_chk); (· first | omega | assumption | exact rfl | (simp only [List.length_cons, List.length_nil]; omega) | exact wrapu_nn _ | (intro e he; obtain ⟨x, _, rfl⟩ := List.mem_map.1 he; exact rfl) | (intro e he; cases List.mem_singleton.1 he; rfl) | (simp; done)))
    | ((with_reducible apply k_sl); (· first | assumption | exact sld_nsl | exact sld_sl | exact sld_nil | exact sld_cond (by assumption)))
  intro i ⟨h1, h2⟩
  by_cases h3 : i < 13
  · have hlt : i < nameL.length := by simpa [nameL] using h3
    have hn : name i = nameL[i] := by simp [name, isRel, hlt]; omega
    repeat' first
      | ((with_reducible apply go_i); (conv => whnf))
      | ((with_reducible apply k_pc); (· first | exact C.ref_Name _))
      | with_reducible apply k_caf
      | with_reducible apply k_n
      | ((with_reducible apply k_dt); (· first | assumption | omega))
      | ((with_reducible apply k_df); (· first | assumption | omega))
      | (with_reducible apply k_d <;> intro _)
      | with_reducible apply k_a
      | with_reducible apply k_o
      | ((with_reducible apply k_bt); (· assumption))
      | ((with_reducible apply k_bf); (· assumption))
      | ((with_reducible apply k_gc); (· assumption))
      | ((with_reducible apply k_gcs); (· assumption); (· first | assumption | omega | (simp only [List.length_cons, List.length_nil, List.length_map]; omega)))
      | ((with_reducible apply k_ste); (· assumption); (· first | assumption | omega))
      | ((with_reducible apply k_stc); (· first | assumption | omega | (simp only [List.length_cons, List.length_nil, List.length_map]; omega) | (simp; done)))
      | (with_reducible apply k_b <;> intro _)
      | ((with_reducible apply k_fz); (· assumption))
      | with_reducible apply k_mp
      | ((with_reducible apply k_wr); (· omega); (· omega))
      | with_reducible apply k_ww
      | ((with_reducible apply k_chk); (· first | omega | assumption | exact rfl | (simp only [List.length_cons, List.length_nil]; omega) | exact wrapu_nn _ | (intro e he; obtain ⟨x, _, rfl⟩ := List.mem_map.1 he; exact rfl) | (intro e he; cases List.mem_singleton.1 he; rfl) | (simp; done)))
      | ((with_reducible apply k_sl); (· first | assumption | exact sld_nsl | exact sld_sl | exact sld_nil | exact sld_cond (by assumption)))
    · rename_i hs
      rw [hn] at hs
      have : nameL.idxOf? s = some i := by
        rw [List.idxOf?_eq_some_iff]
        refine ⟨hlt, by simpa using hs, fun j hj => ?_⟩
        have := h2 j hj
        simpa [show j < nameL.length by omega] using this
      simp [find, this]
    · rename_i hs
      rw [hn] at hs
      refine ⟨i + 1, rfl, rfl, rfl, by omega, by omega, fun j hj => ?_⟩
      rcases Nat.lt_succ_iff_lt_or_eq.1 hj with h | rfl
      · exact h2 j h
      · intro e
        rw [List.getElem?_eq_getElem hlt] at e
        exact hs (by simpa using e)
  · have : i = 13 := by omega
    subst this
    repeat' first
      | ((with_reducible apply go_i); (conv => whnf))
      | with_reducible apply k_caf
      | with_reducible apply k_n
      | ((with_reducible apply k_dt); (· first | assumption | omega))
      | ((with_reducible apply k_df); (· first | assumption | omega))
      | (with_reducible apply k_d <;> intro _)
      | with_reducible apply k_a
      | with_reducible apply k_o
      | ((with_reducible apply k_bt); (· assumption))
      | ((with_reducible apply k_bf); (· assumption))
      | ((with_reducible apply k_gc); (· assumption))
      | ((with_reducible apply k_gcs); (· assumption); (· first | assumption | omega | (simp only [List.length_cons, List.length_nil, List.length_map]; omega)))
      | ((with_reducible apply k_ste); (· assumption); (· first | assumption | omega))
      | ((with_reducible apply k_stc); (· first | assumption | omega | (simp only [List.length_cons, List.length_nil, List.length_map]; omega) | (simp; done)))
      | (with_reducible apply k_b <;> intro _)
      | ((with_reducible apply k_fz); (· assumption))
      | with_reducible apply k_mp
      | ((with_reducible apply k_wr); (· omega); (· omega))
      | with_reducible apply k_ww
      | ((with_reducible apply k_chk); (· first | omega | assumption | exact rfl | (simp only [List.length_cons, List.length_nil]; omega) | exact wrapu_nn _ | (intro e he; obtain ⟨x, _, rfl⟩ := List.mem_map.1 he; exact rfl) | (intro e he; cases List.mem_singleton.1 he; rfl) | (simp; done)))
      | ((with_reducible apply k_sl); (· first | assumption | exact sld_nsl | exact sld_sl | exact sld_nil | exact sld_cond (by assumption)))
    have : nameL.idxOf? s = none := by
      rw [List.idxOf?_eq_none_iff]
      intro hm
      obtain ⟨j, hj⟩ := List.getElem?_of_mem hm
      have := (List.getElem?_eq_some_iff.1 hj).1
      exact h2 j (by simpa [nameL] using this) hj
    simp [find, this]
end Go.Proofs
