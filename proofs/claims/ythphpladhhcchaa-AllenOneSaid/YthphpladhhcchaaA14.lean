/- The law on relations, as a contract over data. No condition. -/
import Derived.Test.YthphpladhhcchaaA13
set_option linter.unusedSimpArgs false
set_option linter.unusedVariables false
set_option maxRecDepth 10000
set_option maxHeartbeats 4000000
namespace Go.Proofs
open Go.Bi
theorem valid_rel {a b c d : Int} : (rel a b c d).2 = (valid a b && valid c d) := rel_is a b c d
theorem rel_inv (a b c d : Int) (h1 : valid a b = true) (h2 : valid c d = true) : (rel c d a b).1 = inv (rel a b c d).1 := by
  refine isR_of _ _ _ _ _ h2 h1 ?_
  have := isR_at a b c d h1 h2
  have hr := rel_range a b c d
  generalize (rel a b c d).1 = r at this hr
  simp only [valid, decide_eq_true_eq] at h1 h2
  rcases (show r = 0 ∨ r = 1 ∨ r = 2 ∨ r = 3 ∨ r = 4 ∨ r = 5 ∨ r = 6 ∨ r = 7 ∨ r = 8 ∨ r = 9 ∨ r = 10 ∨ r = 11 ∨ r = 12 by omega) with rfl | rfl | rfl | rfl | rfl | rfl | rfl | rfl | rfl | rfl | rfl | rfl | rfl <;> simp [isR, inv] at this ⊢ <;> omega
theorem L.AllenOne (a b c d : Int) : Pure Try.prog N.bt_law02_AllenOne [eP a b, eP c d] (.d (.bool true)) := by
  refine F.bt_law02_AllenOne.go mixed rfl ?_
  obtain ⟨x, y, hxy⟩ : ∃ x y, rel a b c d = (x, y) := ⟨_, _, rfl⟩
  have hy : y = (valid a b && valid c d) := by rw [← rel_is, hxy]
  have hxr := rel_range a b c d
  rw [hxy] at hxr
  have hH : ∀ r, Pure Try.prog N.allen_Holds [.d (eI r), eP a b, eP c d] (.d (.bool (y && decide (x = r)))) := fun r => by have := C.allen_Holds r a b c d; rwa [hxy] at this
  have hG : ∀ r, Pure Try.prog N.bt_ref02_Holds [.d (eI r), eP a b, eP c d] (.d (.bool (y && decide (x = r)))) := fun r => by have := C.ref_Holds r a b c d; rwa [hxy] at this
  have hR := C.allen_Relation a b c d
  rw [hxy] at hR
  repeat' first
    | ((with_reducible apply go_i); (conv => whnf))
    | with_reducible apply k_caf
    | with_reducible apply k_n
    | ((with_reducible apply k_dt); (· first | assumption | omega))
    | ((with_reducible apply k_df); (· first | assumption | omega))
    | (with_reducible apply k_d <;> intro _)
    | with_reducible apply k_a
    | with_reducible apply k_o
    | ((with_reducible apply k_bt); (· assumption))
    | ((with_reducible apply k_bf); (· assumption))
    | ((with_reducible apply k_gc); (· assumption))
    | ((with_reducible apply k_gcs); (· assumption); (· first | assumption | omega | (simp only [List.length_cons, List.length_nil, List.length_map]; omega)))
    | ((with_reducible apply k_ste); (· assumption); (· first | assumption | omega))
    | ((with_reducible apply k_stc); (· first | assumption | omega | (simp only [List.length_cons, List.length_nil, List.length_map]; omega) | (simp; done)))
    | (with_reducible apply k_b <;> intro _)
    | ((with_reducible apply k_fz); (· assumption))
    | with_reducible apply k_mp
    | ((with_reducible apply k_wr); (· omega); (· omega))
    | with_reducible apply k_ww
    | ((with_reducible apply k_chk); (· first | omega | assumption | exact rfl | (simp only [List.length_cons, List.length_nil]; omega) | exact wrapu_nn _ | (intro e he; obtain ⟨x, _, rfl⟩ := List.mem_map.1 he; exact rfl) | (intro e he; cases List.mem_singleton.1 he; rfl) | (simp; done)))
    | ((with_reducible apply k_sl); (· first | assumption | exact sld_nsl | exact sld_sl | exact sld_nil | exact sld_cond (by assumption)))
  refine x_loop2 mixed Lt.bt_law02_AllenOne_l0 Lk.bt_law02_AllenOne_l0 (fun (i n : Nat) => [.d (eI n), .d (eI ((i : Int) - 1))]) (fun i n => [.cells [.d (eI a), .d (eI b)], .cells [.d (eI c), .d (eI d)]]) (fun i n => i ≤ 15 ∧ n = if (y && decide (x < (i : Int) - 1)) = true then 1 else 0) (fun i _ => 15 - i) 0 0 rfl rfl rfl rfl (fun _ _ _ => ⟨rfl, rfl⟩) rfl ⟨by omega, by rw [if_neg (by simp; omega)]⟩ ?_
  repeat' first
    | ((with_reducible apply go_i); (conv => whnf))
    | with_reducible apply k_caf
    | with_reducible apply k_n
    | ((with_reducible apply k_dt); (· first | assumption | omega))
    | ((with_reducible apply k_df); (· first | assumption | omega))
    | (with_reducible apply k_d <;> intro _)
    | with_reducible apply k_a
    | with_reducible apply k_o
    | ((with_reducible apply k_bt); (· assumption))
    | ((with_reducible apply k_bf); (· assumption))
    | ((with_reducible apply k_gc); (· assumption))
    | ((with_reducible apply k_gcs); (· assumption); (· first | assumption | omega | (simp only [List.length_cons, List.length_nil, List.length_map]; omega)))
    | ((with_reducible apply k_ste); (· assumption); (· first | assumption | omega))
    | ((with_reducible apply k_stc); (· first | assumption | omega | (simp only [List.length_cons, List.length_nil, List.length_map]; omega) | (simp; done)))
    | (with_reducible apply k_b <;> intro _)
    | ((with_reducible apply k_fz); (· assumption))
    | with_reducible apply k_mp
    | ((with_reducible apply k_wr); (· omega); (· omega))
    | with_reducible apply k_ww
    | ((with_reducible apply k_chk); (· first | omega | assumption | exact rfl | (simp only [List.length_cons, List.length_nil]; omega) | exact wrapu_nn _ | (intro e he; obtain ⟨x, _, rfl⟩ := List.mem_map.1 he; exact rfl) | (intro e he; cases List.mem_singleton.1 he; rfl) | (simp; done)))
    | ((with_reducible apply k_sl); (· first | assumption | exact sld_nsl | exact sld_sl | exact sld_nil | exact sld_cond (by assumption)))
  intro i n ⟨h1, h2⟩
  have hn : n ≤ 1 := by rw [h2]; split <;> omega
  by_cases h3 : (i : Int) - 1 ≤ 13
  · have hH' := hH ((i : Int) - 1)
    have hG' := hG ((i : Int) - 1)
    have hnext : ((i + 1 : Nat) : Int) - 1 = (i : Int) - 1 + 1 := by omega
    generalize hb : (y && decide (x = (i : Int) - 1)) = bb at hH' hG'
    have hcount : (if (y && decide (x < ((i + 1 : Nat) : Int) - 1)) = true then 1 else 0) = n + (if bb = true then 1 else 0) := by
      rw [h2, ← hb]
      cases y with
      | false => simp
      | true =>
        simp only [Bool.true_and, decide_eq_true_eq]
        repeat' split
        all_goals omega
    cases bb with
    | true =>
      repeat' first
        | ((with_reducible apply go_i); (conv => whnf))
        | ((with_reducible apply k_pc); (· first | exact hH' | exact hG'))
        | with_reducible apply k_caf
        | with_reducible apply k_n
        | ((with_reducible apply k_dt); (· first | assumption | omega))
        | ((with_reducible apply k_df); (· first | assumption | omega))
        | (with_reducible apply k_d <;> intro _)
        | with_reducible apply k_a
        | with_reducible apply k_o
        | ((with_reducible apply k_bt); (· assumption))
        | ((with_reducible apply k_bf); (· assumption))
        | ((with_reducible apply k_gc); (· assumption))
        | ((with_reducible apply k_gcs); (· assumption); (· first | assumption | omega | (simp only [List.length_cons, List.length_nil, List.length_map]; omega)))
        | ((with_reducible apply k_ste); (· assumption); (· first | assumption | omega))
        | ((with_reducible apply k_stc); (· first | assumption | omega | (simp only [List.length_cons, List.length_nil, List.length_map]; omega) | (simp; done)))
        | (with_reducible apply k_b <;> intro _)
        | ((with_reducible apply k_fz); (· assumption))
        | with_reducible apply k_mp
        | ((with_reducible apply k_wr); (· omega); (· omega))
        | with_reducible apply k_ww
        | ((with_reducible apply k_chk); (· first | omega | assumption | exact rfl | (simp only [List.length_cons, List.length_nil]; omega) | exact wrapu_nn _ | (intro e he; obtain ⟨x, _, rfl⟩ := List.mem_map.1 he; exact rfl) | (intro e he; cases List.mem_singleton.1 he; rfl) | (simp; done)))
        | ((with_reducible apply k_sl); (· first | assumption | exact sld_nsl | exact sld_sl | exact sld_nil | exact sld_cond (by assumption)))
      refine ⟨i + 1, n + 1, ?_, rfl, rfl, by omega, by omega, by rw [hcount]; rfl⟩
      rw [hnext]; rfl
    | false =>
      repeat' first
        | ((with_reducible apply go_i); (conv => whnf))
        | ((with_reducible apply k_pc); (· first | exact hH' | exact hG'))
        | with_reducible apply k_caf
        | with_reducible apply k_n
        | ((with_reducible apply k_dt); (· first | assumption | omega))
        | ((with_reducible apply k_df); (· first | assumption | omega))
        | (with_reducible apply k_d <;> intro _)
        | with_reducible apply k_a
        | with_reducible apply k_o
        | ((with_reducible apply k_bt); (· assumption))
        | ((with_reducible apply k_bf); (· assumption))
        | ((with_reducible apply k_gc); (· assumption))
        | ((with_reducible apply k_gcs); (· assumption); (· first | assumption | omega | (simp only [List.length_cons, List.length_nil, List.length_map]; omega)))
        | ((with_reducible apply k_ste); (· assumption); (· first | assumption | omega))
        | ((with_reducible apply k_stc); (· first | assumption | omega | (simp only [List.length_cons, List.length_nil, List.length_map]; omega) | (simp; done)))
        | (with_reducible apply k_b <;> intro _)
        | ((with_reducible apply k_fz); (· assumption))
        | with_reducible apply k_mp
        | ((with_reducible apply k_wr); (· omega); (· omega))
        | with_reducible apply k_ww
        | ((with_reducible apply k_chk); (· first | omega | assumption | exact rfl | (simp only [List.length_cons, List.length_nil]; omega) | exact wrapu_nn _ | (intro e he; obtain ⟨x, _, rfl⟩ := List.mem_map.1 he; exact rfl) | (intro e he; cases List.mem_singleton.1 he; rfl) | (simp; done)))
        | ((with_reducible apply k_sl); (· first | assumption | exact sld_nsl | exact sld_sl | exact sld_nil | exact sld_cond (by assumption)))
      refine ⟨i + 1, n, ?_, rfl, rfl, by omega, by omega, by rw [hcount]; rfl⟩
      rw [hnext]
  · have hi : i = 15 := by omega
    subst hi
    have hn2 : n = if y = true then 1 else 0 := by
      rw [h2]
      cases y with
      | false => simp
      | true => rw [if_pos (by simp; omega), if_pos rfl]
    have hv1 := C.ref_Valid1 a b
    have hv2 := C.ref_Valid1 c d
    cases y with
    | false =>
      have hn0 : n = 0 := by rw [hn2]; rfl
      subst hn0
      have hx : x = 0 := by have := rel_no hy.symm; rw [hxy] at this; cases this; rfl
      subst hx
      clear hH hG hxy
      generalize valid a b = v1 at hy hv1
      generalize valid c d = v2 at hy hv2
      have hh : (v1 = false ∨ v2 = false) := by cases v1 <;> cases v2 <;> simp at hy ⊢
      rcases hh with rfl | rfl
      · repeat' first
          | ((with_reducible apply go_i); (conv => whnf))
          | ((with_reducible apply k_pc); (· first | exact hR | exact hv1 | exact hv2 | exact C.awake))
          | with_reducible apply k_caf
          | with_reducible apply k_n
          | ((with_reducible apply k_dt); (· first | assumption | omega))
          | ((with_reducible apply k_df); (· first | assumption | omega))
          | (with_reducible apply k_d <;> intro _)
          | with_reducible apply k_a
          | with_reducible apply k_o
          | ((with_reducible apply k_bt); (· assumption))
          | ((with_reducible apply k_bf); (· assumption))
          | ((with_reducible apply k_gc); (· assumption))
          | ((with_reducible apply k_gcs); (· assumption); (· first | assumption | omega | (simp only [List.length_cons, List.length_nil, List.length_map]; omega)))
          | ((with_reducible apply k_ste); (· assumption); (· first | assumption | omega))
          | ((with_reducible apply k_stc); (· first | assumption | omega | (simp only [List.length_cons, List.length_nil, List.length_map]; omega) | (simp; done)))
          | (with_reducible apply k_b <;> intro _)
          | ((with_reducible apply k_fz); (· assumption))
          | with_reducible apply k_mp
          | ((with_reducible apply k_wr); (· omega); (· omega))
          | with_reducible apply k_ww
          | ((with_reducible apply k_chk); (· first | omega | assumption | exact rfl | (simp only [List.length_cons, List.length_nil]; omega) | exact wrapu_nn _ | (intro e he; obtain ⟨x, _, rfl⟩ := List.mem_map.1 he; exact rfl) | (intro e he; cases List.mem_singleton.1 he; rfl) | (simp; done)))
          | ((with_reducible apply k_sl); (· first | assumption | exact sld_nsl | exact sld_sl | exact sld_nil | exact sld_cond (by assumption)))
        all_goals first | rfl | (exfalso; omega)
      · cases v1
        all_goals skip
        all_goals repeat' first
          | ((with_reducible apply go_i); (conv => whnf))
          | ((with_reducible apply k_pc); (· first | exact hR | exact hv1 | exact hv2 | exact C.awake))
          | with_reducible apply k_caf
          | with_reducible apply k_n
          | ((with_reducible apply k_dt); (· first | assumption | omega))
          | ((with_reducible apply k_df); (· first | assumption | omega))
          | (with_reducible apply k_d <;> intro _)
          | with_reducible apply k_a
          | with_reducible apply k_o
          | ((with_reducible apply k_bt); (· assumption))
          | ((with_reducible apply k_bf); (· assumption))
          | ((with_reducible apply k_gc); (· assumption))
          | ((with_reducible apply k_gcs); (· assumption); (· first | assumption | omega | (simp only [List.length_cons, List.length_nil, List.length_map]; omega)))
          | ((with_reducible apply k_ste); (· assumption); (· first | assumption | omega))
          | ((with_reducible apply k_stc); (· first | assumption | omega | (simp only [List.length_cons, List.length_nil, List.length_map]; omega) | (simp; done)))
          | (with_reducible apply k_b <;> intro _)
          | ((with_reducible apply k_fz); (· assumption))
          | with_reducible apply k_mp
          | ((with_reducible apply k_wr); (· omega); (· omega))
          | with_reducible apply k_ww
          | ((with_reducible apply k_chk); (· first | omega | assumption | exact rfl | (simp only [List.length_cons, List.length_nil]; omega) | exact wrapu_nn _ | (intro e he; obtain ⟨x, _, rfl⟩ := List.mem_map.1 he; exact rfl) | (intro e he; cases List.mem_singleton.1 he; rfl) | (simp; done)))
          | ((with_reducible apply k_sl); (· first | assumption | exact sld_nsl | exact sld_sl | exact sld_nil | exact sld_cond (by assumption)))
        all_goals first | rfl | (exfalso; omega)
    | true =>
      have hn1 : n = 1 := by rw [hn2]; rfl
      subst hn1
      have hvv : valid a b = true ∧ valid c d = true := by simpa using hy.symm
      have hHx := hH x
      have hI := C.allen_Inverse x
      have hHi := C.allen_Holds (inv x) c d a b
      have e1 : (rel c d a b).1 = inv x := by rw [rel_inv a b c d hvv.1 hvv.2, hxy]
      have e2 : (rel c d a b).2 = true := by rw [rel_is, hvv.1, hvv.2]; rfl
      rw [e1, e2] at hHi
      simp only [decide_true, Bool.and_true] at hHx hHi
      rw [hvv.1] at hv1
      rw [hvv.2] at hv2
      generalize inv x = ix at hI hHi
      repeat' first
        | ((with_reducible apply go_i); (conv => whnf))
        | ((with_reducible apply k_pc); (· first | exact hR | exact hv1 | exact hv2 | exact hHx | exact hI | exact hHi | exact C.awake))
        | with_reducible apply k_caf
        | with_reducible apply k_n
        | ((with_reducible apply k_dt); (· first | assumption | omega))
        | ((with_reducible apply k_df); (· first | assumption | omega))
        | (with_reducible apply k_d <;> intro _)
        | with_reducible apply k_a
        | with_reducible apply k_o
        | ((with_reducible apply k_bt); (· assumption))
        | ((with_reducible apply k_bf); (· assumption))
        | ((with_reducible apply k_gc); (· assumption))
        | ((with_reducible apply k_gcs); (· assumption); (· first | assumption | omega | (simp only [List.length_cons, List.length_nil, List.length_map]; omega)))
        | ((with_reducible apply k_ste); (· assumption); (· first | assumption | omega))
        | ((with_reducible apply k_stc); (· first | assumption | omega | (simp only [List.length_cons, List.length_nil, List.length_map]; omega) | (simp; done)))
        | (with_reducible apply k_b <;> intro _)
        | ((with_reducible apply k_fz); (· assumption))
        | with_reducible apply k_mp
        | ((with_reducible apply k_wr); (· omega); (· omega))
        | with_reducible apply k_ww
        | ((with_reducible apply k_chk); (· first | omega | assumption | exact rfl | (simp only [List.length_cons, List.length_nil]; omega) | exact wrapu_nn _ | (intro e he; obtain ⟨x, _, rfl⟩ := List.mem_map.1 he; exact rfl) | (intro e he; cases List.mem_singleton.1 he; rfl) | (simp; done)))
        | ((with_reducible apply k_sl); (· first | assumption | exact sld_nsl | exact sld_sl | exact sld_nil | exact sld_cond (by assumption)))
      all_goals first | rfl | (exfalso; omega)
end Go.Proofs
