/- The laws on inverses, names and relations, as contracts over data. No condition. -/
import Derived.Test.YthphpladhhcchaaA12
set_option linter.unusedSimpArgs false
set_option linter.unusedVariables false
set_option maxRecDepth 10000
set_option maxHeartbeats 4000000
namespace Go.Proofs
open Go.Bi

theorem inv_inv (r : Int) (h : ¬ inv r < 0) : inv (inv r) = r := by
  unfold inv at h ⊢
  split at h
  · rename_i h1
    rw [if_pos h1, if_pos (by omega)]; omega
  · omega
theorem L.AllenInverse (r : Int) : Pure Try.prog N.bt_law02_AllenInverse [.d (eI r)] (.d (.bool true)) := by
  refine F.bt_law02_AllenInverse.go mixed rfl ?_
  repeat' first
    | ((with_reducible apply go_i); (conv => whnf))
    | ((with_reducible apply k_pc); (· first | exact C.allen_Inverse _ | exact C.ref_Inverse _ | exact C.awake))
    | with_reducible apply k_caf
    | with_reducible apply k_n
    | ((with_reducible apply k_dt); (· first | assumption | omega))
    | ((with_reducible apply k_df); (· first | assumption | omega))
    | (with_reducible apply k_d <;> intro _)
    | with_reducible apply k_a
    | with_reducible apply k_o
    | ((with_reducible apply k_bt); (· assumption))
    | ((with_reducible apply k_bf); (· assumption))
    | ((with_reducible apply k_gc); (· assumption))
    | ((with_reducible apply k_gcs); (· assumption); (· first | assumption | omega | (simp only [List.length_cons, List.length_nil, List.length_map]; omega)))
    | ((with_reducible apply k_ste); (· assumption); (· first | assumption | omega))
    | ((with_reducible apply k_stc); (· first | assumption | omega | (simp only [List.length_cons, List.length_nil, List.length_map]; omega) | (simp; done)))
    | (with_reducible apply k_b <;> intro _)
    | ((with_reducible apply k_fz); (· assumption))
    | with_reducible apply k_mp
    | ((with_reducible apply k_wr); (· omega); (· omega))
    | with_reducible apply k_ww
    | ((with_reducible apply k_chk); (· first | omega | assumption | exact rfl | (simp only [List.length_cons, List.length_nil]; omega) | exact wrapu_nn _ | (intro e he; obtain ⟨x, _, rfl⟩ := List.mem_map.1 he; exact rfl) | (intro e he; cases List.mem_singleton.1 he; rfl) | (simp; done)))
    | ((with_reducible apply k_sl); (· first | assumption | exact sld_nsl | exact sld_sl | exact sld_nil | exact sld_cond (by assumption)))
  all_goals first | rfl | (exfalso; rename_i h1 h2; exact h2 (inv_inv r h1)) | (exfalso; rename_i h1; exact h1 rfl)
theorem name_find {r : Int} (h : ¬ name r = []) : find (name r) = r := by
  unfold name at h ⊢
  split at h
  · rename_i hr
    have h' : 0 ≤ r ∧ r < 13 := by simpa [isRel] using hr
    rw [if_pos hr]
    rcases (show r = 0 ∨ r = 1 ∨ r = 2 ∨ r = 3 ∨ r = 4 ∨ r = 5 ∨ r = 6 ∨ r = 7 ∨ r = 8 ∨ r = 9 ∨ r = 10 ∨ r = 11 ∨ r = 12 by omega) with rfl | rfl | rfl | rfl | rfl | rfl | rfl | rfl | rfl | rfl | rfl | rfl | rfl <;> decide
  · exact absurd rfl h
theorem L.AllenNames (r : Int) (s : List UInt8) : Pure Try.prog N.bt_law02_AllenNames [.d (eI r), .d (.str s)] (.d (.bool true)) := by
  refine F.bt_law02_AllenNames.go mixed rfl ?_
  repeat' first
    | ((with_reducible apply go_i); (conv => whnf))
    | ((with_reducible apply k_pc); (· first | exact C.allen_Name _ | exact C.ref_Name _ | exact C.allen_Find _ | exact C.ref_Find _ | exact C.awake))
    | with_reducible apply k_caf
    | with_reducible apply k_n
    | ((with_reducible apply k_dt); (· first | assumption | omega))
    | ((with_reducible apply k_df); (· first | assumption | omega))
    | (with_reducible apply k_d <;> intro _)
    | with_reducible apply k_a
    | with_reducible apply k_o
    | ((with_reducible apply k_bt); (· assumption))
    | ((with_reducible apply k_bf); (· assumption))
    | ((with_reducible apply k_gc); (· assumption))
    | ((with_reducible apply k_gcs); (· assumption); (· first | assumption | omega | (simp only [List.length_cons, List.length_nil, List.length_map]; omega)))
    | ((with_reducible apply k_ste); (· assumption); (· first | assumption | omega))
    | ((with_reducible apply k_stc); (· first | assumption | omega | (simp only [List.length_cons, List.length_nil, List.length_map]; omega) | (simp; done)))
    | (with_reducible apply k_b <;> intro _)
    | ((with_reducible apply k_fz); (· assumption))
    | with_reducible apply k_mp
    | ((with_reducible apply k_wr); (· omega); (· omega))
    | with_reducible apply k_ww
    | ((with_reducible apply k_chk); (· first | omega | assumption | exact rfl | (simp only [List.length_cons, List.length_nil]; omega) | exact wrapu_nn _ | (intro e he; obtain ⟨x, _, rfl⟩ := List.mem_map.1 he; exact rfl) | (intro e he; cases List.mem_singleton.1 he; rfl) | (simp; done)))
    | ((with_reducible apply k_sl); (· first | assumption | exact sld_nsl | exact sld_sl | exact sld_nil | exact sld_cond (by assumption)))
  all_goals first | rfl | (exfalso; rename_i h1; exact h1 rfl) | (exfalso; rename_i h1 h2 h3; exact h3 (name_find h2)) | (exfalso; rename_i h1 h2; exact h2 (name_find h1))
end Go.Proofs
