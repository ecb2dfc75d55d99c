/- The reference's Compose. No condition. -/
import Derived.Test.YthphpladhhcchaaA10
set_option linter.unusedSimpArgs false
set_option linter.unusedVariables false
set_option maxRecDepth 10000
set_option maxHeartbeats 4000000
namespace Go.Proofs
open Go.Bi
theorem C.ref_Table : Pure Try.prog N.bt_ref02_Table [] (.d (.sl (eBs tableR))) := Table_T (pers 6 5) (by decide) C.ref_small

/-! ### Compose -/
def cUpto (tb : List Bool) (a b : Int) (n : Nat) : List Int := ((List.range n).map fun (k : Nat) => (k : Int)).filter fun c => tb.getD (trI a b c) false
theorem cUpto_succ (tb : List Bool) (a b : Int) (n : Nat) : cUpto tb a b (n + 1) = if tb.getD (trI a b n) false then cUpto tb a b n ++ [(n : Int)] else cUpto tb a b n := by
  unfold cUpto
  rw [List.range_succ, List.map_append, List.filter_append]
  simp only [List.map_cons, List.map_nil, List.filter_cons, List.filter_nil]
  split <;> simp
theorem cUpto_len (tb : List Bool) (a b : Int) (n : Nat) : (cUpto tb a b n).length ≤ n := by
  unfold cUpto
  exact Nat.le_trans (List.length_filter_le _ _) (by simp)
theorem rCompose_T (T : List Bool) (hT : T.length = 2197) (hC : Pure Try.prog N.bt_ref02_Table [] (.d (.sl (eBs T)))) (a b : Int) : Pure Try.prog N.bt_ref02_Compose [.d (eI a), .d (eI b)] (.d (eL (if isRel a && isRel b then cUpto T a b 13 else []))) := by
  refine F.bt_ref02_Compose.go mixed rfl ?_
  have heb := eBs_len T
  have hm := eBs_mem T
  by_cases hab : (isRel a && isRel b) = true
  · have h' : (0 ≤ a ∧ a < 13) ∧ (0 ≤ b ∧ b < 13) := by simpa [isRel] using hab
    rw [if_pos hab]
    repeat' first
      | ((with_reducible apply go_i); (conv => whnf))
      | ((with_reducible apply k_pc); (· first | exact hC))
      | with_reducible apply k_caf
      | with_reducible apply k_n
      | ((with_reducible apply k_dt); (· first | assumption | omega))
      | ((with_reducible apply k_df); (· first | assumption | omega))
      | (with_reducible apply k_d <;> intro _)
      | with_reducible apply k_a
      | with_reducible apply k_o
      | ((with_reducible apply k_bt); (· assumption))
      | ((with_reducible apply k_bf); (· assumption))
      | ((with_reducible apply k_gc); (· assumption))
      | ((with_reducible apply k_gcs); (· assumption); (· first | assumption | omega | (simp only [List.length_cons, List.length_nil, List.length_map]; omega)))
      | ((with_reducible apply k_ste); (· assumption); (· first | assumption | omega))
      | ((with_reducible apply k_stc); (· first | assumption | omega | (simp only [List.length_cons, List.length_nil, List.length_map]; omega) | (simp; done)))
      | (with_reducible apply k_b <;> intro _)
      | ((with_reducible apply k_fz); (· assumption))
      | with_reducible apply k_mp
      | ((with_reducible apply k_wr); (· omega); (· omega))
      | with_reducible apply k_ww
      | ((with_reducible apply k_chk); (· first | omega | assumption | exact rfl | (simp only [List.length_cons, List.length_nil]; omega) | exact wrapu_nn _ | (intro e he; obtain ⟨x, _, rfl⟩ := List.mem_map.1 he; exact rfl) | (intro e he; cases List.mem_singleton.1 he; rfl) | (simp; done)))
      | ((with_reducible apply k_sl); (· first | assumption | exact sld_nsl | exact sld_sl | exact sld_nil | exact sld_cond (by assumption)))
    refine x_nil 6 1 rfl rfl ?_
    repeat' first
      | ((with_reducible apply go_i); (conv => whnf))
      | with_reducible apply k_caf
      | with_reducible apply k_n
      | ((with_reducible apply k_dt); (· first | assumption | omega))
      | ((with_reducible apply k_df); (· first | assumption | omega))
      | (with_reducible apply k_d <;> intro _)
      | with_reducible apply k_a
      | with_reducible apply k_o
      | ((with_reducible apply k_bt); (· assumption))
      | ((with_reducible apply k_bf); (· assumption))
      | ((with_reducible apply k_gc); (· assumption))
      | ((with_reducible apply k_gcs); (· assumption); (· first | assumption | omega | (simp only [List.length_cons, List.length_nil, List.length_map]; omega)))
      | ((with_reducible apply k_ste); (· assumption); (· first | assumption | omega))
      | ((with_reducible apply k_stc); (· first | assumption | omega | (simp only [List.length_cons, List.length_nil, List.length_map]; omega) | (simp; done)))
      | (with_reducible apply k_b <;> intro _)
      | ((with_reducible apply k_fz); (· assumption))
      | with_reducible apply k_mp
      | ((with_reducible apply k_wr); (· omega); (· omega))
      | with_reducible apply k_ww
      | ((with_reducible apply k_chk); (· first | omega | assumption | exact rfl | (simp only [List.length_cons, List.length_nil]; omega) | exact wrapu_nn _ | (intro e he; obtain ⟨x, _, rfl⟩ := List.mem_map.1 he; exact rfl) | (intro e he; cases List.mem_singleton.1 he; rfl) | (simp; done)))
      | ((with_reducible apply k_sl); (· first | assumption | exact sld_nsl | exact sld_sl | exact sld_nil | exact sld_cond (by assumption)))
    refine x_loop2 mixed Lt.bt_ref02_Compose_l0 Lk.bt_ref02_Compose_l0 (fun (c : Nat) (nl : Bool) => [.arr 0 (eIs (cUpto T a b c)).length, .d (eI c)]) (fun c nl => [.arr (eIs (cUpto T a b c)) 1 0 nl]) (fun c nl => c ≤ 13 ∧ nl = (eIs (cUpto T a b c)).isEmpty) (fun c _ => 13 - c) 0 true rfl rfl rfl rfl (fun _ _ _ => ⟨rfl, rfl⟩) rfl ⟨by omega, rfl⟩ ?_
    repeat' first
      | ((with_reducible apply go_i); (conv => whnf))
      | with_reducible apply k_caf
      | with_reducible apply k_n
      | ((with_reducible apply k_dt); (· first | assumption | omega))
      | ((with_reducible apply k_df); (· first | assumption | omega))
      | (with_reducible apply k_d <;> intro _)
      | with_reducible apply k_a
      | with_reducible apply k_o
      | ((with_reducible apply k_bt); (· assumption))
      | ((with_reducible apply k_bf); (· assumption))
      | ((with_reducible apply k_gc); (· assumption))
      | ((with_reducible apply k_gcs); (· assumption); (· first | assumption | omega | (simp only [List.length_cons, List.length_nil, List.length_map]; omega)))
      | ((with_reducible apply k_ste); (· assumption); (· first | assumption | omega))
      | ((with_reducible apply k_stc); (· first | assumption | omega | (simp only [List.length_cons, List.length_nil, List.length_map]; omega) | (simp; done)))
      | (with_reducible apply k_b <;> intro _)
      | ((with_reducible apply k_fz); (· assumption))
      | with_reducible apply k_mp
      | ((with_reducible apply k_wr); (· omega); (· omega))
      | with_reducible apply k_ww
      | ((with_reducible apply k_chk); (· first | omega | assumption | exact rfl | (simp only [List.length_cons, List.length_nil]; omega) | exact wrapu_nn _ | (intro e he; obtain ⟨x, _, rfl⟩ := List.mem_map.1 he; exact rfl) | (intro e he; cases List.mem_singleton.1 he; rfl) | (simp; done)))
      | ((with_reducible apply k_sl); (· first | assumption | exact sld_nsl | exact sld_sl | exact sld_nil | exact sld_cond (by assumption)))
    intro c nl ⟨h1, h2⟩
    have hl1 := cUpto_len T a b c
    have hl2 := eIs_len (cUpto T a b c)
    by_cases hc : c < 13
    · have hg := eBs_get (l := T) (i := (169 * a + 13 * b + c).toNat) (by omega)
      have hs := cUpto_succ T a b c
      repeat' first
        | ((with_reducible apply go_i); (conv => whnf))
        | with_reducible apply k_caf
        | with_reducible apply k_n
        | ((with_reducible apply k_dt); (· first | assumption | omega))
        | ((with_reducible apply k_df); (· first | assumption | omega))
        | (with_reducible apply k_d <;> intro _)
        | with_reducible apply k_a
        | with_reducible apply k_o
        | ((with_reducible apply k_bt); (· assumption))
        | ((with_reducible apply k_bf); (· assumption))
        | ((with_reducible apply k_gc); (· assumption))
        | ((with_reducible apply k_gcs); (· assumption); (· first | assumption | omega | (simp only [List.length_cons, List.length_nil, List.length_map]; omega)))
        | ((with_reducible apply k_ste); (· assumption); (· first | assumption | omega))
        | ((with_reducible apply k_stc); (· first | assumption | omega | (simp only [List.length_cons, List.length_nil, List.length_map]; omega) | (simp; done)))
        | (with_reducible apply k_b <;> intro _)
        | ((with_reducible apply k_fz); (· assumption))
        | with_reducible apply k_mp
        | ((with_reducible apply k_wr); (· omega); (· omega))
        | with_reducible apply k_ww
        | ((with_reducible apply k_chk); (· first | omega | assumption | exact rfl | (simp only [List.length_cons, List.length_nil]; omega) | exact wrapu_nn _ | (intro e he; obtain ⟨x, _, rfl⟩ := List.mem_map.1 he; exact rfl) | (intro e he; cases List.mem_singleton.1 he; rfl) | (simp; done)))
        | ((with_reducible apply k_sl); (· first | assumption | exact sld_nsl | exact sld_sl | exact sld_nil | exact sld_cond (by assumption)))
      · rename_i hb1
        rw [if_pos (by simpa [trI] using hb1)] at hs
        refine ⟨c + 1, false, ?_, rfl, ?_, by omega, by omega, ?_⟩
        · rw [hs]; simp [eIs]
        · rw [hs]; simp [eIs]
        · rw [hs]; simp [eIs]
      · rename_i hb1
        rw [if_neg (by simpa [trI] using hb1)] at hs
        refine ⟨c + 1, nl, ?_, rfl, ?_, by omega, by omega, ?_⟩
        · rw [hs]; rfl
        · rw [hs]
        · rw [hs]; exact h2
    · have : c = 13 := by omega
      subst this
      repeat' first
        | ((with_reducible apply go_i); (conv => whnf))
        | with_reducible apply k_caf
        | with_reducible apply k_n
        | ((with_reducible apply k_dt); (· first | assumption | omega))
        | ((with_reducible apply k_df); (· first | assumption | omega))
        | (with_reducible apply k_d <;> intro _)
        | with_reducible apply k_a
        | with_reducible apply k_o
        | ((with_reducible apply k_bt); (· assumption))
        | ((with_reducible apply k_bf); (· assumption))
        | ((with_reducible apply k_gc); (· assumption))
        | ((with_reducible apply k_gcs); (· assumption); (· first | assumption | omega | (simp only [List.length_cons, List.length_nil, List.length_map]; omega)))
        | ((with_reducible apply k_ste); (· assumption); (· first | assumption | omega))
        | ((with_reducible apply k_stc); (· first | assumption | omega | (simp only [List.length_cons, List.length_nil, List.length_map]; omega) | (simp; done)))
        | (with_reducible apply k_b <;> intro _)
        | ((with_reducible apply k_fz); (· assumption))
        | with_reducible apply k_mp
        | ((with_reducible apply k_wr); (· omega); (· omega))
        | with_reducible apply k_ww
        | ((with_reducible apply k_chk); (· first | omega | assumption | exact rfl | (simp only [List.length_cons, List.length_nil]; omega) | exact wrapu_nn _ | (intro e he; obtain ⟨x, _, rfl⟩ := List.mem_map.1 he; exact rfl) | (intro e he; cases List.mem_singleton.1 he; rfl) | (simp; done)))
        | ((with_reducible apply k_sl); (· first | assumption | exact sld_nsl | exact sld_sl | exact sld_nil | exact sld_cond (by assumption)))
      rw [nsl_cnd h2]; rfl
  · rw [if_neg hab]
    have h' : ¬ ((0 ≤ a ∧ a < 13) ∧ (0 ≤ b ∧ b < 13)) := by simpa [isRel] using hab
    repeat' first
      | ((with_reducible apply go_i); (conv => whnf))
      | with_reducible apply k_caf
      | with_reducible apply k_n
      | ((with_reducible apply k_dt); (· first | assumption | omega))
      | ((with_reducible apply k_df); (· first | assumption | omega))
      | (with_reducible apply k_d <;> intro _)
      | with_reducible apply k_a
      | with_reducible apply k_o
      | ((with_reducible apply k_bt); (· assumption))
      | ((with_reducible apply k_bf); (· assumption))
      | ((with_reducible apply k_gc); (· assumption))
      | ((with_reducible apply k_gcs); (· assumption); (· first | assumption | omega | (simp only [List.length_cons, List.length_nil, List.length_map]; omega)))
      | ((with_reducible apply k_ste); (· assumption); (· first | assumption | omega))
      | ((with_reducible apply k_stc); (· first | assumption | omega | (simp only [List.length_cons, List.length_nil, List.length_map]; omega) | (simp; done)))
      | (with_reducible apply k_b <;> intro _)
      | ((with_reducible apply k_fz); (· assumption))
      | with_reducible apply k_mp
      | ((with_reducible apply k_wr); (· omega); (· omega))
      | with_reducible apply k_ww
      | ((with_reducible apply k_chk); (· first | omega | assumption | exact rfl | (simp only [List.length_cons, List.length_nil]; omega) | exact wrapu_nn _ | (intro e he; obtain ⟨x, _, rfl⟩ := List.mem_map.1 he; exact rfl) | (intro e he; cases List.mem_singleton.1 he; rfl) | (simp; done)))
      | ((with_reducible apply k_sl); (· first | assumption | exact sld_nsl | exact sld_sl | exact sld_nil | exact sld_cond (by assumption)))
    all_goals rfl
theorem tableR_len : tableR.length = 2197 := by unfold tableR; rw [tRp_len]; simp
def rCompose (a b : Int) : List Int := if isRel a && isRel b then cUpto tableR a b 13 else []
theorem C.ref_Compose (a b : Int) : Pure Try.prog N.bt_ref02_Compose [.d (eI a), .d (eI b)] (.d (eL (rCompose a b))) := rCompose_T tableR tableR_len C.ref_Table a b
end Go.Proofs
