/- The examples of the chapter hold. No condition. -/
import Derived.Test.YthphpladhhcchaaA11
set_option linter.unusedSimpArgs false
set_option linter.unusedVariables false
set_option maxRecDepth 10000
set_option maxHeartbeats 4000000
namespace Go.Proofs
open Go.Bi

def con1 (a b : Int) : Con := ⟨a, b, [0], .sl (eIs [0]), sld_sl, by decide⟩
theorem comps_tab : comps = toZ tabV := by rw [comps_eq.1, compsN_val]
theorem tight_ex : tightT (toZ tabV) 3 [con1 0 1, con1 1 2] = (.sl [[eI 0, eI 1, .sl [[eI 0]]], [eI 0, eI 2, .sl [[eI 0]]], [eI 1, eI 2, .sl [[eI 0]]]], true) := by kernel_rfl

theorem C.awake : Pure Try.prog N.bt_law02_awake [] (.d (.bool true)) := by
  refine F.bt_law02_awake.go mixed rfl ?_
  have h1 : Pure Try.prog N.allen_Relation [eP 1 3, eP 3 4] (.tup [.d (eI 1), .d (.bool true)]) := C.allen_Relation 1 3 3 4
  have h2 : Pure Try.prog N.allen_Tighten [.d (eI 3), .d (.sl [[eI 0, eI 1, .sl [[eI 0]]], [eI 1, eI 2, .sl [[eI 0]]]])] (.tup [.d (.sl [[eI 0, eI 1, .sl [[eI 0]]], [eI 0, eI 2, .sl [[eI 0]]], [eI 1, eI 2, .sl [[eI 0]]]]), .d (.bool true)]) := by
    have := C.allen_Tighten 3 [con1 0 1, con1 1 2] (by decide) (.sl [[eI 0, eI 1, .sl [[eI 0]]], [eI 1, eI 2, .sl [[eI 0]]]]) sld_sl
    unfold tight at this
    rw [comps_tab, tight_ex] at this
    exact this
  have h3 : Pure Try.prog N.allen_Compose [.d (eI 1), .d (eI 1)] (.d (.sl [[eI 0]])) := by
    have := C.allen_Compose 1 1
    unfold compose at this
    rw [comps_tab, show (if isRel 1 && isRel 1 then sList (tAt (toZ tabV) 1 1) else []) = [0] by kernel_rfl] at this
    exact this
  have h4 : Pure Try.prog N.allen_Compose [.d (eI 3), .d (eI 9)] (.d (.sl [[eI 3], [eI 6], [eI 9]])) := by
    have := C.allen_Compose 3 9
    unfold compose at this
    rw [comps_tab, show (if isRel 3 && isRel 9 then sList (tAt (toZ tabV) 3 9) else []) = [3, 6, 9] by kernel_rfl] at this
    exact this
  have h5 : ∀ l : List Int, l.length ≤ 100 → Pure Try.prog N.bt_ref02_Ints [.d (.sl (eIs l)), .d (.sl (eIs l))] (.d (.bool true)) := fun l hl => by
    have := C.ref_Ints l l (by omega) (.sl (eIs l)) (.sl (eIs l)) sld_sl sld_sl
    simpa using this
  have h6 : Pure Try.prog N.bt_ref02_Ints [.d (.sl [[eI 0]]), .d (.sl [[eI 0]])] (.d (.bool true)) := h5 [0] (by decide)
  have h7 : Pure Try.prog N.bt_ref02_Ints [.d (.sl [[eI 3], [eI 6], [eI 9]]), .d (.sl [[eI 3], [eI 6], [eI 9]])] (.d (.bool true)) := h5 [3, 6, 9] (by decide)
  have h8 : Pure Try.prog N.allen_Name [.d (eI 8)] (.d (.str [67, 79, 78, 84, 65, 73, 78, 83])) := C.allen_Name 8
  have h9 : Pure Try.prog N.allen_Satisfied [.d (.sl [[eI 1, eI 2]]), .d .nil] (.d (.bool true)) := C.allen_Satisfied [(1, 2)] (by decide) (.sl [[eI 1, eI 2]]) sld_sl [] (by decide) .nil sld_nil
  repeat' first
    | ((with_reducible apply go_i); (conv => whnf))
    | ((with_reducible apply k_pc); (· first | exact h1 | exact h2 | exact h3 | exact h4 | exact h6 | exact h7 | exact h8 | exact h9))
    | with_reducible apply k_caf
    | with_reducible apply k_n
    | ((with_reducible apply k_dt); (· first | assumption | omega))
    | ((with_reducible apply k_df); (· first | assumption | omega))
    | (with_reducible apply k_d <;> intro _)
    | with_reducible apply k_a
    | with_reducible apply k_o
    | ((with_reducible apply k_bt); (· assumption))
    | ((with_reducible apply k_bf); (· assumption))
    | ((with_reducible apply k_gc); (· assumption))
    | ((with_reducible apply k_gcs); (· assumption); (· first | assumption | omega | (simp only [List.length_cons, List.length_nil, List.length_map]; omega)))
    | ((with_reducible apply k_ste); (· assumption); (· first | assumption | omega))
    | ((with_reducible apply k_stc); (· first | assumption | omega | (simp only [List.length_cons, List.length_nil, List.length_map]; omega) | (simp; done)))
    | (with_reducible apply k_b <;> intro _)
    | ((with_reducible apply k_fz); (· assumption))
    | with_reducible apply k_mp
    | ((with_reducible apply k_wr); (· omega); (· omega))
    | with_reducible apply k_ww
    | ((with_reducible apply k_chk); (· first | omega | assumption | exact rfl | (simp only [List.length_cons, List.length_nil]; omega) | exact wrapu_nn _ | (intro e he; obtain ⟨x, _, rfl⟩ := List.mem_map.1 he; exact rfl) | (intro e he; cases List.mem_singleton.1 he; rfl) | (simp; done)))
    | ((with_reducible apply k_sl); (· first | assumption | exact sld_nsl | exact sld_sl | exact sld_nil | exact sld_cond (by assumption)))
  trace_state
end Go.Proofs
