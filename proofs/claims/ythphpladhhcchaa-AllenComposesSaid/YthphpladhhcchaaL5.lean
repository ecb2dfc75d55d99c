/- AllenComposes: for every input the law returns true, and its arguments read as they did. No condition. -/
import Derived.Test.YthphpladhhcchaaA16
import Derived.Test.YthphpladhhcchaaRows
set_option linter.unusedVariables false
set_option linter.unusedSimpArgs false
namespace Go.Proofs.Ythphpladhhcchaa.allenComposes
open Go.Bi Go.Proofs

theorem own : ownKnob Try.prog.godebug = none := by kernel_rfl
theorem period {ds : List D} (h : WT Try.prog 26 ds) : ∃ a b, ds = [eI a, eI b] := by
  obtain ⟨hl, hf⟩ := h.st' Try.underlying26
  have hc : Try.prog.cellsOf 26 = 2 := by kernel_rfl
  have hc3 : Try.prog.cellsOf 3 = 1 := by kernel_rfl
  rw [hc] at hl
  match ds, hl with
  | [x, y], _ =>
    have h0 := hf _ (List.mem_cons_self ..)
    have h1 := hf _ (List.mem_cons_of_mem _ (List.mem_cons_self ..))
    dsimp only at h0 h1
    rw [hc3] at h0 h1
    obtain ⟨a, ha, _, _⟩ := h0.int' Try.underlying3
    obtain ⟨b, hb, _, _⟩ := h1.int' Try.underlying3
    simp at ha hb
    exact ⟨a, b, by rw [ha, hb]⟩
theorem law (dss : List (List D)) (h : WTs Try.prog [26, 26, 26] dss) : Pure Try.prog 4 (avs Try.prog [26, 26, 26] dss) (.d (.bool true)) := by
  match dss, h with
  | [d, e, f], ⟨_, h1, _, h2, _, h3, _⟩ =>
    obtain ⟨a, b, rfl⟩ := period h1
    obtain ⟨c, f, rfl⟩ := period h2
    obtain ⟨i, j, rfl⟩ := period h3
    have e : avs Try.prog [26, 26, 26] [[eI a, eI b], [eI c, eI f], [eI i, eI j]] = [eP a b, eP c f, eP i j] := by simp only [avs, avOf, Try.underlying26, List.map_cons, List.map_nil]
    rw [e]
    exact L.AllenComposes (a, b) (c, f) (i, j)

set_option maxRecDepth 100000 in
theorem lifted (os : Os) (started : os.Started) (H : Type) (enc : TypeId × Value → H) :
    ReturnsInHanded {} Try.checked os 4 .any (Rows.allenComposesSpec.pre6 enc Try.prog Try.f4 Rows.allenComposesRow.domain false) (Rows.allenComposesSpec.post enc Try.prog Try.f4 false true false false) := by
  refine returnsInHanded_of_change (C := Try.checked) own started (by kernel_rfl) Try.func4
    (ChangeSpec.witness6 (enc := enc) (C := Try.checked) false ⟨#[], #[.agg #[.int .i64 0, .int .i64 0], .agg #[.int .i64 0, .int .i64 0], .agg #[.int .i64 0, .int .i64 0]], []⟩ 8 (by kernel_rfl) (by kernel_rfl) (by kernel_rfl) (by kernel_rfl)) ?_
  intro W base args ds gs before hval hW _ _
  have hp : Try.f4.params = #[26, 26, 26] := Try.params4
  have hr : ([26, 26, 26] : List TypeId).all (fun t => Try.prog.readableRec t && decide (t < Try.prog.types.size)) = true := by kernel_rfl
  refine law_contract (S := [26, 3]) (bt := 4) bulkU (by kernel_rfl) (by rw [hp]; intro t ht; revert t; decide) (by rw [hp]; intro t ht; have := List.all_eq_true.1 hr t ht; simpa using this) (by kernel_rfl) rfl (by kernel_rfl) Try.underlying4 (fun hl => ?_) hval hW (fun dss h _ => ?_)
  · rw [hp] at hl
    match ds, hl with
    | [d0, d1, d2], _ => rfl
  · rw [hp] at h ⊢
    exact law dss h
theorem over : Rows.allenComposesRow.holds Try.pinned (OpenSpec.ofChange Rows.allenComposesSpec) :=
  OpenClaim.holds_of_wide 4 Try.f4 rfl rfl rfl rfl rfl rfl rfl ⟨rfl, rfl, rfl, rfl, rfl⟩ rfl rfl rfl rfl rfl (by kernel_rfl) Try.func4 (by kernel_rfl)
    (of_decide_eq_true (by kernel_rfl)) (by unfold Func.isWrapper; first | (rw [if_pos (by decide +kernel)]; kernel_rfl) | (rw [if_neg (by decide +kernel)]; exact ⟨rfl, rfl⟩))
    (fun os started H enc _ => lifted os started H enc)
theorem proved : Rows.AllenComposesSaid := over
end Go.Proofs.Ythphpladhhcchaa.allenComposes
