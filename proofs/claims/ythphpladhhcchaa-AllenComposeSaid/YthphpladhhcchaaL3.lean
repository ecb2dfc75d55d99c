/- AllenCompose: for every input the law returns true, and its arguments read as they did. No condition. -/
import Derived.Test.YthphpladhhcchaaA15
import Derived.Test.YthphpladhhcchaaRows
set_option linter.unusedVariables false
set_option linter.unusedSimpArgs false
namespace Go.Proofs.Ythphpladhhcchaa.allenCompose
open Go.Bi Go.Proofs

theorem own : ownKnob Try.prog.godebug = none := by kernel_rfl
theorem law (dss : List (List D)) (h : WTs Try.prog [3, 3] dss) : Pure Try.prog 5 (avs Try.prog [3, 3] dss) (.d (.bool true)) := by
  match dss, h with
  | [d, e], ⟨_, h1, _, h2, _⟩ =>
    obtain ⟨n, rfl, _, _⟩ := h1.int' Try.underlying3
    obtain ⟨m, rfl, _, _⟩ := h2.int' Try.underlying3
    have e : avs Try.prog [3, 3] [[.int .i64 n], [.int .i64 m]] = [.d (eI n), .d (eI m)] := by simp only [avs, avOf, Try.underlying3]
    rw [e]
    exact L.AllenCompose n m

set_option maxRecDepth 100000 in
theorem lifted (os : Os) (started : os.Started) (H : Type) (enc : TypeId × Value → H) :
    ReturnsInHanded {} Try.checked os 5 .any (Rows.allenComposeSpec.pre6 enc Try.prog Try.f5 Rows.allenComposeRow.domain false) (Rows.allenComposeSpec.post enc Try.prog Try.f5 false true false false) := by
  refine returnsInHanded_of_change (C := Try.checked) own started (by kernel_rfl) Try.func5
    (ChangeSpec.witness6 (enc := enc) (C := Try.checked) false ⟨#[], #[.int .i64 0, .int .i64 0], []⟩ 8 (by kernel_rfl) (by kernel_rfl) (by kernel_rfl) (by kernel_rfl)) ?_
  intro W base args ds gs before hval hW _ _
  have hp : Try.f5.params = #[3, 3] := Try.params5
  have hr : ([3, 3] : List TypeId).all (fun t => Try.prog.readableRec t && decide (t < Try.prog.types.size)) = true := by kernel_rfl
  refine law_contract (S := [3]) (bt := 4) bulkU (by kernel_rfl) (by rw [hp]; intro t ht; revert t; decide) (by rw [hp]; intro t ht; have := List.all_eq_true.1 hr t ht; simpa using this) (by kernel_rfl) rfl (by kernel_rfl) Try.underlying4 (fun hl => ?_) hval hW (fun dss h _ => ?_)
  · rw [hp] at hl
    match ds, hl with
    | [d0, d1], _ => rfl
  · rw [hp] at h ⊢
    exact law dss h
theorem over : Rows.allenComposeRow.holds Try.pinned (OpenSpec.ofChange Rows.allenComposeSpec) :=
  OpenClaim.holds_of_wide 5 Try.f5 rfl rfl rfl rfl rfl rfl rfl ⟨rfl, rfl, rfl, rfl, rfl⟩ rfl rfl rfl rfl rfl (by kernel_rfl) Try.func5 (by kernel_rfl)
    (of_decide_eq_true (by kernel_rfl)) (by unfold Func.isWrapper; first | (rw [if_pos (by decide +kernel)]; kernel_rfl) | (rw [if_neg (by decide +kernel)]; exact ⟨rfl, rfl⟩))
    (fun os started H enc _ => lifted os started H enc)
theorem proved : Rows.AllenComposeSaid := over
end Go.Proofs.Ythphpladhhcchaa.allenCompose
