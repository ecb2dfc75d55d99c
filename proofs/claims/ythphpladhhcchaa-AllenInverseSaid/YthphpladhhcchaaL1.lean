/- AllenInverse: for every input the law returns true, and its argument reads as it did. No condition. -/
import Derived.Test.YthphpladhhcchaaA13
import Derived.Test.YthphpladhhcchaaRows
set_option linter.unusedVariables false
namespace Go.Proofs.Ythphpladhhcchaa.allenInverse
open Go.Bi Go.Proofs

theorem own : ownKnob Try.prog.godebug = none := by kernel_rfl
theorem law (dss : List (List D)) (h : WTs Try.prog [3] dss) : Pure Try.prog 3 (avs Try.prog [3] dss) (.d (.bool true)) := by
  match dss, h with
  | [d], ⟨_, h1, _⟩ =>
    obtain ⟨n, rfl, _, _⟩ := h1.int' Try.underlying3
    have e : avs Try.prog [3] [[.int .i64 n]] = [.d (eI n)] := by simp only [avs, avOf, Try.underlying3]
    rw [e]
    exact L.AllenInverse n

set_option maxRecDepth 100000 in
theorem lifted (os : Os) (started : os.Started) (H : Type) (enc : TypeId × Value → H) :
    ReturnsInHanded {} Try.checked os 3 .any (Rows.allenInverseSpec.pre6 enc Try.prog Try.f3 Rows.allenInverseRow.domain false) (Rows.allenInverseSpec.post enc Try.prog Try.f3 false true false false) := by
  refine returnsInHanded_of_change (C := Try.checked) own started (by kernel_rfl) Try.func3
    (ChangeSpec.witness6 (enc := enc) (C := Try.checked) false ⟨#[], #[.int .i64 0], []⟩ 8 (by kernel_rfl) (by kernel_rfl) (by kernel_rfl) (by kernel_rfl)) ?_
  intro W base args ds gs before hval hW _ _
  have hp : Try.f3.params = #[3] := Try.params3
  refine law_contract (S := [3]) (bt := 4) bulkU (by kernel_rfl) (by rw [hp]; simp) (by rw [hp]; intro t ht; simp at ht; subst ht; exact ⟨by kernel_rfl, of_decide_eq_true (by kernel_rfl)⟩) (by kernel_rfl) rfl (by kernel_rfl) Try.underlying4 (fun hl => ?_) hval hW (fun dss h _ => ?_)
  · rw [hp] at hl
    match ds, hl with
    | [d], _ => rfl
  · rw [hp] at h ⊢
    exact law dss h
theorem over : Rows.allenInverseRow.holds Try.pinned (OpenSpec.ofChange Rows.allenInverseSpec) :=
  OpenClaim.holds_of_wide 3 Try.f3 rfl rfl rfl rfl rfl rfl rfl ⟨rfl, rfl, rfl, rfl, rfl⟩ rfl rfl rfl rfl rfl (by kernel_rfl) Try.func3 (by kernel_rfl)
    (of_decide_eq_true (by kernel_rfl)) (by unfold Func.isWrapper; first | (rw [if_pos (by decide +kernel)]; kernel_rfl) | (rw [if_neg (by decide +kernel)]; exact ⟨rfl, rfl⟩))
    (fun os started H enc _ => lifted os started H enc)
theorem proved : Rows.AllenInverseSaid := over
end Go.Proofs.Ythphpladhhcchaa.allenInverse
