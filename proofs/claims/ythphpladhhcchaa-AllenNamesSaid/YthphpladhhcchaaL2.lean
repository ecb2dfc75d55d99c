/- AllenNames: for every input the law returns true, and its arguments read as they did. No condition. -/
import Derived.Test.YthphpladhhcchaaA13
import Derived.Test.YthphpladhhcchaaRows
set_option linter.unusedVariables false
set_option linter.unusedSimpArgs false
namespace Go.Proofs.Ythphpladhhcchaa.allenNames
open Go.Bi Go.Proofs

theorem own : ownKnob Try.prog.godebug = none := by kernel_rfl
theorem law (dss : List (List D)) (h : WTs Try.prog [3, 9] dss) : Pure Try.prog 9 (avs Try.prog [3, 9] dss) (.d (.bool true)) := by
  match dss, h with
  | [d, e], ⟨_, h1, _, h2, _⟩ =>
    obtain ⟨n, rfl, _, _⟩ := h1.int' Try.underlying3
    obtain ⟨s, rfl, _⟩ := h2.str' Try.underlying9
    have e : avs Try.prog [3, 9] [[.int .i64 n], [.str s]] = [.d (eI n), .d (.str s)] := by simp only [avs, avOf, Try.underlying3, Try.underlying9]
    rw [e]
    exact L.AllenNames n s

set_option maxRecDepth 100000 in
theorem lifted (os : Os) (started : os.Started) (H : Type) (enc : TypeId × Value → H) :
    ReturnsInHanded {} Try.checked os 9 .any (Rows.allenNamesSpec.pre6 enc Try.prog Try.f9 Rows.allenNamesRow.domain false) (Rows.allenNamesSpec.post enc Try.prog Try.f9 false true false false) := by
  refine returnsInHanded_of_change (C := Try.checked) own started (by kernel_rfl) Try.func9
    (ChangeSpec.witness6 (enc := enc) (C := Try.checked) false ⟨#[], #[.int .i64 0, .string ⟨#[]⟩], []⟩ 8 (by kernel_rfl) (by kernel_rfl) (by kernel_rfl) (by kernel_rfl)) ?_
  intro W base args ds gs before hval hW _ _
  have hp : Try.f9.params = #[3, 9] := Try.params9
  have hr : ([3, 9] : List TypeId).all (fun t => Try.prog.readableRec t && decide (t < Try.prog.types.size)) = true := by kernel_rfl
  refine law_contract (S := [3, 9]) (bt := 4) bulkU (by kernel_rfl) (by rw [hp]; intro t ht; revert t; decide) (by rw [hp]; intro t ht; have := List.all_eq_true.1 hr t ht; simpa using this) (by kernel_rfl) rfl (by kernel_rfl) Try.underlying4 (fun hl => ?_) hval hW (fun dss h _ => ?_)
  · rw [hp] at hl
    match ds, hl with
    | [d0, d1], _ => rfl
  · rw [hp] at h ⊢
    exact law dss h
theorem over : Rows.allenNamesRow.holds Try.pinned (OpenSpec.ofChange Rows.allenNamesSpec) :=
  OpenClaim.holds_of_wide 9 Try.f9 rfl rfl rfl rfl rfl rfl rfl ⟨rfl, rfl, rfl, rfl, rfl⟩ rfl rfl rfl rfl rfl (by kernel_rfl) Try.func9 (by kernel_rfl)
    (of_decide_eq_true (by kernel_rfl)) (by unfold Func.isWrapper; first | (rw [if_pos (by decide +kernel)]; kernel_rfl) | (rw [if_neg (by decide +kernel)]; exact ⟨rfl, rfl⟩))
    (fun os started H enc _ => lifted os started H enc)
theorem proved : Rows.AllenNamesSaid := over
end Go.Proofs.Ythphpladhhcchaa.allenNames
