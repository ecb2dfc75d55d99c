/- AllenTighten: for every input the law returns true, and its arguments read as they did. No condition. -/
import Derived.Test.YthikjlgebokooaaQ3
import Derived.Test.YthikjlgebokooaaRows
set_option linter.unusedVariables false
set_option linter.unusedSimpArgs false
namespace Go.Proofs.Ythikjlgebokooaa.allenTighten
open Go.Bi Go.Proofs

theorem own : ownKnob Try.prog.godebug = none := by kernel_rfl
theorem law (dss : List (List D)) (h : WTs Try.prog [3, 22] dss) : Pure Try.prog 3 (avs Try.prog [3, 22] dss) (.d (.bool true)) := by
  match dss, h with
  | [d, e], ⟨_, h1, _, h2, _⟩ =>
    obtain ⟨a, rfl⟩ := wt_int h1
    obtain ⟨d2, l, rfl, hs, hl⟩ := wt_cons h2
    have e : avs Try.prog [3, 22] [[eI a], [d2]] = [.d (eI a), .d d2] := by simp only [avs]; rw [av_int, av_cons]
    rw [e]
    exact L.AllenTighten a l hl d2 hs

set_option maxRecDepth 100000 in
theorem lifted (os : Os) (started : os.Started) (H : Type) (enc : TypeId × Value → H) :
    ReturnsInHanded {} Try.checked os 3 .any (Rows.allenTightenSpec.pre6 enc Try.prog Try.f3 Rows.allenTightenRow.domain false) (Rows.allenTightenSpec.post enc Try.prog Try.f3 false true false false) := by
  refine returnsInHanded_of_change (C := Try.checked) own started (by kernel_rfl) Try.func3
    (ChangeSpec.witness6 (enc := enc) (C := Try.checked) false ⟨#[], #[.int .i64 0, .slice none 0 0], []⟩ 8 (by kernel_rfl) (by kernel_rfl) (by kernel_rfl) (by kernel_rfl)) ?_
  intro W base args ds gs before hval hW _ _
  have hp : Try.f3.params = #[3, 22] := Try.params3
  have hr : ([3, 22] : List TypeId).all (fun t => Try.prog.readableRec t && decide (t < Try.prog.types.size)) = true := by kernel_rfl
  refine law_contract (S := [22, 33, 31, 3]) (bt := 4) bulkU (by kernel_rfl) (by rw [hp]; intro t ht; revert t; decide) (by rw [hp]; intro t ht; have := List.all_eq_true.1 hr t ht; simpa using this) (by kernel_rfl) rfl (by kernel_rfl) Try.underlying4 (fun hl => ?_) hval hW (fun dss h _ => ?_)
  · rw [hp] at hl
    match ds, hl with
    | [d0, d1], _ => rfl
  · rw [hp] at h ⊢
    exact law dss h
theorem over : Rows.allenTightenRow.holds Try.pinned (OpenSpec.ofChange Rows.allenTightenSpec) :=
  OpenClaim.holds_of_wide 3 Try.f3 rfl rfl rfl rfl rfl rfl rfl ⟨rfl, rfl, rfl, rfl, rfl⟩ rfl rfl rfl rfl rfl (by kernel_rfl) Try.func3 (by kernel_rfl)
    (of_decide_eq_true (by kernel_rfl)) (by unfold Func.isWrapper; first | (rw [if_pos (by decide +kernel)]; kernel_rfl) | (rw [if_neg (by decide +kernel)]; exact ⟨rfl, rfl⟩))
    (fun os started H enc _ => lifted os started H enc)
theorem proved : Rows.AllenTightenSaid := over
end Go.Proofs.Ythikjlgebokooaa.allenTighten
