/- AllenSound: for every input the law returns true, and its arguments read as they did. No condition. -/
import Derived.Test.YthikjlgebokooaaQ3
import Derived.Test.YthikjlgebokooaaRows
set_option linter.unusedVariables false
set_option linter.unusedSimpArgs false
namespace Go.Proofs.Ythikjlgebokooaa.allenSound
open Go.Bi Go.Proofs

theorem own : ownKnob Try.prog.godebug = none := by kernel_rfl
theorem law (dss : List (List D)) (h : WTs Try.prog [29, 22] dss) : Pure Try.prog 4 (avs Try.prog [29, 22] dss) (.d (.bool true)) := by
  match dss, h with
  | [d, e], ⟨_, h1, _, h2, _⟩ =>
    obtain ⟨d1, p, rfl, hs1, hl1⟩ := wt_pers h1
    obtain ⟨d2, l, rfl, hs, hl⟩ := wt_cons h2
    have e : avs Try.prog [29, 22] [[d1], [d2]] = [.d d1, .d d2] := by simp only [avs]; rw [av_pers, av_cons]
    rw [e]
    exact L.AllenSound p hl1 d1 hs1 l hl d2 hs

set_option maxRecDepth 100000 in
theorem lifted (os : Os) (started : os.Started) (H : Type) (enc : TypeId × Value → H) :
    ReturnsInHanded {} Try.checked os 4 .any (Rows.allenSoundSpec.pre6 enc Try.prog Try.f4 Rows.allenSoundRow.domain false) (Rows.allenSoundSpec.post enc Try.prog Try.f4 false true false false) := by
  refine returnsInHanded_of_change (C := Try.checked) own started (by kernel_rfl) Try.func4
    (ChangeSpec.witness6 (enc := enc) (C := Try.checked) false ⟨#[], #[.slice none 0 0, .slice none 0 0], []⟩ 8 (by kernel_rfl) (by kernel_rfl) (by kernel_rfl) (by kernel_rfl)) ?_
  intro W base args ds gs before hval hW _ _
  have hp : Try.f4.params = #[29, 22] := Try.params4
  have hr : ([29, 22] : List TypeId).all (fun t => Try.prog.readableRec t && decide (t < Try.prog.types.size)) = true := by kernel_rfl
  refine law_contract (S := [29, 37, 22, 33, 31, 3]) (bt := 4) bulkU (by kernel_rfl) (by rw [hp]; intro t ht; revert t; decide) (by rw [hp]; intro t ht; have := List.all_eq_true.1 hr t ht; simpa using this) (by kernel_rfl) rfl (by kernel_rfl) Try.underlying4 (fun hl => ?_) hval hW (fun dss h _ => ?_)
  · rw [hp] at hl
    match ds, hl with
    | [d0, d1], _ => rfl
  · rw [hp] at h ⊢
    exact law dss h
theorem over : Rows.allenSoundRow.holds Try.pinned (OpenSpec.ofChange Rows.allenSoundSpec) :=
  OpenClaim.holds_of_wide 4 Try.f4 rfl rfl rfl rfl rfl rfl rfl ⟨rfl, rfl, rfl, rfl, rfl⟩ rfl rfl rfl rfl rfl (by kernel_rfl) Try.func4 (by kernel_rfl)
    (of_decide_eq_true (by kernel_rfl)) (by unfold Func.isWrapper; first | (rw [if_pos (by decide +kernel)]; kernel_rfl) | (rw [if_neg (by decide +kernel)]; exact ⟨rfl, rfl⟩))
    (fun os started H enc _ => lifted os started H enc)
theorem proved : Rows.AllenSoundSaid := over
end Go.Proofs.Ythikjlgebokooaa.allenSound
