/- PredicateSplits, where what it reads is of bulk at most 1048576: the law returns true, and its arguments read as they did. -/
import Derived.Test.YtejfiijaomodnaaQ6
import Derived.Test.YtejfiijaomodnaaRows
import Derived.JoinedCond
set_option linter.unusedVariables false
set_option linter.unusedSimpArgs false
set_option maxRecDepth 20000
namespace Go.Proofs.Ytejfiijaomodnaa.predicateSplits
open Go.Bi Go.Proofs

theorem own : ownKnob Try.prog.godebug = none := by kernel_rfl
theorem law (dss : List (List D)) (h : WTs Try.prog [26, 3] dss) (hb : bulkLL dss ≤ 1048576) : Pure Try.prog 5 (avs Try.prog [26, 3] dss) (.d (.bool true)) := by
  match dss, h with
  | [d, e], ⟨_, h1, _, h2, _⟩ =>
    obtain ⟨x, rfl, hr⟩ := wt_exr h1
    obtain ⟨a, rfl⟩ := wt_int h2
    have hx : x.bk ≤ 1048576 := by simp only [bulkLL] at hb; unfold Ex.bk; omega
    have e : avs Try.prog [26, 3] [x.ds, [eI a]] = [x.av, .d (eI a)] := by simp only [avs]; rw [av_ex, av_int]
    rw [e]
    exact L.PredicateSplits x hx hr a

set_option maxRecDepth 100000 in
theorem lifted (os : Os) (started : os.Started) (H : Type) (enc : TypeId × Value → H) (F : Stop.Interp) :
    ReturnsInHanded {} Try.checked os 5 .any ((Rows.OpenSpec.upto Rows.predicateSplitsSpec).pre6 enc Try.prog Try.f5 Rows.predicateSplitsUptoRow.domain false) (((Rows.OpenSpec.upto Rows.predicateSplitsSpec).at F).post enc Try.prog Try.f5 false true false false) := by
  refine returnsInHanded_of_cond (C := Try.checked) (s := Rows.OpenSpec.upto Rows.predicateSplitsSpec) (k := Rows.uptoSmall) rfl own started (by kernel_rfl) Try.func5
    (OpenSpec.witness (enc := enc) (C := Try.checked) (s := Rows.OpenSpec.upto Rows.predicateSplitsSpec) (k := Rows.uptoSmall) rfl false ⟨#[], #[.agg #[.int .i64 0, .int .i64 0, .int .i64 0, .int .i64 0, .string .empty, .string .empty, .slice none 0 0], .int .i64 0], []⟩ 8 (by kernel_rfl) (by kernel_rfl) (by kernel_rfl)
      (x := ([.agg [.lit (.int .i64 0), .lit (.int .i64 0), .agg [.lit (.int .i64 0), .lit (.int .i64 0), .lit (.string [])], .lit (.string []), .nil], .lit (.int .i64 0)], [], [])) (by kernel_rfl) rfl (by kernel_rfl)) ?_
  intro W base args ds gs before hval hW _ hk _
  have hp : Try.f5.params = #[26, 3] := Try.params5
  have hb : Rows.uptoBulkAll ds ≤ 1048576 := by
    have hW2 := hW
    obtain ⟨p, q, hA, hV, rfl, hfz, hnd⟩ := hW2
    obtain ⟨rfl, rfl⟩ := Go.ChangeShapes.trodVars_none hV
    have h := of_decide_eq_true hk
    simpa using h
  have hr : ([26, 3] : List TypeId).all (fun t => Try.prog.readableRec t && decide (t < Try.prog.types.size)) = true := by kernel_rfl
  refine law_contract (S := [26, 3, 23, 9, 24]) (bt := 4) (bulkR H) (by kernel_rfl) (by rw [hp]; intro t ht; revert t; decide) (by rw [hp]; intro t ht; have := List.all_eq_true.1 hr t ht; simpa using this) (by kernel_rfl) rfl (by kernel_rfl) Try.underlying4 (fun hl => ?_) hval hW (fun dss h hu => ?_)
  · rw [hp] at hl
    match ds, hl with
    | [d0, d1], _ => rfl
  · rw [hp] at h ⊢
    exact law dss h (Nat.le_trans hu hb)
theorem over : Rows.predicateSplitsUptoRow.holds Try.pinned (Rows.OpenSpec.upto Rows.predicateSplitsSpec) :=
  OpenClaim.holds_of_cond 5 Try.f5 rfl rfl rfl rfl rfl rfl rfl ⟨rfl, rfl, rfl, rfl, rfl⟩ rfl rfl rfl rfl rfl (by kernel_rfl) Try.func5 (by kernel_rfl)
    (of_decide_eq_true (by kernel_rfl)) (by unfold Func.isWrapper; first | (rw [if_pos (by decide +kernel)]; kernel_rfl) | (rw [if_neg (by decide +kernel)]; exact ⟨rfl, rfl⟩))
    (fun os started H enc _ F => lifted os started H enc F)
theorem proved : Rows.PredicateSplitsUptoSaid := over
end Go.Proofs.Ytejfiijaomodnaa.predicateSplits
