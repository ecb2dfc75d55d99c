/- PredicateNever, where what it reads is of bulk at most 1048576: the law returns true, and its arguments read as they did. -/
import Derived.Test.YtdhdhhgdeokiiaaGreatQ4
import Derived.Test.YtdhdhhgdeokiiaaGreatRows
import Derived.JoinedCond
set_option linter.unusedVariables false
set_option linter.unusedSimpArgs false
set_option maxRecDepth 20000
namespace Go.Proofs.YtdhdhhgdeokiiaaGreat.predicateNever
open Go.Bi Go.Proofs

theorem own : ownKnob Tryz.prog.godebug = none := by kernel_rfl
theorem law (dss : List (List D)) (h : WTs Tryz.prog [26] dss) (hb : bulkLL dss ≤ 1048576) : Pure Tryz.prog 3 (avs Tryz.prog [26] dss) (.d (.bool true)) := by
  match dss, h with
  | [d], ⟨_, h1, _⟩ =>
    obtain ⟨x, rfl⟩ := wt_ex h1
    have hx : x.bk ≤ 1048576 := by simp only [bulkLL] at hb; unfold Ex.bk; omega
    have e : avs Tryz.prog [26] [x.ds] = [x.av] := by simp only [avs]; rw [av_ex]
    rw [e]
    exact L.PredicateNever x hx

set_option maxRecDepth 100000 in
theorem lifted (os : Os) (started : os.Started) (H : Type) (enc : TypeId × Value → H) (F : Stop.Interp) :
    ReturnsInHanded {} Tryz.checked os 3 .any ((Rows.OpenSpec.upto Rows.predicateNeverSpec).pre6 enc Tryz.prog Tryz.f3 Rows.predicateNeverUptoRow.domain false) (((Rows.OpenSpec.upto Rows.predicateNeverSpec).at F).post enc Tryz.prog Tryz.f3 false true false false) := by
  refine returnsInHanded_of_cond (C := Tryz.checked) (s := Rows.OpenSpec.upto Rows.predicateNeverSpec) (k := Rows.uptoSmall) rfl own started (by kernel_rfl) Tryz.func3
    (OpenSpec.witness (enc := enc) (C := Tryz.checked) (s := Rows.OpenSpec.upto Rows.predicateNeverSpec) (k := Rows.uptoSmall) rfl false ⟨#[], #[.agg #[.int .i64 0, .int .i64 0, .int .i64 0, .int .i64 0, .string .empty, .string .empty, .slice none 0 0]], []⟩ 8 (by kernel_rfl) (by kernel_rfl) (by kernel_rfl)
      (x := ([.agg [.lit (.int .i64 0), .lit (.int .i64 0), .agg [.lit (.int .i64 0), .lit (.int .i64 0), .lit (.string [])], .lit (.string []), .nil]], [], [])) (by kernel_rfl) rfl (by kernel_rfl)) ?_
  intro W base args ds gs before hval hW _ hk _
  have hp : Tryz.f3.params = #[26] := Tryz.params3
  have hb : Rows.uptoBulkAll ds ≤ 1048576 := by
    have hW2 := hW
    obtain ⟨p, q, hA, hV, rfl, hfz, hnd⟩ := hW2
    obtain ⟨rfl, rfl⟩ := Go.ChangeShapes.trodVars_none hV
    have h := of_decide_eq_true hk
    simpa using h
  have hr : ([26] : List TypeId).all (fun t => Tryz.prog.readableRec t && decide (t < Tryz.prog.types.size)) = true := by kernel_rfl
  refine law_contract (S := [26, 3, 23, 9, 24]) (bt := 4) (bulkR H) (by kernel_rfl) (by rw [hp]; intro t ht; revert t; decide) (by rw [hp]; intro t ht; have := List.all_eq_true.1 hr t ht; simpa using this) (by kernel_rfl) rfl (by kernel_rfl) Tryz.underlying4 (fun hl => ?_) hval hW (fun dss h hu => ?_)
  · rw [hp] at hl
    match ds, hl with
    | [d0], _ => rfl
  · rw [hp] at h ⊢
    exact law dss h (Nat.le_trans hu hb)
theorem over : Rows.predicateNeverUptoRow.holds Tryz.pinned (Rows.OpenSpec.upto Rows.predicateNeverSpec) :=
  OpenClaim.holds_of_cond 3 Tryz.f3 rfl rfl rfl rfl rfl rfl rfl ⟨rfl, rfl, rfl, rfl, rfl⟩ rfl rfl rfl rfl rfl (by kernel_rfl) Tryz.func3 (by kernel_rfl)
    (of_decide_eq_true (by kernel_rfl)) (by unfold Func.isWrapper; first | (rw [if_pos (by decide +kernel)]; kernel_rfl) | (rw [if_neg (by decide +kernel)]; exact ⟨rfl, rfl⟩))
    (fun os started H enc _ F => lifted os started H enc F)
theorem proved : Rows.PredicateNeverUptoSaid := over
end Go.Proofs.YtdhdhhgdeokiiaaGreat.predicateNever
