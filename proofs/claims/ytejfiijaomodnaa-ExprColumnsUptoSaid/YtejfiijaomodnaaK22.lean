/- ExprColumns, where what it reads is of bulk at most 1048576: the law returns true, and its arguments read as they did. -/
import Derived.Test.YtejfiijaomodnaaQ6
import Derived.Test.YtejfiijaomodnaaRows
import Derived.JoinedCond
set_option linter.unusedVariables false
set_option linter.unusedSimpArgs false
set_option maxRecDepth 20000
namespace Go.Proofs.Ytejfiijaomodnaa.exprColumns
open Go.Bi Go.Proofs

theorem own : ownKnob Try.prog.godebug = none := by kernel_rfl
theorem law (dss : List (List D)) (h : WTs Try.prog [26, 27, 27, 27] dss) (hb : bulkLL dss ≤ 1048576) : Pure Try.prog 3 (avs Try.prog [26, 27, 27, 27] dss) (.d (.bool true)) := by
  match dss, h with
  | [d, e, f, g], ⟨_, h1, _, h2, _, h3, _, h4, _⟩ =>
    obtain ⟨x, rfl⟩ := wt_ex h1
    obtain ⟨dr, row, rfl, hr⟩ := wt_vals h2
    obtain ⟨dO, other, rfl, ho⟩ := wt_vals h3
    obtain ⟨db, before, rfl, hf⟩ := wt_vals h4
    have vr := vals_bulk hr
    have vo := vals_bulk ho
    have vf := vals_bulk hf
    have hbb : bulkL x.ds + bulkL [dr] + bulkL [dO] + bulkL [db] ≤ 1048576 := by simp only [bulkLL] at hb; omega
    have hx : x.bk ≤ 1048576 := by unfold Ex.bk; omega
    have e : avs Try.prog [26, 27, 27, 27] [x.ds, [dr], [dO], [db]] = [x.av, .d dr, .d dO, .d db] := by simp only [avs]; rw [av_ex, av_vals, av_vals, av_vals]
    rw [e]
    exact L.ExprColumns x hx row other before (by omega) (fun v hv => by have := vr.2 v hv; omega) (fun v hv => by have := vo.2 v hv; omega) (fun v hv => by have := vf.2 v hv; omega) dr hr dO ho db hf

set_option maxRecDepth 100000 in
theorem lifted (os : Os) (started : os.Started) (H : Type) (enc : TypeId × Value → H) (F : Stop.Interp) :
    ReturnsInHanded {} Try.checked os 3 .any ((Rows.OpenSpec.upto Rows.exprColumnsSpec).pre6 enc Try.prog Try.f3 Rows.exprColumnsUptoRow.domain false) (((Rows.OpenSpec.upto Rows.exprColumnsSpec).at F).post enc Try.prog Try.f3 false true false false) := by
  refine returnsInHanded_of_cond (C := Try.checked) (s := Rows.OpenSpec.upto Rows.exprColumnsSpec) (k := Rows.uptoSmall) rfl own started (by kernel_rfl) Try.func3
    (OpenSpec.witness (enc := enc) (C := Try.checked) (s := Rows.OpenSpec.upto Rows.exprColumnsSpec) (k := Rows.uptoSmall) rfl false ⟨#[], #[.agg #[.int .i64 0, .int .i64 0, .int .i64 0, .int .i64 0, .string .empty, .string .empty, .slice none 0 0], .slice none 0 0, .slice none 0 0, .slice none 0 0], []⟩ 8 (by kernel_rfl) (by kernel_rfl) (by kernel_rfl)
      (x := ([.agg [.lit (.int .i64 0), .lit (.int .i64 0), .agg [.lit (.int .i64 0), .lit (.int .i64 0), .lit (.string [])], .lit (.string []), .nil], .nil, .nil, .nil], [], [])) (by kernel_rfl) rfl (by kernel_rfl)) ?_
  intro W base args ds gs before hval hW _ hk _
  have hp : Try.f3.params = #[26, 27, 27, 27] := Try.params3
  have hb : Rows.uptoBulkAll ds ≤ 1048576 := by
    have hW2 := hW
    obtain ⟨p, q, hA, hV, rfl, hfz, hnd⟩ := hW2
    obtain ⟨rfl, rfl⟩ := Go.ChangeShapes.trodVars_none hV
    have h := of_decide_eq_true hk
    simpa using h
  have hr : ([26, 27, 27, 27] : List TypeId).all (fun t => Try.prog.readableRec t && decide (t < Try.prog.types.size)) = true := by kernel_rfl
  refine law_contract (S := [26, 3, 23, 9, 24, 27]) (bt := 4) (bulkR H) (by kernel_rfl) (by rw [hp]; intro t ht; revert t; decide) (by rw [hp]; intro t ht; have := List.all_eq_true.1 hr t ht; simpa using this) (by kernel_rfl) rfl (by kernel_rfl) Try.underlying4 (fun hl => ?_) hval hW (fun dss h hu => ?_)
  · rw [hp] at hl
    match ds, hl with
    | [d0, d1, d2, d3], _ => rfl
  · rw [hp] at h ⊢
    exact law dss h (Nat.le_trans hu hb)
theorem over : Rows.exprColumnsUptoRow.holds Try.pinned (Rows.OpenSpec.upto Rows.exprColumnsSpec) :=
  OpenClaim.holds_of_cond 3 Try.f3 rfl rfl rfl rfl rfl rfl rfl ⟨rfl, rfl, rfl, rfl, rfl⟩ rfl rfl rfl rfl rfl (by kernel_rfl) Try.func3 (by kernel_rfl)
    (of_decide_eq_true (by kernel_rfl)) (by unfold Func.isWrapper; first | (rw [if_pos (by decide +kernel)]; kernel_rfl) | (rw [if_neg (by decide +kernel)]; exact ⟨rfl, rfl⟩))
    (fun os started H enc _ F => lifted os started H enc F)
theorem proved : Rows.ExprColumnsUptoSaid := over
end Go.Proofs.Ytejfiijaomodnaa.exprColumns
