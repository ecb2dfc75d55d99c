/- ExprChanges, where what it reads is of bulk at most 1048576: the law returns true, and its arguments read as they did. -/
import Derived.Test.YtejfiijaomodnaaQ6
import Derived.Test.YtejfiijaomodnaaRows
import Derived.JoinedCond
set_option linter.unusedVariables false
set_option linter.unusedSimpArgs false
set_option maxRecDepth 20000
namespace Go.Proofs.Ytejfiijaomodnaa.exprChanges
open Go.Bi Go.Proofs

theorem own : ownKnob Try.prog.godebug = none := by kernel_rfl
theorem av_exs' (d : D) : avOf Try.prog T.exs [d] = .d d := by unfold avOf; rw [Try.underlying24]
theorem law (dss : List (List D)) (h : WTs Try.prog [26, 3, 24] dss) (hb : bulkLL dss ≤ 1048576) : Pure Try.prog 4 (avs Try.prog [26, 3, 24] dss) (.d (.bool true)) := by
  match dss, h with
  | [d, e, f], ⟨_, h1, _, h2, _, h3, _⟩ =>
    obtain ⟨x, rfl⟩ := wt_ex h1
    obtain ⟨a, rfl⟩ := wt_int h2
    obtain ⟨nl, l, rfl, hl⟩ := wt_exsr h3
    have hx : x.bk ≤ 1048576 := by simp only [bulkLL] at hb; unfold Ex.bk; omega
    have hb2 : bulkLL (xL l) ≤ 1048576 := by simp only [bulkLL, bulkL, bulk_ng] at hb; omega
    have hlb : ∀ x ∈ l, x.bk ≤ 1048576 := fun x hx => by
      have : bulkL x.ds ≤ bulkLL (xL l) := bulkLL_mem (List.mem_map.2 ⟨x, hx, rfl⟩ : x.ds ∈ xL l)
      unfold Ex.bk
      omega
    have e : avs Try.prog [26, 3, 24] [x.ds, [eI a], [ng nl (xL l)]] = [x.av, .d (eI a), .d (ng nl (xL l))] := by simp only [avs]; rw [av_ex, av_int, av_exs']
    rw [e]
    exact L.ExprChanges x hx a l (Nat.le_trans (xL_bulk_len l) hb2) hlb hl _ sld_ng

set_option maxRecDepth 100000 in
theorem lifted (os : Os) (started : os.Started) (H : Type) (enc : TypeId × Value → H) (F : Stop.Interp) :
    ReturnsInHanded {} Try.checked os 4 .any ((Rows.OpenSpec.upto Rows.exprChangesSpec).pre6 enc Try.prog Try.f4 Rows.exprChangesUptoRow.domain false) (((Rows.OpenSpec.upto Rows.exprChangesSpec).at F).post enc Try.prog Try.f4 false true false false) := by
  refine returnsInHanded_of_cond (C := Try.checked) (s := Rows.OpenSpec.upto Rows.exprChangesSpec) (k := Rows.uptoSmall) rfl own started (by kernel_rfl) Try.func4
    (OpenSpec.witness (enc := enc) (C := Try.checked) (s := Rows.OpenSpec.upto Rows.exprChangesSpec) (k := Rows.uptoSmall) rfl false ⟨#[], #[.agg #[.int .i64 0, .int .i64 0, .int .i64 0, .int .i64 0, .string .empty, .string .empty, .slice none 0 0], .int .i64 0, .slice none 0 0], []⟩ 8 (by kernel_rfl) (by kernel_rfl) (by kernel_rfl)
      (x := ([.agg [.lit (.int .i64 0), .lit (.int .i64 0), .agg [.lit (.int .i64 0), .lit (.int .i64 0), .lit (.string [])], .lit (.string []), .nil], .lit (.int .i64 0), .nil], [], [])) (by kernel_rfl) rfl (by kernel_rfl)) ?_
  intro W base args ds gs before hval hW _ hk _
  have hp : Try.f4.params = #[26, 3, 24] := Try.params4
  have hb : Rows.uptoBulkAll ds ≤ 1048576 := by
    have hW2 := hW
    obtain ⟨p, q, hA, hV, rfl, hfz, hnd⟩ := hW2
    obtain ⟨rfl, rfl⟩ := Go.ChangeShapes.trodVars_none hV
    have h := of_decide_eq_true hk
    simpa using h
  have hr : ([26, 3, 24] : List TypeId).all (fun t => Try.prog.readableRec t && decide (t < Try.prog.types.size)) = true := by kernel_rfl
  refine law_contract (S := [26, 3, 23, 9, 24]) (bt := 4) (bulkR H) (by kernel_rfl) (by rw [hp]; intro t ht; revert t; decide) (by rw [hp]; intro t ht; have := List.all_eq_true.1 hr t ht; simpa using this) (by kernel_rfl) rfl (by kernel_rfl) Try.underlying4 (fun hl => ?_) hval hW (fun dss h hu => ?_)
  · rw [hp] at hl
    match ds, hl with
    | [d0, d1, d2], _ => rfl
  · rw [hp] at h ⊢
    exact law dss h (Nat.le_trans hu hb)
theorem over : Rows.exprChangesUptoRow.holds Try.pinned (Rows.OpenSpec.upto Rows.exprChangesSpec) :=
  OpenClaim.holds_of_cond 4 Try.f4 rfl rfl rfl rfl rfl rfl rfl ⟨rfl, rfl, rfl, rfl, rfl⟩ rfl rfl rfl rfl rfl (by kernel_rfl) Try.func4 (by kernel_rfl)
    (of_decide_eq_true (by kernel_rfl)) (by unfold Func.isWrapper; first | (rw [if_pos (by decide +kernel)]; kernel_rfl) | (rw [if_neg (by decide +kernel)]; exact ⟨rfl, rfl⟩))
    (fun os started H enc _ F => lifted os started H enc F)
theorem proved : Rows.ExprChangesUptoSaid := over
end Go.Proofs.Ytejfiijaomodnaa.exprChanges
