/- EvolveValid, where what it reads is of bulk at most 1048576: the law returns true, and its arguments read as they did. -/
import Derived.Test.YtjngjdgimlnnjaaQ8
import Derived.Test.YtjngjdgimlnnjaaRows
import Derived.JoinedCond
set_option linter.unusedVariables false
set_option linter.unusedSimpArgs false
set_option maxRecDepth 20000
namespace Go.Proofs.Ytjngjdgimlnnjaa.evolveValid
open Go.Bi Go.Proofs
theorem own : ownKnob Try.prog.godebug = none := by kernel_rfl
theorem law (dss : List (List D)) (h : WTs Try.prog [27, 33] dss) (hb : bulkLL dss ≤ 1048576) : Pure Try.prog 4 (avs Try.prog [27, 33] dss) (.d (.bool true)) := by
 match dss, h with
 | [d, e], ⟨_, h1, _, h2, _⟩ =>
  obtain ⟨x, rfl, hx⟩ := wt_td h1
  obtain ⟨c, rfl⟩ := wt_ch h2
  have hd : bulkL c.ds ≤ 1048576 := by simp only [bulkLL] at hb; omega
  have ht : bulkL x.ds ≤ 1048576 := by simp only [bulkLL] at hb; omega
  have e : avs Try.prog [27, 33] [x.ds, c.ds] = [x.av, c.av] := by simp only [avs]; rw [av_ch, av_tb]
  rw [e]
  exact L.EvolveValid x (td_ok ht hx) c (ch_cok hd)
set_option maxRecDepth 100000 in
theorem lifted (os : Os) (started : os.Started) (H : Type) (enc : TypeId × Value → H) (F : Stop.Interp) :
  ReturnsInHanded {} Try.checked os 4 .any ((Rows.OpenSpec.upto Rows.evolveValidSpec).pre6 enc Try.prog Try.f4 Rows.evolveValidUptoRow.domain false) (((Rows.OpenSpec.upto Rows.evolveValidSpec).at F).post enc Try.prog Try.f4 false true false false) := by
 refine returnsInHanded_of_cond (C := Try.checked) (s := Rows.OpenSpec.upto Rows.evolveValidSpec) (k := Rows.uptoSmall) rfl own started (by kernel_rfl) Try.func4
  (OpenSpec.witness (enc := enc) (C := Try.checked) (s := Rows.OpenSpec.upto Rows.evolveValidSpec) (k := Rows.uptoSmall) rfl false ⟨#[], #[.agg #[.string .empty, .slice none 0 0, .slice none 0 0, .slice none 0 0, .slice none 0 0], .agg #[.int .i64 0, .string .empty, .string .empty, .string .empty, .int .i64 0, .bool false, .int .i64 0, .int .i64 0, .string .empty]], []⟩ 8 (by kernel_rfl) (by kernel_rfl) (by kernel_rfl)
   (x := ([.agg [.lit (.string []), .nil, .nil, .nil, .nil], .agg [.lit (.int .i64 0), .lit (.string []), .lit (.string []), .agg [.lit (.string []), .lit (.int .i64 0), .lit (.bool false)], .agg [.lit (.int .i64 0), .lit (.int .i64 0), .lit (.string [])]]], [], [])) (by kernel_rfl) rfl (by kernel_rfl)) ?_
 intro W base args ds gs before hval hW _ hk _
 have hp : Try.f4.params = #[27, 33] := Try.params4
 have hb : Rows.uptoBulkAll ds ≤ 1048576 := by
  have hW2 := hW
  obtain ⟨p, q, hA, hV, rfl, hfz, hnd⟩ := hW2
  obtain ⟨rfl, rfl⟩ := Go.ChangeShapes.trodVars_none hV
  have h := of_decide_eq_true hk
  simpa using h
 have hr : ([27, 33] : List TypeId).all (fun t => Try.prog.readableRec t && decide (t < Try.prog.types.size)) = true := by kernel_rfl
 refine law_contract (S := [27, 9, 22, 29, 3, 4, 23, 24, 62, 25, 70, 31, 33]) (bt := 4) (bulkR H) (by kernel_rfl) (by rw [hp]; intro t ht; revert t; decide) (by rw [hp]; intro t ht; have := List.all_eq_true.1 hr t ht; simpa using this) (by kernel_rfl) rfl (by kernel_rfl) Try.underlying4 (fun hl => ?_) hval hW (fun dss h hu => ?_)
 ·rw [hp] at hl
  match ds, hl with
  | [d0, d1], _ => rfl
 ·rw [hp] at h ⊢
  exact law dss h (Nat.le_trans hu hb)
theorem over : Rows.evolveValidUptoRow.holds Try.pinned (Rows.OpenSpec.upto Rows.evolveValidSpec) :=
 OpenClaim.holds_of_cond 4 Try.f4 rfl rfl rfl rfl rfl rfl rfl ⟨rfl, rfl, rfl, rfl, rfl⟩ rfl rfl rfl rfl rfl (by kernel_rfl) Try.func4 (by kernel_rfl)
  (of_decide_eq_true (by kernel_rfl)) (by unfold Func.isWrapper; first | (rw [if_pos (by decide +kernel)]; kernel_rfl) | (rw [if_neg (by decide +kernel)]; exact ⟨rfl, rfl⟩))
  (fun os started H enc _ F => lifted os started H enc F)
theorem proved : Rows.EvolveValidUptoSaid := over
end Go.Proofs.Ytjngjdgimlnnjaa.evolveValid
