/- OptimizePushes, where what it reads is of bulk at most 1048576: the law returns true, and its arguments read as they did. -/
import Derived.Test.YtfnaleemmeejcaaGreatQ12
import Derived.Test.YtfnaleemmeejcaaGreatRows
import Derived.JoinedCond
set_option linter.unusedVariables false
set_option linter.unusedSimpArgs false
set_option maxRecDepth 20000
namespace Go.Proofs.YtfnaleemmeejcaaGreat.optimizePushes
open Go.Bi Go.Proofs
theorem own : ownKnob Tryz.prog.godebug = none := by kernel_rfl
theorem law (dss : List (List D)) (h : WTs Tryz.prog [32, 33] dss) (hb : D6 dss ≤ 1048576) : Pure Tryz.prog 3 (avs Tryz.prog [32, 33] dss) (.d (.bool true)) := by
 match dss, h with
 | [d, e], ⟨_, h1, _, h2, _⟩ =>
  obtain ⟨p, rfl⟩ := E0f h1
  obtain ⟨din, I, rfl, hin⟩ := E0b h2
  have k1 : p.bk ≤ 1024 * 1024 := by unfold Pl.bk; simp only [D6] at hb; omega
  have k2 : J8 [din] ≤ 1073741824 := by simp only [D6] at hb; omega
  obtain ⟨hl, ho⟩ := D4H hin k2
  have e : avs Tryz.prog [32, 33] [p.ds, [din]] = [p.av, .d din] := by simp only [avs]; rw [D4G, D4F]
  rw [e]
  exact C8V p k1 I hl ho din hin
set_option maxRecDepth 100000 in
theorem lifted (os : Os) (started : os.Started) (H : Type) (enc : TypeId × Value → H) (F : Stop.Interp) :
  ReturnsInHanded {} Tryz.checked os 3 .any ((Rows.OpenSpec.upto Rows.optimizePushesSpec).pre6 enc Tryz.prog Tryz.f3 Rows.optimizePushesUptoRow.domain false) (((Rows.OpenSpec.upto Rows.optimizePushesSpec).at F).post enc Tryz.prog Tryz.f3 false true false false) := by
 refine returnsInHanded_of_cond (C := Tryz.checked) (s := Rows.OpenSpec.upto Rows.optimizePushesSpec) (k := Rows.uptoSmall) rfl own started (by kernel_rfl) Tryz.func3
  (OpenSpec.witness (enc := enc) (C := Tryz.checked) (s := Rows.OpenSpec.upto Rows.optimizePushesSpec) (k := Rows.uptoSmall) rfl false ⟨#[], #[.agg #[.int .i64 0, .int .i64 0, .slice none 0 0, .slice none 0 0, .int .i64 0, .int .i64 0, .int .i64 0, .int .i64 0, .string .empty, .string .empty, .slice none 0 0, .slice none 0 0, .slice none 0 0, .slice none 0 0, .slice none 0 0], .slice none 0 0], []⟩ 8 (by kernel_rfl) (by kernel_rfl) (by kernel_rfl)
   (x := ([.agg [.lit (.int .i64 0), .lit (.int .i64 0), .nil, .nil, .agg [.lit (.int .i64 0), .lit (.int .i64 0), .agg [.lit (.int .i64 0), .lit (.int .i64 0), .lit (.string [])], .lit (.string []), .nil], .nil, .nil, .nil, .nil], .nil], [], [])) (by kernel_rfl) rfl (by kernel_rfl)) ?_
 intro W base args ds gs before hval hW _ hk _
 have hp : Tryz.f3.params = #[32, 33] := Tryz.params3
 have hb : Rows.uptoBulkAll ds ≤ 1048576 := by
  have hW2 := hW
  obtain ⟨p, q, hA, hV, rfl, hfz, hnd⟩ := hW2
  obtain ⟨rfl, rfl⟩ := Go.ChangeShapes.trodVars_none hV
  have h := of_decide_eq_true hk
  simpa using h
 have hr : ([32, 33] : List TypeId).all (fun t => Tryz.prog.readableRec t && decide (t < Tryz.prog.types.size)) = true := by kernel_rfl
 refine D7m (S := [32, 3, 22, 23, 78, 25, 9, 28, 26, 29, 99, 30, 33, 43]) (bt := 4) (D4U H) (by kernel_rfl) (by rw [hp]; intro t ht; revert t; decide) (by rw [hp]; intro t ht; have := L7.1 hr t ht; simpa using this) (by kernel_rfl) rfl (by kernel_rfl) Tryz.underlying4 (fun hl => ?_) hval hW (fun b hb => hb.elim) (fun dss h hu => ?_)
 ·rw [hp] at hl
  match ds, hl with
  | [d0, d1], _ => rfl
 ·rw [hp] at h ⊢
  exact law dss h (K4 hu hb)
theorem over : Rows.optimizePushesUptoRow.holds Tryz.pinned (Rows.OpenSpec.upto Rows.optimizePushesSpec) :=
 OpenClaim.holds_of_cond 3 Tryz.f3 rfl rfl rfl rfl rfl rfl rfl ⟨rfl, rfl, rfl, rfl, rfl⟩ rfl rfl rfl rfl rfl (by kernel_rfl) Tryz.func3 (by kernel_rfl)
  (of_decide_eq_true (by kernel_rfl)) (by unfold Func.isWrapper; first | (rw [if_pos (by decide +kernel)]; kernel_rfl) | (rw [if_neg (by decide +kernel)]; exact ⟨rfl, rfl⟩))
  (fun os started H enc _ F => lifted os started H enc F)
theorem proved : Rows.OptimizePushesUptoSaid := over
end Go.Proofs.YtfnaleemmeejcaaGreat.optimizePushes
