/- CatalogValid, where what it reads is of bulk at most 1048576: the law returns true, and its arguments read as they did. -/
import Derived.Test.YtnhhopmldgpglaaGreatQ11
import Derived.Test.YtnhhopmldgpglaaGreatRows
import Derived.JoinedCond
set_option linter.unusedVariables false
set_option linter.unusedSimpArgs false
set_option maxRecDepth 20000
namespace Go.Proofs.YtnhhopmldgpglaaGreat.catalogValid
open Go.Bi Go.Proofs
theorem own : ownKnob Tryz.prog.godebug = none := by kernel_rfl
theorem law (dss : List (List D)) (h : WTs Tryz.prog [22, 3, 28, 3] dss) (hb : G6 dss ≤ 1048576) : Pure Tryz.prog 6 (T9 Tryz.prog [22, 3, 28, 3] dss) (.d (.bool true)) := by
 match dss, h with
 | [d, e, f, g], ⟨_, h1, _, h2, _, h3, _, h4, _⟩ =>
  obtain ⟨dc, c, rfl, hc, hw⟩ := A6n h1
  have hd : E7 [dc] ≤ 1048576 := by simp only [G6] at hb; omega
  obtain ⟨hl, ho⟩ := A5q hc hw hd
  obtain ⟨n, rfl⟩ := A0w h2
  obtain ⟨x, rfl, hx⟩ := B0F h3
  obtain ⟨m, rfl⟩ := A0w h4
  have k1 : E7 x.ds ≤ 1048576 := by simp only [G6] at hb; omega
  have e : T9 Tryz.prog [22, 3, 28, 3] [[dc], [eI n], x.ds, [eI m]] = [.d dc, .d (eI n), x.av, .d (eI m)] := by simp only [T9]; rw [A55, A56, B61, A56]
  rw [e]
  exact C3R c hl ho dc hc n x (B0u k1 hx) m
set_option maxRecDepth 100000 in
theorem lifted (os : Os) (started : os.Started) (H : Type) (enc : TypeId × Value → H) (F : Stop.Interp) :
  ReturnsInHanded {} Tryz.checked os 6 .any ((Rows.OpenSpec.upto Rows.catalogValidSpec).pre6 enc Tryz.prog Tryz.f6 Rows.catalogValidUptoRow.domain false) (((Rows.OpenSpec.upto Rows.catalogValidSpec).at F).post enc Tryz.prog Tryz.f6 false true false false) := by
 refine returnsInHanded_of_cond (C := Tryz.checked) (s := Rows.OpenSpec.upto Rows.catalogValidSpec) (k := Rows.uptoSmall) rfl own started (by kernel_rfl) Tryz.func6
  (OpenSpec.witness (enc := enc) (C := Tryz.checked) (s := Rows.OpenSpec.upto Rows.catalogValidSpec) (k := Rows.uptoSmall) rfl false ⟨#[], #[.slice none 0 0, .int .i64 0, .agg #[.string .empty, .slice none 0 0, .slice none 0 0, .slice none 0 0, .slice none 0 0], .int .i64 0], []⟩ 8 (by kernel_rfl) (by kernel_rfl) (by kernel_rfl)
   (x := ([.nil, .lit (.int .i64 0), .agg [.lit (.string []), .nil, .nil, .nil, .nil], .lit (.int .i64 0)], [], [])) (by kernel_rfl) rfl (by kernel_rfl)) ?_
 intro W base args ds gs before hval hW _ hk _
 have hp : Tryz.f6.params = #[22, 3, 28, 3] := Tryz.params6
 have hb : Rows.uptoBulkAll ds ≤ 1048576 := by
  have hW2 := hW
  obtain ⟨p, q, hA, hV, rfl, hfz, hnd⟩ := hW2
  obtain ⟨rfl, rfl⟩ := Go.ChangeShapes.trodVars_none hV
  have h := of_decide_eq_true hk
  simpa using h
 have hr : ([22, 3, 28, 3] : List TypeId).all (fun t => Tryz.prog.readableRec t && decide (t < Tryz.prog.types.size)) = true := by kernel_rfl
 refine A5F (S := [22, 57, 3, 9, 28, 23, 30, 4, 24, 25, 61, 26, 86, 32, 34]) (bt := 4) (A5a H) (by kernel_rfl) (by rw [hp]; intro t ht; revert t; decide) (by rw [hp]; intro t ht; have := O3.1 hr t ht; simpa using this) (by kernel_rfl) rfl (by kernel_rfl) Tryz.underlying4 (fun hl => ?_) hval hW (fun b hb => hb.elim) (fun dss h hu => ?_)
 ·rw [hp] at hl
  match ds, hl with
  | [d0, d1, d2, d3], _ => rfl
 ·rw [hp] at h ⊢
  exact law dss h (N7 hu hb)
theorem over : Rows.catalogValidUptoRow.holds Tryz.pinned (Rows.OpenSpec.upto Rows.catalogValidSpec) :=
 OpenClaim.holds_of_cond 6 Tryz.f6 rfl rfl rfl rfl rfl rfl rfl ⟨rfl, rfl, rfl, rfl, rfl⟩ rfl rfl rfl rfl rfl (by kernel_rfl) Tryz.func6 (by kernel_rfl)
  (of_decide_eq_true (by kernel_rfl)) (by unfold Func.isWrapper; first | (rw [if_pos (by decide +kernel)]; kernel_rfl) | (rw [if_neg (by decide +kernel)]; exact ⟨rfl, rfl⟩))
  (fun os started H enc _ F => lifted os started H enc F)
theorem proved : Rows.CatalogValidUptoSaid := over
end Go.Proofs.YtnhhopmldgpglaaGreat.catalogValid
