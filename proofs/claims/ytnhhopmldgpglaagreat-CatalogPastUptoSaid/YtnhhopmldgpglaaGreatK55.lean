/- CatalogPast, where what it reads is of bulk at most 1048576: the law returns true, and its arguments read as they did. -/
import Derived.Test.YtnhhopmldgpglaaGreatQ11
import Derived.Test.YtnhhopmldgpglaaGreatRows
import Derived.JoinedCond
set_option linter.unusedVariables false
set_option linter.unusedSimpArgs false
set_option maxRecDepth 20000
namespace Go.Proofs.YtnhhopmldgpglaaGreat.catalogPast
open Go.Bi Go.Proofs
theorem own : ownKnob Tryz.prog.godebug = none := by kernel_rfl
theorem law (dss : List (List D)) (h : WTs Tryz.prog [22, 3, 9] dss) (hb : G6 dss ≤ 1048576) : Pure Tryz.prog 7 (T9 Tryz.prog [22, 3, 9] dss) (.d (.bool true)) := by
 match dss, h with
 | [d, e, f], ⟨_, h1, _, h2, _, h3, _⟩ =>
  obtain ⟨dc, c, rfl, hc, hw⟩ := A6n h1
  have hd : E7 [dc] ≤ 1048576 := by simp only [G6] at hb; omega
  obtain ⟨hl, ho⟩ := A5q hc hw hd
  obtain ⟨n, rfl⟩ := A0w h2
  obtain ⟨s, rfl⟩ := A0V h3
  have e : T9 Tryz.prog [22, 3, 9] [[dc], [eI n], [.str s]] = [.d dc, .d (eI n), .d (.str s)] := by simp only [T9]; rw [A55, A56, A9i]
  rw [e]
  exact C3P c hl ho dc hc n s
set_option maxRecDepth 100000 in
theorem lifted (os : Os) (started : os.Started) (H : Type) (enc : TypeId × Value → H) (F : Stop.Interp) :
  ReturnsInHanded {} Tryz.checked os 7 .any ((Rows.OpenSpec.upto Rows.catalogPastSpec).pre6 enc Tryz.prog Tryz.f7 Rows.catalogPastUptoRow.domain false) (((Rows.OpenSpec.upto Rows.catalogPastSpec).at F).post enc Tryz.prog Tryz.f7 false true false false) := by
 refine returnsInHanded_of_cond (C := Tryz.checked) (s := Rows.OpenSpec.upto Rows.catalogPastSpec) (k := Rows.uptoSmall) rfl own started (by kernel_rfl) Tryz.func7
  (OpenSpec.witness (enc := enc) (C := Tryz.checked) (s := Rows.OpenSpec.upto Rows.catalogPastSpec) (k := Rows.uptoSmall) rfl false ⟨#[], #[.slice none 0 0, .int .i64 0, .string .empty], []⟩ 8 (by kernel_rfl) (by kernel_rfl) (by kernel_rfl)
   (x := ([.nil, .lit (.int .i64 0), .lit (.string [])], [], [])) (by kernel_rfl) rfl (by kernel_rfl)) ?_
 intro W base args ds gs before hval hW _ hk _
 have hp : Tryz.f7.params = #[22, 3, 9] := Tryz.params7
 have hb : Rows.uptoBulkAll ds ≤ 1048576 := by
  have hW2 := hW
  obtain ⟨p, q, hA, hV, rfl, hfz, hnd⟩ := hW2
  obtain ⟨rfl, rfl⟩ := Go.ChangeShapes.trodVars_none hV
  have h := of_decide_eq_true hk
  simpa using h
 have hr : ([22, 3, 9] : List TypeId).all (fun t => Tryz.prog.readableRec t && decide (t < Tryz.prog.types.size)) = true := by kernel_rfl
 refine A5F (S := [22, 57, 3, 9, 28, 23, 30, 4, 24, 25, 61, 26, 86, 32, 34]) (bt := 4) (A5a H) (by kernel_rfl) (by rw [hp]; intro t ht; revert t; decide) (by rw [hp]; intro t ht; have := O3.1 hr t ht; simpa using this) (by kernel_rfl) rfl (by kernel_rfl) Tryz.underlying4 (fun hl => ?_) hval hW (fun b hb => hb.elim) (fun dss h hu => ?_)
 ·rw [hp] at hl
  match ds, hl with
  | [d0, d1, d2], _ => rfl
 ·rw [hp] at h ⊢
  exact law dss h (N7 hu hb)
theorem over : Rows.catalogPastUptoRow.holds Tryz.pinned (Rows.OpenSpec.upto Rows.catalogPastSpec) :=
 OpenClaim.holds_of_cond 7 Tryz.f7 rfl rfl rfl rfl rfl rfl rfl ⟨rfl, rfl, rfl, rfl, rfl⟩ rfl rfl rfl rfl rfl (by kernel_rfl) Tryz.func7 (by kernel_rfl)
  (of_decide_eq_true (by kernel_rfl)) (by unfold Func.isWrapper; first | (rw [if_pos (by decide +kernel)]; kernel_rfl) | (rw [if_neg (by decide +kernel)]; exact ⟨rfl, rfl⟩))
  (fun os started H enc _ F => lifted os started H enc F)
theorem proved : Rows.CatalogPastUptoSaid := over
end Go.Proofs.YtnhhopmldgpglaaGreat.catalogPast
