/- TopLog, where what it reads is of bulk at most 1048576: the law returns true, and its arguments read as they did. -/
import Derived.Test.YthaildbjjlpdgaaGreatQ6
import Derived.Test.YthaildbjjlpdgaaGreatRows
import Derived.JoinedCond
set_option linter.unusedVariables false
set_option linter.unusedSimpArgs false
set_option maxRecDepth 20000
namespace Go.Proofs.YthaildbjjlpdgaaGreat.topLog
open Go.Bi Go.Proofs
theorem own : ownKnob Tryz.prog.godebug = none := by kernel_rfl
theorem law (dss : List (List D)) (h : WTs Tryz.prog [22, 3, 24] dss) (hb : bulkLL dss ≤ 1048576) : Pure Tryz.prog 3 (avs Tryz.prog [22, 3, 24] dss) (.d (.bool true)) := by
 match dss, h with
 | [d, e, f], ⟨_, h1, _, h2, _, h3, _⟩ =>
  obtain ⟨nl, l, rfl⟩ := wt_zsCommit h1
  obtain ⟨sy, rfl⟩ := wt_int h2
  obtain ⟨p, rfl⟩ := wt_zPair h3
  have k1 : bulkL [ng nl (eCm l)] ≤ 1048576 := by simp only [bulkLL] at hb; omega
  obtain ⟨q1, q2⟩ := cms_bulk (sld_ng (nl := nl)) k1
  have e : avs Tryz.prog [22, 3, 24] [[ng nl (eCm l)], [eI sy], [eI p.1, eI p.2]] = [.d (ng nl (eCm l)), .d (eI sy), .agg [.d (eI p.1), .d (eI p.2)]] := by simp only [avs]; rw [av_cms, av_int, av_pair]
  rw [e]
  exact C.TopLog l q1 q2 _ sld_ng sy p.1 p.2
set_option maxRecDepth 100000 in
theorem lifted (os : Os) (started : os.Started) (H : Type) (enc : TypeId × Value → H) (F : Stop.Interp) :
  ReturnsInHanded {} Tryz.checked os 3 .any ((Rows.OpenSpec.upto Rows.topLogSpec).pre6 enc Tryz.prog Tryz.f3 Rows.topLogUptoRow.domain false) (((Rows.OpenSpec.upto Rows.topLogSpec).at F).post enc Tryz.prog Tryz.f3 false true false false) := by
 refine returnsInHanded_of_cond (C := Tryz.checked) (s := Rows.OpenSpec.upto Rows.topLogSpec) (k := Rows.uptoSmall) rfl own started (by kernel_rfl) Tryz.func3
  (OpenSpec.witness (enc := enc) (C := Tryz.checked) (s := Rows.OpenSpec.upto Rows.topLogSpec) (k := Rows.uptoSmall) rfl false ⟨#[], #[.slice none 0 0, .int .i64 0, .agg #[.int .i64 0, .int .i64 0]], []⟩ 8 (by kernel_rfl) (by kernel_rfl) (by kernel_rfl)
   (x := ([.nil, .lit (.int .i64 0), .agg [.lit (.int .i64 0), .lit (.int .i64 0)]], [], [])) (by kernel_rfl) rfl (by kernel_rfl)) ?_
 intro W base args ds gs before hval hW _ hk _
 have hp : Tryz.f3.params = #[22, 3, 24] := Tryz.params3
 have hb : Rows.uptoBulkAll ds ≤ 1048576 := by
  have hW2 := hW
  obtain ⟨p, q, hA, hV, rfl, hfz, hnd⟩ := hW2
  obtain ⟨rfl, rfl⟩ := Go.ChangeShapes.trodVars_none hV
  have h := of_decide_eq_true hk
  simpa using h
 have hr : ([22, 3, 24] : List TypeId).all (fun t => Tryz.prog.readableRec t && decide (t < Tryz.prog.types.size)) = true := by kernel_rfl
 refine law_contract (S := [22, 44, 3, 37, 87, 9, 79, 75, 81, 4, 73, 76, 218, 77, 222, 83, 85, 38, 93, 91, 175, 173, 98, 39, 102, 100, 40, 41, 110, 42, 115, 24]) (bt := 4) (bulkR H) (by kernel_rfl) (by rw [hp]; intro t ht; revert t; decide) (by rw [hp]; intro t ht; have := List.all_eq_true.1 hr t ht; simpa using this) (by kernel_rfl) rfl (by kernel_rfl) Tryz.underlying4 (fun hl => ?_) hval hW (fun b hb => hb.elim) (fun dss h hu => ?_)
 ·rw [hp] at hl
  match ds, hl with
  | [d0, d1, d2], _ => rfl
 ·rw [hp] at h ⊢
  exact law dss h (Nat.le_trans hu hb)
theorem over : Rows.topLogUptoRow.holds Tryz.pinned (Rows.OpenSpec.upto Rows.topLogSpec) :=
 OpenClaim.holds_of_cond 3 Tryz.f3 rfl rfl rfl rfl rfl rfl rfl ⟨rfl, rfl, rfl, rfl, rfl⟩ rfl rfl rfl rfl rfl (by kernel_rfl) Tryz.func3 (by kernel_rfl)
  (of_decide_eq_true (by kernel_rfl)) (by unfold Func.isWrapper; first | (rw [if_pos (by decide +kernel)]; kernel_rfl) | (rw [if_neg (by decide +kernel)]; exact ⟨rfl, rfl⟩))
  (fun os started H enc _ F => lifted os started H enc F)
theorem proved : Rows.TopLogUptoSaid := over
end Go.Proofs.YthaildbjjlpdgaaGreat.topLog
