/- MappingColumns, where what it reads is of bulk at most 1048576: the law returns true, and its arguments read as they did; the card's tables are tied. -/
import Derived.Test.YtlkkaepbnnakpaaGreatDoorQ12
import Derived.Test.YtlkkaepbnnakpaaGreatDoorCards
import Derived.Test.YtlkkaepbnnakpaaGreatDoorTie
import Derived.OpenShut
import Derived.Deep.DeepHandedRow
import Derived.JoinedCond
set_option linter.unusedVariables false
set_option linter.unusedSimpArgs false
set_option maxRecDepth 20000
namespace Go.Proofs.YtlkkaepbnnakpaaGreatDoor.mappingColumns
open Go.Bi Go.Proofs Go.ChangeShapes Go.WideShapes Go.ChangeAt Go.RowKit
theorem own : ownKnob Tryz.prog.godebug = none := by kernel_rfl
theorem law (dss : List (List D)) (h : WTs Tryz.prog [45, 3] dss) (hb : G6 dss ≤ 1048576) : Pure Tryz.prog 8 (Z6 Tryz.prog [45, 3] dss) (.d (.bool true)) := by
 match dss, h with
 | [d, e], ⟨_, h1, _, h2, _⟩ =>
  obtain ⟨x, l, d, a, b, row, dr, rfl, hx, hl, hr⟩ := B1v h1
  obtain ⟨n, rfl⟩ := A1q h2
  have ht : E4 (caL x d a b dr) ≤ 1048576 := by simp only [G6] at hb; omega
  obtain ⟨k1, k2, k3, k4⟩ := A9T ht hx hl hr
  have e : Z6 Tryz.prog [45, 3] [caL x d a b dr, [eI n]] = [caD x d a b dr, .d (eI n)] := by simp only [Z6]; rw [A9M, B6D]
  rw [e]
  exact C4x x k1 l k2.1 k2.2 d hl a b dr n
abbrev wArgs : Array Value := #[.agg #[.string .empty, .slice none 0 0, .slice none 0 0, .slice none 0 0, .slice none 0 0, .slice none 0 0, .int .i64 0, .int .i64 0, .slice none 0 0], .int .i64 0]
theorem reads (os : Os) {H : Type} (enc : TypeId × Value → H) : ∃ places, DataW.whole enc Tryz.prog ((A1Q os).forCall (fun _ _ => 0) ⟨#[], wArgs, []⟩).memory Tryz.f8.params.toList Rows.mappingColumnsSpec.vars false wArgs.toList 8 = some ([.agg [.agg [.lit (.string []), .nil, .nil, .nil, .nil], .nil, .lit (.int .i64 0), .lit (.int .i64 0), .nil], .lit (.int .i64 0)], [], places) :=
 ⟨[], by kernel_rfl⟩
set_option maxRecDepth 100000 in
theorem lifted (os : Os) (started : os.Started) (H : Type) (enc : TypeId × Value → H) (F : Stop.Interp) :
  ReturnsInHanded {} Tryz.checked os 8 .any ((Rows.OpenSpec.upto Rows.mappingColumnsSpec).preRow enc Tryz.prog Tryz.f8 Rows.mappingColumnsUptoRow.domain false Rows.mappingColumnsUptoRow.laid) (((Rows.OpenSpec.upto Rows.mappingColumnsSpec).at F).post enc Tryz.prog Tryz.f8 false true false false) := by
 obtain ⟨places, hx⟩ := reads os enc
 refine returnsInHanded_of_row (C := Tryz.checked) (s := Rows.OpenSpec.upto Rows.mappingColumnsSpec) own started (by kernel_rfl) Tryz.func8
  (witness_row_at (enc := enc) (C := Tryz.checked) false (A1Q os) wArgs rfl (B1u os wArgs) (B11 os wArgs) (by kernel_rfl)
   (OpenSpec.preRow_of_cond 8 hx (by kernel_rfl) (fun k hk => by cases hk; kernel_rfl) (by kernel_rfl) (B0B os wArgs))) ?_
 intro W base args ds gs before hval hW _ hk _ hL hsh _
 have hp : Tryz.f8.params = #[45, 3] := Tryz.params8
 have hb : Rows.uptoBulkAll ds ≤ 1048576 := by
  have hW2 := hW
  obtain ⟨p, q, hA, hV, rfl, hfz, hnd⟩ := hW2
  obtain ⟨rfl, rfl⟩ := Go.ChangeShapes.trodVars_none hV
  have h := of_decide_eq_true (hk _ rfl)
  simpa using h
 have hr : ([45, 3] : List TypeId).all (fun t => Tryz.prog.readableRec t && decide (t < Tryz.prog.types.size)) = true := by kernel_rfl
 refine B0C (S := [45, 27, 9, 22, 29, 3, 4, 23, 24, 79, 25, 105, 31, 39, 33, 34]) (bt := 4) (A9P H) (by kernel_rfl) (by rw [hp]; intro t ht; revert t; decide) (by rw [hp]; intro t ht; have := M5.1 hr t ht; simpa using this) (by kernel_rfl) rfl (by kernel_rfl) Tryz.underlying4 (fun hl => ?_) hval hW (B0v hL hsh) (fun dss h hu => ?_)
 ·rw [hp] at hl
  match ds, hl with
  | [d0, d1], _ => rfl
 ·rw [hp] at h ⊢
  exact law dss h (O9 hu hb)
theorem over : Rows.mappingColumnsUptoRow.holds Tryz.pinned (Rows.OpenSpec.upto Rows.mappingColumnsSpec) :=
 OpenClaim.holds_of_cond 8 Tryz.f8 rfl rfl rfl rfl rfl rfl rfl ⟨rfl, rfl, rfl, rfl, rfl⟩ rfl rfl rfl rfl rfl (by kernel_rfl) Tryz.func8 (by kernel_rfl)
  (of_decide_eq_true (by kernel_rfl)) (by unfold Func.isWrapper; first | (rw [if_pos (by decide +kernel)]; kernel_rfl) | (rw [if_neg (by decide +kernel)]; exact ⟨rfl, rfl⟩))
  (fun os started H enc _ F => by rw [OpenClaim.pre_eq_preRow]; exact lifted os started H enc F)
theorem plain (f : FuncId) (fn : Func) (hf : Tryz.pinned.checked.prog.funcNamed "bitemporal/bitemporallaw15.MappingColumns" = some f) (hfn : Tryz.pinned.checked.prog.funcs[f]? = some fn) :
  false = Tryz.pinned.checked.prog.looks [] ∧ ∀ (j : Nat) t, fn.params[j]? = some t → Tryz.pinned.checked.prog.wantsStandIn t = false := by
 obtain rfl : f = 8 := j7 ((show Tryz.prog.funcNamed "bitemporal/bitemporallaw15.MappingColumns" = some 8 by kernel_rfl).symm.trans hf) |>.symm
 obtain rfl : fn = Tryz.f8 := (j7 (Tryz.func8.symm.trans hfn)).symm
 refine ⟨by kernel_rfl, fun j t ht => ?_⟩
 have hp : Tryz.f8.params = #[45, 3] := Tryz.params8
 rw [hp] at ht
 have hr : ([45, 3] : List TypeId).all (fun t => !(Tryz.prog.wantsStandIn t)) = true := by kernel_rfl
 have := M5.1 hr t (by simpa using Array.mem_of_getElem? ht)
 exact (by simpa using this : Tryz.prog.wantsStandIn t = false)
theorem proved : Rows.MappingColumnsUptoCardSaid :=
 Claim7.holds_tied_plain_at .later [] _ _ _ _ over (fun _ h => by cases h) (by kernel_rfl) (fun _ h => by cases h) mappingColumnsUpto_row_tie rfl ⟨rfl, rfl⟩ (by kernel_rfl) rfl plain (by kernel_rfl)
end Go.Proofs.YtlkkaepbnnakpaaGreatDoor.mappingColumns
