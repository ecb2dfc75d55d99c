/- TopVersions, where what it reads is of bulk at most 1048576: the law returns true, and its arguments read as they did; the card's tables are tied. -/
import Derived.Test.YtnhhopmldgpglaaGreatDoorQ13
import Derived.Test.YtnhhopmldgpglaaGreatDoorCards
import Derived.Test.YtnhhopmldgpglaaGreatDoorTie
import Derived.OpenShut
import Derived.Deep.DeepHandedRow
import Derived.JoinedCond
set_option linter.unusedVariables false
set_option linter.unusedSimpArgs false
set_option maxRecDepth 20000
namespace Go.Proofs.YtnhhopmldgpglaaGreatDoor.topVersions
open Go.Bi Go.Proofs Go.ChangeShapes Go.WideShapes Go.ChangeAt Go.RowKit
theorem own : ownKnob Tryz.prog.godebug = none := by kernel_rfl
theorem law (dss : List (List D)) (h : WTs Tryz.prog [27, 28, 29] dss) (hb : J6 dss ≤ 1048576) : Pure Tryz.prog 3 (avs Tryz.prog [27, 28, 29] dss) (.d (.bool true)) := by
 match dss, h with
 | [d, e, f], ⟨_, h1, _, h2, _, h3, _⟩ =>
  obtain ⟨x, rfl, hx⟩ := D2X h1
  obtain ⟨dl, l, rfl, hl⟩ := D2R h2
  obtain ⟨dr, row, rfl, hr⟩ := D2Y h3
  have hd : F2 [dl] ≤ 1048576 := by simp only [J6] at hb; omega
  have ht : F2 x.ds ≤ 1048576 := by simp only [J6] at hb; omega
  have hd2 : F2 [dr] ≤ 1048576 := by simp only [J6] at hb; omega
  have hv := D2E hr
  have e : avs Tryz.prog [27, 28, 29] [x.ds, [dl], [dr]] = [x.av, .d dl, .d dr] := by simp only [avs]; rw [C7o, C7n, C7p]
  rw [e]
  exact C3i x (D2h ht hx) l (B5O hl hd).1 (B5O hl hd).2 dl hl row (by omega) (fun v h => P3 (hv.2 v h) hd2) dr hr
abbrev wArgs : Array Value := #[.agg #[.string .empty, .slice none 0 0, .slice none 0 0, .slice none 0 0, .slice none 0 0], .slice none 0 0, .slice none 0 0]
theorem reads (os : Os) {H : Type} (enc : TypeId × Value → H) : ∃ places, DataW.whole enc Tryz.prog ((A5G os).forCall (fun _ _ => 0) ⟨#[], wArgs, []⟩).memory Tryz.f3.params.toList Rows.topVersionsSpec.vars false wArgs.toList 8 = some ([.agg [.lit (.string []), .nil, .nil, .nil, .nil], .nil, .nil], [], places) :=
 ⟨[], by kernel_rfl⟩
set_option maxRecDepth 100000 in
theorem lifted (os : Os) (started : os.Started) (H : Type) (enc : TypeId × Value → H) (F : Stop.Interp) :
  ReturnsInHanded {} Tryz.checked os 3 .any ((Rows.OpenSpec.upto Rows.topVersionsSpec).preRow enc Tryz.prog Tryz.f3 Rows.topVersionsUptoRow.domain false Rows.topVersionsUptoRow.laid) (((Rows.OpenSpec.upto Rows.topVersionsSpec).at F).post enc Tryz.prog Tryz.f3 false true false false) := by
 obtain ⟨places, hx⟩ := reads os enc
 refine returnsInHanded_of_row (C := Tryz.checked) (s := Rows.OpenSpec.upto Rows.topVersionsSpec) own started (by kernel_rfl) Tryz.func3
  (witness_row_at (enc := enc) (C := Tryz.checked) false (A5G os) wArgs rfl (D2F os wArgs) (D1w os wArgs) (by kernel_rfl)
   (OpenSpec.preRow_of_cond 8 hx (by kernel_rfl) (fun k hk => by cases hk; kernel_rfl) (by kernel_rfl) (D03 os wArgs))) ?_
 intro W base args ds gs before hval hW _ hk _ hL hsh _
 have hp : Tryz.f3.params = #[27, 28, 29] := Tryz.params3
 have hb : Rows.uptoBulkAll ds ≤ 1048576 := by
  have hW2 := hW
  obtain ⟨p, q, hA, hV, rfl, hfz, hnd⟩ := hW2
  obtain ⟨rfl, rfl⟩ := Go.ChangeShapes.trodVars_none hV
  have h := of_decide_eq_true (hk _ rfl)
  simpa using h
 have hr : ([27, 28, 29] : List TypeId).all (fun t => Tryz.prog.readableRec t && decide (t < Tryz.prog.types.size)) = true := by kernel_rfl
 refine D04 (S := [27, 9, 22, 31, 3, 4, 23, 24, 74, 25, 101, 40, 28, 42, 29]) (bt := 4) (C7G H) (by kernel_rfl) (by rw [hp]; intro t ht; revert t; decide) (by rw [hp]; intro t ht; have := N9.1 hr t ht; simpa using this) (by kernel_rfl) rfl (by kernel_rfl) Tryz.underlying4 (fun hl => ?_) hval hW (C9w hL hsh) (fun dss h hu => ?_)
 ·rw [hp] at hl
  match ds, hl with
  | [d0, d1, d2], _ => rfl
 ·rw [hp] at h ⊢
  exact law dss h (P3 hu hb)
theorem over : Rows.topVersionsUptoRow.holds Tryz.pinned (Rows.OpenSpec.upto Rows.topVersionsSpec) :=
 OpenClaim.holds_of_cond 3 Tryz.f3 rfl rfl rfl rfl rfl rfl rfl ⟨rfl, rfl, rfl, rfl, rfl⟩ rfl rfl rfl rfl rfl (by kernel_rfl) Tryz.func3 (by kernel_rfl)
  (of_decide_eq_true (by kernel_rfl)) (by unfold Func.isWrapper; first | (rw [if_pos (by decide +kernel)]; kernel_rfl) | (rw [if_neg (by decide +kernel)]; exact ⟨rfl, rfl⟩))
  (fun os started H enc _ F => by rw [OpenClaim.pre_eq_preRow]; exact lifted os started H enc F)
theorem plain (f : FuncId) (fn : Func) (hf : Tryz.pinned.checked.prog.funcNamed "bitemporal/bitemporaltop.TopVersions" = some f) (hfn : Tryz.pinned.checked.prog.funcs[f]? = some fn) :
  false = Tryz.pinned.checked.prog.looks [] ∧ ∀ (j : Nat) t, fn.params[j]? = some t → Tryz.pinned.checked.prog.wantsStandIn t = false := by
 obtain rfl : f = 3 := A03 ((show Tryz.prog.funcNamed "bitemporal/bitemporaltop.TopVersions" = some 3 by kernel_rfl).symm.trans hf) |>.symm
 obtain rfl : fn = Tryz.f3 := (A03 (Tryz.func3.symm.trans hfn)).symm
 refine ⟨by kernel_rfl, fun j t ht => ?_⟩
 have hp : Tryz.f3.params = #[27, 28, 29] := Tryz.params3
 rw [hp] at ht
 have hr : ([27, 28, 29] : List TypeId).all (fun t => !(Tryz.prog.wantsStandIn t)) = true := by kernel_rfl
 have := N9.1 hr t (by simpa using Array.mem_of_getElem? ht)
 exact (by simpa using this : Tryz.prog.wantsStandIn t = false)
theorem proved : Rows.TopVersionsUptoCardSaid :=
 Claim7.holds_tied_plain_at .later [] _ _ _ _ over (fun _ h => by cases h) (by kernel_rfl) (fun _ h => by cases h) topVersionsUpto_row_tie rfl ⟨rfl, rfl⟩ (by kernel_rfl) rfl plain (by kernel_rfl)
end Go.Proofs.YtnhhopmldgpglaaGreatDoor.topVersions
