/- CatalogConverts, where what it reads is of bulk at most 1048576: the law returns true, and its arguments read as they did; the card's tables are tied. -/
import Derived.Test.YtnhhopmldgpglaaGreatDoorQ12
import Derived.Test.YtnhhopmldgpglaaGreatDoorCards
import Derived.Test.YtnhhopmldgpglaaGreatDoorTie
import Derived.OpenShut
import Derived.Deep.DeepHandedRow
import Derived.JoinedCond
set_option linter.unusedVariables false
set_option linter.unusedSimpArgs false
set_option maxRecDepth 20000
namespace Go.Proofs.YtnhhopmldgpglaaGreatDoor.catalogConverts
open Go.Bi Go.Proofs Go.ChangeShapes Go.WideShapes Go.ChangeAt Go.RowKit
theorem own : ownKnob Tryz.prog.godebug = none := by kernel_rfl
theorem law (dss : List (List D)) (h : WTs Tryz.prog [32, 9, 3, 3, 29] dss) (hb : H4 dss ≤ 1048576) : Pure Tryz.prog 4 (avs Tryz.prog [32, 9, 3, 3, 29] dss) (.d (.bool true)) := by
 match dss, h with
 | [d, e, f, g, k], ⟨_, h1, _, h2, _, h3, _, h4, _, h5, _⟩ =>
  obtain ⟨dc, c, rfl, hc, hw⟩ := D8d h1
  have hd : E4 [dc] ≤ 1048576 := by simp only [H4] at hb; omega
  obtain ⟨hl, ho⟩ := D43 hc hw hd
  obtain ⟨s, rfl⟩ := A2D h2
  obtain ⟨n, rfl⟩ := A2C h3
  obtain ⟨m, rfl⟩ := A2C h4
  obtain ⟨dr, row, rfl, hr⟩ := D8j h5
  have hd2 : E4 [dr] ≤ 1048576 := by simp only [H4] at hb; omega
  have hv := D7Y hr
  have e : avs Tryz.prog [32, 9, 3, 3, 29] [[dc], [.str s], [eI n], [eI m], [dr]] = [.d dc, .d (.str s), .d (eI n), .d (eI m), .d dr] := by simp only [avs]; rw [D2r, D2s, B8t, B8t, D2t]
  rw [e]
  exact C7e c hl ho dc hc s n m row (by omega) (fun v h => O4 (hv.2 v h) hd2) dr hr
abbrev wArgs : Array Value := #[.slice none 0 0, .string .empty, .int .i64 0, .int .i64 0, .slice none 0 0]
theorem reads (os : Os) {H : Type} (enc : TypeId × Value → H) : ∃ places, DataW.whole enc Tryz.prog ((A6s os).forCall (fun _ _ => 0) ⟨#[], wArgs, []⟩).memory Tryz.f4.params.toList Rows.catalogConvertsSpec.vars false wArgs.toList 8 = some ([.nil, .lit (.string []), .lit (.int .i64 0), .lit (.int .i64 0), .nil], [], places) :=
 ⟨[], by kernel_rfl⟩
set_option maxRecDepth 100000 in
theorem lifted (os : Os) (started : os.Started) (H : Type) (enc : TypeId × Value → H) (F : Stop.Interp) :
  ReturnsInHanded {} Tryz.checked os 4 .any ((Rows.OpenSpec.upto Rows.catalogConvertsSpec).preRow enc Tryz.prog Tryz.f4 Rows.catalogConvertsUptoRow.domain false Rows.catalogConvertsUptoRow.laid) (((Rows.OpenSpec.upto Rows.catalogConvertsSpec).at F).post enc Tryz.prog Tryz.f4 false true false false) := by
 obtain ⟨places, hx⟩ := reads os enc
 refine returnsInHanded_of_row (C := Tryz.checked) (s := Rows.OpenSpec.upto Rows.catalogConvertsSpec) own started (by kernel_rfl) Tryz.func4
  (witness_row_at (enc := enc) (C := Tryz.checked) false (A6s os) wArgs rfl (D7Z os wArgs) (D6U os wArgs) (by kernel_rfl)
   (OpenSpec.preRow_of_cond 8 hx (by kernel_rfl) (fun k hk => by cases hk; kernel_rfl) (by kernel_rfl) (D5o os wArgs))) ?_
 intro W base args ds gs before hval hW _ hk _ hL hsh _
 have hp : Tryz.f4.params = #[32, 9, 3, 3, 29] := Tryz.params4
 have hb : Rows.uptoBulkAll ds ≤ 1048576 := by
  have hW2 := hW
  obtain ⟨p, q, hA, hV, rfl, hfz, hnd⟩ := hW2
  obtain ⟨rfl, rfl⟩ := Go.ChangeShapes.trodVars_none hV
  have h := of_decide_eq_true (hk _ rfl)
  simpa using h
 have hr : ([32, 9, 3, 3, 29] : List TypeId).all (fun t => Tryz.prog.readableRec t && decide (t < Tryz.prog.types.size)) = true := by kernel_rfl
 refine D5p (S := [32, 59, 3, 9, 27, 22, 31, 4, 23, 24, 74, 25, 101, 40, 42, 29]) (bt := 4) (D2K H) (by kernel_rfl) (by rw [hp]; intro t ht; revert t; decide) (by rw [hp]; intro t ht; have := O3.1 hr t ht; simpa using this) (by kernel_rfl) rfl (by kernel_rfl) Tryz.underlying4 (fun hl => ?_) hval hW (D4O hL hsh) (fun dss h hu => ?_)
 ·rw [hp] at hl
  match ds, hl with
  | [d0, d1, d2, d3, d4], _ => rfl
 ·rw [hp] at h ⊢
  exact law dss h (O4 hu hb)
theorem over : Rows.catalogConvertsUptoRow.holds Tryz.pinned (Rows.OpenSpec.upto Rows.catalogConvertsSpec) :=
 OpenClaim.holds_of_cond 4 Tryz.f4 rfl rfl rfl rfl rfl rfl rfl ⟨rfl, rfl, rfl, rfl, rfl⟩ rfl rfl rfl rfl rfl (by kernel_rfl) Tryz.func4 (by kernel_rfl)
  (of_decide_eq_true (by kernel_rfl)) (by unfold Func.isWrapper; first | (rw [if_pos (by decide +kernel)]; kernel_rfl) | (rw [if_neg (by decide +kernel)]; exact ⟨rfl, rfl⟩))
  (fun os started H enc _ F => by rw [OpenClaim.pre_eq_preRow]; exact lifted os started H enc F)
theorem plain (f : FuncId) (fn : Func) (hf : Tryz.pinned.checked.prog.funcNamed "bitemporal/bitemporallaw16.CatalogConverts" = some f) (hfn : Tryz.pinned.checked.prog.funcs[f]? = some fn) :
  false = Tryz.pinned.checked.prog.looks [] ∧ ∀ (j : Nat) t, fn.params[j]? = some t → Tryz.pinned.checked.prog.wantsStandIn t = false := by
 obtain rfl : f = 4 := A1z ((show Tryz.prog.funcNamed "bitemporal/bitemporallaw16.CatalogConverts" = some 4 by kernel_rfl).symm.trans hf) |>.symm
 obtain rfl : fn = Tryz.f4 := (A1z (Tryz.func4.symm.trans hfn)).symm
 refine ⟨by kernel_rfl, fun j t ht => ?_⟩
 have hp : Tryz.f4.params = #[32, 9, 3, 3, 29] := Tryz.params4
 rw [hp] at ht
 have hr : ([32, 9, 3, 3, 29] : List TypeId).all (fun t => !(Tryz.prog.wantsStandIn t)) = true := by kernel_rfl
 have := O3.1 hr t (by simpa using Array.mem_of_getElem? ht)
 exact (by simpa using this : Tryz.prog.wantsStandIn t = false)
theorem proved : Rows.CatalogConvertsUptoCardSaid :=
 Claim7.holds_tied_plain_at .later [] _ _ _ _ over (fun _ h => by cases h) (by kernel_rfl) (fun _ h => by cases h) catalogConvertsUpto_row_tie rfl ⟨rfl, rfl⟩ (by kernel_rfl) rfl plain (by kernel_rfl)
end Go.Proofs.YtnhhopmldgpglaaGreatDoor.catalogConverts
