/- MappingTables, where what it reads is of bulk at most 1048576: the law returns true, and its arguments read as they did; the card's tables are tied. -/
import Derived.Test.YtlkkaepbnnakpaaGreatDoorQ12
import Derived.Test.YtlkkaepbnnakpaaGreatDoorCards
import Derived.Test.YtlkkaepbnnakpaaGreatDoorTie
import Derived.OpenShut
import Derived.Deep.DeepHandedRow
import Derived.JoinedCond
set_option linter.unusedVariables false
set_option linter.unusedSimpArgs false
set_option maxRecDepth 20000
namespace Go.Proofs.YtlkkaepbnnakpaaGreatDoor.mappingTables
open Go.Bi Go.Proofs Go.ChangeShapes Go.WideShapes Go.ChangeAt Go.RowKit
theorem own : ownKnob Tryz.prog.godebug = none := by kernel_rfl
theorem law (dss : List (List D)) (h : WTs Tryz.prog [27, 39] dss) (hb : bulkLL dss ≤ 1048576) : Pure Tryz.prog 4 (avs Tryz.prog [27, 39] dss) (.d (.bool true)) := by
 match dss, h with
 | [d, e], ⟨_, h1, _, h2, _⟩ =>
  obtain ⟨x, rfl, hx⟩ := wt_td h1
  obtain ⟨dl, l, rfl, hl⟩ := wt_chs h2
  have hd : bulkL [dl] ≤ 1048576 := by simp only [bulkLL] at hb; omega
  have ht : bulkL x.ds ≤ 1048576 := by simp only [bulkLL] at hb; omega
  have e : avs Tryz.prog [27, 39] [x.ds, [dl]] = [x.av, .d dl] := by simp only [avs]; rw [av_chs, av_tb]
  rw [e]
  exact L.MappingTables x (td_ok ht hx) l (chs_bulk hl hd).1 (chs_bulk hl hd).2 dl hl
abbrev wArgs : Array Value := #[.agg #[.string .empty, .slice none 0 0, .slice none 0 0, .slice none 0 0, .slice none 0 0], .slice none 0 0]
theorem reads (os : Os) {H : Type} (enc : TypeId × Value → H) : ∃ places, DataW.whole enc Tryz.prog ((laidWorld os).forCall (fun _ _ => 0) ⟨#[], wArgs, []⟩).memory Tryz.f4.params.toList Rows.mappingTablesSpec.vars false wArgs.toList 8 = some ([.agg [.lit (.string []), .nil, .nil, .nil, .nil], .nil], [], places) :=
 ⟨[], by kernel_rfl⟩
set_option maxRecDepth 100000 in
theorem lifted (os : Os) (started : os.Started) (H : Type) (enc : TypeId × Value → H) (F : Stop.Interp) :
  ReturnsInHanded {} Tryz.checked os 4 .any ((Rows.OpenSpec.upto Rows.mappingTablesSpec).preRow enc Tryz.prog Tryz.f4 Rows.mappingTablesUptoRow.domain false Rows.mappingTablesUptoRow.laid) (((Rows.OpenSpec.upto Rows.mappingTablesSpec).at F).post enc Tryz.prog Tryz.f4 false true false false) := by
 obtain ⟨places, hx⟩ := reads os enc
 refine returnsInHanded_of_row (C := Tryz.checked) (s := Rows.OpenSpec.upto Rows.mappingTablesSpec) own started (by kernel_rfl) Tryz.func4
  (witness_row_at (enc := enc) (C := Tryz.checked) false (laidWorld os) wArgs rfl (vars_ok os wArgs) (rest_ok os wArgs) (by kernel_rfl)
   (OpenSpec.preRow_of_cond 8 hx (by kernel_rfl) (fun k hk => by cases hk; kernel_rfl) (by kernel_rfl) (laid_met os wArgs))) ?_
 intro W base args ds gs before hval hW _ hk _ hL hsh _
 have hp : Tryz.f4.params = #[27, 39] := Tryz.params4
 have hb : Rows.uptoBulkAll ds ≤ 1048576 := by
  have hW2 := hW
  obtain ⟨p, q, hA, hV, rfl, hfz, hnd⟩ := hW2
  obtain ⟨rfl, rfl⟩ := Go.ChangeShapes.trodVars_none hV
  have h := of_decide_eq_true (hk _ rfl)
  simpa using h
 have hr : ([27, 39] : List TypeId).all (fun t => Tryz.prog.readableRec t && decide (t < Tryz.prog.types.size)) = true := by kernel_rfl
 refine law_contract (S := [27, 9, 22, 29, 3, 4, 23, 24, 79, 25, 105, 31, 39, 33]) (bt := 4) (bulkR H) (by kernel_rfl) (by rw [hp]; intro t ht; revert t; decide) (by rw [hp]; intro t ht; have := List.all_eq_true.1 hr t ht; simpa using this) (by kernel_rfl) rfl (by kernel_rfl) Tryz.underlying4 (fun hl => ?_) hval hW (globs_of hL hsh) (fun dss h hu => ?_)
 ·rw [hp] at hl
  match ds, hl with
  | [d0, d1], _ => rfl
 ·rw [hp] at h ⊢
  exact law dss h (Nat.le_trans hu hb)
theorem over : Rows.mappingTablesUptoRow.holds Tryz.pinned (Rows.OpenSpec.upto Rows.mappingTablesSpec) :=
 OpenClaim.holds_of_cond 4 Tryz.f4 rfl rfl rfl rfl rfl rfl rfl ⟨rfl, rfl, rfl, rfl, rfl⟩ rfl rfl rfl rfl rfl (by kernel_rfl) Tryz.func4 (by kernel_rfl)
  (of_decide_eq_true (by kernel_rfl)) (by unfold Func.isWrapper; first | (rw [if_pos (by decide +kernel)]; kernel_rfl) | (rw [if_neg (by decide +kernel)]; exact ⟨rfl, rfl⟩))
  (fun os started H enc _ F => by rw [OpenClaim.pre_eq_preRow]; exact lifted os started H enc F)
theorem plain (f : FuncId) (fn : Func) (hf : Tryz.pinned.checked.prog.funcNamed "bitemporal/bitemporallaw15.MappingTables" = some f) (hfn : Tryz.pinned.checked.prog.funcs[f]? = some fn) :
  false = Tryz.pinned.checked.prog.looks [] ∧ ∀ (j : Nat) t, fn.params[j]? = some t → Tryz.pinned.checked.prog.wantsStandIn t = false := by
 obtain rfl : f = 4 := Option.some.inj ((show Tryz.prog.funcNamed "bitemporal/bitemporallaw15.MappingTables" = some 4 by kernel_rfl).symm.trans hf) |>.symm
 obtain rfl : fn = Tryz.f4 := (Option.some.inj (Tryz.func4.symm.trans hfn)).symm
 refine ⟨by kernel_rfl, fun j t ht => ?_⟩
 have hp : Tryz.f4.params = #[27, 39] := Tryz.params4
 rw [hp] at ht
 have hr : ([27, 39] : List TypeId).all (fun t => !(Tryz.prog.wantsStandIn t)) = true := by kernel_rfl
 have := List.all_eq_true.1 hr t (by simpa using Array.mem_of_getElem? ht)
 exact (by simpa using this : Tryz.prog.wantsStandIn t = false)
theorem proved : Rows.MappingTablesUptoCardSaid :=
 Claim7.holds_tied_plain_at .later [] _ _ _ _ over (fun _ h => by cases h) (by kernel_rfl) (fun _ h => by cases h) mappingTablesUpto_row_tie rfl ⟨rfl, rfl⟩ (by kernel_rfl) rfl plain (by kernel_rfl)
end Go.Proofs.YtlkkaepbnnakpaaGreatDoor.mappingTables
