/-
  NARROWER THAN 'FOR EVERY INPUT', by the rows' own cells (each row's printed sentence says how): OptimizePushes: loops · OptimizeBounds: loops · OptimizeFolds: loops · OptimizeRuns: loops · OptimizeAgain: loops.
  DERIVED. THE GIVEN ROWS OF THIS SEAT. 5 by the template 'for every input the law returns true; each argument reads behind the call as it read before'; 0 by the template 'total and deterministic' (their statements: YtfnaleemmeejcaaGreatTotals.lean).
  GIVEN WITH THE SEED: the statements are not yours to turn. If you find one false, say at which input.
  Laid BY PROGRAM, IN A SANDBOX (cutbox-rows.mjs): the forced cells as the released guide's own fill.sh prints them over the translation 1b23150c5adce7c5… (all of the seat's roots in one cut). By AI agents, Wed Nov 11 2026. No macro, syntax, notation, axiom, sorry.
-/
import Derived.Test.YtfnaleemmeejcaaGreatChecked
import GoSem.Claim
import GoSem.ClaimJoined
import GoSem.ClaimMapViews
import Derived.JoinedTies
import Derived.KernelRfl
namespace Go.Proofs.YtfnaleemmeejcaaGreat
/- THE CELL 'sum', in the pinned program and in every row, IS THE sha256 OF THE DUMP (.gsa) THAT YtfnaleemmeejcaaGreatProg.lean LOADS. Nothing in Lean hashes anything: it is a label: what it is worth is what the hold of that sum in a sandbox is worth. -/
noncomputable def Tryz.pinned : Pinned := { name := "ytfnaleemmeejcaagreat", sum := "1b23150c5adce7c5e1439f8e2a6087654ebc4af056ceebb580c4d103e8394bff", checked := Tryz.checked }
namespace Rows
def none {H : Type} : Left H := { results := [], args := [] }

/-- 'bitemporallaw48.OptimizePushes': WHATEVER THE INPUT: true; the input reads as it did. -/
def optimizePushesSpec : ChangeSpec := { name := "optimizePushes", fn := fun _ => fun
  | [d1, d2] => { results := [.lit (.bool true)], args := [d1, d2] }
  | _ => none }
def optimizePushesRow : OpenClaim := { program := "ytfnaleemmeejcaagreat", sum := "1b23150c5adce7c5e1439f8e2a6087654ebc4af056ceebb580c4d103e8394bff", func := "bitemporal/bitemporallaw48.OptimizePushes", spec := "optimizePushes", unfollowed := true, recurses := true, loops := true, apart := false }
def OptimizePushesSaid : Prop := optimizePushesRow.holds Tryz.pinned (OpenSpec.ofChange optimizePushesSpec)

/-- ITS FALSE NEIGHBOUR: 'it returns false'. Refute it at one input. -/
def optimizePushesWrong : ChangeSpec := { name := "optimizePushes", fn := fun _ => fun
  | [d1, d2] => { results := [.lit (.bool false)], args := [d1, d2] }
  | _ => none }
def OptimizePushesWrongFalsely : Prop := optimizePushesRow.holds Tryz.pinned (OpenSpec.ofChange optimizePushesWrong)

/-- 'bitemporallaw48.OptimizeBounds': WHATEVER THE INPUT: true; the input reads as it did. -/
def optimizeBoundsSpec : ChangeSpec := { name := "optimizeBounds", fn := fun _ => fun
  | [d1, d2] => { results := [.lit (.bool true)], args := [d1, d2] }
  | _ => none }
def optimizeBoundsRow : OpenClaim := { program := "ytfnaleemmeejcaagreat", sum := "1b23150c5adce7c5e1439f8e2a6087654ebc4af056ceebb580c4d103e8394bff", func := "bitemporal/bitemporallaw48.OptimizeBounds", spec := "optimizeBounds", unfollowed := true, recurses := true, loops := true, apart := false }
def OptimizeBoundsSaid : Prop := optimizeBoundsRow.holds Tryz.pinned (OpenSpec.ofChange optimizeBoundsSpec)

/-- ITS FALSE NEIGHBOUR: 'it returns false'. Refute it at one input. -/
def optimizeBoundsWrong : ChangeSpec := { name := "optimizeBounds", fn := fun _ => fun
  | [d1, d2] => { results := [.lit (.bool false)], args := [d1, d2] }
  | _ => none }
def OptimizeBoundsWrongFalsely : Prop := optimizeBoundsRow.holds Tryz.pinned (OpenSpec.ofChange optimizeBoundsWrong)

/-- 'bitemporallaw48.OptimizeFolds': WHATEVER THE INPUT: true; the input reads as it did. -/
def optimizeFoldsSpec : ChangeSpec := { name := "optimizeFolds", fn := fun _ => fun
  | [d1, d2] => { results := [.lit (.bool true)], args := [d1, d2] }
  | _ => none }
def optimizeFoldsRow : OpenClaim := { program := "ytfnaleemmeejcaagreat", sum := "1b23150c5adce7c5e1439f8e2a6087654ebc4af056ceebb580c4d103e8394bff", func := "bitemporal/bitemporallaw48.OptimizeFolds", spec := "optimizeFolds", inPlace := ["internal/bytealg.abigen_runtime_cmpstring"], unfollowed := true, recurses := true, loops := true, apart := false }
def OptimizeFoldsSaid : Prop := optimizeFoldsRow.holds Tryz.pinned (OpenSpec.ofChange optimizeFoldsSpec)

/-- ITS FALSE NEIGHBOUR: 'it returns false'. Refute it at one input. -/
def optimizeFoldsWrong : ChangeSpec := { name := "optimizeFolds", fn := fun _ => fun
  | [d1, d2] => { results := [.lit (.bool false)], args := [d1, d2] }
  | _ => none }
def OptimizeFoldsWrongFalsely : Prop := optimizeFoldsRow.holds Tryz.pinned (OpenSpec.ofChange optimizeFoldsWrong)

/-- 'bitemporallaw48.OptimizeRuns': WHATEVER THE INPUT: true; the input reads as it did. -/
def optimizeRunsSpec : ChangeSpec := { name := "optimizeRuns", fn := fun _ => fun
  | [d1, d2] => { results := [.lit (.bool true)], args := [d1, d2] }
  | _ => none }
def optimizeRunsRow : OpenClaim := { program := "ytfnaleemmeejcaagreat", sum := "1b23150c5adce7c5e1439f8e2a6087654ebc4af056ceebb580c4d103e8394bff", func := "bitemporal/bitemporallaw48.OptimizeRuns", spec := "optimizeRuns", inPlace := ["internal/bytealg.abigen_runtime_cmpstring"], unfollowed := true, recurses := true, loops := true, apart := false }
def OptimizeRunsSaid : Prop := optimizeRunsRow.holds Tryz.pinned (OpenSpec.ofChange optimizeRunsSpec)

/-- ITS FALSE NEIGHBOUR: 'it returns false'. Refute it at one input. -/
def optimizeRunsWrong : ChangeSpec := { name := "optimizeRuns", fn := fun _ => fun
  | [d1, d2] => { results := [.lit (.bool false)], args := [d1, d2] }
  | _ => none }
def OptimizeRunsWrongFalsely : Prop := optimizeRunsRow.holds Tryz.pinned (OpenSpec.ofChange optimizeRunsWrong)

/-- 'bitemporallaw48.OptimizeAgain': WHATEVER THE INPUT: true; the input reads as it did. -/
def optimizeAgainSpec : ChangeSpec := { name := "optimizeAgain", fn := fun _ => fun
  | [d1, d2] => { results := [.lit (.bool true)], args := [d1, d2] }
  | _ => none }
def optimizeAgainRow : OpenClaim := { program := "ytfnaleemmeejcaagreat", sum := "1b23150c5adce7c5e1439f8e2a6087654ebc4af056ceebb580c4d103e8394bff", func := "bitemporal/bitemporallaw48.OptimizeAgain", spec := "optimizeAgain", inPlace := ["internal/bytealg.abigen_runtime_cmpstring"], unfollowed := true, recurses := true, loops := true, apart := false }
def OptimizeAgainSaid : Prop := optimizeAgainRow.holds Tryz.pinned (OpenSpec.ofChange optimizeAgainSpec)

/-- ITS FALSE NEIGHBOUR: 'it returns false'. Refute it at one input. -/
def optimizeAgainWrong : ChangeSpec := { name := "optimizeAgain", fn := fun _ => fun
  | [d1, d2] => { results := [.lit (.bool false)], args := [d1, d2] }
  | _ => none }
def OptimizeAgainWrongFalsely : Prop := optimizeAgainRow.holds Tryz.pinned (OpenSpec.ofChange optimizeAgainWrong)

/- THE SECOND FORM. 'bulk': how many values and letters a reading holds, each counted each time it is reached (what is shared counts as often as it is met; a slice's spare places count too). A statement '..UptoSaid' is the law's where the arguments, and the package variables that the reading takes, are together of bulk at most 1048576: NARROWER than '..Said'. Prove '..Said' where nothing that the law and all that it calls make is longer than what came in: it says more and counts as full. Else prove '..UptoSaid'. A law counts once. -/
mutual
def uptoBulk {H : Type} : DataW H → Nat
  | .lit (.string bytes) => bytes.length + 1
  | .lit _ => 1
  | .nil => 1
  | .ptr d => uptoBulk d + 1
  | .slice elems spare => uptoBulkAll elems + uptoBulkAll spare + 1
  | .agg parts => uptoBulkAll parts + 1
  | .iface _ d => uptoBulk d + 1
  | .map entries => uptoBulkEntries entries + 1
  | .held _ => 1
def uptoBulkAll {H : Type} : List (DataW H) → Nat
  | [] => 0
  | d :: r => uptoBulk d + uptoBulkAll r
def uptoBulkEntries {H : Type} : List (Lit × DataW H) → Nat
  | [] => 0
  | x :: r => uptoBulkEntry x + uptoBulkEntries r
def uptoBulkEntry {H : Type} : Lit × DataW H → Nat
  | (.string bytes, d) => bytes.length + uptoBulk d + 1
  | (_, d) => uptoBulk d + 1
 end
def uptoSmall : (H : Type) → List (DataW H) → Bool := fun _ ds => decide (uptoBulkAll ds ≤ 1048576)
def OpenSpec.upto (s : _root_.Go.ChangeSpec) : _root_.Go.OpenSpec := { _root_.Go.OpenSpec.ofChange s with cond := some uptoSmall }

/-- 'bitemporallaw48.OptimizePushes', WHERE WHAT IT READS IS OF BULK AT MOST 1048576: true; the input reads as it did. -/
def optimizePushesUptoRow : OpenClaim := { program := "ytfnaleemmeejcaagreat", sum := "1b23150c5adce7c5e1439f8e2a6087654ebc4af056ceebb580c4d103e8394bff", func := "bitemporal/bitemporallaw48.OptimizePushes", spec := "optimizePushes", unfollowed := true, recurses := true, loops := true, apart := false, narrowed := true }
def OptimizePushesUptoSaid : Prop := optimizePushesUptoRow.holds Tryz.pinned (OpenSpec.upto optimizePushesSpec)

/-- 'bitemporallaw48.OptimizeBounds', WHERE WHAT IT READS IS OF BULK AT MOST 1048576: true; the input reads as it did. -/
def optimizeBoundsUptoRow : OpenClaim := { program := "ytfnaleemmeejcaagreat", sum := "1b23150c5adce7c5e1439f8e2a6087654ebc4af056ceebb580c4d103e8394bff", func := "bitemporal/bitemporallaw48.OptimizeBounds", spec := "optimizeBounds", unfollowed := true, recurses := true, loops := true, apart := false, narrowed := true }
def OptimizeBoundsUptoSaid : Prop := optimizeBoundsUptoRow.holds Tryz.pinned (OpenSpec.upto optimizeBoundsSpec)

/-- 'bitemporallaw48.OptimizeFolds', WHERE WHAT IT READS IS OF BULK AT MOST 1048576: true; the input reads as it did. -/
def optimizeFoldsUptoRow : OpenClaim := { program := "ytfnaleemmeejcaagreat", sum := "1b23150c5adce7c5e1439f8e2a6087654ebc4af056ceebb580c4d103e8394bff", func := "bitemporal/bitemporallaw48.OptimizeFolds", spec := "optimizeFolds", inPlace := ["internal/bytealg.abigen_runtime_cmpstring"], unfollowed := true, recurses := true, loops := true, apart := false, narrowed := true }
def OptimizeFoldsUptoSaid : Prop := optimizeFoldsUptoRow.holds Tryz.pinned (OpenSpec.upto optimizeFoldsSpec)

/-- 'bitemporallaw48.OptimizeRuns', WHERE WHAT IT READS IS OF BULK AT MOST 1048576: true; the input reads as it did. -/
def optimizeRunsUptoRow : OpenClaim := { program := "ytfnaleemmeejcaagreat", sum := "1b23150c5adce7c5e1439f8e2a6087654ebc4af056ceebb580c4d103e8394bff", func := "bitemporal/bitemporallaw48.OptimizeRuns", spec := "optimizeRuns", inPlace := ["internal/bytealg.abigen_runtime_cmpstring"], unfollowed := true, recurses := true, loops := true, apart := false, narrowed := true }
def OptimizeRunsUptoSaid : Prop := optimizeRunsUptoRow.holds Tryz.pinned (OpenSpec.upto optimizeRunsSpec)

/-- 'bitemporallaw48.OptimizeAgain', WHERE WHAT IT READS IS OF BULK AT MOST 1048576: true; the input reads as it did. -/
def optimizeAgainUptoRow : OpenClaim := { program := "ytfnaleemmeejcaagreat", sum := "1b23150c5adce7c5e1439f8e2a6087654ebc4af056ceebb580c4d103e8394bff", func := "bitemporal/bitemporallaw48.OptimizeAgain", spec := "optimizeAgain", inPlace := ["internal/bytealg.abigen_runtime_cmpstring"], unfollowed := true, recurses := true, loops := true, apart := false, narrowed := true }
def OptimizeAgainUptoSaid : Prop := optimizeAgainUptoRow.holds Tryz.pinned (OpenSpec.upto optimizeAgainSpec)

end Rows
end Go.Proofs.YtfnaleemmeejcaaGreat
