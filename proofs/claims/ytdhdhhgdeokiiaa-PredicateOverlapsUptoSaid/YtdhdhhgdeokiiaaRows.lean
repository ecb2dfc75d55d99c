/-
  NARROWER THAN 'FOR EVERY INPUT', by the rows' own cells (each row's printed sentence says how): ExprChecks: loops · ExprEvaluates: loops · ExprKinds: loops · ExprCompares: loops · PredicateWindow: loops · PredicateOverlaps: loops · PredicateConditions: loops · PredicateParts: loops · ExprColumns: loops · ExprChanges: loops · PredicateSplits: loops.
  DERIVED. THE GIVEN ROWS OF THIS SEAT. 11 by the template 'for every input the law returns true; each argument reads behind the call as it read before'; 0 by the template 'total and deterministic' (their statements: YtdhdhhgdeokiiaaTotals.lean).
  GIVEN WITH THE SEED: the statements are not yours to turn. If you find one false, say at which input.
  Laid BY PROGRAM, IN A SANDBOX (cutbox-rows.mjs): the forced cells as the released guide's own fill.sh prints them over the translation fd82e2afef765eb2… (all of the seat's roots in one cut). By AI agents, Wed Nov 11 2026. No macro, syntax, notation, axiom, sorry.
-/
import Derived.Test.YtdhdhhgdeokiiaaChecked
import GoSem.Claim
import GoSem.ClaimJoined
import GoSem.ClaimMapViews
import Derived.JoinedTies
import Derived.KernelRfl
namespace Go.Proofs.Ytdhdhhgdeokiiaa
/- THE CELL 'sum', in the pinned program and in every row, IS THE sha256 OF THE DUMP (.gsa) THAT YtdhdhhgdeokiiaaProg.lean LOADS. Nothing in Lean hashes anything: it is a label: what it is worth is what the hold of that sum in a sandbox is worth. -/
noncomputable def Try.pinned : Pinned := { name := "ytdhdhhgdeokiiaa", sum := "fd82e2afef765eb270df461ac6d781d0a0585839e54512a61282342e5d0d2a09", checked := Try.checked }
namespace Rows
def none {H : Type} : Left H := { results := [], args := [] }

/-- 'bitemporallaw11.ExprChecks': WHATEVER THE INPUT: true; the input reads as it did. -/
def exprChecksSpec : ChangeSpec := { name := "exprChecks", fn := fun _ => fun
  | [d1, d2] => { results := [.lit (.bool true)], args := [d1, d2] }
  | _ => none }
def exprChecksRow : OpenClaim := { program := "ytdhdhhgdeokiiaa", sum := "fd82e2afef765eb270df461ac6d781d0a0585839e54512a61282342e5d0d2a09", func := "bitemporal/bitemporallaw11.ExprChecks", spec := "exprChecks", inPlace := ["internal/bytealg.abigen_runtime_cmpstring"], recurses := true, loops := true, apart := false }
def ExprChecksSaid : Prop := exprChecksRow.holds Try.pinned (OpenSpec.ofChange exprChecksSpec)

/-- ITS FALSE NEIGHBOUR: 'it returns false'. Refute it at one input. -/
def exprChecksWrong : ChangeSpec := { name := "exprChecks", fn := fun _ => fun
  | [d1, d2] => { results := [.lit (.bool false)], args := [d1, d2] }
  | _ => none }
def ExprChecksWrongFalsely : Prop := exprChecksRow.holds Try.pinned (OpenSpec.ofChange exprChecksWrong)

/-- 'bitemporallaw11.ExprEvaluates': WHATEVER THE INPUT: true; the input reads as it did. -/
def exprEvaluatesSpec : ChangeSpec := { name := "exprEvaluates", fn := fun _ => fun
  | [d1, d2] => { results := [.lit (.bool true)], args := [d1, d2] }
  | _ => none }
def exprEvaluatesRow : OpenClaim := { program := "ytdhdhhgdeokiiaa", sum := "fd82e2afef765eb270df461ac6d781d0a0585839e54512a61282342e5d0d2a09", func := "bitemporal/bitemporallaw11.ExprEvaluates", spec := "exprEvaluates", inPlace := ["internal/bytealg.abigen_runtime_cmpstring"], recurses := true, loops := true, apart := false }
def ExprEvaluatesSaid : Prop := exprEvaluatesRow.holds Try.pinned (OpenSpec.ofChange exprEvaluatesSpec)

/-- ITS FALSE NEIGHBOUR: 'it returns false'. Refute it at one input. -/
def exprEvaluatesWrong : ChangeSpec := { name := "exprEvaluates", fn := fun _ => fun
  | [d1, d2] => { results := [.lit (.bool false)], args := [d1, d2] }
  | _ => none }
def ExprEvaluatesWrongFalsely : Prop := exprEvaluatesRow.holds Try.pinned (OpenSpec.ofChange exprEvaluatesWrong)

/-- 'bitemporallaw11.ExprKinds': WHATEVER THE INPUT: true; the input reads as it did. -/
def exprKindsSpec : ChangeSpec := { name := "exprKinds", fn := fun _ => fun
  | [d1, d2, d3] => { results := [.lit (.bool true)], args := [d1, d2, d3] }
  | _ => none }
def exprKindsRow : OpenClaim := { program := "ytdhdhhgdeokiiaa", sum := "fd82e2afef765eb270df461ac6d781d0a0585839e54512a61282342e5d0d2a09", func := "bitemporal/bitemporallaw11.ExprKinds", spec := "exprKinds", inPlace := ["internal/bytealg.abigen_runtime_cmpstring"], recurses := true, loops := true, apart := false }
def ExprKindsSaid : Prop := exprKindsRow.holds Try.pinned (OpenSpec.ofChange exprKindsSpec)

/-- ITS FALSE NEIGHBOUR: 'it returns false'. Refute it at one input. -/
def exprKindsWrong : ChangeSpec := { name := "exprKinds", fn := fun _ => fun
  | [d1, d2, d3] => { results := [.lit (.bool false)], args := [d1, d2, d3] }
  | _ => none }
def ExprKindsWrongFalsely : Prop := exprKindsRow.holds Try.pinned (OpenSpec.ofChange exprKindsWrong)

/-- 'bitemporallaw11.ExprCompares': WHATEVER THE INPUT: true; the input reads as it did. -/
def exprComparesSpec : ChangeSpec := { name := "exprCompares", fn := fun _ => fun
  | [d1, d2] => { results := [.lit (.bool true)], args := [d1, d2] }
  | _ => none }
def exprComparesRow : OpenClaim := { program := "ytdhdhhgdeokiiaa", sum := "fd82e2afef765eb270df461ac6d781d0a0585839e54512a61282342e5d0d2a09", func := "bitemporal/bitemporallaw11.ExprCompares", spec := "exprCompares", inPlace := ["internal/bytealg.abigen_runtime_cmpstring"], unfollowed := true, recurses := true, loops := true, apart := false }
def ExprComparesSaid : Prop := exprComparesRow.holds Try.pinned (OpenSpec.ofChange exprComparesSpec)

/-- ITS FALSE NEIGHBOUR: 'it returns false'. Refute it at one input. -/
def exprComparesWrong : ChangeSpec := { name := "exprCompares", fn := fun _ => fun
  | [d1, d2] => { results := [.lit (.bool false)], args := [d1, d2] }
  | _ => none }
def ExprComparesWrongFalsely : Prop := exprComparesRow.holds Try.pinned (OpenSpec.ofChange exprComparesWrong)

/-- 'bitemporallaw12.PredicateWindow': WHATEVER THE INPUT: true; the input reads as it did. -/
def predicateWindowSpec : ChangeSpec := { name := "predicateWindow", fn := fun _ => fun
  | [d1, d2, d3] => { results := [.lit (.bool true)], args := [d1, d2, d3] }
  | _ => none }
def predicateWindowRow : OpenClaim := { program := "ytdhdhhgdeokiiaa", sum := "fd82e2afef765eb270df461ac6d781d0a0585839e54512a61282342e5d0d2a09", func := "bitemporal/bitemporallaw12.PredicateWindow", spec := "predicateWindow", inPlace := ["internal/bytealg.abigen_runtime_cmpstring"], unfollowed := true, recurses := true, loops := true, apart := false }
def PredicateWindowSaid : Prop := predicateWindowRow.holds Try.pinned (OpenSpec.ofChange predicateWindowSpec)

/-- ITS FALSE NEIGHBOUR: 'it returns false'. Refute it at one input. -/
def predicateWindowWrong : ChangeSpec := { name := "predicateWindow", fn := fun _ => fun
  | [d1, d2, d3] => { results := [.lit (.bool false)], args := [d1, d2, d3] }
  | _ => none }
def PredicateWindowWrongFalsely : Prop := predicateWindowRow.holds Try.pinned (OpenSpec.ofChange predicateWindowWrong)

/-- 'bitemporallaw12.PredicateOverlaps': WHATEVER THE INPUT: true; the input reads as it did. -/
def predicateOverlapsSpec : ChangeSpec := { name := "predicateOverlaps", fn := fun _ => fun
  | [d1, d2, d3, d4] => { results := [.lit (.bool true)], args := [d1, d2, d3, d4] }
  | _ => none }
def predicateOverlapsRow : OpenClaim := { program := "ytdhdhhgdeokiiaa", sum := "fd82e2afef765eb270df461ac6d781d0a0585839e54512a61282342e5d0d2a09", func := "bitemporal/bitemporallaw12.PredicateOverlaps", spec := "predicateOverlaps", inPlace := ["internal/bytealg.abigen_runtime_cmpstring"], unfollowed := true, recurses := true, loops := true, apart := false }
def PredicateOverlapsSaid : Prop := predicateOverlapsRow.holds Try.pinned (OpenSpec.ofChange predicateOverlapsSpec)

/-- ITS FALSE NEIGHBOUR: 'it returns false'. Refute it at one input. -/
def predicateOverlapsWrong : ChangeSpec := { name := "predicateOverlaps", fn := fun _ => fun
  | [d1, d2, d3, d4] => { results := [.lit (.bool false)], args := [d1, d2, d3, d4] }
  | _ => none }
def PredicateOverlapsWrongFalsely : Prop := predicateOverlapsRow.holds Try.pinned (OpenSpec.ofChange predicateOverlapsWrong)

/-- 'bitemporallaw12.PredicateConditions': WHATEVER THE INPUT: true; the input reads as it did. -/
def predicateConditionsSpec : ChangeSpec := { name := "predicateConditions", fn := fun _ => fun
  | [d1, d2] => { results := [.lit (.bool true)], args := [d1, d2] }
  | _ => none }
def predicateConditionsRow : OpenClaim := { program := "ytdhdhhgdeokiiaa", sum := "fd82e2afef765eb270df461ac6d781d0a0585839e54512a61282342e5d0d2a09", func := "bitemporal/bitemporallaw12.PredicateConditions", spec := "predicateConditions", inPlace := ["internal/bytealg.abigen_runtime_cmpstring"], unfollowed := true, recurses := true, loops := true, apart := false }
def PredicateConditionsSaid : Prop := predicateConditionsRow.holds Try.pinned (OpenSpec.ofChange predicateConditionsSpec)

/-- ITS FALSE NEIGHBOUR: 'it returns false'. Refute it at one input. -/
def predicateConditionsWrong : ChangeSpec := { name := "predicateConditions", fn := fun _ => fun
  | [d1, d2] => { results := [.lit (.bool false)], args := [d1, d2] }
  | _ => none }
def PredicateConditionsWrongFalsely : Prop := predicateConditionsRow.holds Try.pinned (OpenSpec.ofChange predicateConditionsWrong)

/-- 'bitemporallaw12.PredicateParts': WHATEVER THE INPUT: true; the input reads as it did. -/
def predicatePartsSpec : ChangeSpec := { name := "predicateParts", fn := fun _ => fun
  | [d1, d2] => { results := [.lit (.bool true)], args := [d1, d2] }
  | _ => none }
def predicatePartsRow : OpenClaim := { program := "ytdhdhhgdeokiiaa", sum := "fd82e2afef765eb270df461ac6d781d0a0585839e54512a61282342e5d0d2a09", func := "bitemporal/bitemporallaw12.PredicateParts", spec := "predicateParts", inPlace := ["internal/bytealg.abigen_runtime_cmpstring"], unfollowed := true, recurses := true, loops := true, apart := false }
def PredicatePartsSaid : Prop := predicatePartsRow.holds Try.pinned (OpenSpec.ofChange predicatePartsSpec)

/-- ITS FALSE NEIGHBOUR: 'it returns false'. Refute it at one input. -/
def predicatePartsWrong : ChangeSpec := { name := "predicateParts", fn := fun _ => fun
  | [d1, d2] => { results := [.lit (.bool false)], args := [d1, d2] }
  | _ => none }
def PredicatePartsWrongFalsely : Prop := predicatePartsRow.holds Try.pinned (OpenSpec.ofChange predicatePartsWrong)

/-- 'bitemporallaw11.ExprColumns': WHATEVER THE INPUT: true; the input reads as it did. -/
def exprColumnsSpec : ChangeSpec := { name := "exprColumns", fn := fun _ => fun
  | [d1, d2, d3, d4] => { results := [.lit (.bool true)], args := [d1, d2, d3, d4] }
  | _ => none }
def exprColumnsRow : OpenClaim := { program := "ytdhdhhgdeokiiaa", sum := "fd82e2afef765eb270df461ac6d781d0a0585839e54512a61282342e5d0d2a09", func := "bitemporal/bitemporallaw11.ExprColumns", spec := "exprColumns", inPlace := ["internal/bytealg.abigen_runtime_cmpstring"], unfollowed := true, recurses := true, loops := true, apart := false }
def ExprColumnsSaid : Prop := exprColumnsRow.holds Try.pinned (OpenSpec.ofChange exprColumnsSpec)

/-- ITS FALSE NEIGHBOUR: 'it returns false'. Refute it at one input. -/
def exprColumnsWrong : ChangeSpec := { name := "exprColumns", fn := fun _ => fun
  | [d1, d2, d3, d4] => { results := [.lit (.bool false)], args := [d1, d2, d3, d4] }
  | _ => none }
def ExprColumnsWrongFalsely : Prop := exprColumnsRow.holds Try.pinned (OpenSpec.ofChange exprColumnsWrong)

/-- 'bitemporallaw11.ExprChanges': WHATEVER THE INPUT: true; the input reads as it did. -/
def exprChangesSpec : ChangeSpec := { name := "exprChanges", fn := fun _ => fun
  | [d1, d2, d3] => { results := [.lit (.bool true)], args := [d1, d2, d3] }
  | _ => none }
def exprChangesRow : OpenClaim := { program := "ytdhdhhgdeokiiaa", sum := "fd82e2afef765eb270df461ac6d781d0a0585839e54512a61282342e5d0d2a09", func := "bitemporal/bitemporallaw11.ExprChanges", spec := "exprChanges", inPlace := ["internal/bytealg.abigen_runtime_cmpstring"], unfollowed := true, recurses := true, loops := true, apart := false }
def ExprChangesSaid : Prop := exprChangesRow.holds Try.pinned (OpenSpec.ofChange exprChangesSpec)

/-- ITS FALSE NEIGHBOUR: 'it returns false'. Refute it at one input. -/
def exprChangesWrong : ChangeSpec := { name := "exprChanges", fn := fun _ => fun
  | [d1, d2, d3] => { results := [.lit (.bool false)], args := [d1, d2, d3] }
  | _ => none }
def ExprChangesWrongFalsely : Prop := exprChangesRow.holds Try.pinned (OpenSpec.ofChange exprChangesWrong)

/-- 'bitemporallaw12.PredicateSplits': WHATEVER THE INPUT: true; the input reads as it did. -/
def predicateSplitsSpec : ChangeSpec := { name := "predicateSplits", fn := fun _ => fun
  | [d1, d2] => { results := [.lit (.bool true)], args := [d1, d2] }
  | _ => none }
def predicateSplitsRow : OpenClaim := { program := "ytdhdhhgdeokiiaa", sum := "fd82e2afef765eb270df461ac6d781d0a0585839e54512a61282342e5d0d2a09", func := "bitemporal/bitemporallaw12.PredicateSplits", spec := "predicateSplits", inPlace := ["internal/bytealg.abigen_runtime_cmpstring"], unfollowed := true, recurses := true, loops := true, apart := false }
def PredicateSplitsSaid : Prop := predicateSplitsRow.holds Try.pinned (OpenSpec.ofChange predicateSplitsSpec)

/-- ITS FALSE NEIGHBOUR: 'it returns false'. Refute it at one input. -/
def predicateSplitsWrong : ChangeSpec := { name := "predicateSplits", fn := fun _ => fun
  | [d1, d2] => { results := [.lit (.bool false)], args := [d1, d2] }
  | _ => none }
def PredicateSplitsWrongFalsely : Prop := predicateSplitsRow.holds Try.pinned (OpenSpec.ofChange predicateSplitsWrong)

/- THE SECOND FORM. 'bulk': how many values and letters a reading holds, each counted each time it is reached (what is shared counts as often as it is met; a slice's spare places count too). A statement '..UptoSaid' is the law's where the arguments, and the package variables that the reading takes, are together of bulk at most 1048576: NARROWER than '..Said'. Prove '..Said' where nothing that the law and all that it calls make is longer than what came in: it says more and counts as full. Else prove '..UptoSaid'. A law counts once. -/
mutual
def uptoBulk {H : Type} : DataW H → Nat
  | .lit (.string bytes) => bytes.length + 1
  | .lit _ => 1
  | .nil => 1
  | .ptr d => uptoBulk d + 1
  | .slice elems spare => uptoBulkAll elems + uptoBulkAll spare + 1
  | .agg parts => uptoBulkAll parts + 1
  | .iface _ d => uptoBulk d + 1
  | .map entries => uptoBulkEntries entries + 1
  | .held _ => 1
def uptoBulkAll {H : Type} : List (DataW H) → Nat
  | [] => 0
  | d :: r => uptoBulk d + uptoBulkAll r
def uptoBulkEntries {H : Type} : List (Lit × DataW H) → Nat
  | [] => 0
  | x :: r => uptoBulkEntry x + uptoBulkEntries r
def uptoBulkEntry {H : Type} : Lit × DataW H → Nat
  | (.string bytes, d) => bytes.length + uptoBulk d + 1
  | (_, d) => uptoBulk d + 1
 end
def uptoSmall : (H : Type) → List (DataW H) → Bool := fun _ ds => decide (uptoBulkAll ds ≤ 1048576)
def OpenSpec.upto (s : _root_.Go.ChangeSpec) : _root_.Go.OpenSpec := { _root_.Go.OpenSpec.ofChange s with cond := some uptoSmall }

/-- 'bitemporallaw11.ExprChecks', WHERE WHAT IT READS IS OF BULK AT MOST 1048576: true; the input reads as it did. -/
def exprChecksUptoRow : OpenClaim := { program := "ytdhdhhgdeokiiaa", sum := "fd82e2afef765eb270df461ac6d781d0a0585839e54512a61282342e5d0d2a09", func := "bitemporal/bitemporallaw11.ExprChecks", spec := "exprChecks", inPlace := ["internal/bytealg.abigen_runtime_cmpstring"], recurses := true, loops := true, apart := false, narrowed := true }
def ExprChecksUptoSaid : Prop := exprChecksUptoRow.holds Try.pinned (OpenSpec.upto exprChecksSpec)

/-- 'bitemporallaw11.ExprEvaluates', WHERE WHAT IT READS IS OF BULK AT MOST 1048576: true; the input reads as it did. -/
def exprEvaluatesUptoRow : OpenClaim := { program := "ytdhdhhgdeokiiaa", sum := "fd82e2afef765eb270df461ac6d781d0a0585839e54512a61282342e5d0d2a09", func := "bitemporal/bitemporallaw11.ExprEvaluates", spec := "exprEvaluates", inPlace := ["internal/bytealg.abigen_runtime_cmpstring"], recurses := true, loops := true, apart := false, narrowed := true }
def ExprEvaluatesUptoSaid : Prop := exprEvaluatesUptoRow.holds Try.pinned (OpenSpec.upto exprEvaluatesSpec)

/-- 'bitemporallaw11.ExprKinds', WHERE WHAT IT READS IS OF BULK AT MOST 1048576: true; the input reads as it did. -/
def exprKindsUptoRow : OpenClaim := { program := "ytdhdhhgdeokiiaa", sum := "fd82e2afef765eb270df461ac6d781d0a0585839e54512a61282342e5d0d2a09", func := "bitemporal/bitemporallaw11.ExprKinds", spec := "exprKinds", inPlace := ["internal/bytealg.abigen_runtime_cmpstring"], recurses := true, loops := true, apart := false, narrowed := true }
def ExprKindsUptoSaid : Prop := exprKindsUptoRow.holds Try.pinned (OpenSpec.upto exprKindsSpec)

/-- 'bitemporallaw11.ExprCompares', WHERE WHAT IT READS IS OF BULK AT MOST 1048576: true; the input reads as it did. -/
def exprComparesUptoRow : OpenClaim := { program := "ytdhdhhgdeokiiaa", sum := "fd82e2afef765eb270df461ac6d781d0a0585839e54512a61282342e5d0d2a09", func := "bitemporal/bitemporallaw11.ExprCompares", spec := "exprCompares", inPlace := ["internal/bytealg.abigen_runtime_cmpstring"], unfollowed := true, recurses := true, loops := true, apart := false, narrowed := true }
def ExprComparesUptoSaid : Prop := exprComparesUptoRow.holds Try.pinned (OpenSpec.upto exprComparesSpec)

/-- 'bitemporallaw12.PredicateWindow', WHERE WHAT IT READS IS OF BULK AT MOST 1048576: true; the input reads as it did. -/
def predicateWindowUptoRow : OpenClaim := { program := "ytdhdhhgdeokiiaa", sum := "fd82e2afef765eb270df461ac6d781d0a0585839e54512a61282342e5d0d2a09", func := "bitemporal/bitemporallaw12.PredicateWindow", spec := "predicateWindow", inPlace := ["internal/bytealg.abigen_runtime_cmpstring"], unfollowed := true, recurses := true, loops := true, apart := false, narrowed := true }
def PredicateWindowUptoSaid : Prop := predicateWindowUptoRow.holds Try.pinned (OpenSpec.upto predicateWindowSpec)

/-- 'bitemporallaw12.PredicateOverlaps', WHERE WHAT IT READS IS OF BULK AT MOST 1048576: true; the input reads as it did. -/
def predicateOverlapsUptoRow : OpenClaim := { program := "ytdhdhhgdeokiiaa", sum := "fd82e2afef765eb270df461ac6d781d0a0585839e54512a61282342e5d0d2a09", func := "bitemporal/bitemporallaw12.PredicateOverlaps", spec := "predicateOverlaps", inPlace := ["internal/bytealg.abigen_runtime_cmpstring"], unfollowed := true, recurses := true, loops := true, apart := false, narrowed := true }
def PredicateOverlapsUptoSaid : Prop := predicateOverlapsUptoRow.holds Try.pinned (OpenSpec.upto predicateOverlapsSpec)

/-- 'bitemporallaw12.PredicateConditions', WHERE WHAT IT READS IS OF BULK AT MOST 1048576: true; the input reads as it did. -/
def predicateConditionsUptoRow : OpenClaim := { program := "ytdhdhhgdeokiiaa", sum := "fd82e2afef765eb270df461ac6d781d0a0585839e54512a61282342e5d0d2a09", func := "bitemporal/bitemporallaw12.PredicateConditions", spec := "predicateConditions", inPlace := ["internal/bytealg.abigen_runtime_cmpstring"], unfollowed := true, recurses := true, loops := true, apart := false, narrowed := true }
def PredicateConditionsUptoSaid : Prop := predicateConditionsUptoRow.holds Try.pinned (OpenSpec.upto predicateConditionsSpec)

/-- 'bitemporallaw12.PredicateParts', WHERE WHAT IT READS IS OF BULK AT MOST 1048576: true; the input reads as it did. -/
def predicatePartsUptoRow : OpenClaim := { program := "ytdhdhhgdeokiiaa", sum := "fd82e2afef765eb270df461ac6d781d0a0585839e54512a61282342e5d0d2a09", func := "bitemporal/bitemporallaw12.PredicateParts", spec := "predicateParts", inPlace := ["internal/bytealg.abigen_runtime_cmpstring"], unfollowed := true, recurses := true, loops := true, apart := false, narrowed := true }
def PredicatePartsUptoSaid : Prop := predicatePartsUptoRow.holds Try.pinned (OpenSpec.upto predicatePartsSpec)

/-- 'bitemporallaw11.ExprColumns', WHERE WHAT IT READS IS OF BULK AT MOST 1048576: true; the input reads as it did. -/
def exprColumnsUptoRow : OpenClaim := { program := "ytdhdhhgdeokiiaa", sum := "fd82e2afef765eb270df461ac6d781d0a0585839e54512a61282342e5d0d2a09", func := "bitemporal/bitemporallaw11.ExprColumns", spec := "exprColumns", inPlace := ["internal/bytealg.abigen_runtime_cmpstring"], unfollowed := true, recurses := true, loops := true, apart := false, narrowed := true }
def ExprColumnsUptoSaid : Prop := exprColumnsUptoRow.holds Try.pinned (OpenSpec.upto exprColumnsSpec)

/-- 'bitemporallaw11.ExprChanges', WHERE WHAT IT READS IS OF BULK AT MOST 1048576: true; the input reads as it did. -/
def exprChangesUptoRow : OpenClaim := { program := "ytdhdhhgdeokiiaa", sum := "fd82e2afef765eb270df461ac6d781d0a0585839e54512a61282342e5d0d2a09", func := "bitemporal/bitemporallaw11.ExprChanges", spec := "exprChanges", inPlace := ["internal/bytealg.abigen_runtime_cmpstring"], unfollowed := true, recurses := true, loops := true, apart := false, narrowed := true }
def ExprChangesUptoSaid : Prop := exprChangesUptoRow.holds Try.pinned (OpenSpec.upto exprChangesSpec)

/-- 'bitemporallaw12.PredicateSplits', WHERE WHAT IT READS IS OF BULK AT MOST 1048576: true; the input reads as it did. -/
def predicateSplitsUptoRow : OpenClaim := { program := "ytdhdhhgdeokiiaa", sum := "fd82e2afef765eb270df461ac6d781d0a0585839e54512a61282342e5d0d2a09", func := "bitemporal/bitemporallaw12.PredicateSplits", spec := "predicateSplits", inPlace := ["internal/bytealg.abigen_runtime_cmpstring"], unfollowed := true, recurses := true, loops := true, apart := false, narrowed := true }
def PredicateSplitsUptoSaid : Prop := predicateSplitsUptoRow.holds Try.pinned (OpenSpec.upto predicateSplitsSpec)

end Rows
end Go.Proofs.Ytdhdhhgdeokiiaa
