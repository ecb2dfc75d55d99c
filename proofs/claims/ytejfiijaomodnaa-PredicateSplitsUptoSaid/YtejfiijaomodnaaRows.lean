/-
  NARROWER THAN 'FOR EVERY INPUT', by the rows' own cells (each row's printed sentence says how): ExprColumns: loops · ExprChanges: loops · PredicateSplits: loops.
  DERIVED. THE GIVEN ROWS OF THIS SEAT. 3 by the template 'for every input the law returns true; each argument reads behind the call as it read before'; 0 by the template 'total and deterministic' (their statements: YtejfiijaomodnaaTotals.lean).
  GIVEN WITH THE SEED: the statements are not yours to turn. If you find one false, say at which input.
  Laid BY PROGRAM, IN A SANDBOX (cutbox-rows.mjs): the forced cells as the released guide's own fill.sh prints them over the translation 25badd876ce51b6b… (all of the seat's roots in one cut). By AI agents, Wed Nov 11 2026. No macro, syntax, notation, axiom, sorry.
-/
import Derived.Test.YtejfiijaomodnaaChecked
import GoSem.Claim
import GoSem.ClaimJoined
import GoSem.ClaimMapViews
import Derived.JoinedTies
import Derived.KernelRfl
namespace Go.Proofs.Ytejfiijaomodnaa
/- THE CELL 'sum', in the pinned program and in every row, IS THE sha256 OF THE DUMP (.gsa) THAT YtejfiijaomodnaaProg.lean LOADS. Nothing in Lean hashes anything: it is a label: what it is worth is what the hold of that sum in a sandbox is worth. -/
noncomputable def Try.pinned : Pinned := { name := "ytejfiijaomodnaa", sum := "25badd876ce51b6b17e53305762507d572b672768b29cbf4f2c2f51918bbb109", checked := Try.checked }
namespace Rows
def none {H : Type} : Left H := { results := [], args := [] }

/-- 'bitemporallaw11.ExprColumns': WHATEVER THE INPUT: true; the input reads as it did. -/
def exprColumnsSpec : ChangeSpec := { name := "exprColumns", fn := fun _ => fun
  | [d1, d2, d3, d4] => { results := [.lit (.bool true)], args := [d1, d2, d3, d4] }
  | _ => none }
def exprColumnsRow : OpenClaim := { program := "ytejfiijaomodnaa", sum := "25badd876ce51b6b17e53305762507d572b672768b29cbf4f2c2f51918bbb109", func := "bitemporal/bitemporallaw11.ExprColumns", spec := "exprColumns", inPlace := ["internal/bytealg.abigen_runtime_cmpstring"], unfollowed := true, recurses := true, loops := true, apart := false }
def ExprColumnsSaid : Prop := exprColumnsRow.holds Try.pinned (OpenSpec.ofChange exprColumnsSpec)

/-- ITS FALSE NEIGHBOUR: 'it returns false'. Refute it at one input. -/
def exprColumnsWrong : ChangeSpec := { name := "exprColumns", fn := fun _ => fun
  | [d1, d2, d3, d4] => { results := [.lit (.bool false)], args := [d1, d2, d3, d4] }
  | _ => none }
def ExprColumnsWrongFalsely : Prop := exprColumnsRow.holds Try.pinned (OpenSpec.ofChange exprColumnsWrong)

/-- 'bitemporallaw11.ExprChanges': WHATEVER THE INPUT: true; the input reads as it did. -/
def exprChangesSpec : ChangeSpec := { name := "exprChanges", fn := fun _ => fun
  | [d1, d2, d3] => { results := [.lit (.bool true)], args := [d1, d2, d3] }
  | _ => none }
def exprChangesRow : OpenClaim := { program := "ytejfiijaomodnaa", sum := "25badd876ce51b6b17e53305762507d572b672768b29cbf4f2c2f51918bbb109", func := "bitemporal/bitemporallaw11.ExprChanges", spec := "exprChanges", inPlace := ["internal/bytealg.abigen_runtime_cmpstring"], unfollowed := true, recurses := true, loops := true, apart := false }
def ExprChangesSaid : Prop := exprChangesRow.holds Try.pinned (OpenSpec.ofChange exprChangesSpec)

/-- ITS FALSE NEIGHBOUR: 'it returns false'. Refute it at one input. -/
def exprChangesWrong : ChangeSpec := { name := "exprChanges", fn := fun _ => fun
  | [d1, d2, d3] => { results := [.lit (.bool false)], args := [d1, d2, d3] }
  | _ => none }
def ExprChangesWrongFalsely : Prop := exprChangesRow.holds Try.pinned (OpenSpec.ofChange exprChangesWrong)

/-- 'bitemporallaw12.PredicateSplits': WHATEVER THE INPUT: true; the input reads as it did. -/
def predicateSplitsSpec : ChangeSpec := { name := "predicateSplits", fn := fun _ => fun
  | [d1, d2] => { results := [.lit (.bool true)], args := [d1, d2] }
  | _ => none }
def predicateSplitsRow : OpenClaim := { program := "ytejfiijaomodnaa", sum := "25badd876ce51b6b17e53305762507d572b672768b29cbf4f2c2f51918bbb109", func := "bitemporal/bitemporallaw12.PredicateSplits", spec := "predicateSplits", inPlace := ["internal/bytealg.abigen_runtime_cmpstring"], unfollowed := true, recurses := true, loops := true, apart := false }
def PredicateSplitsSaid : Prop := predicateSplitsRow.holds Try.pinned (OpenSpec.ofChange predicateSplitsSpec)

/-- ITS FALSE NEIGHBOUR: 'it returns false'. Refute it at one input. -/
def predicateSplitsWrong : ChangeSpec := { name := "predicateSplits", fn := fun _ => fun
  | [d1, d2] => { results := [.lit (.bool false)], args := [d1, d2] }
  | _ => none }
def PredicateSplitsWrongFalsely : Prop := predicateSplitsRow.holds Try.pinned (OpenSpec.ofChange predicateSplitsWrong)

/- THE SECOND FORM. 'bulk': how many values and letters a reading holds, each counted each time it is reached (what is shared counts as often as it is met; a slice's spare places count too). A statement '..UptoSaid' is the law's where the arguments, and the package variables that the reading takes, are together of bulk at most 1048576: NARROWER than '..Said'. Prove '..Said' where nothing that the law and all that it calls make is longer than what came in: it says more and counts as full. Else prove '..UptoSaid'. A law counts once. -/
mutual
def uptoBulk {H : Type} : DataW H → Nat
  | .lit (.string bytes) => bytes.length + 1
  | .lit _ => 1
  | .nil => 1
  | .ptr d => uptoBulk d + 1
  | .slice elems spare => uptoBulkAll elems + uptoBulkAll spare + 1
  | .agg parts => uptoBulkAll parts + 1
  | .iface _ d => uptoBulk d + 1
  | .map entries => uptoBulkEntries entries + 1
  | .held _ => 1
def uptoBulkAll {H : Type} : List (DataW H) → Nat
  | [] => 0
  | d :: r => uptoBulk d + uptoBulkAll r
def uptoBulkEntries {H : Type} : List (Lit × DataW H) → Nat
  | [] => 0
  | x :: r => uptoBulkEntry x + uptoBulkEntries r
def uptoBulkEntry {H : Type} : Lit × DataW H → Nat
  | (.string bytes, d) => bytes.length + uptoBulk d + 1
  | (_, d) => uptoBulk d + 1
 end
def uptoSmall : (H : Type) → List (DataW H) → Bool := fun _ ds => decide (uptoBulkAll ds ≤ 1048576)
def OpenSpec.upto (s : _root_.Go.ChangeSpec) : _root_.Go.OpenSpec := { _root_.Go.OpenSpec.ofChange s with cond := some uptoSmall }

/-- 'bitemporallaw11.ExprColumns', WHERE WHAT IT READS IS OF BULK AT MOST 1048576: true; the input reads as it did. -/
def exprColumnsUptoRow : OpenClaim := { program := "ytejfiijaomodnaa", sum := "25badd876ce51b6b17e53305762507d572b672768b29cbf4f2c2f51918bbb109", func := "bitemporal/bitemporallaw11.ExprColumns", spec := "exprColumns", inPlace := ["internal/bytealg.abigen_runtime_cmpstring"], unfollowed := true, recurses := true, loops := true, apart := false, narrowed := true }
def ExprColumnsUptoSaid : Prop := exprColumnsUptoRow.holds Try.pinned (OpenSpec.upto exprColumnsSpec)

/-- 'bitemporallaw11.ExprChanges', WHERE WHAT IT READS IS OF BULK AT MOST 1048576: true; the input reads as it did. -/
def exprChangesUptoRow : OpenClaim := { program := "ytejfiijaomodnaa", sum := "25badd876ce51b6b17e53305762507d572b672768b29cbf4f2c2f51918bbb109", func := "bitemporal/bitemporallaw11.ExprChanges", spec := "exprChanges", inPlace := ["internal/bytealg.abigen_runtime_cmpstring"], unfollowed := true, recurses := true, loops := true, apart := false, narrowed := true }
def ExprChangesUptoSaid : Prop := exprChangesUptoRow.holds Try.pinned (OpenSpec.upto exprChangesSpec)

/-- 'bitemporallaw12.PredicateSplits', WHERE WHAT IT READS IS OF BULK AT MOST 1048576: true; the input reads as it did. -/
def predicateSplitsUptoRow : OpenClaim := { program := "ytejfiijaomodnaa", sum := "25badd876ce51b6b17e53305762507d572b672768b29cbf4f2c2f51918bbb109", func := "bitemporal/bitemporallaw12.PredicateSplits", spec := "predicateSplits", inPlace := ["internal/bytealg.abigen_runtime_cmpstring"], unfollowed := true, recurses := true, loops := true, apart := false, narrowed := true }
def PredicateSplitsUptoSaid : Prop := predicateSplitsUptoRow.holds Try.pinned (OpenSpec.upto predicateSplitsSpec)

end Rows
end Go.Proofs.Ytejfiijaomodnaa
