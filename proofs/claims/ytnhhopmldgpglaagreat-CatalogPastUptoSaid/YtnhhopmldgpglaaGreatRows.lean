/-
  NARROWER THAN 'FOR EVERY INPUT', by the rows' own cells (each row's printed sentence says how): CatalogExtends: loops · CatalogReads: loops · CatalogChecks: loops · CatalogValid: loops · CatalogPast: loops.
  DERIVED. THE GIVEN ROWS OF THIS SEAT. 5 by the template 'for every input the law returns true; each argument reads behind the call as it read before'; 0 by the template 'total and deterministic' (their statements: YtnhhopmldgpglaaGreatTotals.lean).
  GIVEN WITH THE SEED: the statements are not yours to turn. If you find one false, say at which input.
  Laid BY PROGRAM, IN A SANDBOX (cutbox-rows.mjs): the forced cells as the released guide's own fill.sh prints them over the translation 5fe1b2137a5a064c… (all of the seat's roots in one cut). By AI agents, Wed Nov 11 2026. No macro, syntax, notation, axiom, sorry.
-/
import Derived.Test.YtnhhopmldgpglaaGreatChecked
import GoSem.Claim
import GoSem.ClaimJoined
import GoSem.ClaimMapViews
import Derived.JoinedTies
import Derived.KernelRfl
namespace Go.Proofs.YtnhhopmldgpglaaGreat
/- THE CELL 'sum', in the pinned program and in every row, IS THE sha256 OF THE DUMP (.gsa) THAT YtnhhopmldgpglaaGreatProg.lean LOADS. Nothing in Lean hashes anything: it is a label: what it is worth is what the hold of that sum in a sandbox is worth. -/
noncomputable def Tryz.pinned : Pinned := { name := "ytnhhopmldgpglaagreat", sum := "5fe1b2137a5a064ce18c8f04510786fc9d2be57aec3f2096acde891795aaa884", checked := Tryz.checked }
namespace Rows
def none {H : Type} : Left H := { results := [], args := [] }

/-- 'bitemporallaw16.CatalogExtends': WHATEVER THE INPUT: true; the input reads as it did. -/
def catalogExtendsSpec : ChangeSpec := { name := "catalogExtends", fn := fun _ => fun
  | [d1, d2, d3, d4, d5] => { results := [.lit (.bool true)], args := [d1, d2, d3, d4, d5] }
  | _ => none }
def catalogExtendsRow : OpenClaim := { program := "ytnhhopmldgpglaagreat", sum := "5fe1b2137a5a064ce18c8f04510786fc9d2be57aec3f2096acde891795aaa884", func := "bitemporal/bitemporallaw16.CatalogExtends", spec := "catalogExtends", unfollowed := true, recurses := true, loops := true, apart := false }
def CatalogExtendsSaid : Prop := catalogExtendsRow.holds Tryz.pinned (OpenSpec.ofChange catalogExtendsSpec)

/-- ITS FALSE NEIGHBOUR: 'it returns false'. Refute it at one input. -/
def catalogExtendsWrong : ChangeSpec := { name := "catalogExtends", fn := fun _ => fun
  | [d1, d2, d3, d4, d5] => { results := [.lit (.bool false)], args := [d1, d2, d3, d4, d5] }
  | _ => none }
def CatalogExtendsWrongFalsely : Prop := catalogExtendsRow.holds Tryz.pinned (OpenSpec.ofChange catalogExtendsWrong)

/-- 'bitemporallaw16.CatalogReads': WHATEVER THE INPUT: true; the input reads as it did. -/
def catalogReadsSpec : ChangeSpec := { name := "catalogReads", fn := fun _ => fun
  | [d1, d2, d3] => { results := [.lit (.bool true)], args := [d1, d2, d3] }
  | _ => none }
def catalogReadsRow : OpenClaim := { program := "ytnhhopmldgpglaagreat", sum := "5fe1b2137a5a064ce18c8f04510786fc9d2be57aec3f2096acde891795aaa884", func := "bitemporal/bitemporallaw16.CatalogReads", spec := "catalogReads", unfollowed := true, recurses := true, loops := true, apart := false }
def CatalogReadsSaid : Prop := catalogReadsRow.holds Tryz.pinned (OpenSpec.ofChange catalogReadsSpec)

/-- ITS FALSE NEIGHBOUR: 'it returns false'. Refute it at one input. -/
def catalogReadsWrong : ChangeSpec := { name := "catalogReads", fn := fun _ => fun
  | [d1, d2, d3] => { results := [.lit (.bool false)], args := [d1, d2, d3] }
  | _ => none }
def CatalogReadsWrongFalsely : Prop := catalogReadsRow.holds Tryz.pinned (OpenSpec.ofChange catalogReadsWrong)

/-- 'bitemporallaw16.CatalogChecks': WHATEVER THE INPUT: true; the input reads as it did. -/
def catalogChecksSpec : ChangeSpec := { name := "catalogChecks", fn := fun _ => fun
  | [d] => { results := [.lit (.bool true)], args := [d] }
  | _ => none }
def catalogChecksRow : OpenClaim := { program := "ytnhhopmldgpglaagreat", sum := "5fe1b2137a5a064ce18c8f04510786fc9d2be57aec3f2096acde891795aaa884", func := "bitemporal/bitemporallaw16.CatalogChecks", spec := "catalogChecks", unfollowed := true, recurses := true, loops := true, apart := false }
def CatalogChecksSaid : Prop := catalogChecksRow.holds Tryz.pinned (OpenSpec.ofChange catalogChecksSpec)

/-- ITS FALSE NEIGHBOUR: 'it returns false'. Refute it at one input. -/
def catalogChecksWrong : ChangeSpec := { name := "catalogChecks", fn := fun _ => fun
  | [d] => { results := [.lit (.bool false)], args := [d] }
  | _ => none }
def CatalogChecksWrongFalsely : Prop := catalogChecksRow.holds Tryz.pinned (OpenSpec.ofChange catalogChecksWrong)

/-- 'bitemporallaw16.CatalogValid': WHATEVER THE INPUT: true; the input reads as it did. -/
def catalogValidSpec : ChangeSpec := { name := "catalogValid", fn := fun _ => fun
  | [d1, d2, d3, d4] => { results := [.lit (.bool true)], args := [d1, d2, d3, d4] }
  | _ => none }
def catalogValidRow : OpenClaim := { program := "ytnhhopmldgpglaagreat", sum := "5fe1b2137a5a064ce18c8f04510786fc9d2be57aec3f2096acde891795aaa884", func := "bitemporal/bitemporallaw16.CatalogValid", spec := "catalogValid", unfollowed := true, recurses := true, loops := true, apart := false }
def CatalogValidSaid : Prop := catalogValidRow.holds Tryz.pinned (OpenSpec.ofChange catalogValidSpec)

/-- ITS FALSE NEIGHBOUR: 'it returns false'. Refute it at one input. -/
def catalogValidWrong : ChangeSpec := { name := "catalogValid", fn := fun _ => fun
  | [d1, d2, d3, d4] => { results := [.lit (.bool false)], args := [d1, d2, d3, d4] }
  | _ => none }
def CatalogValidWrongFalsely : Prop := catalogValidRow.holds Tryz.pinned (OpenSpec.ofChange catalogValidWrong)

/-- 'bitemporallaw16.CatalogPast': WHATEVER THE INPUT: true; the input reads as it did. -/
def catalogPastSpec : ChangeSpec := { name := "catalogPast", fn := fun _ => fun
  | [d1, d2, d3] => { results := [.lit (.bool true)], args := [d1, d2, d3] }
  | _ => none }
def catalogPastRow : OpenClaim := { program := "ytnhhopmldgpglaagreat", sum := "5fe1b2137a5a064ce18c8f04510786fc9d2be57aec3f2096acde891795aaa884", func := "bitemporal/bitemporallaw16.CatalogPast", spec := "catalogPast", unfollowed := true, recurses := true, loops := true, apart := false }
def CatalogPastSaid : Prop := catalogPastRow.holds Tryz.pinned (OpenSpec.ofChange catalogPastSpec)

/-- ITS FALSE NEIGHBOUR: 'it returns false'. Refute it at one input. -/
def catalogPastWrong : ChangeSpec := { name := "catalogPast", fn := fun _ => fun
  | [d1, d2, d3] => { results := [.lit (.bool false)], args := [d1, d2, d3] }
  | _ => none }
def CatalogPastWrongFalsely : Prop := catalogPastRow.holds Tryz.pinned (OpenSpec.ofChange catalogPastWrong)

/- THE SECOND FORM. 'bulk': how many values and letters a reading holds, each counted each time it is reached (what is shared counts as often as it is met; a slice's spare places count too). A statement '..UptoSaid' is the law's where the arguments, and the package variables that the reading takes, are together of bulk at most 1048576: NARROWER than '..Said'. Prove '..Said' where nothing that the law and all that it calls make is longer than what came in: it says more and counts as full. Else prove '..UptoSaid'. A law counts once. -/
mutual
def uptoBulk {H : Type} : DataW H → Nat
  | .lit (.string bytes) => bytes.length + 1
  | .lit _ => 1
  | .nil => 1
  | .ptr d => uptoBulk d + 1
  | .slice elems spare => uptoBulkAll elems + uptoBulkAll spare + 1
  | .agg parts => uptoBulkAll parts + 1
  | .iface _ d => uptoBulk d + 1
  | .map entries => uptoBulkEntries entries + 1
  | .held _ => 1
def uptoBulkAll {H : Type} : List (DataW H) → Nat
  | [] => 0
  | d :: r => uptoBulk d + uptoBulkAll r
def uptoBulkEntries {H : Type} : List (Lit × DataW H) → Nat
  | [] => 0
  | x :: r => uptoBulkEntry x + uptoBulkEntries r
def uptoBulkEntry {H : Type} : Lit × DataW H → Nat
  | (.string bytes, d) => bytes.length + uptoBulk d + 1
  | (_, d) => uptoBulk d + 1
 end
def uptoSmall : (H : Type) → List (DataW H) → Bool := fun _ ds => decide (uptoBulkAll ds ≤ 1048576)
def OpenSpec.upto (s : _root_.Go.ChangeSpec) : _root_.Go.OpenSpec := { _root_.Go.OpenSpec.ofChange s with cond := some uptoSmall }

/-- 'bitemporallaw16.CatalogExtends', WHERE WHAT IT READS IS OF BULK AT MOST 1048576: true; the input reads as it did. -/
def catalogExtendsUptoRow : OpenClaim := { program := "ytnhhopmldgpglaagreat", sum := "5fe1b2137a5a064ce18c8f04510786fc9d2be57aec3f2096acde891795aaa884", func := "bitemporal/bitemporallaw16.CatalogExtends", spec := "catalogExtends", unfollowed := true, recurses := true, loops := true, apart := false, narrowed := true }
def CatalogExtendsUptoSaid : Prop := catalogExtendsUptoRow.holds Tryz.pinned (OpenSpec.upto catalogExtendsSpec)

/-- 'bitemporallaw16.CatalogReads', WHERE WHAT IT READS IS OF BULK AT MOST 1048576: true; the input reads as it did. -/
def catalogReadsUptoRow : OpenClaim := { program := "ytnhhopmldgpglaagreat", sum := "5fe1b2137a5a064ce18c8f04510786fc9d2be57aec3f2096acde891795aaa884", func := "bitemporal/bitemporallaw16.CatalogReads", spec := "catalogReads", unfollowed := true, recurses := true, loops := true, apart := false, narrowed := true }
def CatalogReadsUptoSaid : Prop := catalogReadsUptoRow.holds Tryz.pinned (OpenSpec.upto catalogReadsSpec)

/-- 'bitemporallaw16.CatalogChecks', WHERE WHAT IT READS IS OF BULK AT MOST 1048576: true; the input reads as it did. -/
def catalogChecksUptoRow : OpenClaim := { program := "ytnhhopmldgpglaagreat", sum := "5fe1b2137a5a064ce18c8f04510786fc9d2be57aec3f2096acde891795aaa884", func := "bitemporal/bitemporallaw16.CatalogChecks", spec := "catalogChecks", unfollowed := true, recurses := true, loops := true, apart := false, narrowed := true }
def CatalogChecksUptoSaid : Prop := catalogChecksUptoRow.holds Tryz.pinned (OpenSpec.upto catalogChecksSpec)

/-- 'bitemporallaw16.CatalogValid', WHERE WHAT IT READS IS OF BULK AT MOST 1048576: true; the input reads as it did. -/
def catalogValidUptoRow : OpenClaim := { program := "ytnhhopmldgpglaagreat", sum := "5fe1b2137a5a064ce18c8f04510786fc9d2be57aec3f2096acde891795aaa884", func := "bitemporal/bitemporallaw16.CatalogValid", spec := "catalogValid", unfollowed := true, recurses := true, loops := true, apart := false, narrowed := true }
def CatalogValidUptoSaid : Prop := catalogValidUptoRow.holds Tryz.pinned (OpenSpec.upto catalogValidSpec)

/-- 'bitemporallaw16.CatalogPast', WHERE WHAT IT READS IS OF BULK AT MOST 1048576: true; the input reads as it did. -/
def catalogPastUptoRow : OpenClaim := { program := "ytnhhopmldgpglaagreat", sum := "5fe1b2137a5a064ce18c8f04510786fc9d2be57aec3f2096acde891795aaa884", func := "bitemporal/bitemporallaw16.CatalogPast", spec := "catalogPast", unfollowed := true, recurses := true, loops := true, apart := false, narrowed := true }
def CatalogPastUptoSaid : Prop := catalogPastUptoRow.holds Tryz.pinned (OpenSpec.upto catalogPastSpec)

end Rows
end Go.Proofs.YtnhhopmldgpglaaGreat
