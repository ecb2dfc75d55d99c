/-
  NARROWER THAN 'FOR EVERY INPUT', by the rows' own cells (each row's printed sentence says how): EvolveApplies: loops · EvolveRuns: loops · EvolveIndices: loops.
  DERIVED. THE GIVEN ROWS OF THIS SEAT. 3 by the template 'for every input the law returns true; each argument reads behind the call as it read before'; 0 by the template 'total and deterministic' (their statements: YtjngjdgimlnnjaaGreatTotals.lean).
  GIVEN WITH THE SEED: the statements are not yours to turn. If you find one false, say at which input.
  Laid BY PROGRAM, IN A SANDBOX (cutbox-rows.mjs): the forced cells as the released guide's own fill.sh prints them over the translation 610a38f1a5f83d18… (all of the seat's roots in one cut). By AI agents, Wed Nov 11 2026. No macro, syntax, notation, axiom, sorry.
-/
import Derived.Test.YtjngjdgimlnnjaaGreatChecked
import GoSem.Claim
import GoSem.ClaimJoined
import GoSem.ClaimMapViews
import Derived.JoinedTies
import Derived.KernelRfl
namespace Go.Proofs.YtjngjdgimlnnjaaGreat
/- THE CELL 'sum', in the pinned program and in every row, IS THE sha256 OF THE DUMP (.gsa) THAT YtjngjdgimlnnjaaGreatProg.lean LOADS. Nothing in Lean hashes anything: it is a label: what it is worth is what the hold of that sum in a sandbox is worth. -/
noncomputable def Tryz.pinned : Pinned := { name := "ytjngjdgimlnnjaagreat", sum := "610a38f1a5f83d18cacd93a66b97525d6eef94dd8153c41ffd699d4bf0b7191f", checked := Tryz.checked }
namespace Rows
def none {H : Type} : Left H := { results := [], args := [] }

/-- 'bitemporallaw14.EvolveApplies': WHATEVER THE INPUT: true; the input reads as it did. -/
def evolveAppliesSpec : ChangeSpec := { name := "evolveApplies", fn := fun _ => fun
  | [d1, d2] => { results := [.lit (.bool true)], args := [d1, d2] }
  | _ => none }
def evolveAppliesRow : OpenClaim := { program := "ytjngjdgimlnnjaagreat", sum := "610a38f1a5f83d18cacd93a66b97525d6eef94dd8153c41ffd699d4bf0b7191f", func := "bitemporal/bitemporallaw14.EvolveApplies", spec := "evolveApplies", unfollowed := true, recurses := true, loops := true, apart := false }
def EvolveAppliesSaid : Prop := evolveAppliesRow.holds Tryz.pinned (OpenSpec.ofChange evolveAppliesSpec)

/-- ITS FALSE NEIGHBOUR: 'it returns false'. Refute it at one input. -/
def evolveAppliesWrong : ChangeSpec := { name := "evolveApplies", fn := fun _ => fun
  | [d1, d2] => { results := [.lit (.bool false)], args := [d1, d2] }
  | _ => none }
def EvolveAppliesWrongFalsely : Prop := evolveAppliesRow.holds Tryz.pinned (OpenSpec.ofChange evolveAppliesWrong)

/-- 'bitemporallaw14.EvolveRuns': WHATEVER THE INPUT: true; the input reads as it did. -/
def evolveRunsSpec : ChangeSpec := { name := "evolveRuns", fn := fun _ => fun
  | [d1, d2] => { results := [.lit (.bool true)], args := [d1, d2] }
  | _ => none }
def evolveRunsRow : OpenClaim := { program := "ytjngjdgimlnnjaagreat", sum := "610a38f1a5f83d18cacd93a66b97525d6eef94dd8153c41ffd699d4bf0b7191f", func := "bitemporal/bitemporallaw14.EvolveRuns", spec := "evolveRuns", unfollowed := true, recurses := true, loops := true, apart := false }
def EvolveRunsSaid : Prop := evolveRunsRow.holds Tryz.pinned (OpenSpec.ofChange evolveRunsSpec)

/-- ITS FALSE NEIGHBOUR: 'it returns false'. Refute it at one input. -/
def evolveRunsWrong : ChangeSpec := { name := "evolveRuns", fn := fun _ => fun
  | [d1, d2] => { results := [.lit (.bool false)], args := [d1, d2] }
  | _ => none }
def EvolveRunsWrongFalsely : Prop := evolveRunsRow.holds Tryz.pinned (OpenSpec.ofChange evolveRunsWrong)

/-- 'bitemporallaw14.EvolveIndices': WHATEVER THE INPUT: true; the input reads as it did. -/
def evolveIndicesSpec : ChangeSpec := { name := "evolveIndices", fn := fun _ => fun
  | [d1, d2, d3] => { results := [.lit (.bool true)], args := [d1, d2, d3] }
  | _ => none }
def evolveIndicesRow : OpenClaim := { program := "ytjngjdgimlnnjaagreat", sum := "610a38f1a5f83d18cacd93a66b97525d6eef94dd8153c41ffd699d4bf0b7191f", func := "bitemporal/bitemporallaw14.EvolveIndices", spec := "evolveIndices", unfollowed := true, recurses := true, loops := true, apart := false }
def EvolveIndicesSaid : Prop := evolveIndicesRow.holds Tryz.pinned (OpenSpec.ofChange evolveIndicesSpec)

/-- ITS FALSE NEIGHBOUR: 'it returns false'. Refute it at one input. -/
def evolveIndicesWrong : ChangeSpec := { name := "evolveIndices", fn := fun _ => fun
  | [d1, d2, d3] => { results := [.lit (.bool false)], args := [d1, d2, d3] }
  | _ => none }
def EvolveIndicesWrongFalsely : Prop := evolveIndicesRow.holds Tryz.pinned (OpenSpec.ofChange evolveIndicesWrong)

/- THE SECOND FORM. 'bulk': how many values and letters a reading holds, each counted each time it is reached (what is shared counts as often as it is met; a slice's spare places count too). A statement '..UptoSaid' is the law's where the arguments, and the package variables that the reading takes, are together of bulk at most 1048576: NARROWER than '..Said'. Prove '..Said' where nothing that the law and all that it calls make is longer than what came in: it says more and counts as full. Else prove '..UptoSaid'. A law counts once. -/
mutual
def uptoBulk {H : Type} : DataW H → Nat
  | .lit (.string bytes) => bytes.length + 1
  | .lit _ => 1
  | .nil => 1
  | .ptr d => uptoBulk d + 1
  | .slice elems spare => uptoBulkAll elems + uptoBulkAll spare + 1
  | .agg parts => uptoBulkAll parts + 1
  | .iface _ d => uptoBulk d + 1
  | .map entries => uptoBulkEntries entries + 1
  | .held _ => 1
def uptoBulkAll {H : Type} : List (DataW H) → Nat
  | [] => 0
  | d :: r => uptoBulk d + uptoBulkAll r
def uptoBulkEntries {H : Type} : List (Lit × DataW H) → Nat
  | [] => 0
  | x :: r => uptoBulkEntry x + uptoBulkEntries r
def uptoBulkEntry {H : Type} : Lit × DataW H → Nat
  | (.string bytes, d) => bytes.length + uptoBulk d + 1
  | (_, d) => uptoBulk d + 1
 end
def uptoSmall : (H : Type) → List (DataW H) → Bool := fun _ ds => decide (uptoBulkAll ds ≤ 1048576)
def OpenSpec.upto (s : _root_.Go.ChangeSpec) : _root_.Go.OpenSpec := { _root_.Go.OpenSpec.ofChange s with cond := some uptoSmall }

/-- 'bitemporallaw14.EvolveApplies', WHERE WHAT IT READS IS OF BULK AT MOST 1048576: true; the input reads as it did. -/
def evolveAppliesUptoRow : OpenClaim := { program := "ytjngjdgimlnnjaagreat", sum := "610a38f1a5f83d18cacd93a66b97525d6eef94dd8153c41ffd699d4bf0b7191f", func := "bitemporal/bitemporallaw14.EvolveApplies", spec := "evolveApplies", unfollowed := true, recurses := true, loops := true, apart := false, narrowed := true }
def EvolveAppliesUptoSaid : Prop := evolveAppliesUptoRow.holds Tryz.pinned (OpenSpec.upto evolveAppliesSpec)

/-- 'bitemporallaw14.EvolveRuns', WHERE WHAT IT READS IS OF BULK AT MOST 1048576: true; the input reads as it did. -/
def evolveRunsUptoRow : OpenClaim := { program := "ytjngjdgimlnnjaagreat", sum := "610a38f1a5f83d18cacd93a66b97525d6eef94dd8153c41ffd699d4bf0b7191f", func := "bitemporal/bitemporallaw14.EvolveRuns", spec := "evolveRuns", unfollowed := true, recurses := true, loops := true, apart := false, narrowed := true }
def EvolveRunsUptoSaid : Prop := evolveRunsUptoRow.holds Tryz.pinned (OpenSpec.upto evolveRunsSpec)

/-- 'bitemporallaw14.EvolveIndices', WHERE WHAT IT READS IS OF BULK AT MOST 1048576: true; the input reads as it did. -/
def evolveIndicesUptoRow : OpenClaim := { program := "ytjngjdgimlnnjaagreat", sum := "610a38f1a5f83d18cacd93a66b97525d6eef94dd8153c41ffd699d4bf0b7191f", func := "bitemporal/bitemporallaw14.EvolveIndices", spec := "evolveIndices", unfollowed := true, recurses := true, loops := true, apart := false, narrowed := true }
def EvolveIndicesUptoSaid : Prop := evolveIndicesUptoRow.holds Tryz.pinned (OpenSpec.upto evolveIndicesSpec)

end Rows
end Go.Proofs.YtjngjdgimlnnjaaGreat
