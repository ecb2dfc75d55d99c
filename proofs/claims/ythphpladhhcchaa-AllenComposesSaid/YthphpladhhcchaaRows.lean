/-
  No cell of these rows narrows 'for every input' (looked for: loops, veiled, ifaces, maps, wideKeys, modest, calm, conditions, laid).
  DERIVED. THE GIVEN ROWS OF THIS SEAT. 7 by the template 'for every input the law returns true; each argument reads behind the call as it read before'; 0 by the template 'total and deterministic' (their statements: YthphpladhhcchaaTotals.lean).
  GIVEN WITH THE SEED: the statements are not yours to turn. If you find one false, say at which input.
  Laid BY PROGRAM, IN A SANDBOX (cutbox-rows.mjs): the forced cells as the released guide's own fill.sh prints them over the translation 6666bf3c490c8440… (all of the seat's roots in one cut). By AI agents, Wed Nov 11 2026. No macro, syntax, notation, axiom, sorry.
-/
import Derived.Test.YthphpladhhcchaaChecked
import GoSem.Claim
import GoSem.ClaimJoined
import GoSem.ClaimMapViews
import Derived.JoinedTies
import Derived.KernelRfl
namespace Go.Proofs.Ythphpladhhcchaa
/- THE CELL 'sum', in the pinned program and in every row, IS THE sha256 OF THE DUMP (.gsa) THAT YthphpladhhcchaaProg.lean LOADS. Nothing in Lean hashes anything: it is a label: what it is worth is what the hold of that sum in a sandbox is worth. -/
noncomputable def Try.pinned : Pinned := { name := "ythphpladhhcchaa", sum := "6666bf3c490c84406ff3169e6b275b79ecf694e284c2ab9125654e256500ce5e", checked := Try.checked }
namespace Rows
def none {H : Type} : Left H := { results := [], args := [] }

/-- 'bitemporallaw02.AllenInverse': WHATEVER THE INPUT: true; the input reads as it did. -/
def allenInverseSpec : ChangeSpec := { name := "allenInverse", fn := fun _ => fun
  | [d] => { results := [.lit (.bool true)], args := [d] }
  | _ => none }
def allenInverseRow : OpenClaim := { program := "ythphpladhhcchaa", sum := "6666bf3c490c84406ff3169e6b275b79ecf694e284c2ab9125654e256500ce5e", func := "bitemporal/bitemporallaw02.AllenInverse", spec := "allenInverse", apart := false }
def AllenInverseSaid : Prop := allenInverseRow.holds Try.pinned (OpenSpec.ofChange allenInverseSpec)

/-- ITS FALSE NEIGHBOUR: 'it returns false'. Refute it at one input. -/
def allenInverseWrong : ChangeSpec := { name := "allenInverse", fn := fun _ => fun
  | [d] => { results := [.lit (.bool false)], args := [d] }
  | _ => none }
def AllenInverseWrongFalsely : Prop := allenInverseRow.holds Try.pinned (OpenSpec.ofChange allenInverseWrong)

/-- 'bitemporallaw02.AllenComposes': WHATEVER THE INPUT: true; the input reads as it did. -/
def allenComposesSpec : ChangeSpec := { name := "allenComposes", fn := fun _ => fun
  | [d1, d2, d3] => { results := [.lit (.bool true)], args := [d1, d2, d3] }
  | _ => none }
def allenComposesRow : OpenClaim := { program := "ythphpladhhcchaa", sum := "6666bf3c490c84406ff3169e6b275b79ecf694e284c2ab9125654e256500ce5e", func := "bitemporal/bitemporallaw02.AllenComposes", spec := "allenComposes", apart := false }
def AllenComposesSaid : Prop := allenComposesRow.holds Try.pinned (OpenSpec.ofChange allenComposesSpec)

/-- ITS FALSE NEIGHBOUR: 'it returns false'. Refute it at one input. -/
def allenComposesWrong : ChangeSpec := { name := "allenComposes", fn := fun _ => fun
  | [d1, d2, d3] => { results := [.lit (.bool false)], args := [d1, d2, d3] }
  | _ => none }
def AllenComposesWrongFalsely : Prop := allenComposesRow.holds Try.pinned (OpenSpec.ofChange allenComposesWrong)

/-- 'bitemporallaw02.AllenCompose': WHATEVER THE INPUT: true; the input reads as it did. -/
def allenComposeSpec : ChangeSpec := { name := "allenCompose", fn := fun _ => fun
  | [d1, d2] => { results := [.lit (.bool true)], args := [d1, d2] }
  | _ => none }
def allenComposeRow : OpenClaim := { program := "ythphpladhhcchaa", sum := "6666bf3c490c84406ff3169e6b275b79ecf694e284c2ab9125654e256500ce5e", func := "bitemporal/bitemporallaw02.AllenCompose", spec := "allenCompose", apart := false }
def AllenComposeSaid : Prop := allenComposeRow.holds Try.pinned (OpenSpec.ofChange allenComposeSpec)

/-- ITS FALSE NEIGHBOUR: 'it returns false'. Refute it at one input. -/
def allenComposeWrong : ChangeSpec := { name := "allenCompose", fn := fun _ => fun
  | [d1, d2] => { results := [.lit (.bool false)], args := [d1, d2] }
  | _ => none }
def AllenComposeWrongFalsely : Prop := allenComposeRow.holds Try.pinned (OpenSpec.ofChange allenComposeWrong)

/-- 'bitemporallaw02.AllenTighten': WHATEVER THE INPUT: true; the input reads as it did. -/
def allenTightenSpec : ChangeSpec := { name := "allenTighten", fn := fun _ => fun
  | [d1, d2] => { results := [.lit (.bool true)], args := [d1, d2] }
  | _ => none }
def allenTightenRow : OpenClaim := { program := "ythphpladhhcchaa", sum := "6666bf3c490c84406ff3169e6b275b79ecf694e284c2ab9125654e256500ce5e", func := "bitemporal/bitemporallaw02.AllenTighten", spec := "allenTighten", apart := false }
def AllenTightenSaid : Prop := allenTightenRow.holds Try.pinned (OpenSpec.ofChange allenTightenSpec)

/-- ITS FALSE NEIGHBOUR: 'it returns false'. Refute it at one input. -/
def allenTightenWrong : ChangeSpec := { name := "allenTighten", fn := fun _ => fun
  | [d1, d2] => { results := [.lit (.bool false)], args := [d1, d2] }
  | _ => none }
def AllenTightenWrongFalsely : Prop := allenTightenRow.holds Try.pinned (OpenSpec.ofChange allenTightenWrong)

/-- 'bitemporallaw02.AllenSound': WHATEVER THE INPUT: true; the input reads as it did. -/
def allenSoundSpec : ChangeSpec := { name := "allenSound", fn := fun _ => fun
  | [d1, d2] => { results := [.lit (.bool true)], args := [d1, d2] }
  | _ => none }
def allenSoundRow : OpenClaim := { program := "ythphpladhhcchaa", sum := "6666bf3c490c84406ff3169e6b275b79ecf694e284c2ab9125654e256500ce5e", func := "bitemporal/bitemporallaw02.AllenSound", spec := "allenSound", apart := false }
def AllenSoundSaid : Prop := allenSoundRow.holds Try.pinned (OpenSpec.ofChange allenSoundSpec)

/-- ITS FALSE NEIGHBOUR: 'it returns false'. Refute it at one input. -/
def allenSoundWrong : ChangeSpec := { name := "allenSound", fn := fun _ => fun
  | [d1, d2] => { results := [.lit (.bool false)], args := [d1, d2] }
  | _ => none }
def AllenSoundWrongFalsely : Prop := allenSoundRow.holds Try.pinned (OpenSpec.ofChange allenSoundWrong)

/-- 'bitemporallaw02.AllenOne': WHATEVER THE INPUT: true; the input reads as it did. -/
def allenOneSpec : ChangeSpec := { name := "allenOne", fn := fun _ => fun
  | [d1, d2] => { results := [.lit (.bool true)], args := [d1, d2] }
  | _ => none }
def allenOneRow : OpenClaim := { program := "ythphpladhhcchaa", sum := "6666bf3c490c84406ff3169e6b275b79ecf694e284c2ab9125654e256500ce5e", func := "bitemporal/bitemporallaw02.AllenOne", spec := "allenOne", apart := false }
def AllenOneSaid : Prop := allenOneRow.holds Try.pinned (OpenSpec.ofChange allenOneSpec)

/-- ITS FALSE NEIGHBOUR: 'it returns false'. Refute it at one input. -/
def allenOneWrong : ChangeSpec := { name := "allenOne", fn := fun _ => fun
  | [d1, d2] => { results := [.lit (.bool false)], args := [d1, d2] }
  | _ => none }
def AllenOneWrongFalsely : Prop := allenOneRow.holds Try.pinned (OpenSpec.ofChange allenOneWrong)

/-- 'bitemporallaw02.AllenNames': WHATEVER THE INPUT: true; the input reads as it did. -/
def allenNamesSpec : ChangeSpec := { name := "allenNames", fn := fun _ => fun
  | [d1, d2] => { results := [.lit (.bool true)], args := [d1, d2] }
  | _ => none }
def allenNamesRow : OpenClaim := { program := "ythphpladhhcchaa", sum := "6666bf3c490c84406ff3169e6b275b79ecf694e284c2ab9125654e256500ce5e", func := "bitemporal/bitemporallaw02.AllenNames", spec := "allenNames", apart := false }
def AllenNamesSaid : Prop := allenNamesRow.holds Try.pinned (OpenSpec.ofChange allenNamesSpec)

/-- ITS FALSE NEIGHBOUR: 'it returns false'. Refute it at one input. -/
def allenNamesWrong : ChangeSpec := { name := "allenNames", fn := fun _ => fun
  | [d1, d2] => { results := [.lit (.bool false)], args := [d1, d2] }
  | _ => none }
def AllenNamesWrongFalsely : Prop := allenNamesRow.holds Try.pinned (OpenSpec.ofChange allenNamesWrong)

/- THE SECOND FORM. 'bulk': how many values and letters a reading holds, each counted each time it is reached (what is shared counts as often as it is met; a slice's spare places count too). A statement '..UptoSaid' is the law's where the arguments, and the package variables that the reading takes, are together of bulk at most 1048576: NARROWER than '..Said'. Prove '..Said' where nothing that the law and all that it calls make is longer than what came in: it says more and counts as full. Else prove '..UptoSaid'. A law counts once. -/
mutual
def uptoBulk {H : Type} : DataW H → Nat
  | .lit (.string bytes) => bytes.length + 1
  | .lit _ => 1
  | .nil => 1
  | .ptr d => uptoBulk d + 1
  | .slice elems spare => uptoBulkAll elems + uptoBulkAll spare + 1
  | .agg parts => uptoBulkAll parts + 1
  | .iface _ d => uptoBulk d + 1
  | .map entries => uptoBulkEntries entries + 1
  | .held _ => 1
def uptoBulkAll {H : Type} : List (DataW H) → Nat
  | [] => 0
  | d :: r => uptoBulk d + uptoBulkAll r
def uptoBulkEntries {H : Type} : List (Lit × DataW H) → Nat
  | [] => 0
  | x :: r => uptoBulkEntry x + uptoBulkEntries r
def uptoBulkEntry {H : Type} : Lit × DataW H → Nat
  | (.string bytes, d) => bytes.length + uptoBulk d + 1
  | (_, d) => uptoBulk d + 1
 end
def uptoSmall : (H : Type) → List (DataW H) → Bool := fun _ ds => decide (uptoBulkAll ds ≤ 1048576)
def OpenSpec.upto (s : _root_.Go.ChangeSpec) : _root_.Go.OpenSpec := { _root_.Go.OpenSpec.ofChange s with cond := some uptoSmall }

/-- 'bitemporallaw02.AllenInverse', WHERE WHAT IT READS IS OF BULK AT MOST 1048576: true; the input reads as it did. -/
def allenInverseUptoRow : OpenClaim := { program := "ythphpladhhcchaa", sum := "6666bf3c490c84406ff3169e6b275b79ecf694e284c2ab9125654e256500ce5e", func := "bitemporal/bitemporallaw02.AllenInverse", spec := "allenInverse", apart := false, narrowed := true }
def AllenInverseUptoSaid : Prop := allenInverseUptoRow.holds Try.pinned (OpenSpec.upto allenInverseSpec)

/-- 'bitemporallaw02.AllenComposes', WHERE WHAT IT READS IS OF BULK AT MOST 1048576: true; the input reads as it did. -/
def allenComposesUptoRow : OpenClaim := { program := "ythphpladhhcchaa", sum := "6666bf3c490c84406ff3169e6b275b79ecf694e284c2ab9125654e256500ce5e", func := "bitemporal/bitemporallaw02.AllenComposes", spec := "allenComposes", apart := false, narrowed := true }
def AllenComposesUptoSaid : Prop := allenComposesUptoRow.holds Try.pinned (OpenSpec.upto allenComposesSpec)

/-- 'bitemporallaw02.AllenCompose', WHERE WHAT IT READS IS OF BULK AT MOST 1048576: true; the input reads as it did. -/
def allenComposeUptoRow : OpenClaim := { program := "ythphpladhhcchaa", sum := "6666bf3c490c84406ff3169e6b275b79ecf694e284c2ab9125654e256500ce5e", func := "bitemporal/bitemporallaw02.AllenCompose", spec := "allenCompose", apart := false, narrowed := true }
def AllenComposeUptoSaid : Prop := allenComposeUptoRow.holds Try.pinned (OpenSpec.upto allenComposeSpec)

/-- 'bitemporallaw02.AllenTighten', WHERE WHAT IT READS IS OF BULK AT MOST 1048576: true; the input reads as it did. -/
def allenTightenUptoRow : OpenClaim := { program := "ythphpladhhcchaa", sum := "6666bf3c490c84406ff3169e6b275b79ecf694e284c2ab9125654e256500ce5e", func := "bitemporal/bitemporallaw02.AllenTighten", spec := "allenTighten", apart := false, narrowed := true }
def AllenTightenUptoSaid : Prop := allenTightenUptoRow.holds Try.pinned (OpenSpec.upto allenTightenSpec)

/-- 'bitemporallaw02.AllenSound', WHERE WHAT IT READS IS OF BULK AT MOST 1048576: true; the input reads as it did. -/
def allenSoundUptoRow : OpenClaim := { program := "ythphpladhhcchaa", sum := "6666bf3c490c84406ff3169e6b275b79ecf694e284c2ab9125654e256500ce5e", func := "bitemporal/bitemporallaw02.AllenSound", spec := "allenSound", apart := false, narrowed := true }
def AllenSoundUptoSaid : Prop := allenSoundUptoRow.holds Try.pinned (OpenSpec.upto allenSoundSpec)

/-- 'bitemporallaw02.AllenOne', WHERE WHAT IT READS IS OF BULK AT MOST 1048576: true; the input reads as it did. -/
def allenOneUptoRow : OpenClaim := { program := "ythphpladhhcchaa", sum := "6666bf3c490c84406ff3169e6b275b79ecf694e284c2ab9125654e256500ce5e", func := "bitemporal/bitemporallaw02.AllenOne", spec := "allenOne", apart := false, narrowed := true }
def AllenOneUptoSaid : Prop := allenOneUptoRow.holds Try.pinned (OpenSpec.upto allenOneSpec)

/-- 'bitemporallaw02.AllenNames', WHERE WHAT IT READS IS OF BULK AT MOST 1048576: true; the input reads as it did. -/
def allenNamesUptoRow : OpenClaim := { program := "ythphpladhhcchaa", sum := "6666bf3c490c84406ff3169e6b275b79ecf694e284c2ab9125654e256500ce5e", func := "bitemporal/bitemporallaw02.AllenNames", spec := "allenNames", apart := false, narrowed := true }
def AllenNamesUptoSaid : Prop := allenNamesUptoRow.holds Try.pinned (OpenSpec.upto allenNamesSpec)

end Rows
end Go.Proofs.Ythphpladhhcchaa
