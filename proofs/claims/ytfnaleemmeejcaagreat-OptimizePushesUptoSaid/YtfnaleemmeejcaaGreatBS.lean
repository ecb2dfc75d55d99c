/- The walk: control over a state with three ways on; copies by shape; parts of aggregates; the return. No condition. -/
import Derived.Test.YtfnaleemmeejcaaGreatBR
set_option linter.unusedVariables false
namespace Go.Bi
set_option linter.unusedSectionVars false
variable [N0]
section
variable {P:Program}{n nb:Nat}{L:List (Nat×AV)}{os os1:List AO}{rest:List D0}{K:D5->List AO->Prop}{t:Nat}{v:AV}{x y z:C1}
variable {N R:D5->List AO->Prop}{E:Nat->D5->List AO->Prop}{ρ:D5}
def J4(ρ:D5)(os:List AO):List RV->Option (List AV)
 |[]=>some []
 |.t s::rs=>match J4 ρ os rs with
  |some l=>some (ρ s::l)
  |none=>none
 |.cell s m g::rs=>match ρ s with
  |.ptr id off=>match os[id]? with
   |some (.cells cs)=>bif g then (bif Nat.ble (off+m) cs.length then (match J4 ρ os rs with|some l=>some (.agg ((cs.drop off).take m)::l)|none=>none) else none)
    else (bif Nat.blt off cs.length then (match J4 ρ os rs with|some l=>some (cs.getD off .junk::l)|none=>none) else none)
   |_=>none
  |_=>none
end
end Go.Bi
