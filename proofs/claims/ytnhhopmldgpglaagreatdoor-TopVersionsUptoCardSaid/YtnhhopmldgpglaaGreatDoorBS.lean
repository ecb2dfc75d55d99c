/- The walk: control over a state with three ways on; copies by shape; parts of aggregates; the return. No condition. -/
import Derived.Test.YtnhhopmldgpglaaGreatDoorBR
set_option linter.unusedVariables false
namespace Go.Bi
set_option linter.unusedSectionVars false
variable [J4]
section
variable {P:Program}{n nb:Nat}{L:List (Nat×AV)}{os os1:List AO}{rest:List C9}{K:C6->List AO->Prop}{t:Nat}{v:AV}{x y z:B5}
variable {N R:C6->List AO->Prop}{E:Nat->C6->List AO->Prop}{ρ:C6}
end
end Go.Bi
