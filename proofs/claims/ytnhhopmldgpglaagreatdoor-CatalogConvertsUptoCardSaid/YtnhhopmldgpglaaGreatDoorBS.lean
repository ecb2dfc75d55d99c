/- The walk: control over a state with three ways on; copies by shape; parts of aggregates; the return. No condition. -/
import Derived.Test.YtnhhopmldgpglaaGreatDoorBR
set_option linter.unusedVariables false
namespace Go.Bi
set_option linter.unusedSectionVars false
variable [J9]
section
variable {P:Program}{n nb:Nat}{L:List (Nat×AV)}{os os1:List AO}{rest:List D0}{K:C5->List AO->Prop}{t:Nat}{v:AV}{x y z:B6}
variable {N R:C5->List AO->Prop}{E:Nat->C5->List AO->Prop}{ρ:C5}
end
end Go.Bi
