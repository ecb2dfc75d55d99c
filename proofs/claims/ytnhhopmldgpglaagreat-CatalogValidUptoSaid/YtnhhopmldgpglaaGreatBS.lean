/- The walk: control over a state with three ways on; copies by shape; parts of aggregates; the return. No condition. -/
import Derived.Test.YtnhhopmldgpglaaGreatBR
set_option linter.unusedVariables false
namespace Go.Bi
set_option linter.unusedSectionVars false
variable [K6]
section
variable {P:Program}{n nb:Nat}{L:List (Nat×AV)}{os os1:List AO}{rest:List D4}{K:C7->List AO->Prop}{t:Nat}{v:AV}{x y z:B7}
variable {N R:C7->List AO->Prop}{E:Nat->C7->List AO->Prop}{ρ:C7}
end
end Go.Bi
