/- The walk: control over a state with three ways on; copies by shape; parts of aggregates; the return. No condition. -/
import Derived.Test.YthaildbjjlpdgaaGreatBR
set_option linter.unusedVariables false
namespace Go.Bi
set_option linter.unusedSectionVars false
variable [Globs]
section
variable {P:Program}{n nb:Nat}{L:List (Nat×AV)}{os os1:List AO}{rest:List IOp}{K:Rho->List AO->Prop}{t:Nat}{v:AV}{x y z:Opd}
variable {N R:Rho->List AO->Prop}{E:Nat->Rho->List AO->Prop}{ρ:Rho}
end
end Go.Bi
