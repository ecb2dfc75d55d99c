/- The framework. No condition. -/
import Derived.Test.YthaildbjjlpdgaaGreatBW
namespace Go.Bi
instance:Globs:=Globs.none
end Go.Bi
