/- The framework. No condition. -/
import Derived.Test.YtfnaleemmeejcaaGreatBW
namespace Go.Bi
instance:N0:=N0.none
end Go.Bi
