/- The framework. No condition. -/
import Derived.Test.YtfnaleemmeejcaaGreatBW
namespace Go.Bi
instance:M6:=M6.none
end Go.Bi
