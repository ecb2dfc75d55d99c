/- The framework. No condition. -/
import Derived.Test.YtfnaleemmeejcaaGreatBW
namespace Go.Bi
instance:Globs:=Globs.none
end Go.Bi
