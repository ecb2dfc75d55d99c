/- The framework. No condition. -/
import Derived.Test.YtnhhopmldgpglaaGreatBW
namespace Go.Bi
instance:K6:=K6.none
end Go.Bi
