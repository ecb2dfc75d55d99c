/- The framework. No condition. -/
import Derived.Test.YtnhhopmldgpglaaGreatDoorBW
namespace Go.Bi
instance:J9:=J9.tab 0 1
end Go.Bi
