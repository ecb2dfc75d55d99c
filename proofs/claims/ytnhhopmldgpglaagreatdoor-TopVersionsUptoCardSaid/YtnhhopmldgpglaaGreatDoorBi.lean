/- The framework. No condition. -/
import Derived.Test.YtnhhopmldgpglaaGreatDoorBW
namespace Go.Bi
instance:J4:=J4.tab 0 1
end Go.Bi
