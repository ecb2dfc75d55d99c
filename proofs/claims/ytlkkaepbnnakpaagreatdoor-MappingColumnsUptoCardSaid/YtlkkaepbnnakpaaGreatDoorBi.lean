/- The framework. No condition. -/
import Derived.Test.YtlkkaepbnnakpaaGreatDoorBW
namespace Go.Bi
instance:J6:=J6.tab 0 1
end Go.Bi
