/- The framework. No condition. -/
import Derived.Test.YtlkkaepbnnakpaaGreatDoorBW
namespace Go.Bi
instance:Globs:=Globs.tab 0 1
end Go.Bi
