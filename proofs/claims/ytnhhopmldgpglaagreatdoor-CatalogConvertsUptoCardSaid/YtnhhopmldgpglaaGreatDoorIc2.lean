/- The compiled forms of the functions. Written by program off the translation. No condition. -/
import Derived.Test.YtnhhopmldgpglaaGreatDoorNm
set_option maxRecDepth 100000
set_option maxHeartbeats 4000000
namespace Go.Proofs
open Go.Bi
end Go.Proofs
