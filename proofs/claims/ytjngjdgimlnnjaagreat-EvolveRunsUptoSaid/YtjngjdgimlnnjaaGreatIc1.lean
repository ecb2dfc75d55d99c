/- The compiled forms of the functions. Written by program off the translation. No condition. -/
import Derived.Test.YtjngjdgimlnnjaaGreatNm
set_option maxRecDepth 100000
namespace Go.Proofs
open Go.Bi
end Go.Proofs
