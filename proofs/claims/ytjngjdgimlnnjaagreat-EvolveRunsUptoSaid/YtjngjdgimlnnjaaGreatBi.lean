/- The framework. No condition. -/
import Derived.Test.YtjngjdgimlnnjaaGreatBW
