/- The law FnExactPatternTarget, walked: it answers true for all arguments. -/
import Derived.Test.YtfofebegfobjdaaPatT
