/- The law FnExactPatternName, walked: it answers true for all arguments. -/
import Derived.Test.YtfofebegfobjdaaPat
