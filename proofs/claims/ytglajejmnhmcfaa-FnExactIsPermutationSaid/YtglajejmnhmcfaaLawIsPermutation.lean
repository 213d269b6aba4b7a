/- The law FnExactIsPermutation, walked: it answers true for all arguments. -/
import Derived.Test.YtglajejmnhmcfaaPerm
