/- Lemmas for laws of this seat, for all inputs: StI. -/
import Derived.Test.YtaihmgbflhbebaaQ11
import Derived.Test.YtaihmgbflhbebaaQ4
set_option linter.unusedVariables false
set_option linter.unusedSimpArgs false
namespace Go.Proofs.Ytaihmgbflhbebaa
open Go.RowKit Go.Proofs.YtaihmgbflhbebaaW.PrintWords
open NoC
end Go.Proofs.Ytaihmgbflhbebaa
