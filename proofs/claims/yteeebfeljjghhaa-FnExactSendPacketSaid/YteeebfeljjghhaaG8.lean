/- Lemmas for laws of this seat, for all inputs: StI. -/
import Derived.Test.YteeebfeljjghhaaG6
import Derived.Test.YteeebfeljjghhaaG7
/- A step of a network: the program's side; for all valid networks. -/
set_option linter.unusedVariables false
set_option linter.unusedSimpArgs false
namespace Go.Proofs.Yteeebfeljjghhaa
open Go.RowKit Go.Proofs.YteeebfeljjghhaaW.PrintWords
open NoC

end Go.Proofs.Yteeebfeljjghhaa
