/- Lemmas for laws of this seat, for all inputs: StI. -/
import Derived.Test.YteeebfeljjghhaaGreatH6
import Derived.Test.YteeebfeljjghhaaGreatH7
/- A step of a network: the program's side; for all valid networks. -/
set_option linter.unusedVariables false
set_option linter.unusedSimpArgs false
namespace Go.Proofs.YteeebfeljjghhaaGreat
open Go.RowKit Go.Proofs.YteeebfeljjghhaaGreatW.PrintWords
open NoC

end Go.Proofs.YteeebfeljjghhaaGreat
