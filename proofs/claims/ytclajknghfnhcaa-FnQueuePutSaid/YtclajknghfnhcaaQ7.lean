/-
  The contracts of the program's QueueTake and QueueLeft: they receive from the channel that left hands back.
-/
import Derived.Test.YtclajknghfnhcaaQ5
import Derived.Test.YtclajknghfnhcaaQ6
import Derived.Test.YtclajknghfnhcaaLeft
namespace Go.Proofs.Ytclajknghfnhcaa
open Go.RowKit Go.Conc
set_option linter.unusedVariables false

end Go.Proofs.Ytclajknghfnhcaa
