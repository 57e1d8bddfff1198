/-
  ref.State, the document's Open and State: contracts, each for every word.
-/
import Derived.Test.YtpimifnibdjhfaaRefOpen
namespace Go.Proofs.Ytpimifnibdjhfaa.RefP
open Go.RowKit
set_option linter.unusedVariables false

end Go.Proofs.Ytpimifnibdjhfaa.RefP
