/-
  Chapter 27: the pure functions' contracts.
-/
import Derived.Test.YtpimifnibdjhfaaHazPlain
import Derived.Test.YtpimifnibdjhfaaWords
import Derived.Test.YtpimifnibdjhfaaRefState
import Derived.Test.YtpimifnibdjhfaaRefOpen
import Derived.Test.YtpimifnibdjhfaaRefWalk
import Derived.Lib.QuietBelow
import Derived.BigQuiet
import Derived.StillTailTactics
import Derived.Deep.DeepCutAuto
namespace Go.Proofs.Ytpimifnibdjhfaa.HazP
open Go.RowKit RefP
set_option linter.unusedVariables false
set_option linter.unusedSimpArgs false

end Go.Proofs.Ytpimifnibdjhfaa.HazP
