/-
  slices.Sort at []int: the shelf's contract over the program.
-/
import Derived.Test.YtbemgfpnoeogdaaFSpareB
import Derived.Shelf.Sort.Plain
import Derived.Shelf.Lay
namespace Go.Proofs.Ytbemgfpnoeogdaa.FoP
open Go.Shelf Go.Sort Go.RowKit Go.Proofs
set_option linter.unusedVariables false
shelf_lay Lays.n189 Nm 189 at Try as lays189
#check @lays189
end Go.Proofs.Ytbemgfpnoeogdaa.FoP
