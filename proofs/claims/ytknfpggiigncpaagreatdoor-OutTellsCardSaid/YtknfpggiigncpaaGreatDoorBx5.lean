/- Parts of the proof. -/
import Derived.Test.YtknfpggiigncpaaGreatDoorAx0
import Derived.Test.YtknfpggiigncpaaGreatDoorXCheck
import Derived.Test.YtknfpggiigncpaaGreatDoorShelf
import Derived.WalkKit
import Derived.Lib.Hide
import Derived.Test.YtknfpggiigncpaaGreatDoorXUnesc
import Derived.Test.YtknfpggiigncpaaGreatDoorXOnce
import Derived.Test.YtknfpggiigncpaaGreatDoorBx0
import Derived.Test.YtknfpggiigncpaaGreatDoorBx1
import Derived.Test.YtknfpggiigncpaaGreatDoorBx2
import Derived.Test.YtknfpggiigncpaaGreatDoorBx4
-- Written by xprint.py (wip/) for this claim: the kit's print, with functions proved by hand taken as known. Lean checks it.
namespace Go.Proofs.YtknfpggiigncpaaGreatDoor.B
open Go.Proofs.YtknfpggiigncpaaGreatDoor.P
open Go.RowKit Go.Proofs.YtknfpggiigncpaaGreatDoorW.PrintWords Go.Proofs.YtknfpggiigncpaaGreatDoorW.PrintLast Go.Proofs.YtknfpggiigncpaaGreatDoorW.PrintMore
attribute [local go_sem] max2_int min2_int max_two min_two max_three min_three max_four min_four   -- for this text's walks alone
set_option linter.unusedVariables false
set_option linter.unusedSimpArgs false

/-! ### remitterref08_Blank: function 34 -/
/-! ### remitterlaw08_TextTells: function 6 -/
end Go.Proofs.YtknfpggiigncpaaGreatDoor.B
