-- Written by a program (patch_print.py over the print of the kit, with functions proved by hand).
import Derived.Test.YtpnoifikpmfpdaaDoorPAllx0
import Derived.Test.YtpnoifikpmfpdaaDoorEhas
import Derived.Test.YtpnoifikpmfpdaaDoorEmay
import Derived.Lib.SliceRun
namespace Go.Proofs.YtpnoifikpmfpdaaDoor.PAll
open Go.RowKit Go.Proofs.YtpnoifikpmfpdaaDoorW.PrintWords Go.Proofs.YtpnoifikpmfpdaaDoorW.PrintLast Go.Proofs.YtpnoifikpmfpdaaDoorW.PrintMore
attribute [local go_sem] max2_int min2_int max_two min_two max_three min_three max_four min_four   -- for this text's walks alone
set_option linter.unusedVariables false
set_option linter.unusedSimpArgs false

/-! ### table_Move: function 41 -/
/-! ### carrefourlaw9_Few: function 8 -/
def carrefourlaw9_Few.f (l0 : List (S27)) : Option (Bool) := some (decide ((l0.length : Int) ≤ 60))
end Go.Proofs.YtpnoifikpmfpdaaDoor.PAll
