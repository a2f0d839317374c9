/-
  The statements' own 'told' of layer 9: it answers true.
-/
import Derived.Test.YtpnoifikpmfpdaaDoorEbuild
import Derived.Test.YtpnoifikpmfpdaaDoorEhalve
import Derived.Test.YtpnoifikpmfpdaaDoorPAllx3
namespace Go.Proofs.YtpnoifikpmfpdaaDoor.PAll
open Go.RowKit Go.Proofs.YtpnoifikpmfpdaaDoorW.PrintWords Go.Proofs.YtpnoifikpmfpdaaDoorW.PrintLast Go.Proofs.YtpnoifikpmfpdaaDoorW.PrintMore
set_option linter.unusedVariables false
set_option linter.unusedSimpArgs false

def carrefourlaw9_told.f : Option Bool := some true

end Go.Proofs.YtpnoifikpmfpdaaDoor.PAll
