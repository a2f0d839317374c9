/-
  DERIVED. GIVEN WITH THE SEED: THE CARDS: each row of YtpnoifikpmfpdaaDoorRows.lean that lists a variable, with what it lists TIED to the program's text (the seventh form; the later family's looks); each row that meets fmt, with fmt's text TOLD by the authors' own Lean function (tested against real Go, not proved from fmt's source: count such statements apart). THE CARD IS WHAT COUNTS. Prove the row's statement (the work); the ties are given (YtpnoifikpmfpdaaDoorTie.lean); close each card by the builder's one call (the guide's Derived/Test/ToyasCard.lean, 'card_holds'). Laid BY PROGRAM, IN A SANDBOX (cutbox-door.mjs). By AI agents, Wed Nov 11 2026. No macro, syntax, notation, axiom, sorry.
-/
import Derived.Test.YtpnoifikpmfpdaaDoorRows
import GoSem.ClaimSeven
namespace Go.Proofs.YtpnoifikpmfpdaaDoor
namespace Rows

/-- THE TIED CARD OF 'carrefourlaw9.RingScans'. -/
def ringScansCard : Claim7 := { stood := { row := ringScansRow, standIns := [], harness := (true, "6c8048756726a6110ed480454c1e68986aa53b862d77ac74300ed11f45592b2f"), looks := false }, kinds := [], alts := [], laidByText := true, laidKinds := [.data, .data, .data], laidTests := true, laidLooks := .later }
def RingScansCardSaid : Prop := Claim7.holds Tryd.pinned (.plain (OpenSpec.ofChange ringScansSpec)) ringScansCard

/-- THE TIED CARD OF 'carrefourlaw9.RingQuarters'. -/
def ringQuartersCard : Claim7 := { stood := { row := ringQuartersRow, standIns := [], harness := (true, "6c8048756726a6110ed480454c1e68986aa53b862d77ac74300ed11f45592b2f"), looks := false }, kinds := [], alts := [], laidByText := true, laidKinds := [.data, .data, .data], laidTests := true, laidLooks := .later }
def RingQuartersCardSaid : Prop := Claim7.holds Tryd.pinned (.plain (OpenSpec.ofChange ringQuartersSpec)) ringQuartersCard

/-- THE TIED CARD OF 'carrefourlaw9.RingAsks'. -/
def ringAsksCard : Claim7 := { stood := { row := ringAsksRow, standIns := [], harness := (true, "6c8048756726a6110ed480454c1e68986aa53b862d77ac74300ed11f45592b2f"), looks := false }, kinds := [], alts := [], laidByText := true, laidKinds := [.data, .data, .data], laidTests := true, laidLooks := .later }
def RingAsksCardSaid : Prop := Claim7.holds Tryd.pinned (.plain (OpenSpec.ofChange ringAsksSpec)) ringAsksCard

/-- THE TIED CARD OF 'carrefourlaw10.TableNews'. -/
def tableNewsCard : Claim7 := { stood := { row := tableNewsRow, standIns := [], harness := (true, "6c8048756726a6110ed480454c1e68986aa53b862d77ac74300ed11f45592b2f"), looks := false }, kinds := [], alts := [], laidByText := true, laidKinds := [.data, .data, .data], laidTests := true, laidLooks := .later }
def TableNewsCardSaid : Prop := Claim7.holds Tryd.pinned (.plain (OpenSpec.ofChange tableNewsSpec)) tableNewsCard

/-- THE TIED CARD OF 'carrefourlaw10.TableBack'. -/
def tableBackCard : Claim7 := { stood := { row := tableBackRow, standIns := [], harness := (true, "6c8048756726a6110ed480454c1e68986aa53b862d77ac74300ed11f45592b2f"), looks := false }, kinds := [], alts := [], laidByText := true, laidKinds := [.data, .data, .data], laidTests := true, laidLooks := .later }
def TableBackCardSaid : Prop := Claim7.holds Tryd.pinned (.plain (OpenSpec.ofChange tableBackSpec)) tableBackCard

/-- THE SECOND FORM's CARD OF 'carrefourlaw9.RingScans'. -/
def ringScansUptoCard : Claim7 := { stood := { row := ringScansUptoRow, standIns := [], harness := (true, "6c8048756726a6110ed480454c1e68986aa53b862d77ac74300ed11f45592b2f"), looks := false }, kinds := [], alts := [], laidByText := true, laidKinds := [.data, .data, .data], laidTests := true, laidLooks := .later }
def RingScansUptoCardSaid : Prop := Claim7.holds Tryd.pinned (.plain (OpenSpec.upto ringScansSpec)) ringScansUptoCard

/-- THE SECOND FORM's CARD OF 'carrefourlaw9.RingQuarters'. -/
def ringQuartersUptoCard : Claim7 := { stood := { row := ringQuartersUptoRow, standIns := [], harness := (true, "6c8048756726a6110ed480454c1e68986aa53b862d77ac74300ed11f45592b2f"), looks := false }, kinds := [], alts := [], laidByText := true, laidKinds := [.data, .data, .data], laidTests := true, laidLooks := .later }
def RingQuartersUptoCardSaid : Prop := Claim7.holds Tryd.pinned (.plain (OpenSpec.upto ringQuartersSpec)) ringQuartersUptoCard

/-- THE SECOND FORM's CARD OF 'carrefourlaw9.RingAsks'. -/
def ringAsksUptoCard : Claim7 := { stood := { row := ringAsksUptoRow, standIns := [], harness := (true, "6c8048756726a6110ed480454c1e68986aa53b862d77ac74300ed11f45592b2f"), looks := false }, kinds := [], alts := [], laidByText := true, laidKinds := [.data, .data, .data], laidTests := true, laidLooks := .later }
def RingAsksUptoCardSaid : Prop := Claim7.holds Tryd.pinned (.plain (OpenSpec.upto ringAsksSpec)) ringAsksUptoCard

/-- THE SECOND FORM's CARD OF 'carrefourlaw10.TableNews'. -/
def tableNewsUptoCard : Claim7 := { stood := { row := tableNewsUptoRow, standIns := [], harness := (true, "6c8048756726a6110ed480454c1e68986aa53b862d77ac74300ed11f45592b2f"), looks := false }, kinds := [], alts := [], laidByText := true, laidKinds := [.data, .data, .data], laidTests := true, laidLooks := .later }
def TableNewsUptoCardSaid : Prop := Claim7.holds Tryd.pinned (.plain (OpenSpec.upto tableNewsSpec)) tableNewsUptoCard

/-- THE SECOND FORM's CARD OF 'carrefourlaw10.TableBack'. -/
def tableBackUptoCard : Claim7 := { stood := { row := tableBackUptoRow, standIns := [], harness := (true, "6c8048756726a6110ed480454c1e68986aa53b862d77ac74300ed11f45592b2f"), looks := false }, kinds := [], alts := [], laidByText := true, laidKinds := [.data, .data, .data], laidTests := true, laidLooks := .later }
def TableBackUptoCardSaid : Prop := Claim7.holds Tryd.pinned (.plain (OpenSpec.upto tableBackSpec)) tableBackUptoCard
end Rows
end Go.Proofs.YtpnoifikpmfpdaaDoor
