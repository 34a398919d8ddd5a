/-
  DERIVED. GIVEN WITH THE SEED: THE CARDS: each row of YtabdlldkkcjppaaDoorRows.lean that lists a variable, with what it lists TIED to the program's text (the seventh form; the later family's looks); each row that meets fmt, with fmt's text TOLD by the authors' own Lean function (tested against real Go, not proved from fmt's source: count such statements apart). THE CARD IS WHAT COUNTS. Prove the row's statement (the work); the ties are given (YtabdlldkkcjppaaDoorTie.lean); close each card by the builder's one call (the guide's Derived/Test/ToyasCard.lean, 'card_holds'). Laid BY PROGRAM, IN A SANDBOX (cutbox-door.mjs). By AI agents, Wed Nov 11 2026. No macro, syntax, notation, axiom, sorry.
-/
import Derived.Test.YtabdlldkkcjppaaDoorRows
import GoSem.ClaimSeven
namespace Go.Proofs.YtabdlldkkcjppaaDoor
namespace Rows

/-- THE TIED CARD OF 'sawmilllaw37.ScheduleChecks'. -/
def scheduleChecksCard : Claim7 := { stood := { row := scheduleChecksRow, standIns := [], harness := (true, "e1d18ca9756c5a5f1ec290e98221cd0e975e4d185654287143def8cff5441a12"), looks := false }, kinds := [], alts := [], laidByText := true, laidKinds := [.data, .data, .data, .data], laidTests := true, laidLooks := .later }
def ScheduleChecksCardSaid : Prop := Claim7.holds Tryd.pinned (.plain (OpenSpec.ofChange scheduleChecksSpec)) scheduleChecksCard

/-- THE TIED CARD OF 'sawmilllaw37.ScheduleEnds'. -/
def scheduleEndsCard : Claim7 := { stood := { row := scheduleEndsRow, standIns := [], harness := (true, "e1d18ca9756c5a5f1ec290e98221cd0e975e4d185654287143def8cff5441a12"), looks := false }, kinds := [], alts := [], laidByText := true, laidKinds := [.data, .data, .data, .data], laidTests := true, laidLooks := .later }
def ScheduleEndsCardSaid : Prop := Claim7.holds Tryd.pinned (.plain (OpenSpec.ofChange scheduleEndsSpec)) scheduleEndsCard

/-- THE TIED CARD OF 'sawmilllaw37.ScheduleFormats'. -/
def scheduleFormatsCard : Claim7 := { stood := { row := scheduleFormatsRow, standIns := [], harness := (true, "e1d18ca9756c5a5f1ec290e98221cd0e975e4d185654287143def8cff5441a12"), looks := false }, kinds := [], alts := [], laidByText := true, laidKinds := [.data, .data, .data, .data], laidTests := true, laidLooks := .later }
def ScheduleFormatsCardSaid : Prop := Claim7.holds Tryd.pinned (.plain (OpenSpec.ofChange scheduleFormatsSpec)) scheduleFormatsCard

/-- THE TIED CARD OF 'sawmilllaw37.ScheduleParses'. -/
def scheduleParsesCard : Claim7 := { stood := { row := scheduleParsesRow, standIns := [], harness := (true, "e1d18ca9756c5a5f1ec290e98221cd0e975e4d185654287143def8cff5441a12"), looks := false }, kinds := [], alts := [], laidByText := true, laidKinds := [.data, .data, .data, .data], laidTests := true, laidLooks := .later }
def ScheduleParsesCardSaid : Prop := Claim7.holds Tryd.pinned (.plain (OpenSpec.ofChange scheduleParsesSpec)) scheduleParsesCard

/-- THE TIED CARD OF 'sawmilllaw37.ScheduleBack'. -/
def scheduleBackCard : Claim7 := { stood := { row := scheduleBackRow, standIns := [], harness := (true, "e1d18ca9756c5a5f1ec290e98221cd0e975e4d185654287143def8cff5441a12"), looks := false }, kinds := [], alts := [], laidByText := true, laidKinds := [.data, .data, .data, .data], laidTests := true, laidLooks := .later }
def ScheduleBackCardSaid : Prop := Claim7.holds Tryd.pinned (.plain (OpenSpec.ofChange scheduleBackSpec)) scheduleBackCard

/-- THE TIED CARD OF 'sawmilllaw37.ScheduleSteps'. -/
def scheduleStepsCard : Claim7 := { stood := { row := scheduleStepsRow, standIns := [], harness := (true, "e1d18ca9756c5a5f1ec290e98221cd0e975e4d185654287143def8cff5441a12"), looks := false }, kinds := [], alts := [], laidByText := true, laidKinds := [.data, .data, .data, .data], laidTests := true, laidLooks := .later }
def ScheduleStepsCardSaid : Prop := Claim7.holds Tryd.pinned (.plain (OpenSpec.ofChange scheduleStepsSpec)) scheduleStepsCard

/-- THE TIED CARD OF 'sawmilllaw37.ScheduleTargets'. -/
def scheduleTargetsCard : Claim7 := { stood := { row := scheduleTargetsRow, standIns := [], harness := (true, "e1d18ca9756c5a5f1ec290e98221cd0e975e4d185654287143def8cff5441a12"), looks := false }, kinds := [], alts := [], laidByText := true, laidKinds := [.data, .data, .data, .data], laidTests := true, laidLooks := .later }
def ScheduleTargetsCardSaid : Prop := Claim7.holds Tryd.pinned (.plain (OpenSpec.ofChange scheduleTargetsSpec)) scheduleTargetsCard

/-- THE TIED CARD OF 'sawmilllaw37.SchedulePrinted'. -/
def schedulePrintedCard : Claim7 := { stood := { row := schedulePrintedRow, standIns := [], harness := (true, "e1d18ca9756c5a5f1ec290e98221cd0e975e4d185654287143def8cff5441a12"), looks := false }, kinds := [], alts := [], laidByText := true, laidKinds := [.data, .data, .data, .data], laidTests := true, laidLooks := .later }
def SchedulePrintedCardSaid : Prop := Claim7.holds Tryd.pinned (.plain (OpenSpec.ofChange schedulePrintedSpec)) schedulePrintedCard

/-- THE SECOND FORM's CARD OF 'sawmilllaw37.ScheduleChecks'. -/
def scheduleChecksUptoCard : Claim7 := { stood := { row := scheduleChecksUptoRow, standIns := [], harness := (true, "e1d18ca9756c5a5f1ec290e98221cd0e975e4d185654287143def8cff5441a12"), looks := false }, kinds := [], alts := [], laidByText := true, laidKinds := [.data, .data, .data, .data], laidTests := true, laidLooks := .later }
def ScheduleChecksUptoCardSaid : Prop := Claim7.holds Tryd.pinned (.plain (OpenSpec.upto scheduleChecksSpec)) scheduleChecksUptoCard

/-- THE SECOND FORM's CARD OF 'sawmilllaw37.ScheduleEnds'. -/
def scheduleEndsUptoCard : Claim7 := { stood := { row := scheduleEndsUptoRow, standIns := [], harness := (true, "e1d18ca9756c5a5f1ec290e98221cd0e975e4d185654287143def8cff5441a12"), looks := false }, kinds := [], alts := [], laidByText := true, laidKinds := [.data, .data, .data, .data], laidTests := true, laidLooks := .later }
def ScheduleEndsUptoCardSaid : Prop := Claim7.holds Tryd.pinned (.plain (OpenSpec.upto scheduleEndsSpec)) scheduleEndsUptoCard

/-- THE SECOND FORM's CARD OF 'sawmilllaw37.ScheduleFormats'. -/
def scheduleFormatsUptoCard : Claim7 := { stood := { row := scheduleFormatsUptoRow, standIns := [], harness := (true, "e1d18ca9756c5a5f1ec290e98221cd0e975e4d185654287143def8cff5441a12"), looks := false }, kinds := [], alts := [], laidByText := true, laidKinds := [.data, .data, .data, .data], laidTests := true, laidLooks := .later }
def ScheduleFormatsUptoCardSaid : Prop := Claim7.holds Tryd.pinned (.plain (OpenSpec.upto scheduleFormatsSpec)) scheduleFormatsUptoCard

/-- THE SECOND FORM's CARD OF 'sawmilllaw37.ScheduleParses'. -/
def scheduleParsesUptoCard : Claim7 := { stood := { row := scheduleParsesUptoRow, standIns := [], harness := (true, "e1d18ca9756c5a5f1ec290e98221cd0e975e4d185654287143def8cff5441a12"), looks := false }, kinds := [], alts := [], laidByText := true, laidKinds := [.data, .data, .data, .data], laidTests := true, laidLooks := .later }
def ScheduleParsesUptoCardSaid : Prop := Claim7.holds Tryd.pinned (.plain (OpenSpec.upto scheduleParsesSpec)) scheduleParsesUptoCard

/-- THE SECOND FORM's CARD OF 'sawmilllaw37.ScheduleBack'. -/
def scheduleBackUptoCard : Claim7 := { stood := { row := scheduleBackUptoRow, standIns := [], harness := (true, "e1d18ca9756c5a5f1ec290e98221cd0e975e4d185654287143def8cff5441a12"), looks := false }, kinds := [], alts := [], laidByText := true, laidKinds := [.data, .data, .data, .data], laidTests := true, laidLooks := .later }
def ScheduleBackUptoCardSaid : Prop := Claim7.holds Tryd.pinned (.plain (OpenSpec.upto scheduleBackSpec)) scheduleBackUptoCard

/-- THE SECOND FORM's CARD OF 'sawmilllaw37.ScheduleSteps'. -/
def scheduleStepsUptoCard : Claim7 := { stood := { row := scheduleStepsUptoRow, standIns := [], harness := (true, "e1d18ca9756c5a5f1ec290e98221cd0e975e4d185654287143def8cff5441a12"), looks := false }, kinds := [], alts := [], laidByText := true, laidKinds := [.data, .data, .data, .data], laidTests := true, laidLooks := .later }
def ScheduleStepsUptoCardSaid : Prop := Claim7.holds Tryd.pinned (.plain (OpenSpec.upto scheduleStepsSpec)) scheduleStepsUptoCard

/-- THE SECOND FORM's CARD OF 'sawmilllaw37.ScheduleTargets'. -/
def scheduleTargetsUptoCard : Claim7 := { stood := { row := scheduleTargetsUptoRow, standIns := [], harness := (true, "e1d18ca9756c5a5f1ec290e98221cd0e975e4d185654287143def8cff5441a12"), looks := false }, kinds := [], alts := [], laidByText := true, laidKinds := [.data, .data, .data, .data], laidTests := true, laidLooks := .later }
def ScheduleTargetsUptoCardSaid : Prop := Claim7.holds Tryd.pinned (.plain (OpenSpec.upto scheduleTargetsSpec)) scheduleTargetsUptoCard

/-- THE SECOND FORM's CARD OF 'sawmilllaw37.SchedulePrinted'. -/
def schedulePrintedUptoCard : Claim7 := { stood := { row := schedulePrintedUptoRow, standIns := [], harness := (true, "e1d18ca9756c5a5f1ec290e98221cd0e975e4d185654287143def8cff5441a12"), looks := false }, kinds := [], alts := [], laidByText := true, laidKinds := [.data, .data, .data, .data], laidTests := true, laidLooks := .later }
def SchedulePrintedUptoCardSaid : Prop := Claim7.holds Tryd.pinned (.plain (OpenSpec.upto schedulePrintedSpec)) schedulePrintedUptoCard
end Rows
end Go.Proofs.YtabdlldkkcjppaaDoor
