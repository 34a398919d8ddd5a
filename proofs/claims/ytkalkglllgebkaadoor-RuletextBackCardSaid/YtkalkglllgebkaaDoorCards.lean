/-
  DERIVED. GIVEN WITH THE SEED: THE CARDS: each row of YtkalkglllgebkaaDoorRows.lean that lists a variable, with what it lists TIED to the program's text (the seventh form; the later family's looks); each row that meets fmt, with fmt's text TOLD by the authors' own Lean function (tested against real Go, not proved from fmt's source: count such statements apart). THE CARD IS WHAT COUNTS. Prove the row's statement (the work); the ties are given (YtkalkglllgebkaaDoorTie.lean); close each card by the builder's one call (the guide's Derived/Test/ToyasCard.lean, 'card_holds'). Laid BY PROGRAM, IN A SANDBOX (cutbox-door.mjs). By AI agents, Wed Nov 11 2026. No macro, syntax, notation, axiom, sorry.
-/
import Derived.Test.YtkalkglllgebkaaDoorRows
import GoSem.ClaimSeven
namespace Go.Proofs.YtkalkglllgebkaaDoor
namespace Rows

/-- THE TIED CARD OF 'sawmilllaw44.RuletextExprs'. -/
def ruletextExprsCard : Claim7 := { stood := { row := ruletextExprsRow, standIns := [], harness := (true, "edca54a8c57b677c6e9ca324b9f80da44821666c07b7b16f85bf41fcb0818474"), looks := true }, kinds := [], alts := [], laidByText := true, laidKinds := [.data, .data, .data, .data], laidTests := true, laidLooks := .later }
def RuletextExprsCardSaid : Prop := Claim7.holds Tryd.pinned (.plain (OpenSpec.ofChange ruletextExprsSpec)) ruletextExprsCard

/-- THE TIED CARD OF 'sawmilllaw44.RuletextReads'. -/
def ruletextReadsCard : Claim7 := { stood := { row := ruletextReadsRow, standIns := [], harness := (true, "edca54a8c57b677c6e9ca324b9f80da44821666c07b7b16f85bf41fcb0818474"), looks := true }, kinds := [], alts := [], laidByText := true, laidKinds := [.data, .data, .data, .data], laidTests := true, laidLooks := .later }
def RuletextReadsCardSaid : Prop := Claim7.holds Tryd.pinned (.plain (OpenSpec.ofChange ruletextReadsSpec)) ruletextReadsCard

/-- THE TIED CARD OF 'sawmilllaw44.RuletextTables'. -/
def ruletextTablesCard : Claim7 := { stood := { row := ruletextTablesRow, standIns := [], harness := (true, "edca54a8c57b677c6e9ca324b9f80da44821666c07b7b16f85bf41fcb0818474"), looks := true }, kinds := [], alts := [], laidByText := true, laidKinds := [.data, .data, .data, .data], laidTests := true, laidLooks := .later }
def RuletextTablesCardSaid : Prop := Claim7.holds Tryd.pinned (.plain (OpenSpec.ofChange ruletextTablesSpec)) ruletextTablesCard

/-- THE TIED CARD OF 'sawmilllaw44.RuletextParses'. -/
def ruletextParsesCard : Claim7 := { stood := { row := ruletextParsesRow, standIns := [], harness := (true, "edca54a8c57b677c6e9ca324b9f80da44821666c07b7b16f85bf41fcb0818474"), looks := true }, kinds := [], alts := [], laidByText := true, laidKinds := [.data, .data, .data, .data], laidTests := true, laidLooks := .later }
def RuletextParsesCardSaid : Prop := Claim7.holds Tryd.pinned (.plain (OpenSpec.ofChange ruletextParsesSpec)) ruletextParsesCard

/-- THE TIED CARD OF 'sawmilllaw44.RuletextSames'. -/
def ruletextSamesCard : Claim7 := { stood := { row := ruletextSamesRow, standIns := [], harness := (true, "edca54a8c57b677c6e9ca324b9f80da44821666c07b7b16f85bf41fcb0818474"), looks := true }, kinds := [], alts := [], laidByText := true, laidKinds := [.data, .data, .data, .data], laidTests := true, laidLooks := .later }
def RuletextSamesCardSaid : Prop := Claim7.holds Tryd.pinned (.plain (OpenSpec.ofChange ruletextSamesSpec)) ruletextSamesCard

/-- THE TIED CARD OF 'sawmilllaw44.RuletextEquals'. -/
def ruletextEqualsCard : Claim7 := { stood := { row := ruletextEqualsRow, standIns := [], harness := (true, "edca54a8c57b677c6e9ca324b9f80da44821666c07b7b16f85bf41fcb0818474"), looks := true }, kinds := [], alts := [], laidByText := true, laidKinds := [.data, .data, .data, .data], laidTests := true, laidLooks := .later }
def RuletextEqualsCardSaid : Prop := Claim7.holds Tryd.pinned (.plain (OpenSpec.ofChange ruletextEqualsSpec)) ruletextEqualsCard

/-- THE TIED CARD OF 'sawmilllaw44.RuletextShort'. -/
def ruletextShortCard : Claim7 := { stood := { row := ruletextShortRow, standIns := [], harness := (true, "edca54a8c57b677c6e9ca324b9f80da44821666c07b7b16f85bf41fcb0818474"), looks := true }, kinds := [], alts := [], laidByText := true, laidKinds := [.data, .data, .data, .data], laidTests := true, laidLooks := .later }
def RuletextShortCardSaid : Prop := Claim7.holds Tryd.pinned (.plain (OpenSpec.ofChange ruletextShortSpec)) ruletextShortCard

/-- THE TIED CARD OF 'sawmilllaw44.RuletextBack'. -/
def ruletextBackCard : Claim7 := { stood := { row := ruletextBackRow, standIns := [], harness := (true, "edca54a8c57b677c6e9ca324b9f80da44821666c07b7b16f85bf41fcb0818474"), looks := true }, kinds := [], alts := [], laidByText := true, laidKinds := [.data, .data, .data, .data], laidTests := true, laidLooks := .later }
def RuletextBackCardSaid : Prop := Claim7.holds Tryd.pinned (.plain (OpenSpec.ofChange ruletextBackSpec)) ruletextBackCard

/-- THE SECOND FORM's CARD OF 'sawmilllaw44.RuletextExprs'. -/
def ruletextExprsUptoCard : Claim7 := { stood := { row := ruletextExprsUptoRow, standIns := [], harness := (true, "edca54a8c57b677c6e9ca324b9f80da44821666c07b7b16f85bf41fcb0818474"), looks := true }, kinds := [], alts := [], laidByText := true, laidKinds := [.data, .data, .data, .data], laidTests := true, laidLooks := .later }
def RuletextExprsUptoCardSaid : Prop := Claim7.holds Tryd.pinned (.plain (OpenSpec.upto ruletextExprsSpec)) ruletextExprsUptoCard

/-- THE SECOND FORM's CARD OF 'sawmilllaw44.RuletextReads'. -/
def ruletextReadsUptoCard : Claim7 := { stood := { row := ruletextReadsUptoRow, standIns := [], harness := (true, "edca54a8c57b677c6e9ca324b9f80da44821666c07b7b16f85bf41fcb0818474"), looks := true }, kinds := [], alts := [], laidByText := true, laidKinds := [.data, .data, .data, .data], laidTests := true, laidLooks := .later }
def RuletextReadsUptoCardSaid : Prop := Claim7.holds Tryd.pinned (.plain (OpenSpec.upto ruletextReadsSpec)) ruletextReadsUptoCard

/-- THE SECOND FORM's CARD OF 'sawmilllaw44.RuletextTables'. -/
def ruletextTablesUptoCard : Claim7 := { stood := { row := ruletextTablesUptoRow, standIns := [], harness := (true, "edca54a8c57b677c6e9ca324b9f80da44821666c07b7b16f85bf41fcb0818474"), looks := true }, kinds := [], alts := [], laidByText := true, laidKinds := [.data, .data, .data, .data], laidTests := true, laidLooks := .later }
def RuletextTablesUptoCardSaid : Prop := Claim7.holds Tryd.pinned (.plain (OpenSpec.upto ruletextTablesSpec)) ruletextTablesUptoCard

/-- THE SECOND FORM's CARD OF 'sawmilllaw44.RuletextParses'. -/
def ruletextParsesUptoCard : Claim7 := { stood := { row := ruletextParsesUptoRow, standIns := [], harness := (true, "edca54a8c57b677c6e9ca324b9f80da44821666c07b7b16f85bf41fcb0818474"), looks := true }, kinds := [], alts := [], laidByText := true, laidKinds := [.data, .data, .data, .data], laidTests := true, laidLooks := .later }
def RuletextParsesUptoCardSaid : Prop := Claim7.holds Tryd.pinned (.plain (OpenSpec.upto ruletextParsesSpec)) ruletextParsesUptoCard

/-- THE SECOND FORM's CARD OF 'sawmilllaw44.RuletextSames'. -/
def ruletextSamesUptoCard : Claim7 := { stood := { row := ruletextSamesUptoRow, standIns := [], harness := (true, "edca54a8c57b677c6e9ca324b9f80da44821666c07b7b16f85bf41fcb0818474"), looks := true }, kinds := [], alts := [], laidByText := true, laidKinds := [.data, .data, .data, .data], laidTests := true, laidLooks := .later }
def RuletextSamesUptoCardSaid : Prop := Claim7.holds Tryd.pinned (.plain (OpenSpec.upto ruletextSamesSpec)) ruletextSamesUptoCard

/-- THE SECOND FORM's CARD OF 'sawmilllaw44.RuletextEquals'. -/
def ruletextEqualsUptoCard : Claim7 := { stood := { row := ruletextEqualsUptoRow, standIns := [], harness := (true, "edca54a8c57b677c6e9ca324b9f80da44821666c07b7b16f85bf41fcb0818474"), looks := true }, kinds := [], alts := [], laidByText := true, laidKinds := [.data, .data, .data, .data], laidTests := true, laidLooks := .later }
def RuletextEqualsUptoCardSaid : Prop := Claim7.holds Tryd.pinned (.plain (OpenSpec.upto ruletextEqualsSpec)) ruletextEqualsUptoCard

/-- THE SECOND FORM's CARD OF 'sawmilllaw44.RuletextShort'. -/
def ruletextShortUptoCard : Claim7 := { stood := { row := ruletextShortUptoRow, standIns := [], harness := (true, "edca54a8c57b677c6e9ca324b9f80da44821666c07b7b16f85bf41fcb0818474"), looks := true }, kinds := [], alts := [], laidByText := true, laidKinds := [.data, .data, .data, .data], laidTests := true, laidLooks := .later }
def RuletextShortUptoCardSaid : Prop := Claim7.holds Tryd.pinned (.plain (OpenSpec.upto ruletextShortSpec)) ruletextShortUptoCard

/-- THE SECOND FORM's CARD OF 'sawmilllaw44.RuletextBack'. -/
def ruletextBackUptoCard : Claim7 := { stood := { row := ruletextBackUptoRow, standIns := [], harness := (true, "edca54a8c57b677c6e9ca324b9f80da44821666c07b7b16f85bf41fcb0818474"), looks := true }, kinds := [], alts := [], laidByText := true, laidKinds := [.data, .data, .data, .data], laidTests := true, laidLooks := .later }
def RuletextBackUptoCardSaid : Prop := Claim7.holds Tryd.pinned (.plain (OpenSpec.upto ruletextBackSpec)) ruletextBackUptoCard
end Rows
end Go.Proofs.YtkalkglllgebkaaDoor
