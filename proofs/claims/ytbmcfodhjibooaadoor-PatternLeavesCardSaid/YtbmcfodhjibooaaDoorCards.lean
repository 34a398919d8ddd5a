/-
  DERIVED. GIVEN WITH THE SEED: THE CARDS: each row of YtbmcfodhjibooaaDoorRows.lean that lists a variable, with what it lists TIED to the program's text (the seventh form; the later family's looks); each row that meets fmt, with fmt's text TOLD by the authors' own Lean function (tested against real Go, not proved from fmt's source: count such statements apart). THE CARD IS WHAT COUNTS. Prove the row's statement (the work); the ties are given (YtbmcfodhjibooaaDoorTie.lean); close each card by the builder's one call (the guide's Derived/Test/ToyasCard.lean, 'card_holds'). Laid BY PROGRAM, IN A SANDBOX (cutbox-door.mjs). By AI agents, Wed Nov 11 2026. No macro, syntax, notation, axiom, sorry.
-/
import Derived.Test.YtbmcfodhjibooaaDoorRows
import GoSem.ClaimSeven
namespace Go.Proofs.YtbmcfodhjibooaaDoor
namespace Rows

/-- THE TIED CARD OF 'sawmilllaw21.PatternChecks'. -/
def patternChecksCard : Claim7 := { stood := { row := patternChecksRow, standIns := [], harness := (true, "0369c784acb463d101dc1864da47ada17dc9d7f880847783989d4fab444b8452"), looks := false }, kinds := [], alts := [], laidByText := true, laidKinds := [.data, .data, .data], laidTests := true, laidLooks := .later }
def PatternChecksCardSaid : Prop := Claim7.holds Tryd.pinned (.plain (OpenSpec.ofChange patternChecksSpec)) patternChecksCard

/-- THE TIED CARD OF 'sawmilllaw21.PatternLeaves'. -/
def patternLeavesCard : Claim7 := { stood := { row := patternLeavesRow, standIns := [], harness := (true, "0369c784acb463d101dc1864da47ada17dc9d7f880847783989d4fab444b8452"), looks := false }, kinds := [], alts := [], laidByText := true, laidKinds := [.data, .data, .data], laidTests := true, laidLooks := .later }
def PatternLeavesCardSaid : Prop := Claim7.holds Tryd.pinned (.plain (OpenSpec.ofChange patternLeavesSpec)) patternLeavesCard

/-- THE TIED CARD OF 'sawmilllaw21.PatternRows'. -/
def patternRowsCard : Claim7 := { stood := { row := patternRowsRow, standIns := [], harness := (true, "0369c784acb463d101dc1864da47ada17dc9d7f880847783989d4fab444b8452"), looks := false }, kinds := [], alts := [], laidByText := true, laidKinds := [.data, .data, .data], laidTests := true, laidLooks := .later }
def PatternRowsCardSaid : Prop := Claim7.holds Tryd.pinned (.plain (OpenSpec.ofChange patternRowsSpec)) patternRowsCard

/-- THE TIED CARD OF 'sawmilllaw21.PatternTexts'. -/
def patternTextsCard : Claim7 := { stood := { row := patternTextsRow, standIns := [], harness := (true, "0369c784acb463d101dc1864da47ada17dc9d7f880847783989d4fab444b8452"), looks := false }, kinds := [], alts := [], laidByText := true, laidKinds := [.data, .data, .data], laidTests := true, laidLooks := .later }
def PatternTextsCardSaid : Prop := Claim7.holds Tryd.pinned (.plain (OpenSpec.ofChange patternTextsSpec)) patternTextsCard

/-- THE TIED CARD OF 'sawmilllaw21.PatternParts'. -/
def patternPartsCard : Claim7 := { stood := { row := patternPartsRow, standIns := [], harness := (true, "0369c784acb463d101dc1864da47ada17dc9d7f880847783989d4fab444b8452"), looks := false }, kinds := [], alts := [], laidByText := true, laidKinds := [.data, .data, .data], laidTests := true, laidLooks := .later }
def PatternPartsCardSaid : Prop := Claim7.holds Tryd.pinned (.plain (OpenSpec.ofChange patternPartsSpec)) patternPartsCard

/-- THE TIED CARD OF 'sawmilllaw21.PatternRow'. -/
def patternRowCard : Claim7 := { stood := { row := patternRowRow, standIns := [], harness := (true, "0369c784acb463d101dc1864da47ada17dc9d7f880847783989d4fab444b8452"), looks := false }, kinds := [], alts := [], laidByText := true, laidKinds := [.data, .data, .data], laidTests := true, laidLooks := .later }
def PatternRowCardSaid : Prop := Claim7.holds Tryd.pinned (.plain (OpenSpec.ofChange patternRowSpec)) patternRowCard

/-- THE TIED CARD OF 'sawmilllaw21.PatternSwaps'. -/
def patternSwapsCard : Claim7 := { stood := { row := patternSwapsRow, standIns := [], harness := (true, "0369c784acb463d101dc1864da47ada17dc9d7f880847783989d4fab444b8452"), looks := false }, kinds := [], alts := [], laidByText := true, laidKinds := [.data, .data, .data], laidTests := true, laidLooks := .later }
def PatternSwapsCardSaid : Prop := Claim7.holds Tryd.pinned (.plain (OpenSpec.ofChange patternSwapsSpec)) patternSwapsCard

/-- THE TIED CARD OF 'sawmilllaw21.PatternParses'. -/
def patternParsesCard : Claim7 := { stood := { row := patternParsesRow, standIns := [], harness := (true, "0369c784acb463d101dc1864da47ada17dc9d7f880847783989d4fab444b8452"), looks := false }, kinds := [], alts := [], laidByText := true, laidKinds := [.data, .data, .data], laidTests := true, laidLooks := .later }
def PatternParsesCardSaid : Prop := Claim7.holds Tryd.pinned (.plain (OpenSpec.ofChange patternParsesSpec)) patternParsesCard

/-- THE SECOND FORM's CARD OF 'sawmilllaw21.PatternChecks'. -/
def patternChecksUptoCard : Claim7 := { stood := { row := patternChecksUptoRow, standIns := [], harness := (true, "0369c784acb463d101dc1864da47ada17dc9d7f880847783989d4fab444b8452"), looks := false }, kinds := [], alts := [], laidByText := true, laidKinds := [.data, .data, .data], laidTests := true, laidLooks := .later }
def PatternChecksUptoCardSaid : Prop := Claim7.holds Tryd.pinned (.plain (OpenSpec.upto patternChecksSpec)) patternChecksUptoCard

/-- THE SECOND FORM's CARD OF 'sawmilllaw21.PatternLeaves'. -/
def patternLeavesUptoCard : Claim7 := { stood := { row := patternLeavesUptoRow, standIns := [], harness := (true, "0369c784acb463d101dc1864da47ada17dc9d7f880847783989d4fab444b8452"), looks := false }, kinds := [], alts := [], laidByText := true, laidKinds := [.data, .data, .data], laidTests := true, laidLooks := .later }
def PatternLeavesUptoCardSaid : Prop := Claim7.holds Tryd.pinned (.plain (OpenSpec.upto patternLeavesSpec)) patternLeavesUptoCard

/-- THE SECOND FORM's CARD OF 'sawmilllaw21.PatternRows'. -/
def patternRowsUptoCard : Claim7 := { stood := { row := patternRowsUptoRow, standIns := [], harness := (true, "0369c784acb463d101dc1864da47ada17dc9d7f880847783989d4fab444b8452"), looks := false }, kinds := [], alts := [], laidByText := true, laidKinds := [.data, .data, .data], laidTests := true, laidLooks := .later }
def PatternRowsUptoCardSaid : Prop := Claim7.holds Tryd.pinned (.plain (OpenSpec.upto patternRowsSpec)) patternRowsUptoCard

/-- THE SECOND FORM's CARD OF 'sawmilllaw21.PatternTexts'. -/
def patternTextsUptoCard : Claim7 := { stood := { row := patternTextsUptoRow, standIns := [], harness := (true, "0369c784acb463d101dc1864da47ada17dc9d7f880847783989d4fab444b8452"), looks := false }, kinds := [], alts := [], laidByText := true, laidKinds := [.data, .data, .data], laidTests := true, laidLooks := .later }
def PatternTextsUptoCardSaid : Prop := Claim7.holds Tryd.pinned (.plain (OpenSpec.upto patternTextsSpec)) patternTextsUptoCard

/-- THE SECOND FORM's CARD OF 'sawmilllaw21.PatternParts'. -/
def patternPartsUptoCard : Claim7 := { stood := { row := patternPartsUptoRow, standIns := [], harness := (true, "0369c784acb463d101dc1864da47ada17dc9d7f880847783989d4fab444b8452"), looks := false }, kinds := [], alts := [], laidByText := true, laidKinds := [.data, .data, .data], laidTests := true, laidLooks := .later }
def PatternPartsUptoCardSaid : Prop := Claim7.holds Tryd.pinned (.plain (OpenSpec.upto patternPartsSpec)) patternPartsUptoCard

/-- THE SECOND FORM's CARD OF 'sawmilllaw21.PatternRow'. -/
def patternRowUptoCard : Claim7 := { stood := { row := patternRowUptoRow, standIns := [], harness := (true, "0369c784acb463d101dc1864da47ada17dc9d7f880847783989d4fab444b8452"), looks := false }, kinds := [], alts := [], laidByText := true, laidKinds := [.data, .data, .data], laidTests := true, laidLooks := .later }
def PatternRowUptoCardSaid : Prop := Claim7.holds Tryd.pinned (.plain (OpenSpec.upto patternRowSpec)) patternRowUptoCard

/-- THE SECOND FORM's CARD OF 'sawmilllaw21.PatternSwaps'. -/
def patternSwapsUptoCard : Claim7 := { stood := { row := patternSwapsUptoRow, standIns := [], harness := (true, "0369c784acb463d101dc1864da47ada17dc9d7f880847783989d4fab444b8452"), looks := false }, kinds := [], alts := [], laidByText := true, laidKinds := [.data, .data, .data], laidTests := true, laidLooks := .later }
def PatternSwapsUptoCardSaid : Prop := Claim7.holds Tryd.pinned (.plain (OpenSpec.upto patternSwapsSpec)) patternSwapsUptoCard

/-- THE SECOND FORM's CARD OF 'sawmilllaw21.PatternParses'. -/
def patternParsesUptoCard : Claim7 := { stood := { row := patternParsesUptoRow, standIns := [], harness := (true, "0369c784acb463d101dc1864da47ada17dc9d7f880847783989d4fab444b8452"), looks := false }, kinds := [], alts := [], laidByText := true, laidKinds := [.data, .data, .data], laidTests := true, laidLooks := .later }
def PatternParsesUptoCardSaid : Prop := Claim7.holds Tryd.pinned (.plain (OpenSpec.upto patternParsesSpec)) patternParsesUptoCard
end Rows
end Go.Proofs.YtbmcfodhjibooaaDoor
