/-
  DERIVED. GIVEN WITH THE SEED: THE CARDS: each row of YtadflenmdfcflaaDoorRows.lean that lists a variable, with what it lists TIED to the program's text (the seventh form; the later family's looks); each row that meets fmt, with fmt's text TOLD by the authors' own Lean function (tested against real Go, not proved from fmt's source: count such statements apart). THE CARD IS WHAT COUNTS. Prove the row's statement (the work); the ties are given (YtadflenmdfcflaaDoorTie.lean); close each card by the builder's one call (the guide's Derived/Test/ToyasCard.lean, 'card_holds'). Laid BY PROGRAM, IN A SANDBOX (cutbox-door.mjs). By AI agents, Wed Nov 11 2026. No macro, syntax, notation, axiom, sorry.
-/
import Derived.Test.YtadflenmdfcflaaDoorRows
import GoSem.ClaimSeven
namespace Go.Proofs.YtadflenmdfcflaaDoor
namespace Rows

/-- THE TIED CARD OF 'sawmilllaw34.WoodChecks'. -/
def woodChecksCard : Claim7 := { stood := { row := woodChecksRow, standIns := [], harness := (true, "d680b791a660bffedac57838e3bc65f182fcb84746387c2cb8787b152f44f78d"), looks := false }, kinds := [], alts := [], laidByText := true, laidKinds := [.data, .data, .data, .data], laidTests := true, laidLooks := .later }
def WoodChecksCardSaid : Prop := Claim7.holds Tryd.pinned (.plain (OpenSpec.ofChange woodChecksSpec)) woodChecksCard

/-- THE TIED CARD OF 'sawmilllaw34.WoodShrinks'. -/
def woodShrinksCard : Claim7 := { stood := { row := woodShrinksRow, standIns := [], harness := (true, "d680b791a660bffedac57838e3bc65f182fcb84746387c2cb8787b152f44f78d"), looks := false }, kinds := [], alts := [], laidByText := true, laidKinds := [.data, .data, .data, .data], laidTests := true, laidLooks := .later }
def WoodShrinksCardSaid : Prop := Claim7.holds Tryd.pinned (.plain (OpenSpec.ofChange woodShrinksSpec)) woodShrinksCard

/-- THE TIED CARD OF 'sawmilllaw34.WoodFormats'. -/
def woodFormatsCard : Claim7 := { stood := { row := woodFormatsRow, standIns := [], harness := (true, "d680b791a660bffedac57838e3bc65f182fcb84746387c2cb8787b152f44f78d"), looks := false }, kinds := [], alts := [], laidByText := true, laidKinds := [.data, .data, .data, .data], laidTests := true, laidLooks := .later }
def WoodFormatsCardSaid : Prop := Claim7.holds Tryd.pinned (.plain (OpenSpec.ofChange woodFormatsSpec)) woodFormatsCard

/-- THE TIED CARD OF 'sawmilllaw34.WoodParses'. -/
def woodParsesCard : Claim7 := { stood := { row := woodParsesRow, standIns := [], harness := (true, "d680b791a660bffedac57838e3bc65f182fcb84746387c2cb8787b152f44f78d"), looks := false }, kinds := [], alts := [], laidByText := true, laidKinds := [.data, .data, .data, .data], laidTests := true, laidLooks := .later }
def WoodParsesCardSaid : Prop := Claim7.holds Tryd.pinned (.plain (OpenSpec.ofChange woodParsesSpec)) woodParsesCard

/-- THE TIED CARD OF 'sawmilllaw34.WoodBack'. -/
def woodBackCard : Claim7 := { stood := { row := woodBackRow, standIns := [], harness := (true, "d680b791a660bffedac57838e3bc65f182fcb84746387c2cb8787b152f44f78d"), looks := false }, kinds := [], alts := [], laidByText := true, laidKinds := [.data, .data, .data, .data], laidTests := true, laidLooks := .later }
def WoodBackCardSaid : Prop := Claim7.holds Tryd.pinned (.plain (OpenSpec.ofChange woodBackSpec)) woodBackCard

/-- THE TIED CARD OF 'sawmilllaw34.WoodDries'. -/
def woodDriesCard : Claim7 := { stood := { row := woodDriesRow, standIns := [], harness := (true, "d680b791a660bffedac57838e3bc65f182fcb84746387c2cb8787b152f44f78d"), looks := false }, kinds := [], alts := [], laidByText := true, laidKinds := [.data, .data, .data, .data], laidTests := true, laidLooks := .later }
def WoodDriesCardSaid : Prop := Claim7.holds Tryd.pinned (.plain (OpenSpec.ofChange woodDriesSpec)) woodDriesCard

/-- THE TIED CARD OF 'sawmilllaw34.WoodFinds'. -/
def woodFindsCard : Claim7 := { stood := { row := woodFindsRow, standIns := [], harness := (true, "d680b791a660bffedac57838e3bc65f182fcb84746387c2cb8787b152f44f78d"), looks := false }, kinds := [], alts := [], laidByText := true, laidKinds := [.data, .data, .data, .data], laidTests := true, laidLooks := .later }
def WoodFindsCardSaid : Prop := Claim7.holds Tryd.pinned (.plain (OpenSpec.ofChange woodFindsSpec)) woodFindsCard

/-- THE TIED CARD OF 'sawmilllaw34.WoodPrinted'. -/
def woodPrintedCard : Claim7 := { stood := { row := woodPrintedRow, standIns := [], harness := (true, "d680b791a660bffedac57838e3bc65f182fcb84746387c2cb8787b152f44f78d"), looks := false }, kinds := [], alts := [], laidByText := true, laidKinds := [.data, .data, .data, .data], laidTests := true, laidLooks := .later }
def WoodPrintedCardSaid : Prop := Claim7.holds Tryd.pinned (.plain (OpenSpec.ofChange woodPrintedSpec)) woodPrintedCard

/-- THE SECOND FORM's CARD OF 'sawmilllaw34.WoodChecks'. -/
def woodChecksUptoCard : Claim7 := { stood := { row := woodChecksUptoRow, standIns := [], harness := (true, "d680b791a660bffedac57838e3bc65f182fcb84746387c2cb8787b152f44f78d"), looks := false }, kinds := [], alts := [], laidByText := true, laidKinds := [.data, .data, .data, .data], laidTests := true, laidLooks := .later }
def WoodChecksUptoCardSaid : Prop := Claim7.holds Tryd.pinned (.plain (OpenSpec.upto woodChecksSpec)) woodChecksUptoCard

/-- THE SECOND FORM's CARD OF 'sawmilllaw34.WoodShrinks'. -/
def woodShrinksUptoCard : Claim7 := { stood := { row := woodShrinksUptoRow, standIns := [], harness := (true, "d680b791a660bffedac57838e3bc65f182fcb84746387c2cb8787b152f44f78d"), looks := false }, kinds := [], alts := [], laidByText := true, laidKinds := [.data, .data, .data, .data], laidTests := true, laidLooks := .later }
def WoodShrinksUptoCardSaid : Prop := Claim7.holds Tryd.pinned (.plain (OpenSpec.upto woodShrinksSpec)) woodShrinksUptoCard

/-- THE SECOND FORM's CARD OF 'sawmilllaw34.WoodFormats'. -/
def woodFormatsUptoCard : Claim7 := { stood := { row := woodFormatsUptoRow, standIns := [], harness := (true, "d680b791a660bffedac57838e3bc65f182fcb84746387c2cb8787b152f44f78d"), looks := false }, kinds := [], alts := [], laidByText := true, laidKinds := [.data, .data, .data, .data], laidTests := true, laidLooks := .later }
def WoodFormatsUptoCardSaid : Prop := Claim7.holds Tryd.pinned (.plain (OpenSpec.upto woodFormatsSpec)) woodFormatsUptoCard

/-- THE SECOND FORM's CARD OF 'sawmilllaw34.WoodParses'. -/
def woodParsesUptoCard : Claim7 := { stood := { row := woodParsesUptoRow, standIns := [], harness := (true, "d680b791a660bffedac57838e3bc65f182fcb84746387c2cb8787b152f44f78d"), looks := false }, kinds := [], alts := [], laidByText := true, laidKinds := [.data, .data, .data, .data], laidTests := true, laidLooks := .later }
def WoodParsesUptoCardSaid : Prop := Claim7.holds Tryd.pinned (.plain (OpenSpec.upto woodParsesSpec)) woodParsesUptoCard

/-- THE SECOND FORM's CARD OF 'sawmilllaw34.WoodBack'. -/
def woodBackUptoCard : Claim7 := { stood := { row := woodBackUptoRow, standIns := [], harness := (true, "d680b791a660bffedac57838e3bc65f182fcb84746387c2cb8787b152f44f78d"), looks := false }, kinds := [], alts := [], laidByText := true, laidKinds := [.data, .data, .data, .data], laidTests := true, laidLooks := .later }
def WoodBackUptoCardSaid : Prop := Claim7.holds Tryd.pinned (.plain (OpenSpec.upto woodBackSpec)) woodBackUptoCard

/-- THE SECOND FORM's CARD OF 'sawmilllaw34.WoodDries'. -/
def woodDriesUptoCard : Claim7 := { stood := { row := woodDriesUptoRow, standIns := [], harness := (true, "d680b791a660bffedac57838e3bc65f182fcb84746387c2cb8787b152f44f78d"), looks := false }, kinds := [], alts := [], laidByText := true, laidKinds := [.data, .data, .data, .data], laidTests := true, laidLooks := .later }
def WoodDriesUptoCardSaid : Prop := Claim7.holds Tryd.pinned (.plain (OpenSpec.upto woodDriesSpec)) woodDriesUptoCard

/-- THE SECOND FORM's CARD OF 'sawmilllaw34.WoodFinds'. -/
def woodFindsUptoCard : Claim7 := { stood := { row := woodFindsUptoRow, standIns := [], harness := (true, "d680b791a660bffedac57838e3bc65f182fcb84746387c2cb8787b152f44f78d"), looks := false }, kinds := [], alts := [], laidByText := true, laidKinds := [.data, .data, .data, .data], laidTests := true, laidLooks := .later }
def WoodFindsUptoCardSaid : Prop := Claim7.holds Tryd.pinned (.plain (OpenSpec.upto woodFindsSpec)) woodFindsUptoCard

/-- THE SECOND FORM's CARD OF 'sawmilllaw34.WoodPrinted'. -/
def woodPrintedUptoCard : Claim7 := { stood := { row := woodPrintedUptoRow, standIns := [], harness := (true, "d680b791a660bffedac57838e3bc65f182fcb84746387c2cb8787b152f44f78d"), looks := false }, kinds := [], alts := [], laidByText := true, laidKinds := [.data, .data, .data, .data], laidTests := true, laidLooks := .later }
def WoodPrintedUptoCardSaid : Prop := Claim7.holds Tryd.pinned (.plain (OpenSpec.upto woodPrintedSpec)) woodPrintedUptoCard
end Rows
end Go.Proofs.YtadflenmdfcflaaDoor
