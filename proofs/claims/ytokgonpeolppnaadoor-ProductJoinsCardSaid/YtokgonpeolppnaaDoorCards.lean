/-
  DERIVED. GIVEN WITH THE SEED: THE CARDS: each row of YtokgonpeolppnaaDoorRows.lean that lists a variable, with what it lists TIED to the program's text (the seventh form; the later family's looks); each row that meets fmt, with fmt's text TOLD by the authors' own Lean function (tested against real Go, not proved from fmt's source: count such statements apart). THE CARD IS WHAT COUNTS. Prove the row's statement (the work); the ties are given (YtokgonpeolppnaaDoorTie.lean); close each card by the builder's one call (the guide's Derived/Test/ToyasCard.lean, 'card_holds'). Laid BY PROGRAM, IN A SANDBOX (cutbox-door.mjs). By AI agents, Wed Nov 11 2026. No macro, syntax, notation, axiom, sorry.
-/
import Derived.Test.YtokgonpeolppnaaDoorRows
import GoSem.ClaimSeven
namespace Go.Proofs.YtokgonpeolppnaaDoor
namespace Rows

/-- THE TIED CARD OF 'sawmilllaw19.ProductChecks'. -/
def productChecksCard : Claim7 := { stood := { row := productChecksRow, standIns := [], harness := (true, "dad2b253044b268ba0fb3be2ef77e999179f50b141b8fece0aa47a68bd690845"), looks := false }, kinds := [], alts := [], laidByText := true, laidKinds := [.data, .data, .data], laidTests := true, laidLooks := .later }
def ProductChecksCardSaid : Prop := Claim7.holds Tryd.pinned (.plain (OpenSpec.ofChange productChecksSpec)) productChecksCard

/-- THE TIED CARD OF 'sawmilllaw19.ProductSizes'. -/
def productSizesCard : Claim7 := { stood := { row := productSizesRow, standIns := [], harness := (true, "dad2b253044b268ba0fb3be2ef77e999179f50b141b8fece0aa47a68bd690845"), looks := false }, kinds := [], alts := [], laidByText := true, laidKinds := [.data, .data, .data], laidTests := true, laidLooks := .later }
def ProductSizesCardSaid : Prop := Claim7.holds Tryd.pinned (.plain (OpenSpec.ofChange productSizesSpec)) productSizesCard

/-- THE TIED CARD OF 'sawmilllaw19.ProductTexts'. -/
def productTextsCard : Claim7 := { stood := { row := productTextsRow, standIns := [], harness := (true, "dad2b253044b268ba0fb3be2ef77e999179f50b141b8fece0aa47a68bd690845"), looks := false }, kinds := [], alts := [], laidByText := true, laidKinds := [.data, .data, .data], laidTests := true, laidLooks := .later }
def ProductTextsCardSaid : Prop := Claim7.holds Tryd.pinned (.plain (OpenSpec.ofChange productTextsSpec)) productTextsCard

/-- THE TIED CARD OF 'sawmilllaw19.ProductFinds'. -/
def productFindsCard : Claim7 := { stood := { row := productFindsRow, standIns := [], harness := (true, "dad2b253044b268ba0fb3be2ef77e999179f50b141b8fece0aa47a68bd690845"), looks := false }, kinds := [], alts := [], laidByText := true, laidKinds := [.data, .data, .data], laidTests := true, laidLooks := .later }
def ProductFindsCardSaid : Prop := Claim7.holds Tryd.pinned (.plain (OpenSpec.ofChange productFindsSpec)) productFindsCard

/-- THE TIED CARD OF 'sawmilllaw19.ProductGreens'. -/
def productGreensCard : Claim7 := { stood := { row := productGreensRow, standIns := [], harness := (true, "dad2b253044b268ba0fb3be2ef77e999179f50b141b8fece0aa47a68bd690845"), looks := false }, kinds := [], alts := [], laidByText := true, laidKinds := [.data, .data, .data], laidTests := true, laidLooks := .later }
def ProductGreensCardSaid : Prop := Claim7.holds Tryd.pinned (.plain (OpenSpec.ofChange productGreensSpec)) productGreensCard

/-- THE TIED CARD OF 'sawmilllaw19.ProductBack'. -/
def productBackCard : Claim7 := { stood := { row := productBackRow, standIns := [], harness := (true, "dad2b253044b268ba0fb3be2ef77e999179f50b141b8fece0aa47a68bd690845"), looks := false }, kinds := [], alts := [], laidByText := true, laidKinds := [.data, .data, .data], laidTests := true, laidLooks := .later }
def ProductBackCardSaid : Prop := Claim7.holds Tryd.pinned (.plain (OpenSpec.ofChange productBackSpec)) productBackCard

/-- THE TIED CARD OF 'sawmilllaw19.ProductJoins'. -/
def productJoinsCard : Claim7 := { stood := { row := productJoinsRow, standIns := [], harness := (true, "dad2b253044b268ba0fb3be2ef77e999179f50b141b8fece0aa47a68bd690845"), looks := false }, kinds := [], alts := [], laidByText := true, laidKinds := [.data, .data, .data], laidTests := true, laidLooks := .later }
def ProductJoinsCardSaid : Prop := Claim7.holds Tryd.pinned (.plain (OpenSpec.ofChange productJoinsSpec)) productJoinsCard

/-- THE TIED CARD OF 'sawmilllaw19.ProductPrices'. -/
def productPricesCard : Claim7 := { stood := { row := productPricesRow, standIns := [], harness := (true, "dad2b253044b268ba0fb3be2ef77e999179f50b141b8fece0aa47a68bd690845"), looks := false }, kinds := [], alts := [], laidByText := true, laidKinds := [.data, .data, .data], laidTests := true, laidLooks := .later }
def ProductPricesCardSaid : Prop := Claim7.holds Tryd.pinned (.plain (OpenSpec.ofChange productPricesSpec)) productPricesCard

/-- THE TIED CARD OF 'sawmilllaw19.ProductSpaces'. -/
def productSpacesCard : Claim7 := { stood := { row := productSpacesRow, standIns := [], harness := (true, "dad2b253044b268ba0fb3be2ef77e999179f50b141b8fece0aa47a68bd690845"), looks := false }, kinds := [], alts := [], laidByText := true, laidKinds := [.data, .data, .data], laidTests := true, laidLooks := .later }
def ProductSpacesCardSaid : Prop := Claim7.holds Tryd.pinned (.plain (OpenSpec.ofChange productSpacesSpec)) productSpacesCard

/-- THE SECOND FORM's CARD OF 'sawmilllaw19.ProductChecks'. -/
def productChecksUptoCard : Claim7 := { stood := { row := productChecksUptoRow, standIns := [], harness := (true, "dad2b253044b268ba0fb3be2ef77e999179f50b141b8fece0aa47a68bd690845"), looks := false }, kinds := [], alts := [], laidByText := true, laidKinds := [.data, .data, .data], laidTests := true, laidLooks := .later }
def ProductChecksUptoCardSaid : Prop := Claim7.holds Tryd.pinned (.plain (OpenSpec.upto productChecksSpec)) productChecksUptoCard

/-- THE SECOND FORM's CARD OF 'sawmilllaw19.ProductSizes'. -/
def productSizesUptoCard : Claim7 := { stood := { row := productSizesUptoRow, standIns := [], harness := (true, "dad2b253044b268ba0fb3be2ef77e999179f50b141b8fece0aa47a68bd690845"), looks := false }, kinds := [], alts := [], laidByText := true, laidKinds := [.data, .data, .data], laidTests := true, laidLooks := .later }
def ProductSizesUptoCardSaid : Prop := Claim7.holds Tryd.pinned (.plain (OpenSpec.upto productSizesSpec)) productSizesUptoCard

/-- THE SECOND FORM's CARD OF 'sawmilllaw19.ProductTexts'. -/
def productTextsUptoCard : Claim7 := { stood := { row := productTextsUptoRow, standIns := [], harness := (true, "dad2b253044b268ba0fb3be2ef77e999179f50b141b8fece0aa47a68bd690845"), looks := false }, kinds := [], alts := [], laidByText := true, laidKinds := [.data, .data, .data], laidTests := true, laidLooks := .later }
def ProductTextsUptoCardSaid : Prop := Claim7.holds Tryd.pinned (.plain (OpenSpec.upto productTextsSpec)) productTextsUptoCard

/-- THE SECOND FORM's CARD OF 'sawmilllaw19.ProductFinds'. -/
def productFindsUptoCard : Claim7 := { stood := { row := productFindsUptoRow, standIns := [], harness := (true, "dad2b253044b268ba0fb3be2ef77e999179f50b141b8fece0aa47a68bd690845"), looks := false }, kinds := [], alts := [], laidByText := true, laidKinds := [.data, .data, .data], laidTests := true, laidLooks := .later }
def ProductFindsUptoCardSaid : Prop := Claim7.holds Tryd.pinned (.plain (OpenSpec.upto productFindsSpec)) productFindsUptoCard

/-- THE SECOND FORM's CARD OF 'sawmilllaw19.ProductGreens'. -/
def productGreensUptoCard : Claim7 := { stood := { row := productGreensUptoRow, standIns := [], harness := (true, "dad2b253044b268ba0fb3be2ef77e999179f50b141b8fece0aa47a68bd690845"), looks := false }, kinds := [], alts := [], laidByText := true, laidKinds := [.data, .data, .data], laidTests := true, laidLooks := .later }
def ProductGreensUptoCardSaid : Prop := Claim7.holds Tryd.pinned (.plain (OpenSpec.upto productGreensSpec)) productGreensUptoCard

/-- THE SECOND FORM's CARD OF 'sawmilllaw19.ProductBack'. -/
def productBackUptoCard : Claim7 := { stood := { row := productBackUptoRow, standIns := [], harness := (true, "dad2b253044b268ba0fb3be2ef77e999179f50b141b8fece0aa47a68bd690845"), looks := false }, kinds := [], alts := [], laidByText := true, laidKinds := [.data, .data, .data], laidTests := true, laidLooks := .later }
def ProductBackUptoCardSaid : Prop := Claim7.holds Tryd.pinned (.plain (OpenSpec.upto productBackSpec)) productBackUptoCard

/-- THE SECOND FORM's CARD OF 'sawmilllaw19.ProductJoins'. -/
def productJoinsUptoCard : Claim7 := { stood := { row := productJoinsUptoRow, standIns := [], harness := (true, "dad2b253044b268ba0fb3be2ef77e999179f50b141b8fece0aa47a68bd690845"), looks := false }, kinds := [], alts := [], laidByText := true, laidKinds := [.data, .data, .data], laidTests := true, laidLooks := .later }
def ProductJoinsUptoCardSaid : Prop := Claim7.holds Tryd.pinned (.plain (OpenSpec.upto productJoinsSpec)) productJoinsUptoCard

/-- THE SECOND FORM's CARD OF 'sawmilllaw19.ProductPrices'. -/
def productPricesUptoCard : Claim7 := { stood := { row := productPricesUptoRow, standIns := [], harness := (true, "dad2b253044b268ba0fb3be2ef77e999179f50b141b8fece0aa47a68bd690845"), looks := false }, kinds := [], alts := [], laidByText := true, laidKinds := [.data, .data, .data], laidTests := true, laidLooks := .later }
def ProductPricesUptoCardSaid : Prop := Claim7.holds Tryd.pinned (.plain (OpenSpec.upto productPricesSpec)) productPricesUptoCard

/-- THE SECOND FORM's CARD OF 'sawmilllaw19.ProductSpaces'. -/
def productSpacesUptoCard : Claim7 := { stood := { row := productSpacesUptoRow, standIns := [], harness := (true, "dad2b253044b268ba0fb3be2ef77e999179f50b141b8fece0aa47a68bd690845"), looks := false }, kinds := [], alts := [], laidByText := true, laidKinds := [.data, .data, .data], laidTests := true, laidLooks := .later }
def ProductSpacesUptoCardSaid : Prop := Claim7.holds Tryd.pinned (.plain (OpenSpec.upto productSpacesSpec)) productSpacesUptoCard
end Rows
end Go.Proofs.YtokgonpeolppnaaDoor
