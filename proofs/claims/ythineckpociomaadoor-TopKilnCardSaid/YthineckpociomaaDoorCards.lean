/-
  DERIVED. GIVEN WITH THE SEED: THE CARDS: each row of YthineckpociomaaDoorRows.lean that lists a variable, with what it lists TIED to the program's text (the seventh form; the later family's looks); each row that meets fmt, with fmt's text TOLD by the authors' own Lean function (tested against real Go, not proved from fmt's source: count such statements apart). THE CARD IS WHAT COUNTS. Prove the row's statement (the work); the ties are given (YthineckpociomaaDoorTie.lean); close each card by the builder's one call (the guide's Derived/Test/ToyasCard.lean, 'card_holds'). Laid BY PROGRAM, IN A SANDBOX (cutbox-door.mjs). By AI agents, Wed Nov 11 2026. No macro, syntax, notation, axiom, sorry.
-/
import Derived.Test.YthineckpociomaaDoorRows
import GoSem.ClaimSeven
namespace Go.Proofs.YthineckpociomaaDoor
namespace Rows

/-- THE TIED CARD OF 'sawmilltop.TopKiln'. -/
def topKilnCard : Claim7 := { stood := { row := topKilnRow, standIns := [], harness := (true, "d6c6ba3f73bb4a9b17d3af9903ba625f9f4ae7df108121729db07a8abd28fe8b"), looks := false }, kinds := [], alts := [], laidByText := true, laidKinds := [.data], laidTests := true, laidLooks := .later }
def TopKilnCardSaid : Prop := Claim7.holds Tryd.pinned (.plain (OpenSpec.ofChange topKilnSpec)) topKilnCard

/-- THE SECOND FORM's CARD OF 'sawmilltop.TopKiln'. -/
def topKilnUptoCard : Claim7 := { stood := { row := topKilnUptoRow, standIns := [], harness := (true, "d6c6ba3f73bb4a9b17d3af9903ba625f9f4ae7df108121729db07a8abd28fe8b"), looks := false }, kinds := [], alts := [], laidByText := true, laidKinds := [.data], laidTests := true, laidLooks := .later }
def TopKilnUptoCardSaid : Prop := Claim7.holds Tryd.pinned (.plain (OpenSpec.upto topKilnSpec)) topKilnUptoCard
end Rows
end Go.Proofs.YthineckpociomaaDoor
