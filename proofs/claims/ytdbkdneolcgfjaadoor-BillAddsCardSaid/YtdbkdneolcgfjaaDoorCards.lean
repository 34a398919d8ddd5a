/-
  DERIVED. GIVEN WITH THE SEED: THE CARDS: each row of YtdbkdneolcgfjaaDoorRows.lean that lists a variable, with what it lists TIED to the program's text (the seventh form; the later family's looks); each row that meets fmt, with fmt's text TOLD by the authors' own Lean function (tested against real Go, not proved from fmt's source: count such statements apart). THE CARD IS WHAT COUNTS. Prove the row's statement (the work); the ties are given (YtdbkdneolcgfjaaDoorTie.lean); close each card by the builder's one call (the guide's Derived/Test/ToyasCard.lean, 'card_holds'). Laid BY PROGRAM, IN A SANDBOX (cutbox-door.mjs). By AI agents, Wed Nov 11 2026. No macro, syntax, notation, axiom, sorry.
-/
import Derived.Test.YtdbkdneolcgfjaaDoorRows
import GoSem.ClaimSeven
namespace Go.Proofs.YtdbkdneolcgfjaaDoor
namespace Rows

/-- THE TIED CARD OF 'sawmilllaw50.BillAmounts'. -/
def billAmountsCard : Claim7 := { stood := { row := billAmountsRow, standIns := [], harness := (true, "41782db5f5eba1061f0fb925da2c7d24c0f40c1920b1300674f79313c1da1fda"), looks := false }, kinds := [], alts := [], laidByText := true, laidKinds := [.data, .data, .data], laidTests := true, laidLooks := .later }
def BillAmountsCardSaid : Prop := Claim7.holds Tryd.pinned (.plain (OpenSpec.ofChange billAmountsSpec)) billAmountsCard

/-- THE TIED CARD OF 'sawmilllaw50.BillDiscounts'. -/
def billDiscountsCard : Claim7 := { stood := { row := billDiscountsRow, standIns := [], harness := (true, "41782db5f5eba1061f0fb925da2c7d24c0f40c1920b1300674f79313c1da1fda"), looks := false }, kinds := [], alts := [], laidByText := true, laidKinds := [.data, .data, .data], laidTests := true, laidLooks := .later }
def BillDiscountsCardSaid : Prop := Claim7.holds Tryd.pinned (.plain (OpenSpec.ofChange billDiscountsSpec)) billDiscountsCard

/-- THE TIED CARD OF 'sawmilllaw50.BillTotals'. -/
def billTotalsCard : Claim7 := { stood := { row := billTotalsRow, standIns := [], harness := (true, "41782db5f5eba1061f0fb925da2c7d24c0f40c1920b1300674f79313c1da1fda"), looks := false }, kinds := [], alts := [], laidByText := true, laidKinds := [.data, .data, .data], laidTests := true, laidLooks := .later }
def BillTotalsCardSaid : Prop := Claim7.holds Tryd.pinned (.plain (OpenSpec.ofChange billTotalsSpec)) billTotalsCard

/-- THE TIED CARD OF 'sawmilllaw50.BillRounds'. -/
def billRoundsCard : Claim7 := { stood := { row := billRoundsRow, standIns := [], harness := (true, "41782db5f5eba1061f0fb925da2c7d24c0f40c1920b1300674f79313c1da1fda"), looks := false }, kinds := [], alts := [], laidByText := true, laidKinds := [.data, .data, .data], laidTests := true, laidLooks := .later }
def BillRoundsCardSaid : Prop := Claim7.holds Tryd.pinned (.plain (OpenSpec.ofChange billRoundsSpec)) billRoundsCard

/-- THE TIED CARD OF 'sawmilllaw50.BillSpares'. -/
def billSparesCard : Claim7 := { stood := { row := billSparesRow, standIns := [], harness := (true, "41782db5f5eba1061f0fb925da2c7d24c0f40c1920b1300674f79313c1da1fda"), looks := false }, kinds := [], alts := [], laidByText := true, laidKinds := [.data, .data, .data], laidTests := true, laidLooks := .later }
def BillSparesCardSaid : Prop := Claim7.holds Tryd.pinned (.plain (OpenSpec.ofChange billSparesSpec)) billSparesCard

/-- THE TIED CARD OF 'sawmilllaw50.BillAdds'. -/
def billAddsCard : Claim7 := { stood := { row := billAddsRow, standIns := [], harness := (true, "41782db5f5eba1061f0fb925da2c7d24c0f40c1920b1300674f79313c1da1fda"), looks := false }, kinds := [], alts := [], laidByText := true, laidKinds := [.data, .data, .data], laidTests := true, laidLooks := .later }
def BillAddsCardSaid : Prop := Claim7.holds Tryd.pinned (.plain (OpenSpec.ofChange billAddsSpec)) billAddsCard

/-- THE TIED CARD OF 'sawmilllaw50.BillLines'. -/
def billLinesCard : Claim7 := { stood := { row := billLinesRow, standIns := [], harness := (true, "41782db5f5eba1061f0fb925da2c7d24c0f40c1920b1300674f79313c1da1fda"), looks := false }, kinds := [], alts := [], laidByText := true, laidKinds := [.data, .data, .data], laidTests := true, laidLooks := .later }
def BillLinesCardSaid : Prop := Claim7.holds Tryd.pinned (.plain (OpenSpec.ofChange billLinesSpec)) billLinesCard

/-- THE SECOND FORM's CARD OF 'sawmilllaw50.BillAmounts'. -/
def billAmountsUptoCard : Claim7 := { stood := { row := billAmountsUptoRow, standIns := [], harness := (true, "41782db5f5eba1061f0fb925da2c7d24c0f40c1920b1300674f79313c1da1fda"), looks := false }, kinds := [], alts := [], laidByText := true, laidKinds := [.data, .data, .data], laidTests := true, laidLooks := .later }
def BillAmountsUptoCardSaid : Prop := Claim7.holds Tryd.pinned (.plain (OpenSpec.upto billAmountsSpec)) billAmountsUptoCard

/-- THE SECOND FORM's CARD OF 'sawmilllaw50.BillDiscounts'. -/
def billDiscountsUptoCard : Claim7 := { stood := { row := billDiscountsUptoRow, standIns := [], harness := (true, "41782db5f5eba1061f0fb925da2c7d24c0f40c1920b1300674f79313c1da1fda"), looks := false }, kinds := [], alts := [], laidByText := true, laidKinds := [.data, .data, .data], laidTests := true, laidLooks := .later }
def BillDiscountsUptoCardSaid : Prop := Claim7.holds Tryd.pinned (.plain (OpenSpec.upto billDiscountsSpec)) billDiscountsUptoCard

/-- THE SECOND FORM's CARD OF 'sawmilllaw50.BillTotals'. -/
def billTotalsUptoCard : Claim7 := { stood := { row := billTotalsUptoRow, standIns := [], harness := (true, "41782db5f5eba1061f0fb925da2c7d24c0f40c1920b1300674f79313c1da1fda"), looks := false }, kinds := [], alts := [], laidByText := true, laidKinds := [.data, .data, .data], laidTests := true, laidLooks := .later }
def BillTotalsUptoCardSaid : Prop := Claim7.holds Tryd.pinned (.plain (OpenSpec.upto billTotalsSpec)) billTotalsUptoCard

/-- THE SECOND FORM's CARD OF 'sawmilllaw50.BillRounds'. -/
def billRoundsUptoCard : Claim7 := { stood := { row := billRoundsUptoRow, standIns := [], harness := (true, "41782db5f5eba1061f0fb925da2c7d24c0f40c1920b1300674f79313c1da1fda"), looks := false }, kinds := [], alts := [], laidByText := true, laidKinds := [.data, .data, .data], laidTests := true, laidLooks := .later }
def BillRoundsUptoCardSaid : Prop := Claim7.holds Tryd.pinned (.plain (OpenSpec.upto billRoundsSpec)) billRoundsUptoCard

/-- THE SECOND FORM's CARD OF 'sawmilllaw50.BillSpares'. -/
def billSparesUptoCard : Claim7 := { stood := { row := billSparesUptoRow, standIns := [], harness := (true, "41782db5f5eba1061f0fb925da2c7d24c0f40c1920b1300674f79313c1da1fda"), looks := false }, kinds := [], alts := [], laidByText := true, laidKinds := [.data, .data, .data], laidTests := true, laidLooks := .later }
def BillSparesUptoCardSaid : Prop := Claim7.holds Tryd.pinned (.plain (OpenSpec.upto billSparesSpec)) billSparesUptoCard

/-- THE SECOND FORM's CARD OF 'sawmilllaw50.BillAdds'. -/
def billAddsUptoCard : Claim7 := { stood := { row := billAddsUptoRow, standIns := [], harness := (true, "41782db5f5eba1061f0fb925da2c7d24c0f40c1920b1300674f79313c1da1fda"), looks := false }, kinds := [], alts := [], laidByText := true, laidKinds := [.data, .data, .data], laidTests := true, laidLooks := .later }
def BillAddsUptoCardSaid : Prop := Claim7.holds Tryd.pinned (.plain (OpenSpec.upto billAddsSpec)) billAddsUptoCard

/-- THE SECOND FORM's CARD OF 'sawmilllaw50.BillLines'. -/
def billLinesUptoCard : Claim7 := { stood := { row := billLinesUptoRow, standIns := [], harness := (true, "41782db5f5eba1061f0fb925da2c7d24c0f40c1920b1300674f79313c1da1fda"), looks := false }, kinds := [], alts := [], laidByText := true, laidKinds := [.data, .data, .data], laidTests := true, laidLooks := .later }
def BillLinesUptoCardSaid : Prop := Claim7.holds Tryd.pinned (.plain (OpenSpec.upto billLinesSpec)) billLinesUptoCard
end Rows
end Go.Proofs.YtdbkdneolcgfjaaDoor
