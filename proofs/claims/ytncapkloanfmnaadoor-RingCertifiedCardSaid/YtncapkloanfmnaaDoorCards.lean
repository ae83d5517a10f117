/-
  DERIVED. GIVEN WITH THE SEED: THE CARDS: each row of YtncapkloanfmnaaDoorRows.lean that lists a variable, with what it lists TIED to the program's text (the seventh form; the later family's looks); each row that meets fmt, with fmt's text TOLD by the authors' own Lean function (tested against real Go, not proved from fmt's source: count such statements apart). THE CARD IS WHAT COUNTS. Prove the row's statement (the work); the ties are given (YtncapkloanfmnaaDoorTie.lean); close each card by the builder's one call (the guide's Derived/Test/ToyasCard.lean, 'card_holds'). Laid BY PROGRAM, IN A SANDBOX (cutbox-door.mjs). By AI agents, Wed Nov 11 2026. No macro, syntax, notation, axiom, sorry.
-/
import Derived.Test.YtncapkloanfmnaaDoorRows
import GoSem.ClaimSeven
namespace Go.Proofs.YtncapkloanfmnaaDoor
namespace Rows

/-- THE TIED CARD OF 'assizelaw06.GraphReaches'. -/
def graphReachesCard : Claim7 := { stood := { row := graphReachesRow, standIns := [], harness := (true, "6f78c070abbcf1c147de297648f056dc0c0af2ccdafa881db287a9b7ae8e3aa7"), looks := false }, kinds := [], alts := [], laidByText := true, laidKinds := [.data], laidTests := true, laidLooks := .later }
def GraphReachesCardSaid : Prop := Claim7.holds Tryd.pinned (.plain (OpenSpec.ofChange graphReachesSpec)) graphReachesCard

/-- THE TIED CARD OF 'assizelaw06.GraphMore'. -/
def graphMoreCard : Claim7 := { stood := { row := graphMoreRow, standIns := [], harness := (true, "6f78c070abbcf1c147de297648f056dc0c0af2ccdafa881db287a9b7ae8e3aa7"), looks := false }, kinds := [], alts := [], laidByText := true, laidKinds := [.data], laidTests := true, laidLooks := .later }
def GraphMoreCardSaid : Prop := Claim7.holds Tryd.pinned (.plain (OpenSpec.ofChange graphMoreSpec)) graphMoreCard

/-- THE TIED CARD OF 'assizelaw06.GraphKeeps'. -/
def graphKeepsCard : Claim7 := { stood := { row := graphKeepsRow, standIns := [], harness := (true, "6f78c070abbcf1c147de297648f056dc0c0af2ccdafa881db287a9b7ae8e3aa7"), looks := false }, kinds := [], alts := [], laidByText := true, laidKinds := [.data], laidTests := true, laidLooks := .later }
def GraphKeepsCardSaid : Prop := Claim7.holds Tryd.pinned (.plain (OpenSpec.ofChange graphKeepsSpec)) graphKeepsCard

/-- THE TIED CARD OF 'assizelaw06.GraphOrders'. -/
def graphOrdersCard : Claim7 := { stood := { row := graphOrdersRow, standIns := [], harness := (true, "6f78c070abbcf1c147de297648f056dc0c0af2ccdafa881db287a9b7ae8e3aa7"), looks := false }, kinds := [], alts := [], laidByText := true, laidKinds := [.data], laidTests := true, laidLooks := .later }
def GraphOrdersCardSaid : Prop := Claim7.holds Tryd.pinned (.plain (OpenSpec.ofChange graphOrdersSpec)) graphOrdersCard

/-- THE TIED CARD OF 'assizelaw06.GraphRounds'. -/
def graphRoundsCard : Claim7 := { stood := { row := graphRoundsRow, standIns := [], harness := (true, "6f78c070abbcf1c147de297648f056dc0c0af2ccdafa881db287a9b7ae8e3aa7"), looks := false }, kinds := [], alts := [], laidByText := true, laidKinds := [.data], laidTests := true, laidLooks := .later }
def GraphRoundsCardSaid : Prop := Claim7.holds Tryd.pinned (.plain (OpenSpec.ofChange graphRoundsSpec)) graphRoundsCard

/-- THE TIED CARD OF 'assizelaw06.GraphTurned'. -/
def graphTurnedCard : Claim7 := { stood := { row := graphTurnedRow, standIns := [], harness := (true, "6f78c070abbcf1c147de297648f056dc0c0af2ccdafa881db287a9b7ae8e3aa7"), looks := false }, kinds := [], alts := [], laidByText := true, laidKinds := [.data], laidTests := true, laidLooks := .later }
def GraphTurnedCardSaid : Prop := Claim7.holds Tryd.pinned (.plain (OpenSpec.ofChange graphTurnedSpec)) graphTurnedCard

/-- THE TIED CARD OF 'assizelaw07.RingCertified'. -/
def ringCertifiedCard : Claim7 := { stood := { row := ringCertifiedRow, standIns := [], harness := (true, "6f78c070abbcf1c147de297648f056dc0c0af2ccdafa881db287a9b7ae8e3aa7"), looks := false }, kinds := [], alts := [], laidByText := true, laidKinds := [.data], laidTests := true, laidLooks := .later }
def RingCertifiedCardSaid : Prop := Claim7.holds Tryd.pinned (.plain (OpenSpec.ofChange ringCertifiedSpec)) ringCertifiedCard

/-- THE SECOND FORM's CARD OF 'assizelaw06.GraphReaches'. -/
def graphReachesUptoCard : Claim7 := { stood := { row := graphReachesUptoRow, standIns := [], harness := (true, "6f78c070abbcf1c147de297648f056dc0c0af2ccdafa881db287a9b7ae8e3aa7"), looks := false }, kinds := [], alts := [], laidByText := true, laidKinds := [.data], laidTests := true, laidLooks := .later }
def GraphReachesUptoCardSaid : Prop := Claim7.holds Tryd.pinned (.plain (OpenSpec.upto graphReachesSpec)) graphReachesUptoCard

/-- THE SECOND FORM's CARD OF 'assizelaw06.GraphMore'. -/
def graphMoreUptoCard : Claim7 := { stood := { row := graphMoreUptoRow, standIns := [], harness := (true, "6f78c070abbcf1c147de297648f056dc0c0af2ccdafa881db287a9b7ae8e3aa7"), looks := false }, kinds := [], alts := [], laidByText := true, laidKinds := [.data], laidTests := true, laidLooks := .later }
def GraphMoreUptoCardSaid : Prop := Claim7.holds Tryd.pinned (.plain (OpenSpec.upto graphMoreSpec)) graphMoreUptoCard

/-- THE SECOND FORM's CARD OF 'assizelaw06.GraphKeeps'. -/
def graphKeepsUptoCard : Claim7 := { stood := { row := graphKeepsUptoRow, standIns := [], harness := (true, "6f78c070abbcf1c147de297648f056dc0c0af2ccdafa881db287a9b7ae8e3aa7"), looks := false }, kinds := [], alts := [], laidByText := true, laidKinds := [.data], laidTests := true, laidLooks := .later }
def GraphKeepsUptoCardSaid : Prop := Claim7.holds Tryd.pinned (.plain (OpenSpec.upto graphKeepsSpec)) graphKeepsUptoCard

/-- THE SECOND FORM's CARD OF 'assizelaw06.GraphOrders'. -/
def graphOrdersUptoCard : Claim7 := { stood := { row := graphOrdersUptoRow, standIns := [], harness := (true, "6f78c070abbcf1c147de297648f056dc0c0af2ccdafa881db287a9b7ae8e3aa7"), looks := false }, kinds := [], alts := [], laidByText := true, laidKinds := [.data], laidTests := true, laidLooks := .later }
def GraphOrdersUptoCardSaid : Prop := Claim7.holds Tryd.pinned (.plain (OpenSpec.upto graphOrdersSpec)) graphOrdersUptoCard

/-- THE SECOND FORM's CARD OF 'assizelaw06.GraphRounds'. -/
def graphRoundsUptoCard : Claim7 := { stood := { row := graphRoundsUptoRow, standIns := [], harness := (true, "6f78c070abbcf1c147de297648f056dc0c0af2ccdafa881db287a9b7ae8e3aa7"), looks := false }, kinds := [], alts := [], laidByText := true, laidKinds := [.data], laidTests := true, laidLooks := .later }
def GraphRoundsUptoCardSaid : Prop := Claim7.holds Tryd.pinned (.plain (OpenSpec.upto graphRoundsSpec)) graphRoundsUptoCard

/-- THE SECOND FORM's CARD OF 'assizelaw06.GraphTurned'. -/
def graphTurnedUptoCard : Claim7 := { stood := { row := graphTurnedUptoRow, standIns := [], harness := (true, "6f78c070abbcf1c147de297648f056dc0c0af2ccdafa881db287a9b7ae8e3aa7"), looks := false }, kinds := [], alts := [], laidByText := true, laidKinds := [.data], laidTests := true, laidLooks := .later }
def GraphTurnedUptoCardSaid : Prop := Claim7.holds Tryd.pinned (.plain (OpenSpec.upto graphTurnedSpec)) graphTurnedUptoCard

/-- THE SECOND FORM's CARD OF 'assizelaw07.RingCertified'. -/
def ringCertifiedUptoCard : Claim7 := { stood := { row := ringCertifiedUptoRow, standIns := [], harness := (true, "6f78c070abbcf1c147de297648f056dc0c0af2ccdafa881db287a9b7ae8e3aa7"), looks := false }, kinds := [], alts := [], laidByText := true, laidKinds := [.data], laidTests := true, laidLooks := .later }
def RingCertifiedUptoCardSaid : Prop := Claim7.holds Tryd.pinned (.plain (OpenSpec.upto ringCertifiedSpec)) ringCertifiedUptoCard
end Rows
end Go.Proofs.YtncapkloanfmnaaDoor
