/-
  DERIVED. GIVEN WITH THE SEED: THE CARDS: each row of YtfpeabnehpclnaaGreatDoorRows.lean that lists a variable, with what it lists TIED to the program's text (the seventh form; the later family's looks); each row that meets fmt, with fmt's text TOLD by the authors' own Lean function (tested against real Go, not proved from fmt's source: count such statements apart). THE CARD IS WHAT COUNTS. Prove the row's statement (the work); the ties are given (YtfpeabnehpclnaaGreatDoorTie.lean); close each card by the builder's one call (the guide's Derived/Test/ToyasCard.lean, 'card_holds'). Laid BY PROGRAM, IN A SANDBOX (cutbox-door.mjs). By AI agents, Wed Nov 11 2026. No macro, syntax, notation, axiom, sorry.
-/
import Derived.Test.YtfpeabnehpclnaaGreatDoorRows
import GoSem.ClaimSeven
namespace Go.Proofs.YtfpeabnehpclnaaGreatDoor
namespace Rows

/-- THE TIED CARD OF 'assizelaw19.DepsMust'. -/
def depsMustCard : Claim7 := { stood := { row := depsMustRow, standIns := [], harness := (true, "d7133e85218191f0052328ac9acaf987be9410ae127ee8bad6a70db77f804836"), looks := false }, kinds := [], alts := [], laidByText := true, laidKinds := [.data], laidTests := true, laidLooks := .later }
def DepsMustCardSaid : Prop := Claim7.holds Tryz.pinned (.plain (OpenSpec.ofChange depsMustSpec)) depsMustCard

/-- THE SECOND FORM's CARD OF 'assizelaw19.DepsMust'. -/
def depsMustUptoCard : Claim7 := { stood := { row := depsMustUptoRow, standIns := [], harness := (true, "d7133e85218191f0052328ac9acaf987be9410ae127ee8bad6a70db77f804836"), looks := false }, kinds := [], alts := [], laidByText := true, laidKinds := [.data], laidTests := true, laidLooks := .later }
def DepsMustUptoCardSaid : Prop := Claim7.holds Tryz.pinned (.plain (OpenSpec.upto depsMustSpec)) depsMustUptoCard
end Rows
end Go.Proofs.YtfpeabnehpclnaaGreatDoor
