/-
  DERIVED. GIVEN WITH THE SEED: THE CARDS: each row of YtngkfaggaccpoaaGreatDoorRows.lean that lists a variable, with what it lists TIED to the program's text (the seventh form; the later family's looks); each row that meets fmt, with fmt's text TOLD by the authors' own Lean function (tested against real Go, not proved from fmt's source: count such statements apart). THE CARD IS WHAT COUNTS. Prove the row's statement (the work); the ties are given (YtngkfaggaccpoaaGreatDoorTie.lean); close each card by the builder's one call (the guide's Derived/Test/ToyasCard.lean, 'card_holds'). Laid BY PROGRAM, IN A SANDBOX (cutbox-door.mjs). By AI agents, Wed Nov 11 2026. No macro, syntax, notation, axiom, sorry.
-/
import Derived.Test.YtngkfaggaccpoaaGreatDoorRows
import GoSem.ClaimSeven
namespace Go.Proofs.YtngkfaggaccpoaaGreatDoor
namespace Rows

/-- THE TIED CARD OF 'chartroomlaw24.ResolveLinks'. -/
def resolveLinksCard : Claim7 := { stood := { row := resolveLinksRow, standIns := [], harness := (true, "51bedba9472aa4028d9d6639a120d636d6b9fff4bed5a3bae93425ef96f11ab3"), looks := false }, kinds := [], alts := [], laidByText := true, laidKinds := [.data, .data, .sentinel, .widerDeep, .data], laidTests := true, laidLooks := .later }
def ResolveLinksCardSaid : Prop := Claim7.holds Tryz.pinned (.plain (OpenSpec.ofChange resolveLinksSpec)) resolveLinksCard

/-- THE SECOND FORM's CARD OF 'chartroomlaw24.ResolveLinks'. -/
def resolveLinksUptoCard : Claim7 := { stood := { row := resolveLinksUptoRow, standIns := [], harness := (true, "51bedba9472aa4028d9d6639a120d636d6b9fff4bed5a3bae93425ef96f11ab3"), looks := false }, kinds := [], alts := [], laidByText := true, laidKinds := [.data, .data, .sentinel, .widerDeep, .data], laidTests := true, laidLooks := .later }
def ResolveLinksUptoCardSaid : Prop := Claim7.holds Tryz.pinned (.plain (OpenSpec.upto resolveLinksSpec)) resolveLinksUptoCard
end Rows
end Go.Proofs.YtngkfaggaccpoaaGreatDoor
