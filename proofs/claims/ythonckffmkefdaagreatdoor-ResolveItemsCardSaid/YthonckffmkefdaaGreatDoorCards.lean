/-
  DERIVED. GIVEN WITH THE SEED: THE CARDS: each row of YthonckffmkefdaaGreatDoorRows.lean that lists a variable, with what it lists TIED to the program's text (the seventh form; the later family's looks); each row that meets fmt, with fmt's text TOLD by the authors' own Lean function (tested against real Go, not proved from fmt's source: count such statements apart). THE CARD IS WHAT COUNTS. Prove the row's statement (the work); the ties are given (YthonckffmkefdaaGreatDoorTie.lean); close each card by the builder's one call (the guide's Derived/Test/ToyasCard.lean, 'card_holds'). Laid BY PROGRAM, IN A SANDBOX (cutbox-door.mjs). By AI agents, Wed Nov 11 2026. No macro, syntax, notation, axiom, sorry.
-/
import Derived.Test.YthonckffmkefdaaGreatDoorRows
import GoSem.ClaimSeven
namespace Go.Proofs.YthonckffmkefdaaGreatDoor
namespace Rows

/-- THE TIED CARD OF 'chartroomlaw24.ResolveItems'. -/
def resolveItemsCard : Claim7 := { stood := { row := resolveItemsRow, standIns := [], harness := (true, "3aacf3de03285087e5357198741a4aeff863e558b0ed9005ce6cffd2713c5a3b"), looks := false }, kinds := [], alts := [], laidByText := true, laidKinds := [.data, .data, .sentinel, .widerDeep, .data], laidTests := true, laidLooks := .later }
def ResolveItemsCardSaid : Prop := Claim7.holds Tryz.pinned (.plain (OpenSpec.ofChange resolveItemsSpec)) resolveItemsCard

/-- THE SECOND FORM's CARD OF 'chartroomlaw24.ResolveItems'. -/
def resolveItemsUptoCard : Claim7 := { stood := { row := resolveItemsUptoRow, standIns := [], harness := (true, "3aacf3de03285087e5357198741a4aeff863e558b0ed9005ce6cffd2713c5a3b"), looks := false }, kinds := [], alts := [], laidByText := true, laidKinds := [.data, .data, .sentinel, .widerDeep, .data], laidTests := true, laidLooks := .later }
def ResolveItemsUptoCardSaid : Prop := Claim7.holds Tryz.pinned (.plain (OpenSpec.upto resolveItemsSpec)) resolveItemsUptoCard
end Rows
end Go.Proofs.YthonckffmkefdaaGreatDoor
