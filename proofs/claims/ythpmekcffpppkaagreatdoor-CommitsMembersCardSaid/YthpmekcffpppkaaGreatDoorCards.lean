/-
  DERIVED. GIVEN WITH THE SEED: THE CARDS: each row of YthpmekcffpppkaaGreatDoorRows.lean that lists a variable, with what it lists TIED to the program's text (the seventh form; the later family's looks); each row that meets fmt, with fmt's text TOLD by the authors' own Lean function (tested against real Go, not proved from fmt's source: count such statements apart). THE CARD IS WHAT COUNTS. Prove the row's statement (the work); the ties are given (YthpmekcffpppkaaGreatDoorTie.lean); close each card by the builder's one call (the guide's Derived/Test/ToyasCard.lean, 'card_holds'). Laid BY PROGRAM, IN A SANDBOX (cutbox-door.mjs). By AI agents, Wed Nov 11 2026. No macro, syntax, notation, axiom, sorry.
-/
import Derived.Test.YthpmekcffpppkaaGreatDoorRows
import GoSem.ClaimSeven
namespace Go.Proofs.YthpmekcffpppkaaGreatDoor
namespace Rows

/-- THE TIED CARD OF 'chartroomlaw23.CommitsMembers'. -/
def commitsMembersCard : Claim7 := { stood := { row := commitsMembersRow, standIns := [], harness := (true, "484b9c48be5086b40ecd3652bf735f5b4652b9b228057a6f4741cbb7831575cf"), looks := true }, kinds := [], alts := [], laidByText := true, laidKinds := [.data, .data, .sentinel, .widerDeep, .data], laidTests := true, laidLooks := .later }
def CommitsMembersCardSaid : Prop := Claim7.holds Tryz.pinned (.plain (OpenSpec.ofChange commitsMembersSpec)) commitsMembersCard

/-- THE SECOND FORM's CARD OF 'chartroomlaw23.CommitsMembers'. -/
def commitsMembersUptoCard : Claim7 := { stood := { row := commitsMembersUptoRow, standIns := [], harness := (true, "484b9c48be5086b40ecd3652bf735f5b4652b9b228057a6f4741cbb7831575cf"), looks := true }, kinds := [], alts := [], laidByText := true, laidKinds := [.data, .data, .sentinel, .widerDeep, .data], laidTests := true, laidLooks := .later }
def CommitsMembersUptoCardSaid : Prop := Claim7.holds Tryz.pinned (.plain (OpenSpec.upto commitsMembersSpec)) commitsMembersUptoCard
end Rows
end Go.Proofs.YthpmekcffpppkaaGreatDoor
