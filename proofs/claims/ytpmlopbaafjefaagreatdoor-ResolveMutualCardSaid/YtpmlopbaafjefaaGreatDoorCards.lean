/-
  DERIVED. GIVEN WITH THE SEED: THE CARDS: each row of YtpmlopbaafjefaaGreatDoorRows.lean that lists a variable, with what it lists TIED to the program's text (the seventh form; the later family's looks); each row that meets fmt, with fmt's text TOLD by the authors' own Lean function (tested against real Go, not proved from fmt's source: count such statements apart). THE CARD IS WHAT COUNTS. Prove the row's statement (the work); the ties are given (YtpmlopbaafjefaaGreatDoorTie.lean); close each card by the builder's one call (the guide's Derived/Test/ToyasCard.lean, 'card_holds'). Laid BY PROGRAM, IN A SANDBOX (cutbox-door.mjs). By AI agents, Wed Nov 11 2026. No macro, syntax, notation, axiom, sorry.
-/
import Derived.Test.YtpmlopbaafjefaaGreatDoorRows
import GoSem.ClaimSeven
namespace Go.Proofs.YtpmlopbaafjefaaGreatDoor
namespace Rows

/-- THE TIED CARD OF 'chartroomlaw24.ResolveMutual'. -/
def resolveMutualCard : Claim7 := { stood := { row := resolveMutualRow, standIns := [], harness := (true, "44796a9ea7d7fc7ce69146ef079ed13d53c31e50aab652e3471ba5fd83dfcbd6"), looks := false }, kinds := [], alts := [], laidByText := true, laidKinds := [.data, .data, .sentinel, .widerDeep, .data], laidTests := true, laidLooks := .later }
def ResolveMutualCardSaid : Prop := Claim7.holds Tryz.pinned (.plain (OpenSpec.ofChange resolveMutualSpec)) resolveMutualCard

/-- THE SECOND FORM's CARD OF 'chartroomlaw24.ResolveMutual'. -/
def resolveMutualUptoCard : Claim7 := { stood := { row := resolveMutualUptoRow, standIns := [], harness := (true, "44796a9ea7d7fc7ce69146ef079ed13d53c31e50aab652e3471ba5fd83dfcbd6"), looks := false }, kinds := [], alts := [], laidByText := true, laidKinds := [.data, .data, .sentinel, .widerDeep, .data], laidTests := true, laidLooks := .later }
def ResolveMutualUptoCardSaid : Prop := Claim7.holds Tryz.pinned (.plain (OpenSpec.upto resolveMutualSpec)) resolveMutualUptoCard
end Rows
end Go.Proofs.YtpmlopbaafjefaaGreatDoor
