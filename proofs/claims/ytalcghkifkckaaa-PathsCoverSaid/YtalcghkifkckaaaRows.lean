/-
  No cell of these rows narrows 'for every input' (looked for: loops, veiled, ifaces, maps, wideKeys, modest, calm, conditions, laid).
  DERIVED. THE GIVEN ROWS OF THIS SEAT. 7 by the template 'for every input the law returns true; each argument reads behind the call as it read before'; 0 by the template 'total and deterministic' (their statements: YtalcghkifkckaaaTotals.lean).
  GIVEN WITH THE SEED: the statements are not yours to turn. If you find one false, say at which input.
  Laid BY PROGRAM, IN A SANDBOX (cutbox-rows.mjs): the forced cells as the released guide's own fill.sh prints them over the translation ce1d2d71a2aa1da7… (all of the seat's roots in one cut). By AI agents, Wed Nov 11 2026. No macro, syntax, notation, axiom, sorry.
-/
import Derived.Test.YtalcghkifkckaaaChecked
import GoSem.Claim
import GoSem.ClaimJoined
import GoSem.ClaimMapViews
import Derived.JoinedTies
import Derived.KernelRfl
namespace Go.Proofs.Ytalcghkifkckaaa
/- THE CELL 'sum', in the pinned program and in every row, IS THE sha256 OF THE DUMP (.gsa) THAT YtalcghkifkckaaaProg.lean LOADS. Nothing in Lean hashes anything: it is a label: what it is worth is what the hold of that sum in a sandbox is worth. -/
noncomputable def Try.pinned : Pinned := { name := "ytalcghkifkckaaa", sum := "ce1d2d71a2aa1da7f89cf9941a6f9aed3e428019c5a86b5f37d381f6ea35dc2f", checked := Try.checked }
namespace Rows
def none {H : Type} : Left H := { results := [], args := [] }

/-- 'chartroomlaw20.PathsSpec': WHATEVER THE INPUT: true; the input reads as it did. -/
def pathsSpecSpec : ChangeSpec := { name := "pathsSpec", fn := fun _ => fun
  | [d1, d2] => { results := [.lit (.bool true)], args := [d1, d2] }
  | _ => none }
def pathsSpecRow : OpenClaim := { program := "ytalcghkifkckaaa", sum := "ce1d2d71a2aa1da7f89cf9941a6f9aed3e428019c5a86b5f37d381f6ea35dc2f", func := "chartroom/chartroomlaw20.PathsSpec", spec := "pathsSpec", unfollowed := true, recurses := true, apart := false }
def PathsSpecSaid : Prop := pathsSpecRow.holds Try.pinned (OpenSpec.ofChange pathsSpecSpec)

/-- ITS FALSE NEIGHBOUR: 'it returns false'. Refute it at one input. -/
def pathsSpecWrong : ChangeSpec := { name := "pathsSpec", fn := fun _ => fun
  | [d1, d2] => { results := [.lit (.bool false)], args := [d1, d2] }
  | _ => none }
def PathsSpecWrongFalsely : Prop := pathsSpecRow.holds Try.pinned (OpenSpec.ofChange pathsSpecWrong)

/-- 'chartroomlaw20.PathsUnderSpec': WHATEVER THE INPUT: true; the input reads as it did. -/
def pathsUnderSpecSpec : ChangeSpec := { name := "pathsUnderSpec", fn := fun _ => fun
  | [d1, d2, d3] => { results := [.lit (.bool true)], args := [d1, d2, d3] }
  | _ => none }
def pathsUnderSpecRow : OpenClaim := { program := "ytalcghkifkckaaa", sum := "ce1d2d71a2aa1da7f89cf9941a6f9aed3e428019c5a86b5f37d381f6ea35dc2f", func := "chartroom/chartroomlaw20.PathsUnderSpec", spec := "pathsUnderSpec", unfollowed := true, recurses := true, apart := false }
def PathsUnderSpecSaid : Prop := pathsUnderSpecRow.holds Try.pinned (OpenSpec.ofChange pathsUnderSpecSpec)

/-- ITS FALSE NEIGHBOUR: 'it returns false'. Refute it at one input. -/
def pathsUnderSpecWrong : ChangeSpec := { name := "pathsUnderSpec", fn := fun _ => fun
  | [d1, d2, d3] => { results := [.lit (.bool false)], args := [d1, d2, d3] }
  | _ => none }
def PathsUnderSpecWrongFalsely : Prop := pathsUnderSpecRow.holds Try.pinned (OpenSpec.ofChange pathsUnderSpecWrong)

/-- 'chartroomlaw20.PathsCover': WHATEVER THE INPUT: true; the input reads as it did. -/
def pathsCoverSpec : ChangeSpec := { name := "pathsCover", fn := fun _ => fun
  | [d] => { results := [.lit (.bool true)], args := [d] }
  | _ => none }
def pathsCoverRow : OpenClaim := { program := "ytalcghkifkckaaa", sum := "ce1d2d71a2aa1da7f89cf9941a6f9aed3e428019c5a86b5f37d381f6ea35dc2f", func := "chartroom/chartroomlaw20.PathsCover", spec := "pathsCover", unfollowed := true, recurses := true, apart := false }
def PathsCoverSaid : Prop := pathsCoverRow.holds Try.pinned (OpenSpec.ofChange pathsCoverSpec)

/-- ITS FALSE NEIGHBOUR: 'it returns false'. Refute it at one input. -/
def pathsCoverWrong : ChangeSpec := { name := "pathsCover", fn := fun _ => fun
  | [d] => { results := [.lit (.bool false)], args := [d] }
  | _ => none }
def PathsCoverWrongFalsely : Prop := pathsCoverRow.holds Try.pinned (OpenSpec.ofChange pathsCoverWrong)

/-- 'chartroomlaw20.PathsChildren': WHATEVER THE INPUT: true; the input reads as it did. -/
def pathsChildrenSpec : ChangeSpec := { name := "pathsChildren", fn := fun _ => fun
  | [d1, d2] => { results := [.lit (.bool true)], args := [d1, d2] }
  | _ => none }
def pathsChildrenRow : OpenClaim := { program := "ytalcghkifkckaaa", sum := "ce1d2d71a2aa1da7f89cf9941a6f9aed3e428019c5a86b5f37d381f6ea35dc2f", func := "chartroom/chartroomlaw20.PathsChildren", spec := "pathsChildren", unfollowed := true, recurses := true, apart := false }
def PathsChildrenSaid : Prop := pathsChildrenRow.holds Try.pinned (OpenSpec.ofChange pathsChildrenSpec)

/-- ITS FALSE NEIGHBOUR: 'it returns false'. Refute it at one input. -/
def pathsChildrenWrong : ChangeSpec := { name := "pathsChildren", fn := fun _ => fun
  | [d1, d2] => { results := [.lit (.bool false)], args := [d1, d2] }
  | _ => none }
def PathsChildrenWrongFalsely : Prop := pathsChildrenRow.holds Try.pinned (OpenSpec.ofChange pathsChildrenWrong)

/-- 'chartroomlaw20.PathsUnder': WHATEVER THE INPUT: true; the input reads as it did. -/
def pathsUnderSpec : ChangeSpec := { name := "pathsUnder", fn := fun _ => fun
  | [d1, d2] => { results := [.lit (.bool true)], args := [d1, d2] }
  | _ => none }
def pathsUnderRow : OpenClaim := { program := "ytalcghkifkckaaa", sum := "ce1d2d71a2aa1da7f89cf9941a6f9aed3e428019c5a86b5f37d381f6ea35dc2f", func := "chartroom/chartroomlaw20.PathsUnder", spec := "pathsUnder", unfollowed := true, recurses := true, apart := false }
def PathsUnderSaid : Prop := pathsUnderRow.holds Try.pinned (OpenSpec.ofChange pathsUnderSpec)

/-- ITS FALSE NEIGHBOUR: 'it returns false'. Refute it at one input. -/
def pathsUnderWrong : ChangeSpec := { name := "pathsUnder", fn := fun _ => fun
  | [d1, d2] => { results := [.lit (.bool false)], args := [d1, d2] }
  | _ => none }
def PathsUnderWrongFalsely : Prop := pathsUnderRow.holds Try.pinned (OpenSpec.ofChange pathsUnderWrong)

/-- 'chartroomlaw20.PathsMeet': WHATEVER THE INPUT: true; the input reads as it did. -/
def pathsMeetSpec : ChangeSpec := { name := "pathsMeet", fn := fun _ => fun
  | [d1, d2] => { results := [.lit (.bool true)], args := [d1, d2] }
  | _ => none }
def pathsMeetRow : OpenClaim := { program := "ytalcghkifkckaaa", sum := "ce1d2d71a2aa1da7f89cf9941a6f9aed3e428019c5a86b5f37d381f6ea35dc2f", func := "chartroom/chartroomlaw20.PathsMeet", spec := "pathsMeet", unfollowed := true, recurses := true, apart := false }
def PathsMeetSaid : Prop := pathsMeetRow.holds Try.pinned (OpenSpec.ofChange pathsMeetSpec)

/-- ITS FALSE NEIGHBOUR: 'it returns false'. Refute it at one input. -/
def pathsMeetWrong : ChangeSpec := { name := "pathsMeet", fn := fun _ => fun
  | [d1, d2] => { results := [.lit (.bool false)], args := [d1, d2] }
  | _ => none }
def PathsMeetWrongFalsely : Prop := pathsMeetRow.holds Try.pinned (OpenSpec.ofChange pathsMeetWrong)

/-- 'chartroomlaw20.PathsSame': WHATEVER THE INPUT: true; the input reads as it did. -/
def pathsSameSpec : ChangeSpec := { name := "pathsSame", fn := fun _ => fun
  | [d1, d2, d3] => { results := [.lit (.bool true)], args := [d1, d2, d3] }
  | _ => none }
def pathsSameRow : OpenClaim := { program := "ytalcghkifkckaaa", sum := "ce1d2d71a2aa1da7f89cf9941a6f9aed3e428019c5a86b5f37d381f6ea35dc2f", func := "chartroom/chartroomlaw20.PathsSame", spec := "pathsSame", unfollowed := true, recurses := true, apart := false }
def PathsSameSaid : Prop := pathsSameRow.holds Try.pinned (OpenSpec.ofChange pathsSameSpec)

/-- ITS FALSE NEIGHBOUR: 'it returns false'. Refute it at one input. -/
def pathsSameWrong : ChangeSpec := { name := "pathsSame", fn := fun _ => fun
  | [d1, d2, d3] => { results := [.lit (.bool false)], args := [d1, d2, d3] }
  | _ => none }
def PathsSameWrongFalsely : Prop := pathsSameRow.holds Try.pinned (OpenSpec.ofChange pathsSameWrong)

/- THE SECOND FORM. 'bulk': how many values and letters a reading holds, each counted each time it is reached (what is shared counts as often as it is met; a slice's spare places count too). A statement '..UptoSaid' is the law's where the arguments, and the package variables that the reading takes, are together of bulk at most 1048576: NARROWER than '..Said'. Prove '..Said' where nothing that the law and all that it calls make is longer than what came in: it says more and counts as full. Else prove '..UptoSaid'. A law counts once. -/
mutual
def uptoBulk {H : Type} : DataW H → Nat
  | .lit (.string bytes) => bytes.length + 1
  | .lit _ => 1
  | .nil => 1
  | .ptr d => uptoBulk d + 1
  | .slice elems spare => uptoBulkAll elems + uptoBulkAll spare + 1
  | .agg parts => uptoBulkAll parts + 1
  | .iface _ d => uptoBulk d + 1
  | .map entries => uptoBulkEntries entries + 1
  | .held _ => 1
def uptoBulkAll {H : Type} : List (DataW H) → Nat
  | [] => 0
  | d :: r => uptoBulk d + uptoBulkAll r
def uptoBulkEntries {H : Type} : List (Lit × DataW H) → Nat
  | [] => 0
  | x :: r => uptoBulkEntry x + uptoBulkEntries r
def uptoBulkEntry {H : Type} : Lit × DataW H → Nat
  | (.string bytes, d) => bytes.length + uptoBulk d + 1
  | (_, d) => uptoBulk d + 1
 end
def uptoSmall : (H : Type) → List (DataW H) → Bool := fun _ ds => decide (uptoBulkAll ds ≤ 1048576)
def OpenSpec.upto (s : _root_.Go.ChangeSpec) : _root_.Go.OpenSpec := { _root_.Go.OpenSpec.ofChange s with cond := some uptoSmall }

/-- 'chartroomlaw20.PathsSpec', WHERE WHAT IT READS IS OF BULK AT MOST 1048576: true; the input reads as it did. -/
def pathsSpecUptoRow : OpenClaim := { program := "ytalcghkifkckaaa", sum := "ce1d2d71a2aa1da7f89cf9941a6f9aed3e428019c5a86b5f37d381f6ea35dc2f", func := "chartroom/chartroomlaw20.PathsSpec", spec := "pathsSpec", unfollowed := true, recurses := true, apart := false, narrowed := true }
def PathsSpecUptoSaid : Prop := pathsSpecUptoRow.holds Try.pinned (OpenSpec.upto pathsSpecSpec)

/-- 'chartroomlaw20.PathsUnderSpec', WHERE WHAT IT READS IS OF BULK AT MOST 1048576: true; the input reads as it did. -/
def pathsUnderSpecUptoRow : OpenClaim := { program := "ytalcghkifkckaaa", sum := "ce1d2d71a2aa1da7f89cf9941a6f9aed3e428019c5a86b5f37d381f6ea35dc2f", func := "chartroom/chartroomlaw20.PathsUnderSpec", spec := "pathsUnderSpec", unfollowed := true, recurses := true, apart := false, narrowed := true }
def PathsUnderSpecUptoSaid : Prop := pathsUnderSpecUptoRow.holds Try.pinned (OpenSpec.upto pathsUnderSpecSpec)

/-- 'chartroomlaw20.PathsCover', WHERE WHAT IT READS IS OF BULK AT MOST 1048576: true; the input reads as it did. -/
def pathsCoverUptoRow : OpenClaim := { program := "ytalcghkifkckaaa", sum := "ce1d2d71a2aa1da7f89cf9941a6f9aed3e428019c5a86b5f37d381f6ea35dc2f", func := "chartroom/chartroomlaw20.PathsCover", spec := "pathsCover", unfollowed := true, recurses := true, apart := false, narrowed := true }
def PathsCoverUptoSaid : Prop := pathsCoverUptoRow.holds Try.pinned (OpenSpec.upto pathsCoverSpec)

/-- 'chartroomlaw20.PathsChildren', WHERE WHAT IT READS IS OF BULK AT MOST 1048576: true; the input reads as it did. -/
def pathsChildrenUptoRow : OpenClaim := { program := "ytalcghkifkckaaa", sum := "ce1d2d71a2aa1da7f89cf9941a6f9aed3e428019c5a86b5f37d381f6ea35dc2f", func := "chartroom/chartroomlaw20.PathsChildren", spec := "pathsChildren", unfollowed := true, recurses := true, apart := false, narrowed := true }
def PathsChildrenUptoSaid : Prop := pathsChildrenUptoRow.holds Try.pinned (OpenSpec.upto pathsChildrenSpec)

/-- 'chartroomlaw20.PathsUnder', WHERE WHAT IT READS IS OF BULK AT MOST 1048576: true; the input reads as it did. -/
def pathsUnderUptoRow : OpenClaim := { program := "ytalcghkifkckaaa", sum := "ce1d2d71a2aa1da7f89cf9941a6f9aed3e428019c5a86b5f37d381f6ea35dc2f", func := "chartroom/chartroomlaw20.PathsUnder", spec := "pathsUnder", unfollowed := true, recurses := true, apart := false, narrowed := true }
def PathsUnderUptoSaid : Prop := pathsUnderUptoRow.holds Try.pinned (OpenSpec.upto pathsUnderSpec)

/-- 'chartroomlaw20.PathsMeet', WHERE WHAT IT READS IS OF BULK AT MOST 1048576: true; the input reads as it did. -/
def pathsMeetUptoRow : OpenClaim := { program := "ytalcghkifkckaaa", sum := "ce1d2d71a2aa1da7f89cf9941a6f9aed3e428019c5a86b5f37d381f6ea35dc2f", func := "chartroom/chartroomlaw20.PathsMeet", spec := "pathsMeet", unfollowed := true, recurses := true, apart := false, narrowed := true }
def PathsMeetUptoSaid : Prop := pathsMeetUptoRow.holds Try.pinned (OpenSpec.upto pathsMeetSpec)

/-- 'chartroomlaw20.PathsSame', WHERE WHAT IT READS IS OF BULK AT MOST 1048576: true; the input reads as it did. -/
def pathsSameUptoRow : OpenClaim := { program := "ytalcghkifkckaaa", sum := "ce1d2d71a2aa1da7f89cf9941a6f9aed3e428019c5a86b5f37d381f6ea35dc2f", func := "chartroom/chartroomlaw20.PathsSame", spec := "pathsSame", unfollowed := true, recurses := true, apart := false, narrowed := true }
def PathsSameUptoSaid : Prop := pathsSameUptoRow.holds Try.pinned (OpenSpec.upto pathsSameSpec)

end Rows
end Go.Proofs.Ytalcghkifkckaaa
