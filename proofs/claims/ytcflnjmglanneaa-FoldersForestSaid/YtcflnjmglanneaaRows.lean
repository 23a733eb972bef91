/-
  No cell of these rows narrows 'for every input' (looked for: loops, veiled, ifaces, maps, wideKeys, modest, calm, conditions, laid).
  DERIVED. THE GIVEN ROWS OF THIS SEAT. 7 by the template 'for every input the law returns true; each argument reads behind the call as it read before'; 0 by the template 'total and deterministic' (their statements: YtcflnjmglanneaaTotals.lean).
  GIVEN WITH THE SEED: the statements are not yours to turn. If you find one false, say at which input.
  Laid BY PROGRAM, IN A SANDBOX (cutbox-rows.mjs): the forced cells as the released guide's own fill.sh prints them over the translation 6f3da1b68371113b… (all of the seat's roots in one cut). By AI agents, Wed Nov 11 2026. No macro, syntax, notation, axiom, sorry.
-/
import Derived.Test.YtcflnjmglanneaaChecked
import GoSem.Claim
import GoSem.ClaimJoined
import GoSem.ClaimMapViews
import Derived.JoinedTies
import Derived.KernelRfl
namespace Go.Proofs.Ytcflnjmglanneaa
/- THE CELL 'sum', in the pinned program and in every row, IS THE sha256 OF THE DUMP (.gsa) THAT YtcflnjmglanneaaProg.lean LOADS. Nothing in Lean hashes anything: it is a label: what it is worth is what the hold of that sum in a sandbox is worth. -/
noncomputable def Try.pinned : Pinned := { name := "ytcflnjmglanneaa", sum := "6f3da1b68371113b7962977b5cb253cad59b5396f9f8eb5ca9c11242b16ac33f", checked := Try.checked }
namespace Rows
def none {H : Type} : Left H := { results := [], args := [] }

/-- 'chartroomlaw27.FoldersTreeSpec': WHATEVER THE INPUT: true; the input reads as it did. -/
def foldersTreeSpecSpec : ChangeSpec := { name := "foldersTreeSpec", fn := fun _ => fun
  | [d1, d2] => { results := [.lit (.bool true)], args := [d1, d2] }
  | _ => none }
def foldersTreeSpecRow : OpenClaim := { program := "ytcflnjmglanneaa", sum := "6f3da1b68371113b7962977b5cb253cad59b5396f9f8eb5ca9c11242b16ac33f", func := "chartroom/chartroomlaw27.FoldersTreeSpec", spec := "foldersTreeSpec", inPlace := ["internal/bytealg.abigen_runtime_cmpstring"], unfollowed := true, recurses := true, apart := false }
def FoldersTreeSpecSaid : Prop := foldersTreeSpecRow.holds Try.pinned (OpenSpec.ofChange foldersTreeSpecSpec)

/-- ITS FALSE NEIGHBOUR: 'it returns false'. Refute it at one input. -/
def foldersTreeSpecWrong : ChangeSpec := { name := "foldersTreeSpec", fn := fun _ => fun
  | [d1, d2] => { results := [.lit (.bool false)], args := [d1, d2] }
  | _ => none }
def FoldersTreeSpecWrongFalsely : Prop := foldersTreeSpecRow.holds Try.pinned (OpenSpec.ofChange foldersTreeSpecWrong)

/-- 'chartroomlaw27.FoldersBelowSpec': WHATEVER THE INPUT: true; the input reads as it did. -/
def foldersBelowSpecSpec : ChangeSpec := { name := "foldersBelowSpec", fn := fun _ => fun
  | [d1, d2] => { results := [.lit (.bool true)], args := [d1, d2] }
  | _ => none }
def foldersBelowSpecRow : OpenClaim := { program := "ytcflnjmglanneaa", sum := "6f3da1b68371113b7962977b5cb253cad59b5396f9f8eb5ca9c11242b16ac33f", func := "chartroom/chartroomlaw27.FoldersBelowSpec", spec := "foldersBelowSpec", inPlace := ["internal/bytealg.abigen_runtime_cmpstring"], unfollowed := true, recurses := true, apart := false }
def FoldersBelowSpecSaid : Prop := foldersBelowSpecRow.holds Try.pinned (OpenSpec.ofChange foldersBelowSpecSpec)

/-- ITS FALSE NEIGHBOUR: 'it returns false'. Refute it at one input. -/
def foldersBelowSpecWrong : ChangeSpec := { name := "foldersBelowSpec", fn := fun _ => fun
  | [d1, d2] => { results := [.lit (.bool false)], args := [d1, d2] }
  | _ => none }
def FoldersBelowSpecWrongFalsely : Prop := foldersBelowSpecRow.holds Try.pinned (OpenSpec.ofChange foldersBelowSpecWrong)

/-- 'chartroomlaw27.FoldersFindSpec': WHATEVER THE INPUT: true; the input reads as it did. -/
def foldersFindSpecSpec : ChangeSpec := { name := "foldersFindSpec", fn := fun _ => fun
  | [d1, d2] => { results := [.lit (.bool true)], args := [d1, d2] }
  | _ => none }
def foldersFindSpecRow : OpenClaim := { program := "ytcflnjmglanneaa", sum := "6f3da1b68371113b7962977b5cb253cad59b5396f9f8eb5ca9c11242b16ac33f", func := "chartroom/chartroomlaw27.FoldersFindSpec", spec := "foldersFindSpec", inPlace := ["internal/bytealg.abigen_runtime_cmpstring"], unfollowed := true, recurses := true, apart := false }
def FoldersFindSpecSaid : Prop := foldersFindSpecRow.holds Try.pinned (OpenSpec.ofChange foldersFindSpecSpec)

/-- ITS FALSE NEIGHBOUR: 'it returns false'. Refute it at one input. -/
def foldersFindSpecWrong : ChangeSpec := { name := "foldersFindSpec", fn := fun _ => fun
  | [d1, d2] => { results := [.lit (.bool false)], args := [d1, d2] }
  | _ => none }
def FoldersFindSpecWrongFalsely : Prop := foldersFindSpecRow.holds Try.pinned (OpenSpec.ofChange foldersFindSpecWrong)

/-- 'chartroomlaw27.FoldersOrder': WHATEVER THE INPUT: true; the input reads as it did. -/
def foldersOrderSpec : ChangeSpec := { name := "foldersOrder", fn := fun _ => fun
  | [d1, d2, d3] => { results := [.lit (.bool true)], args := [d1, d2, d3] }
  | _ => none }
def foldersOrderRow : OpenClaim := { program := "ytcflnjmglanneaa", sum := "6f3da1b68371113b7962977b5cb253cad59b5396f9f8eb5ca9c11242b16ac33f", func := "chartroom/chartroomlaw27.FoldersOrder", spec := "foldersOrder", inPlace := ["internal/bytealg.abigen_runtime_cmpstring"], unfollowed := true, recurses := true, apart := false }
def FoldersOrderSaid : Prop := foldersOrderRow.holds Try.pinned (OpenSpec.ofChange foldersOrderSpec)

/-- ITS FALSE NEIGHBOUR: 'it returns false'. Refute it at one input. -/
def foldersOrderWrong : ChangeSpec := { name := "foldersOrder", fn := fun _ => fun
  | [d1, d2, d3] => { results := [.lit (.bool false)], args := [d1, d2, d3] }
  | _ => none }
def FoldersOrderWrongFalsely : Prop := foldersOrderRow.holds Try.pinned (OpenSpec.ofChange foldersOrderWrong)

/-- 'chartroomlaw27.FoldersForest': WHATEVER THE INPUT: true; the input reads as it did. -/
def foldersForestSpec : ChangeSpec := { name := "foldersForest", fn := fun _ => fun
  | [d] => { results := [.lit (.bool true)], args := [d] }
  | _ => none }
def foldersForestRow : OpenClaim := { program := "ytcflnjmglanneaa", sum := "6f3da1b68371113b7962977b5cb253cad59b5396f9f8eb5ca9c11242b16ac33f", func := "chartroom/chartroomlaw27.FoldersForest", spec := "foldersForest", inPlace := ["internal/bytealg.abigen_runtime_cmpstring"], unfollowed := true, recurses := true, apart := false }
def FoldersForestSaid : Prop := foldersForestRow.holds Try.pinned (OpenSpec.ofChange foldersForestSpec)

/-- ITS FALSE NEIGHBOUR: 'it returns false'. Refute it at one input. -/
def foldersForestWrong : ChangeSpec := { name := "foldersForest", fn := fun _ => fun
  | [d] => { results := [.lit (.bool false)], args := [d] }
  | _ => none }
def FoldersForestWrongFalsely : Prop := foldersForestRow.holds Try.pinned (OpenSpec.ofChange foldersForestWrong)

/-- 'chartroomlaw27.FoldersBothWays': WHATEVER THE INPUT: true; the input reads as it did. -/
def foldersBothWaysSpec : ChangeSpec := { name := "foldersBothWays", fn := fun _ => fun
  | [d1, d2, d3] => { results := [.lit (.bool true)], args := [d1, d2, d3] }
  | _ => none }
def foldersBothWaysRow : OpenClaim := { program := "ytcflnjmglanneaa", sum := "6f3da1b68371113b7962977b5cb253cad59b5396f9f8eb5ca9c11242b16ac33f", func := "chartroom/chartroomlaw27.FoldersBothWays", spec := "foldersBothWays", inPlace := ["internal/bytealg.abigen_runtime_cmpstring"], unfollowed := true, recurses := true, apart := false }
def FoldersBothWaysSaid : Prop := foldersBothWaysRow.holds Try.pinned (OpenSpec.ofChange foldersBothWaysSpec)

/-- ITS FALSE NEIGHBOUR: 'it returns false'. Refute it at one input. -/
def foldersBothWaysWrong : ChangeSpec := { name := "foldersBothWays", fn := fun _ => fun
  | [d1, d2, d3] => { results := [.lit (.bool false)], args := [d1, d2, d3] }
  | _ => none }
def FoldersBothWaysWrongFalsely : Prop := foldersBothWaysRow.holds Try.pinned (OpenSpec.ofChange foldersBothWaysWrong)

/-- 'chartroomlaw27.FoldersLast': WHATEVER THE INPUT: true; the input reads as it did. -/
def foldersLastSpec : ChangeSpec := { name := "foldersLast", fn := fun _ => fun
  | [d1, d2] => { results := [.lit (.bool true)], args := [d1, d2] }
  | _ => none }
def foldersLastRow : OpenClaim := { program := "ytcflnjmglanneaa", sum := "6f3da1b68371113b7962977b5cb253cad59b5396f9f8eb5ca9c11242b16ac33f", func := "chartroom/chartroomlaw27.FoldersLast", spec := "foldersLast", inPlace := ["internal/bytealg.abigen_runtime_cmpstring"], unfollowed := true, recurses := true, apart := false }
def FoldersLastSaid : Prop := foldersLastRow.holds Try.pinned (OpenSpec.ofChange foldersLastSpec)

/-- ITS FALSE NEIGHBOUR: 'it returns false'. Refute it at one input. -/
def foldersLastWrong : ChangeSpec := { name := "foldersLast", fn := fun _ => fun
  | [d1, d2] => { results := [.lit (.bool false)], args := [d1, d2] }
  | _ => none }
def FoldersLastWrongFalsely : Prop := foldersLastRow.holds Try.pinned (OpenSpec.ofChange foldersLastWrong)

/- THE SECOND FORM. 'bulk': how many values and letters a reading holds, each counted each time it is reached (what is shared counts as often as it is met; a slice's spare places count too). A statement '..UptoSaid' is the law's where the arguments, and the package variables that the reading takes, are together of bulk at most 1048576: NARROWER than '..Said'. Prove '..Said' where nothing that the law and all that it calls make is longer than what came in: it says more and counts as full. Else prove '..UptoSaid'. A law counts once. -/
mutual
def uptoBulk {H : Type} : DataW H → Nat
  | .lit (.string bytes) => bytes.length + 1
  | .lit _ => 1
  | .nil => 1
  | .ptr d => uptoBulk d + 1
  | .slice elems spare => uptoBulkAll elems + uptoBulkAll spare + 1
  | .agg parts => uptoBulkAll parts + 1
  | .iface _ d => uptoBulk d + 1
  | .map entries => uptoBulkEntries entries + 1
  | .held _ => 1
def uptoBulkAll {H : Type} : List (DataW H) → Nat
  | [] => 0
  | d :: r => uptoBulk d + uptoBulkAll r
def uptoBulkEntries {H : Type} : List (Lit × DataW H) → Nat
  | [] => 0
  | x :: r => uptoBulkEntry x + uptoBulkEntries r
def uptoBulkEntry {H : Type} : Lit × DataW H → Nat
  | (.string bytes, d) => bytes.length + uptoBulk d + 1
  | (_, d) => uptoBulk d + 1
 end
def uptoSmall : (H : Type) → List (DataW H) → Bool := fun _ ds => decide (uptoBulkAll ds ≤ 1048576)
def OpenSpec.upto (s : _root_.Go.ChangeSpec) : _root_.Go.OpenSpec := { _root_.Go.OpenSpec.ofChange s with cond := some uptoSmall }

/-- 'chartroomlaw27.FoldersTreeSpec', WHERE WHAT IT READS IS OF BULK AT MOST 1048576: true; the input reads as it did. -/
def foldersTreeSpecUptoRow : OpenClaim := { program := "ytcflnjmglanneaa", sum := "6f3da1b68371113b7962977b5cb253cad59b5396f9f8eb5ca9c11242b16ac33f", func := "chartroom/chartroomlaw27.FoldersTreeSpec", spec := "foldersTreeSpec", inPlace := ["internal/bytealg.abigen_runtime_cmpstring"], unfollowed := true, recurses := true, apart := false, narrowed := true }
def FoldersTreeSpecUptoSaid : Prop := foldersTreeSpecUptoRow.holds Try.pinned (OpenSpec.upto foldersTreeSpecSpec)

/-- 'chartroomlaw27.FoldersBelowSpec', WHERE WHAT IT READS IS OF BULK AT MOST 1048576: true; the input reads as it did. -/
def foldersBelowSpecUptoRow : OpenClaim := { program := "ytcflnjmglanneaa", sum := "6f3da1b68371113b7962977b5cb253cad59b5396f9f8eb5ca9c11242b16ac33f", func := "chartroom/chartroomlaw27.FoldersBelowSpec", spec := "foldersBelowSpec", inPlace := ["internal/bytealg.abigen_runtime_cmpstring"], unfollowed := true, recurses := true, apart := false, narrowed := true }
def FoldersBelowSpecUptoSaid : Prop := foldersBelowSpecUptoRow.holds Try.pinned (OpenSpec.upto foldersBelowSpecSpec)

/-- 'chartroomlaw27.FoldersFindSpec', WHERE WHAT IT READS IS OF BULK AT MOST 1048576: true; the input reads as it did. -/
def foldersFindSpecUptoRow : OpenClaim := { program := "ytcflnjmglanneaa", sum := "6f3da1b68371113b7962977b5cb253cad59b5396f9f8eb5ca9c11242b16ac33f", func := "chartroom/chartroomlaw27.FoldersFindSpec", spec := "foldersFindSpec", inPlace := ["internal/bytealg.abigen_runtime_cmpstring"], unfollowed := true, recurses := true, apart := false, narrowed := true }
def FoldersFindSpecUptoSaid : Prop := foldersFindSpecUptoRow.holds Try.pinned (OpenSpec.upto foldersFindSpecSpec)

/-- 'chartroomlaw27.FoldersOrder', WHERE WHAT IT READS IS OF BULK AT MOST 1048576: true; the input reads as it did. -/
def foldersOrderUptoRow : OpenClaim := { program := "ytcflnjmglanneaa", sum := "6f3da1b68371113b7962977b5cb253cad59b5396f9f8eb5ca9c11242b16ac33f", func := "chartroom/chartroomlaw27.FoldersOrder", spec := "foldersOrder", inPlace := ["internal/bytealg.abigen_runtime_cmpstring"], unfollowed := true, recurses := true, apart := false, narrowed := true }
def FoldersOrderUptoSaid : Prop := foldersOrderUptoRow.holds Try.pinned (OpenSpec.upto foldersOrderSpec)

/-- 'chartroomlaw27.FoldersForest', WHERE WHAT IT READS IS OF BULK AT MOST 1048576: true; the input reads as it did. -/
def foldersForestUptoRow : OpenClaim := { program := "ytcflnjmglanneaa", sum := "6f3da1b68371113b7962977b5cb253cad59b5396f9f8eb5ca9c11242b16ac33f", func := "chartroom/chartroomlaw27.FoldersForest", spec := "foldersForest", inPlace := ["internal/bytealg.abigen_runtime_cmpstring"], unfollowed := true, recurses := true, apart := false, narrowed := true }
def FoldersForestUptoSaid : Prop := foldersForestUptoRow.holds Try.pinned (OpenSpec.upto foldersForestSpec)

/-- 'chartroomlaw27.FoldersBothWays', WHERE WHAT IT READS IS OF BULK AT MOST 1048576: true; the input reads as it did. -/
def foldersBothWaysUptoRow : OpenClaim := { program := "ytcflnjmglanneaa", sum := "6f3da1b68371113b7962977b5cb253cad59b5396f9f8eb5ca9c11242b16ac33f", func := "chartroom/chartroomlaw27.FoldersBothWays", spec := "foldersBothWays", inPlace := ["internal/bytealg.abigen_runtime_cmpstring"], unfollowed := true, recurses := true, apart := false, narrowed := true }
def FoldersBothWaysUptoSaid : Prop := foldersBothWaysUptoRow.holds Try.pinned (OpenSpec.upto foldersBothWaysSpec)

/-- 'chartroomlaw27.FoldersLast', WHERE WHAT IT READS IS OF BULK AT MOST 1048576: true; the input reads as it did. -/
def foldersLastUptoRow : OpenClaim := { program := "ytcflnjmglanneaa", sum := "6f3da1b68371113b7962977b5cb253cad59b5396f9f8eb5ca9c11242b16ac33f", func := "chartroom/chartroomlaw27.FoldersLast", spec := "foldersLast", inPlace := ["internal/bytealg.abigen_runtime_cmpstring"], unfollowed := true, recurses := true, apart := false, narrowed := true }
def FoldersLastUptoSaid : Prop := foldersLastUptoRow.holds Try.pinned (OpenSpec.upto foldersLastSpec)

end Rows
end Go.Proofs.Ytcflnjmglanneaa
