/-
  No cell of these rows narrows 'for every input' (looked for: loops, veiled, ifaces, maps, wideKeys, modest, calm, conditions, laid).
  DERIVED. THE GIVEN ROWS OF THIS SEAT. 7 by the template 'for every input the law returns true; each argument reads behind the call as it read before'; 0 by the template 'total and deterministic' (their statements: YtekdekchbnacgaaTotals.lean).
  GIVEN WITH THE SEED: the statements are not yours to turn. If you find one false, say at which input.
  Laid BY PROGRAM, IN A SANDBOX (cutbox-rows.mjs): the forced cells as the released guide's own fill.sh prints them over the translation 393258b92ba2069c… (all of the seat's roots in one cut). By AI agents, Wed Nov 11 2026. No macro, syntax, notation, axiom, sorry.
-/
import Derived.Test.YtekdekchbnacgaaChecked
import GoSem.Claim
import GoSem.ClaimJoined
import GoSem.ClaimMapViews
import Derived.JoinedTies
import Derived.KernelRfl
namespace Go.Proofs.Ytekdekchbnacgaa
/- THE CELL 'sum', in the pinned program and in every row, IS THE sha256 OF THE DUMP (.gsa) THAT YtekdekchbnacgaaProg.lean LOADS. Nothing in Lean hashes anything: it is a label: what it is worth is what the hold of that sum in a sandbox is worth. -/
noncomputable def Try.pinned : Pinned := { name := "ytekdekchbnacgaa", sum := "393258b92ba2069c8646c1c7a4c4f4e89f4959e495245076bc578b1877e1f805", checked := Try.checked }
namespace Rows
def none {H : Type} : Left H := { results := [], args := [] }

/-- 'chartroomlaw21.KeytreeCheckSpec': WHATEVER THE INPUT: true; the input reads as it did. -/
def keytreeCheckSpecSpec : ChangeSpec := { name := "keytreeCheckSpec", fn := fun _ => fun
  | [d1, d2] => { results := [.lit (.bool true)], args := [d1, d2] }
  | _ => none }
def keytreeCheckSpecRow : OpenClaim := { program := "ytekdekchbnacgaa", sum := "393258b92ba2069c8646c1c7a4c4f4e89f4959e495245076bc578b1877e1f805", func := "chartroom/chartroomlaw21.KeytreeCheckSpec", spec := "keytreeCheckSpec", unfollowed := true, recurses := true, named := ["math/bits.divideError", "math/bits.overflowError"], apart := false }
def KeytreeCheckSpecSaid : Prop := keytreeCheckSpecRow.holds Try.pinned (OpenSpec.ofChange keytreeCheckSpecSpec)

/-- ITS FALSE NEIGHBOUR: 'it returns false'. Refute it at one input. -/
def keytreeCheckSpecWrong : ChangeSpec := { name := "keytreeCheckSpec", fn := fun _ => fun
  | [d1, d2] => { results := [.lit (.bool false)], args := [d1, d2] }
  | _ => none }
def KeytreeCheckSpecWrongFalsely : Prop := keytreeCheckSpecRow.holds Try.pinned (OpenSpec.ofChange keytreeCheckSpecWrong)

/-- 'chartroomlaw21.KeytreeSetSpec': WHATEVER THE INPUT: true; the input reads as it did. -/
def keytreeSetSpecSpec : ChangeSpec := { name := "keytreeSetSpec", fn := fun _ => fun
  | [d1, d2, d3, d4] => { results := [.lit (.bool true)], args := [d1, d2, d3, d4] }
  | _ => none }
def keytreeSetSpecRow : OpenClaim := { program := "ytekdekchbnacgaa", sum := "393258b92ba2069c8646c1c7a4c4f4e89f4959e495245076bc578b1877e1f805", func := "chartroom/chartroomlaw21.KeytreeSetSpec", spec := "keytreeSetSpec", unfollowed := true, recurses := true, named := ["math/bits.divideError", "math/bits.overflowError"], apart := false }
def KeytreeSetSpecSaid : Prop := keytreeSetSpecRow.holds Try.pinned (OpenSpec.ofChange keytreeSetSpecSpec)

/-- ITS FALSE NEIGHBOUR: 'it returns false'. Refute it at one input. -/
def keytreeSetSpecWrong : ChangeSpec := { name := "keytreeSetSpec", fn := fun _ => fun
  | [d1, d2, d3, d4] => { results := [.lit (.bool false)], args := [d1, d2, d3, d4] }
  | _ => none }
def KeytreeSetSpecWrongFalsely : Prop := keytreeSetSpecRow.holds Try.pinned (OpenSpec.ofChange keytreeSetSpecWrong)

/-- 'chartroomlaw21.KeytreeRemoved': WHATEVER THE INPUT: true; the input reads as it did. -/
def keytreeRemovedSpec : ChangeSpec := { name := "keytreeRemoved", fn := fun _ => fun
  | [d1, d2] => { results := [.lit (.bool true)], args := [d1, d2] }
  | _ => none }
def keytreeRemovedRow : OpenClaim := { program := "ytekdekchbnacgaa", sum := "393258b92ba2069c8646c1c7a4c4f4e89f4959e495245076bc578b1877e1f805", func := "chartroom/chartroomlaw21.KeytreeRemoved", spec := "keytreeRemoved", unfollowed := true, recurses := true, named := ["math/bits.divideError", "math/bits.overflowError"], apart := false }
def KeytreeRemovedSaid : Prop := keytreeRemovedRow.holds Try.pinned (OpenSpec.ofChange keytreeRemovedSpec)

/-- ITS FALSE NEIGHBOUR: 'it returns false'. Refute it at one input. -/
def keytreeRemovedWrong : ChangeSpec := { name := "keytreeRemoved", fn := fun _ => fun
  | [d1, d2] => { results := [.lit (.bool false)], args := [d1, d2] }
  | _ => none }
def KeytreeRemovedWrongFalsely : Prop := keytreeRemovedRow.holds Try.pinned (OpenSpec.ofChange keytreeRemovedWrong)

/-- 'chartroomlaw21.KeytreeExchange': WHATEVER THE INPUT: true; the input reads as it did. -/
def keytreeExchangeSpec : ChangeSpec := { name := "keytreeExchange", fn := fun _ => fun
  | [d1, d2, d3, d4, d5] => { results := [.lit (.bool true)], args := [d1, d2, d3, d4, d5] }
  | _ => none }
def keytreeExchangeRow : OpenClaim := { program := "ytekdekchbnacgaa", sum := "393258b92ba2069c8646c1c7a4c4f4e89f4959e495245076bc578b1877e1f805", func := "chartroom/chartroomlaw21.KeytreeExchange", spec := "keytreeExchange", unfollowed := true, recurses := true, named := ["math/bits.divideError", "math/bits.overflowError"], apart := false }
def KeytreeExchangeSaid : Prop := keytreeExchangeRow.holds Try.pinned (OpenSpec.ofChange keytreeExchangeSpec)

/-- ITS FALSE NEIGHBOUR: 'it returns false'. Refute it at one input. -/
def keytreeExchangeWrong : ChangeSpec := { name := "keytreeExchange", fn := fun _ => fun
  | [d1, d2, d3, d4, d5] => { results := [.lit (.bool false)], args := [d1, d2, d3, d4, d5] }
  | _ => none }
def KeytreeExchangeWrongFalsely : Prop := keytreeExchangeRow.holds Try.pinned (OpenSpec.ofChange keytreeExchangeWrong)

/-- 'chartroomlaw21.KeytreeRenewed': WHATEVER THE INPUT: true; the input reads as it did. -/
def keytreeRenewedSpec : ChangeSpec := { name := "keytreeRenewed", fn := fun _ => fun
  | [d1, d2, d3] => { results := [.lit (.bool true)], args := [d1, d2, d3] }
  | _ => none }
def keytreeRenewedRow : OpenClaim := { program := "ytekdekchbnacgaa", sum := "393258b92ba2069c8646c1c7a4c4f4e89f4959e495245076bc578b1877e1f805", func := "chartroom/chartroomlaw21.KeytreeRenewed", spec := "keytreeRenewed", unfollowed := true, recurses := true, named := ["math/bits.divideError", "math/bits.overflowError"], apart := false }
def KeytreeRenewedSaid : Prop := keytreeRenewedRow.holds Try.pinned (OpenSpec.ofChange keytreeRenewedSpec)

/-- ITS FALSE NEIGHBOUR: 'it returns false'. Refute it at one input. -/
def keytreeRenewedWrong : ChangeSpec := { name := "keytreeRenewed", fn := fun _ => fun
  | [d1, d2, d3] => { results := [.lit (.bool false)], args := [d1, d2, d3] }
  | _ => none }
def KeytreeRenewedWrongFalsely : Prop := keytreeRenewedRow.holds Try.pinned (OpenSpec.ofChange keytreeRenewedWrong)

/-- 'chartroomlaw21.KeytreeReaches': WHATEVER THE INPUT: true; the input reads as it did. -/
def keytreeReachesSpec : ChangeSpec := { name := "keytreeReaches", fn := fun _ => fun
  | [d1, d2] => { results := [.lit (.bool true)], args := [d1, d2] }
  | _ => none }
def keytreeReachesRow : OpenClaim := { program := "ytekdekchbnacgaa", sum := "393258b92ba2069c8646c1c7a4c4f4e89f4959e495245076bc578b1877e1f805", func := "chartroom/chartroomlaw21.KeytreeReaches", spec := "keytreeReaches", unfollowed := true, recurses := true, named := ["math/bits.divideError", "math/bits.overflowError"], apart := false }
def KeytreeReachesSaid : Prop := keytreeReachesRow.holds Try.pinned (OpenSpec.ofChange keytreeReachesSpec)

/-- ITS FALSE NEIGHBOUR: 'it returns false'. Refute it at one input. -/
def keytreeReachesWrong : ChangeSpec := { name := "keytreeReaches", fn := fun _ => fun
  | [d1, d2] => { results := [.lit (.bool false)], args := [d1, d2] }
  | _ => none }
def KeytreeReachesWrongFalsely : Prop := keytreeReachesRow.holds Try.pinned (OpenSpec.ofChange keytreeReachesWrong)

/-- 'chartroomlaw21.KeytreeOthers': WHATEVER THE INPUT: true; the input reads as it did. -/
def keytreeOthersSpec : ChangeSpec := { name := "keytreeOthers", fn := fun _ => fun
  | [d1, d2] => { results := [.lit (.bool true)], args := [d1, d2] }
  | _ => none }
def keytreeOthersRow : OpenClaim := { program := "ytekdekchbnacgaa", sum := "393258b92ba2069c8646c1c7a4c4f4e89f4959e495245076bc578b1877e1f805", func := "chartroom/chartroomlaw21.KeytreeOthers", spec := "keytreeOthers", unfollowed := true, recurses := true, named := ["math/bits.divideError", "math/bits.overflowError"], apart := false }
def KeytreeOthersSaid : Prop := keytreeOthersRow.holds Try.pinned (OpenSpec.ofChange keytreeOthersSpec)

/-- ITS FALSE NEIGHBOUR: 'it returns false'. Refute it at one input. -/
def keytreeOthersWrong : ChangeSpec := { name := "keytreeOthers", fn := fun _ => fun
  | [d1, d2] => { results := [.lit (.bool false)], args := [d1, d2] }
  | _ => none }
def KeytreeOthersWrongFalsely : Prop := keytreeOthersRow.holds Try.pinned (OpenSpec.ofChange keytreeOthersWrong)

/- THE SECOND FORM. 'bulk': how many values and letters a reading holds, each counted each time it is reached (what is shared counts as often as it is met; a slice's spare places count too). A statement '..UptoSaid' is the law's where the arguments, and the package variables that the reading takes, are together of bulk at most 1048576: NARROWER than '..Said'. Prove '..Said' where nothing that the law and all that it calls make is longer than what came in: it says more and counts as full. Else prove '..UptoSaid'. A law counts once. -/
mutual
def uptoBulk {H : Type} : DataW H → Nat
  | .lit (.string bytes) => bytes.length + 1
  | .lit _ => 1
  | .nil => 1
  | .ptr d => uptoBulk d + 1
  | .slice elems spare => uptoBulkAll elems + uptoBulkAll spare + 1
  | .agg parts => uptoBulkAll parts + 1
  | .iface _ d => uptoBulk d + 1
  | .map entries => uptoBulkEntries entries + 1
  | .held _ => 1
def uptoBulkAll {H : Type} : List (DataW H) → Nat
  | [] => 0
  | d :: r => uptoBulk d + uptoBulkAll r
def uptoBulkEntries {H : Type} : List (Lit × DataW H) → Nat
  | [] => 0
  | x :: r => uptoBulkEntry x + uptoBulkEntries r
def uptoBulkEntry {H : Type} : Lit × DataW H → Nat
  | (.string bytes, d) => bytes.length + uptoBulk d + 1
  | (_, d) => uptoBulk d + 1
 end
def uptoSmall : (H : Type) → List (DataW H) → Bool := fun _ ds => decide (uptoBulkAll ds ≤ 1048576)
def OpenSpec.upto (s : _root_.Go.ChangeSpec) : _root_.Go.OpenSpec := { _root_.Go.OpenSpec.ofChange s with cond := some uptoSmall }

/-- 'chartroomlaw21.KeytreeCheckSpec', WHERE WHAT IT READS IS OF BULK AT MOST 1048576: true; the input reads as it did. -/
def keytreeCheckSpecUptoRow : OpenClaim := { program := "ytekdekchbnacgaa", sum := "393258b92ba2069c8646c1c7a4c4f4e89f4959e495245076bc578b1877e1f805", func := "chartroom/chartroomlaw21.KeytreeCheckSpec", spec := "keytreeCheckSpec", unfollowed := true, recurses := true, named := ["math/bits.divideError", "math/bits.overflowError"], apart := false, narrowed := true }
def KeytreeCheckSpecUptoSaid : Prop := keytreeCheckSpecUptoRow.holds Try.pinned (OpenSpec.upto keytreeCheckSpecSpec)

/-- 'chartroomlaw21.KeytreeSetSpec', WHERE WHAT IT READS IS OF BULK AT MOST 1048576: true; the input reads as it did. -/
def keytreeSetSpecUptoRow : OpenClaim := { program := "ytekdekchbnacgaa", sum := "393258b92ba2069c8646c1c7a4c4f4e89f4959e495245076bc578b1877e1f805", func := "chartroom/chartroomlaw21.KeytreeSetSpec", spec := "keytreeSetSpec", unfollowed := true, recurses := true, named := ["math/bits.divideError", "math/bits.overflowError"], apart := false, narrowed := true }
def KeytreeSetSpecUptoSaid : Prop := keytreeSetSpecUptoRow.holds Try.pinned (OpenSpec.upto keytreeSetSpecSpec)

/-- 'chartroomlaw21.KeytreeRemoved', WHERE WHAT IT READS IS OF BULK AT MOST 1048576: true; the input reads as it did. -/
def keytreeRemovedUptoRow : OpenClaim := { program := "ytekdekchbnacgaa", sum := "393258b92ba2069c8646c1c7a4c4f4e89f4959e495245076bc578b1877e1f805", func := "chartroom/chartroomlaw21.KeytreeRemoved", spec := "keytreeRemoved", unfollowed := true, recurses := true, named := ["math/bits.divideError", "math/bits.overflowError"], apart := false, narrowed := true }
def KeytreeRemovedUptoSaid : Prop := keytreeRemovedUptoRow.holds Try.pinned (OpenSpec.upto keytreeRemovedSpec)

/-- 'chartroomlaw21.KeytreeExchange', WHERE WHAT IT READS IS OF BULK AT MOST 1048576: true; the input reads as it did. -/
def keytreeExchangeUptoRow : OpenClaim := { program := "ytekdekchbnacgaa", sum := "393258b92ba2069c8646c1c7a4c4f4e89f4959e495245076bc578b1877e1f805", func := "chartroom/chartroomlaw21.KeytreeExchange", spec := "keytreeExchange", unfollowed := true, recurses := true, named := ["math/bits.divideError", "math/bits.overflowError"], apart := false, narrowed := true }
def KeytreeExchangeUptoSaid : Prop := keytreeExchangeUptoRow.holds Try.pinned (OpenSpec.upto keytreeExchangeSpec)

/-- 'chartroomlaw21.KeytreeRenewed', WHERE WHAT IT READS IS OF BULK AT MOST 1048576: true; the input reads as it did. -/
def keytreeRenewedUptoRow : OpenClaim := { program := "ytekdekchbnacgaa", sum := "393258b92ba2069c8646c1c7a4c4f4e89f4959e495245076bc578b1877e1f805", func := "chartroom/chartroomlaw21.KeytreeRenewed", spec := "keytreeRenewed", unfollowed := true, recurses := true, named := ["math/bits.divideError", "math/bits.overflowError"], apart := false, narrowed := true }
def KeytreeRenewedUptoSaid : Prop := keytreeRenewedUptoRow.holds Try.pinned (OpenSpec.upto keytreeRenewedSpec)

/-- 'chartroomlaw21.KeytreeReaches', WHERE WHAT IT READS IS OF BULK AT MOST 1048576: true; the input reads as it did. -/
def keytreeReachesUptoRow : OpenClaim := { program := "ytekdekchbnacgaa", sum := "393258b92ba2069c8646c1c7a4c4f4e89f4959e495245076bc578b1877e1f805", func := "chartroom/chartroomlaw21.KeytreeReaches", spec := "keytreeReaches", unfollowed := true, recurses := true, named := ["math/bits.divideError", "math/bits.overflowError"], apart := false, narrowed := true }
def KeytreeReachesUptoSaid : Prop := keytreeReachesUptoRow.holds Try.pinned (OpenSpec.upto keytreeReachesSpec)

/-- 'chartroomlaw21.KeytreeOthers', WHERE WHAT IT READS IS OF BULK AT MOST 1048576: true; the input reads as it did. -/
def keytreeOthersUptoRow : OpenClaim := { program := "ytekdekchbnacgaa", sum := "393258b92ba2069c8646c1c7a4c4f4e89f4959e495245076bc578b1877e1f805", func := "chartroom/chartroomlaw21.KeytreeOthers", spec := "keytreeOthers", unfollowed := true, recurses := true, named := ["math/bits.divideError", "math/bits.overflowError"], apart := false, narrowed := true }
def KeytreeOthersUptoSaid : Prop := keytreeOthersUptoRow.holds Try.pinned (OpenSpec.upto keytreeOthersSpec)

end Rows
end Go.Proofs.Ytekdekchbnacgaa
