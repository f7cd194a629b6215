/-
  No cell of these rows narrows 'for every input' (looked for: loops, veiled, ifaces, maps, wideKeys, modest, calm, conditions, laid).
  DERIVED. THE GIVEN ROWS OF THIS SEAT. 5 by the template 'for every input the law returns true; each argument reads behind the call as it read before'; 0 by the template 'total and deterministic' (their statements: YtnjeiigdfdjccaaTotals.lean).
  GIVEN WITH THE SEED: the statements are not yours to turn. If you find one false, say at which input.
  Laid BY PROGRAM, IN A SANDBOX (cutbox-rows.mjs): the forced cells as the released guide's own fill.sh prints them over the translation 56cadb7b86e9f496… (all of the seat's roots in one cut). By AI agents, Wed Nov 11 2026. No macro, syntax, notation, axiom, sorry.
-/
import Derived.Test.YtnjeiigdfdjccaaChecked
import GoSem.Claim
import GoSem.ClaimJoined
import GoSem.ClaimMapViews
import Derived.JoinedTies
import Derived.KernelRfl
namespace Go.Proofs.Ytnjeiigdfdjccaa
/- THE CELL 'sum', in the pinned program and in every row, IS THE sha256 OF THE DUMP (.gsa) THAT YtnjeiigdfdjccaaProg.lean LOADS. Nothing in Lean hashes anything: it is a label: what it is worth is what the hold of that sum in a sandbox is worth. -/
noncomputable def Try.pinned : Pinned := { name := "ytnjeiigdfdjccaa", sum := "56cadb7b86e9f49637199e145aecf0e2a67e4ea4450f537858bbb3afae31ff4b", checked := Try.checked }
namespace Rows
def none {H : Type} : Left H := { results := [], args := [] }

/-- 'tappetlaw33.YardSignals': WHATEVER THE INPUT: true; the input reads as it did. -/
def yardSignalsSpec : ChangeSpec := { name := "yardSignals", fn := fun _ => fun
  | [d1, d2, d3] => { results := [.lit (.bool true)], args := [d1, d2, d3] }
  | _ => none }
def yardSignalsRow : OpenClaim := { program := "ytnjeiigdfdjccaa", sum := "56cadb7b86e9f49637199e145aecf0e2a67e4ea4450f537858bbb3afae31ff4b", func := "tappet/tappetlaw33.YardSignals", spec := "yardSignals", unfollowed := true, recurses := true, apart := false }
def YardSignalsSaid : Prop := yardSignalsRow.holds Try.pinned (OpenSpec.ofChange yardSignalsSpec)

/-- ITS FALSE NEIGHBOUR: 'it returns false'. Refute it at one input. -/
def yardSignalsWrong : ChangeSpec := { name := "yardSignals", fn := fun _ => fun
  | [d1, d2, d3] => { results := [.lit (.bool false)], args := [d1, d2, d3] }
  | _ => none }
def YardSignalsWrongFalsely : Prop := yardSignalsRow.holds Try.pinned (OpenSpec.ofChange yardSignalsWrong)

/-- 'tappetlaw33.YardThrough': WHATEVER THE INPUT: true; the input reads as it did. -/
def yardThroughSpec : ChangeSpec := { name := "yardThrough", fn := fun _ => fun
  | [d1, d2, d3] => { results := [.lit (.bool true)], args := [d1, d2, d3] }
  | _ => none }
def yardThroughRow : OpenClaim := { program := "ytnjeiigdfdjccaa", sum := "56cadb7b86e9f49637199e145aecf0e2a67e4ea4450f537858bbb3afae31ff4b", func := "tappet/tappetlaw33.YardThrough", spec := "yardThrough", unfollowed := true, recurses := true, apart := false }
def YardThroughSaid : Prop := yardThroughRow.holds Try.pinned (OpenSpec.ofChange yardThroughSpec)

/-- ITS FALSE NEIGHBOUR: 'it returns false'. Refute it at one input. -/
def yardThroughWrong : ChangeSpec := { name := "yardThrough", fn := fun _ => fun
  | [d1, d2, d3] => { results := [.lit (.bool false)], args := [d1, d2, d3] }
  | _ => none }
def YardThroughWrongFalsely : Prop := yardThroughRow.holds Try.pinned (OpenSpec.ofChange yardThroughWrong)

/-- 'tappetlaw33.YardPlays': WHATEVER THE INPUT: true; the input reads as it did. -/
def yardPlaysSpec : ChangeSpec := { name := "yardPlays", fn := fun _ => fun
  | [d1, d2, d3] => { results := [.lit (.bool true)], args := [d1, d2, d3] }
  | _ => none }
def yardPlaysRow : OpenClaim := { program := "ytnjeiigdfdjccaa", sum := "56cadb7b86e9f49637199e145aecf0e2a67e4ea4450f537858bbb3afae31ff4b", func := "tappet/tappetlaw33.YardPlays", spec := "yardPlays", unfollowed := true, recurses := true, apart := false }
def YardPlaysSaid : Prop := yardPlaysRow.holds Try.pinned (OpenSpec.ofChange yardPlaysSpec)

/-- ITS FALSE NEIGHBOUR: 'it returns false'. Refute it at one input. -/
def yardPlaysWrong : ChangeSpec := { name := "yardPlays", fn := fun _ => fun
  | [d1, d2, d3] => { results := [.lit (.bool false)], args := [d1, d2, d3] }
  | _ => none }
def YardPlaysWrongFalsely : Prop := yardPlaysRow.holds Try.pinned (OpenSpec.ofChange yardPlaysWrong)

/-- 'tappetlaw33.YardKnown': WHATEVER THE INPUT: true; the input reads as it did. -/
def yardKnownSpec : ChangeSpec := { name := "yardKnown", fn := fun _ => fun
  | [] => { results := [.lit (.bool true)], args := [] }
  | _ => none }
def yardKnownRow : OpenClaim := { program := "ytnjeiigdfdjccaa", sum := "56cadb7b86e9f49637199e145aecf0e2a67e4ea4450f537858bbb3afae31ff4b", func := "tappet/tappetlaw33.YardKnown", spec := "yardKnown", unfollowed := true, recurses := true, apart := false }
def YardKnownSaid : Prop := yardKnownRow.holds Try.pinned (OpenSpec.ofChange yardKnownSpec)

/-- ITS FALSE NEIGHBOUR: 'it returns false'. Refute it at one input. -/
def yardKnownWrong : ChangeSpec := { name := "yardKnown", fn := fun _ => fun
  | [] => { results := [.lit (.bool false)], args := [] }
  | _ => none }
def YardKnownWrongFalsely : Prop := yardKnownRow.holds Try.pinned (OpenSpec.ofChange yardKnownWrong)

/-- 'tappetlaw33.YardSafe': WHATEVER THE INPUT: true; the input reads as it did. -/
def yardSafeSpec : ChangeSpec := { name := "yardSafe", fn := fun _ => fun
  | [d1, d2, d3] => { results := [.lit (.bool true)], args := [d1, d2, d3] }
  | _ => none }
def yardSafeRow : OpenClaim := { program := "ytnjeiigdfdjccaa", sum := "56cadb7b86e9f49637199e145aecf0e2a67e4ea4450f537858bbb3afae31ff4b", func := "tappet/tappetlaw33.YardSafe", spec := "yardSafe", unfollowed := true, recurses := true, apart := false }
def YardSafeSaid : Prop := yardSafeRow.holds Try.pinned (OpenSpec.ofChange yardSafeSpec)

/-- ITS FALSE NEIGHBOUR: 'it returns false'. Refute it at one input. -/
def yardSafeWrong : ChangeSpec := { name := "yardSafe", fn := fun _ => fun
  | [d1, d2, d3] => { results := [.lit (.bool false)], args := [d1, d2, d3] }
  | _ => none }
def YardSafeWrongFalsely : Prop := yardSafeRow.holds Try.pinned (OpenSpec.ofChange yardSafeWrong)

/- THE SECOND FORM. 'bulk': how many values and letters a reading holds, each counted each time it is reached (what is shared counts as often as it is met; a slice's spare places count too). A statement '..UptoSaid' is the law's where the arguments, and the package variables that the reading takes, are together of bulk at most 1048576: NARROWER than '..Said'. Prove '..Said' where nothing that the law and all that it calls make is longer than what came in: it says more and counts as full. Else prove '..UptoSaid'. A law counts once. -/
mutual
def uptoBulk {H : Type} : DataW H → Nat
  | .lit (.string bytes) => bytes.length + 1
  | .lit _ => 1
  | .nil => 1
  | .ptr d => uptoBulk d + 1
  | .slice elems spare => uptoBulkAll elems + uptoBulkAll spare + 1
  | .agg parts => uptoBulkAll parts + 1
  | .iface _ d => uptoBulk d + 1
  | .map entries => uptoBulkEntries entries + 1
  | .held _ => 1
def uptoBulkAll {H : Type} : List (DataW H) → Nat
  | [] => 0
  | d :: r => uptoBulk d + uptoBulkAll r
def uptoBulkEntries {H : Type} : List (Lit × DataW H) → Nat
  | [] => 0
  | x :: r => uptoBulkEntry x + uptoBulkEntries r
def uptoBulkEntry {H : Type} : Lit × DataW H → Nat
  | (.string bytes, d) => bytes.length + uptoBulk d + 1
  | (_, d) => uptoBulk d + 1
 end
def uptoSmall : (H : Type) → List (DataW H) → Bool := fun _ ds => decide (uptoBulkAll ds ≤ 1048576)
def OpenSpec.upto (s : _root_.Go.ChangeSpec) : _root_.Go.OpenSpec := { _root_.Go.OpenSpec.ofChange s with cond := some uptoSmall }

/-- 'tappetlaw33.YardSignals', WHERE WHAT IT READS IS OF BULK AT MOST 1048576: true; the input reads as it did. -/
def yardSignalsUptoRow : OpenClaim := { program := "ytnjeiigdfdjccaa", sum := "56cadb7b86e9f49637199e145aecf0e2a67e4ea4450f537858bbb3afae31ff4b", func := "tappet/tappetlaw33.YardSignals", spec := "yardSignals", unfollowed := true, recurses := true, apart := false, narrowed := true }
def YardSignalsUptoSaid : Prop := yardSignalsUptoRow.holds Try.pinned (OpenSpec.upto yardSignalsSpec)

/-- 'tappetlaw33.YardThrough', WHERE WHAT IT READS IS OF BULK AT MOST 1048576: true; the input reads as it did. -/
def yardThroughUptoRow : OpenClaim := { program := "ytnjeiigdfdjccaa", sum := "56cadb7b86e9f49637199e145aecf0e2a67e4ea4450f537858bbb3afae31ff4b", func := "tappet/tappetlaw33.YardThrough", spec := "yardThrough", unfollowed := true, recurses := true, apart := false, narrowed := true }
def YardThroughUptoSaid : Prop := yardThroughUptoRow.holds Try.pinned (OpenSpec.upto yardThroughSpec)

/-- 'tappetlaw33.YardPlays', WHERE WHAT IT READS IS OF BULK AT MOST 1048576: true; the input reads as it did. -/
def yardPlaysUptoRow : OpenClaim := { program := "ytnjeiigdfdjccaa", sum := "56cadb7b86e9f49637199e145aecf0e2a67e4ea4450f537858bbb3afae31ff4b", func := "tappet/tappetlaw33.YardPlays", spec := "yardPlays", unfollowed := true, recurses := true, apart := false, narrowed := true }
def YardPlaysUptoSaid : Prop := yardPlaysUptoRow.holds Try.pinned (OpenSpec.upto yardPlaysSpec)

/-- 'tappetlaw33.YardKnown', WHERE WHAT IT READS IS OF BULK AT MOST 1048576: true; the input reads as it did. -/
def yardKnownUptoRow : OpenClaim := { program := "ytnjeiigdfdjccaa", sum := "56cadb7b86e9f49637199e145aecf0e2a67e4ea4450f537858bbb3afae31ff4b", func := "tappet/tappetlaw33.YardKnown", spec := "yardKnown", unfollowed := true, recurses := true, apart := false, narrowed := true }
def YardKnownUptoSaid : Prop := yardKnownUptoRow.holds Try.pinned (OpenSpec.upto yardKnownSpec)

/-- 'tappetlaw33.YardSafe', WHERE WHAT IT READS IS OF BULK AT MOST 1048576: true; the input reads as it did. -/
def yardSafeUptoRow : OpenClaim := { program := "ytnjeiigdfdjccaa", sum := "56cadb7b86e9f49637199e145aecf0e2a67e4ea4450f537858bbb3afae31ff4b", func := "tappet/tappetlaw33.YardSafe", spec := "yardSafe", unfollowed := true, recurses := true, apart := false, narrowed := true }
def YardSafeUptoSaid : Prop := yardSafeUptoRow.holds Try.pinned (OpenSpec.upto yardSafeSpec)

end Rows
end Go.Proofs.Ytnjeiigdfdjccaa
