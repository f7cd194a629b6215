/-
  No cell of these rows narrows 'for every input' (looked for: loops, veiled, ifaces, maps, wideKeys, modest, calm, conditions, laid).
  DERIVED. THE GIVEN ROWS OF THIS SEAT. 6 by the template 'for every input the law returns true; each argument reads behind the call as it read before'; 0 by the template 'total and deterministic' (their statements: YtlfcmedhadfheaaTotals.lean).
  GIVEN WITH THE SEED: the statements are not yours to turn. If you find one false, say at which input.
  Laid BY PROGRAM, IN A SANDBOX (cutbox-rows.mjs): the forced cells as the released guide's own fill.sh prints them over the translation c940034bd0235ecf… (all of the seat's roots in one cut). By AI agents, Wed Nov 11 2026. No macro, syntax, notation, axiom, sorry.
-/
import Derived.Test.YtlfcmedhadfheaaChecked
import GoSem.Claim
import GoSem.ClaimJoined
import GoSem.ClaimMapViews
import Derived.JoinedTies
import Derived.KernelRfl
namespace Go.Proofs.Ytlfcmedhadfheaa
/- THE CELL 'sum', in the pinned program and in every row, IS THE sha256 OF THE DUMP (.gsa) THAT YtlfcmedhadfheaaProg.lean LOADS. Nothing in Lean hashes anything: it is a label: what it is worth is what the hold of that sum in a sandbox is worth. -/
noncomputable def Try.pinned : Pinned := { name := "ytlfcmedhadfheaa", sum := "c940034bd0235ecffb6f7d05946eed5c5ce6502cc2e3f19b61b3f7894501cb55", checked := Try.checked }
namespace Rows
def none {H : Type} : Left H := { results := [], args := [] }

/-- 'tappetlaw27.AutoSafe': WHATEVER THE INPUT: true; the input reads as it did. -/
def autoSafeSpec : ChangeSpec := { name := "autoSafe", fn := fun _ => fun
  | [d1, d2] => { results := [.lit (.bool true)], args := [d1, d2] }
  | _ => none }
def autoSafeRow : OpenClaim := { program := "ytlfcmedhadfheaa", sum := "c940034bd0235ecffb6f7d05946eed5c5ce6502cc2e3f19b61b3f7894501cb55", func := "tappet/tappetlaw27.AutoSafe", spec := "autoSafe", unfollowed := true, recurses := true, apart := false }
def AutoSafeSaid : Prop := autoSafeRow.holds Try.pinned (OpenSpec.ofChange autoSafeSpec)

/-- ITS FALSE NEIGHBOUR: 'it returns false'. Refute it at one input. -/
def autoSafeWrong : ChangeSpec := { name := "autoSafe", fn := fun _ => fun
  | [d1, d2] => { results := [.lit (.bool false)], args := [d1, d2] }
  | _ => none }
def AutoSafeWrongFalsely : Prop := autoSafeRow.holds Try.pinned (OpenSpec.ofChange autoSafeWrong)

/-- 'tappetlaw27.AutoThrough': WHATEVER THE INPUT: true; the input reads as it did. -/
def autoThroughSpec : ChangeSpec := { name := "autoThrough", fn := fun _ => fun
  | [d1, d2, d3] => { results := [.lit (.bool true)], args := [d1, d2, d3] }
  | _ => none }
def autoThroughRow : OpenClaim := { program := "ytlfcmedhadfheaa", sum := "c940034bd0235ecffb6f7d05946eed5c5ce6502cc2e3f19b61b3f7894501cb55", func := "tappet/tappetlaw27.AutoThrough", spec := "autoThrough", unfollowed := true, recurses := true, apart := false }
def AutoThroughSaid : Prop := autoThroughRow.holds Try.pinned (OpenSpec.ofChange autoThroughSpec)

/-- ITS FALSE NEIGHBOUR: 'it returns false'. Refute it at one input. -/
def autoThroughWrong : ChangeSpec := { name := "autoThrough", fn := fun _ => fun
  | [d1, d2, d3] => { results := [.lit (.bool false)], args := [d1, d2, d3] }
  | _ => none }
def AutoThroughWrongFalsely : Prop := autoThroughRow.holds Try.pinned (OpenSpec.ofChange autoThroughWrong)

/-- 'tappetlaw27.AutoBits': WHATEVER THE INPUT: true; the input reads as it did. -/
def autoBitsSpec : ChangeSpec := { name := "autoBits", fn := fun _ => fun
  | [d1, d2, d3] => { results := [.lit (.bool true)], args := [d1, d2, d3] }
  | _ => none }
def autoBitsRow : OpenClaim := { program := "ytlfcmedhadfheaa", sum := "c940034bd0235ecffb6f7d05946eed5c5ce6502cc2e3f19b61b3f7894501cb55", func := "tappet/tappetlaw27.AutoBits", spec := "autoBits", unfollowed := true, recurses := true, apart := false }
def AutoBitsSaid : Prop := autoBitsRow.holds Try.pinned (OpenSpec.ofChange autoBitsSpec)

/-- ITS FALSE NEIGHBOUR: 'it returns false'. Refute it at one input. -/
def autoBitsWrong : ChangeSpec := { name := "autoBits", fn := fun _ => fun
  | [d1, d2, d3] => { results := [.lit (.bool false)], args := [d1, d2, d3] }
  | _ => none }
def AutoBitsWrongFalsely : Prop := autoBitsRow.holds Try.pinned (OpenSpec.ofChange autoBitsWrong)

/-- 'tappetlaw27.AutoHolds': WHATEVER THE INPUT: true; the input reads as it did. -/
def autoHoldsSpec : ChangeSpec := { name := "autoHolds", fn := fun _ => fun
  | [d1, d2] => { results := [.lit (.bool true)], args := [d1, d2] }
  | _ => none }
def autoHoldsRow : OpenClaim := { program := "ytlfcmedhadfheaa", sum := "c940034bd0235ecffb6f7d05946eed5c5ce6502cc2e3f19b61b3f7894501cb55", func := "tappet/tappetlaw27.AutoHolds", spec := "autoHolds", unfollowed := true, recurses := true, apart := false }
def AutoHoldsSaid : Prop := autoHoldsRow.holds Try.pinned (OpenSpec.ofChange autoHoldsSpec)

/-- ITS FALSE NEIGHBOUR: 'it returns false'. Refute it at one input. -/
def autoHoldsWrong : ChangeSpec := { name := "autoHolds", fn := fun _ => fun
  | [d1, d2] => { results := [.lit (.bool false)], args := [d1, d2] }
  | _ => none }
def AutoHoldsWrongFalsely : Prop := autoHoldsRow.holds Try.pinned (OpenSpec.ofChange autoHoldsWrong)

/-- 'tappetlaw27.AutoKnown': WHATEVER THE INPUT: true; the input reads as it did. -/
def autoKnownSpec : ChangeSpec := { name := "autoKnown", fn := fun _ => fun
  | [] => { results := [.lit (.bool true)], args := [] }
  | _ => none }
def autoKnownRow : OpenClaim := { program := "ytlfcmedhadfheaa", sum := "c940034bd0235ecffb6f7d05946eed5c5ce6502cc2e3f19b61b3f7894501cb55", func := "tappet/tappetlaw27.AutoKnown", spec := "autoKnown", unfollowed := true, recurses := true, apart := false }
def AutoKnownSaid : Prop := autoKnownRow.holds Try.pinned (OpenSpec.ofChange autoKnownSpec)

/-- ITS FALSE NEIGHBOUR: 'it returns false'. Refute it at one input. -/
def autoKnownWrong : ChangeSpec := { name := "autoKnown", fn := fun _ => fun
  | [] => { results := [.lit (.bool false)], args := [] }
  | _ => none }
def AutoKnownWrongFalsely : Prop := autoKnownRow.holds Try.pinned (OpenSpec.ofChange autoKnownWrong)

/-- 'tappetlaw27.AutoSteps': WHATEVER THE INPUT: true; the input reads as it did. -/
def autoStepsSpec : ChangeSpec := { name := "autoSteps", fn := fun _ => fun
  | [d1, d2] => { results := [.lit (.bool true)], args := [d1, d2] }
  | _ => none }
def autoStepsRow : OpenClaim := { program := "ytlfcmedhadfheaa", sum := "c940034bd0235ecffb6f7d05946eed5c5ce6502cc2e3f19b61b3f7894501cb55", func := "tappet/tappetlaw27.AutoSteps", spec := "autoSteps", unfollowed := true, recurses := true, apart := false }
def AutoStepsSaid : Prop := autoStepsRow.holds Try.pinned (OpenSpec.ofChange autoStepsSpec)

/-- ITS FALSE NEIGHBOUR: 'it returns false'. Refute it at one input. -/
def autoStepsWrong : ChangeSpec := { name := "autoSteps", fn := fun _ => fun
  | [d1, d2] => { results := [.lit (.bool false)], args := [d1, d2] }
  | _ => none }
def AutoStepsWrongFalsely : Prop := autoStepsRow.holds Try.pinned (OpenSpec.ofChange autoStepsWrong)

/- THE SECOND FORM. 'bulk': how many values and letters a reading holds, each counted each time it is reached (what is shared counts as often as it is met; a slice's spare places count too). A statement '..UptoSaid' is the law's where the arguments, and the package variables that the reading takes, are together of bulk at most 1048576: NARROWER than '..Said'. Prove '..Said' where nothing that the law and all that it calls make is longer than what came in: it says more and counts as full. Else prove '..UptoSaid'. A law counts once. -/
mutual
def uptoBulk {H : Type} : DataW H → Nat
  | .lit (.string bytes) => bytes.length + 1
  | .lit _ => 1
  | .nil => 1
  | .ptr d => uptoBulk d + 1
  | .slice elems spare => uptoBulkAll elems + uptoBulkAll spare + 1
  | .agg parts => uptoBulkAll parts + 1
  | .iface _ d => uptoBulk d + 1
  | .map entries => uptoBulkEntries entries + 1
  | .held _ => 1
def uptoBulkAll {H : Type} : List (DataW H) → Nat
  | [] => 0
  | d :: r => uptoBulk d + uptoBulkAll r
def uptoBulkEntries {H : Type} : List (Lit × DataW H) → Nat
  | [] => 0
  | x :: r => uptoBulkEntry x + uptoBulkEntries r
def uptoBulkEntry {H : Type} : Lit × DataW H → Nat
  | (.string bytes, d) => bytes.length + uptoBulk d + 1
  | (_, d) => uptoBulk d + 1
 end
def uptoSmall : (H : Type) → List (DataW H) → Bool := fun _ ds => decide (uptoBulkAll ds ≤ 1048576)
def OpenSpec.upto (s : _root_.Go.ChangeSpec) : _root_.Go.OpenSpec := { _root_.Go.OpenSpec.ofChange s with cond := some uptoSmall }

/-- 'tappetlaw27.AutoSafe', WHERE WHAT IT READS IS OF BULK AT MOST 1048576: true; the input reads as it did. -/
def autoSafeUptoRow : OpenClaim := { program := "ytlfcmedhadfheaa", sum := "c940034bd0235ecffb6f7d05946eed5c5ce6502cc2e3f19b61b3f7894501cb55", func := "tappet/tappetlaw27.AutoSafe", spec := "autoSafe", unfollowed := true, recurses := true, apart := false, narrowed := true }
def AutoSafeUptoSaid : Prop := autoSafeUptoRow.holds Try.pinned (OpenSpec.upto autoSafeSpec)

/-- 'tappetlaw27.AutoThrough', WHERE WHAT IT READS IS OF BULK AT MOST 1048576: true; the input reads as it did. -/
def autoThroughUptoRow : OpenClaim := { program := "ytlfcmedhadfheaa", sum := "c940034bd0235ecffb6f7d05946eed5c5ce6502cc2e3f19b61b3f7894501cb55", func := "tappet/tappetlaw27.AutoThrough", spec := "autoThrough", unfollowed := true, recurses := true, apart := false, narrowed := true }
def AutoThroughUptoSaid : Prop := autoThroughUptoRow.holds Try.pinned (OpenSpec.upto autoThroughSpec)

/-- 'tappetlaw27.AutoBits', WHERE WHAT IT READS IS OF BULK AT MOST 1048576: true; the input reads as it did. -/
def autoBitsUptoRow : OpenClaim := { program := "ytlfcmedhadfheaa", sum := "c940034bd0235ecffb6f7d05946eed5c5ce6502cc2e3f19b61b3f7894501cb55", func := "tappet/tappetlaw27.AutoBits", spec := "autoBits", unfollowed := true, recurses := true, apart := false, narrowed := true }
def AutoBitsUptoSaid : Prop := autoBitsUptoRow.holds Try.pinned (OpenSpec.upto autoBitsSpec)

/-- 'tappetlaw27.AutoHolds', WHERE WHAT IT READS IS OF BULK AT MOST 1048576: true; the input reads as it did. -/
def autoHoldsUptoRow : OpenClaim := { program := "ytlfcmedhadfheaa", sum := "c940034bd0235ecffb6f7d05946eed5c5ce6502cc2e3f19b61b3f7894501cb55", func := "tappet/tappetlaw27.AutoHolds", spec := "autoHolds", unfollowed := true, recurses := true, apart := false, narrowed := true }
def AutoHoldsUptoSaid : Prop := autoHoldsUptoRow.holds Try.pinned (OpenSpec.upto autoHoldsSpec)

/-- 'tappetlaw27.AutoKnown', WHERE WHAT IT READS IS OF BULK AT MOST 1048576: true; the input reads as it did. -/
def autoKnownUptoRow : OpenClaim := { program := "ytlfcmedhadfheaa", sum := "c940034bd0235ecffb6f7d05946eed5c5ce6502cc2e3f19b61b3f7894501cb55", func := "tappet/tappetlaw27.AutoKnown", spec := "autoKnown", unfollowed := true, recurses := true, apart := false, narrowed := true }
def AutoKnownUptoSaid : Prop := autoKnownUptoRow.holds Try.pinned (OpenSpec.upto autoKnownSpec)

/-- 'tappetlaw27.AutoSteps', WHERE WHAT IT READS IS OF BULK AT MOST 1048576: true; the input reads as it did. -/
def autoStepsUptoRow : OpenClaim := { program := "ytlfcmedhadfheaa", sum := "c940034bd0235ecffb6f7d05946eed5c5ce6502cc2e3f19b61b3f7894501cb55", func := "tappet/tappetlaw27.AutoSteps", spec := "autoSteps", unfollowed := true, recurses := true, apart := false, narrowed := true }
def AutoStepsUptoSaid : Prop := autoStepsUptoRow.holds Try.pinned (OpenSpec.upto autoStepsSpec)

end Rows
end Go.Proofs.Ytlfcmedhadfheaa
