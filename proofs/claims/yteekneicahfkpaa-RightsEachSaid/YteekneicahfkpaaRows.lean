/-
  No cell of these rows narrows 'for every input' (looked for: loops, veiled, ifaces, maps, wideKeys, modest, calm, conditions, laid).
  DERIVED. THE GIVEN ROWS OF THIS SEAT. 5 by the template 'for every input the law returns true; each argument reads behind the call as it read before'; 0 by the template 'total and deterministic' (their statements: YteekneicahfkpaaTotals.lean).
  GIVEN WITH THE SEED: the statements are not yours to turn. If you find one false, say at which input.
  Laid BY PROGRAM, IN A SANDBOX (cutbox-rows.mjs): the forced cells as the released guide's own fill.sh prints them over the translation 84addebff47c9ad0… (all of the seat's roots in one cut). By AI agents, Wed Nov 11 2026. No macro, syntax, notation, axiom, sorry.
-/
import Derived.Test.YteekneicahfkpaaChecked
import GoSem.Claim
import GoSem.ClaimJoined
import GoSem.ClaimMapViews
import Derived.JoinedTies
import Derived.KernelRfl
namespace Go.Proofs.Yteekneicahfkpaa
/- THE CELL 'sum', in the pinned program and in every row, IS THE sha256 OF THE DUMP (.gsa) THAT YteekneicahfkpaaProg.lean LOADS. Nothing in Lean hashes anything: it is a label: what it is worth is what the hold of that sum in a sandbox is worth. -/
noncomputable def Try.pinned : Pinned := { name := "yteekneicahfkpaa", sum := "84addebff47c9ad05b0ffcdcb3293819cddc292016546f640cf4c1ad78d71826", checked := Try.checked }
namespace Rows
def none {H : Type} : Left H := { results := [], args := [] }

/-- 'tappetlaw05.RightsPairs': WHATEVER THE INPUT: true; the input reads as it did. -/
def rightsPairsSpec : ChangeSpec := { name := "rightsPairs", fn := fun _ => fun
  | [d1, d2, d3] => { results := [.lit (.bool true)], args := [d1, d2, d3] }
  | _ => none }
def rightsPairsRow : OpenClaim := { program := "yteekneicahfkpaa", sum := "84addebff47c9ad05b0ffcdcb3293819cddc292016546f640cf4c1ad78d71826", func := "tappet/tappetlaw05.RightsPairs", spec := "rightsPairs", unfollowed := true, recurses := true, apart := false }
def RightsPairsSaid : Prop := rightsPairsRow.holds Try.pinned (OpenSpec.ofChange rightsPairsSpec)

/-- ITS FALSE NEIGHBOUR: 'it returns false'. Refute it at one input. -/
def rightsPairsWrong : ChangeSpec := { name := "rightsPairs", fn := fun _ => fun
  | [d1, d2, d3] => { results := [.lit (.bool false)], args := [d1, d2, d3] }
  | _ => none }
def RightsPairsWrongFalsely : Prop := rightsPairsRow.holds Try.pinned (OpenSpec.ofChange rightsPairsWrong)

/-- 'tappetlaw05.RightsFree': WHATEVER THE INPUT: true; the input reads as it did. -/
def rightsFreeSpec : ChangeSpec := { name := "rightsFree", fn := fun _ => fun
  | [d1, d2, d3] => { results := [.lit (.bool true)], args := [d1, d2, d3] }
  | _ => none }
def rightsFreeRow : OpenClaim := { program := "yteekneicahfkpaa", sum := "84addebff47c9ad05b0ffcdcb3293819cddc292016546f640cf4c1ad78d71826", func := "tappet/tappetlaw05.RightsFree", spec := "rightsFree", unfollowed := true, recurses := true, apart := false }
def RightsFreeSaid : Prop := rightsFreeRow.holds Try.pinned (OpenSpec.ofChange rightsFreeSpec)

/-- ITS FALSE NEIGHBOUR: 'it returns false'. Refute it at one input. -/
def rightsFreeWrong : ChangeSpec := { name := "rightsFree", fn := fun _ => fun
  | [d1, d2, d3] => { results := [.lit (.bool false)], args := [d1, d2, d3] }
  | _ => none }
def RightsFreeWrongFalsely : Prop := rightsFreeRow.holds Try.pinned (OpenSpec.ofChange rightsFreeWrong)

/-- 'tappetlaw05.RightsWhole': WHATEVER THE INPUT: true; the input reads as it did. -/
def rightsWholeSpec : ChangeSpec := { name := "rightsWhole", fn := fun _ => fun
  | [d1, d2, d3] => { results := [.lit (.bool true)], args := [d1, d2, d3] }
  | _ => none }
def rightsWholeRow : OpenClaim := { program := "yteekneicahfkpaa", sum := "84addebff47c9ad05b0ffcdcb3293819cddc292016546f640cf4c1ad78d71826", func := "tappet/tappetlaw05.RightsWhole", spec := "rightsWhole", unfollowed := true, recurses := true, apart := false }
def RightsWholeSaid : Prop := rightsWholeRow.holds Try.pinned (OpenSpec.ofChange rightsWholeSpec)

/-- ITS FALSE NEIGHBOUR: 'it returns false'. Refute it at one input. -/
def rightsWholeWrong : ChangeSpec := { name := "rightsWhole", fn := fun _ => fun
  | [d1, d2, d3] => { results := [.lit (.bool false)], args := [d1, d2, d3] }
  | _ => none }
def RightsWholeWrongFalsely : Prop := rightsWholeRow.holds Try.pinned (OpenSpec.ofChange rightsWholeWrong)

/-- 'tappetlaw05.RightsApart': WHATEVER THE INPUT: true; the input reads as it did. -/
def rightsApartSpec : ChangeSpec := { name := "rightsApart", fn := fun _ => fun
  | [d1, d2, d3, d4] => { results := [.lit (.bool true)], args := [d1, d2, d3, d4] }
  | _ => none }
def rightsApartRow : OpenClaim := { program := "yteekneicahfkpaa", sum := "84addebff47c9ad05b0ffcdcb3293819cddc292016546f640cf4c1ad78d71826", func := "tappet/tappetlaw05.RightsApart", spec := "rightsApart", unfollowed := true, recurses := true, apart := false }
def RightsApartSaid : Prop := rightsApartRow.holds Try.pinned (OpenSpec.ofChange rightsApartSpec)

/-- ITS FALSE NEIGHBOUR: 'it returns false'. Refute it at one input. -/
def rightsApartWrong : ChangeSpec := { name := "rightsApart", fn := fun _ => fun
  | [d1, d2, d3, d4] => { results := [.lit (.bool false)], args := [d1, d2, d3, d4] }
  | _ => none }
def RightsApartWrongFalsely : Prop := rightsApartRow.holds Try.pinned (OpenSpec.ofChange rightsApartWrong)

/-- 'tappetlaw05.RightsEach': WHATEVER THE INPUT: true; the input reads as it did. -/
def rightsEachSpec : ChangeSpec := { name := "rightsEach", fn := fun _ => fun
  | [d1, d2, d3, d4, d5] => { results := [.lit (.bool true)], args := [d1, d2, d3, d4, d5] }
  | _ => none }
def rightsEachRow : OpenClaim := { program := "yteekneicahfkpaa", sum := "84addebff47c9ad05b0ffcdcb3293819cddc292016546f640cf4c1ad78d71826", func := "tappet/tappetlaw05.RightsEach", spec := "rightsEach", unfollowed := true, recurses := true, apart := false }
def RightsEachSaid : Prop := rightsEachRow.holds Try.pinned (OpenSpec.ofChange rightsEachSpec)

/-- ITS FALSE NEIGHBOUR: 'it returns false'. Refute it at one input. -/
def rightsEachWrong : ChangeSpec := { name := "rightsEach", fn := fun _ => fun
  | [d1, d2, d3, d4, d5] => { results := [.lit (.bool false)], args := [d1, d2, d3, d4, d5] }
  | _ => none }
def RightsEachWrongFalsely : Prop := rightsEachRow.holds Try.pinned (OpenSpec.ofChange rightsEachWrong)

/- THE SECOND FORM. 'bulk': how many values and letters a reading holds, each counted each time it is reached (what is shared counts as often as it is met; a slice's spare places count too). A statement '..UptoSaid' is the law's where the arguments, and the package variables that the reading takes, are together of bulk at most 1048576: NARROWER than '..Said'. Prove '..Said' where nothing that the law and all that it calls make is longer than what came in: it says more and counts as full. Else prove '..UptoSaid'. A law counts once. -/
mutual
def uptoBulk {H : Type} : DataW H → Nat
  | .lit (.string bytes) => bytes.length + 1
  | .lit _ => 1
  | .nil => 1
  | .ptr d => uptoBulk d + 1
  | .slice elems spare => uptoBulkAll elems + uptoBulkAll spare + 1
  | .agg parts => uptoBulkAll parts + 1
  | .iface _ d => uptoBulk d + 1
  | .map entries => uptoBulkEntries entries + 1
  | .held _ => 1
def uptoBulkAll {H : Type} : List (DataW H) → Nat
  | [] => 0
  | d :: r => uptoBulk d + uptoBulkAll r
def uptoBulkEntries {H : Type} : List (Lit × DataW H) → Nat
  | [] => 0
  | x :: r => uptoBulkEntry x + uptoBulkEntries r
def uptoBulkEntry {H : Type} : Lit × DataW H → Nat
  | (.string bytes, d) => bytes.length + uptoBulk d + 1
  | (_, d) => uptoBulk d + 1
 end
def uptoSmall : (H : Type) → List (DataW H) → Bool := fun _ ds => decide (uptoBulkAll ds ≤ 1048576)
def OpenSpec.upto (s : _root_.Go.ChangeSpec) : _root_.Go.OpenSpec := { _root_.Go.OpenSpec.ofChange s with cond := some uptoSmall }

/-- 'tappetlaw05.RightsPairs', WHERE WHAT IT READS IS OF BULK AT MOST 1048576: true; the input reads as it did. -/
def rightsPairsUptoRow : OpenClaim := { program := "yteekneicahfkpaa", sum := "84addebff47c9ad05b0ffcdcb3293819cddc292016546f640cf4c1ad78d71826", func := "tappet/tappetlaw05.RightsPairs", spec := "rightsPairs", unfollowed := true, recurses := true, apart := false, narrowed := true }
def RightsPairsUptoSaid : Prop := rightsPairsUptoRow.holds Try.pinned (OpenSpec.upto rightsPairsSpec)

/-- 'tappetlaw05.RightsFree', WHERE WHAT IT READS IS OF BULK AT MOST 1048576: true; the input reads as it did. -/
def rightsFreeUptoRow : OpenClaim := { program := "yteekneicahfkpaa", sum := "84addebff47c9ad05b0ffcdcb3293819cddc292016546f640cf4c1ad78d71826", func := "tappet/tappetlaw05.RightsFree", spec := "rightsFree", unfollowed := true, recurses := true, apart := false, narrowed := true }
def RightsFreeUptoSaid : Prop := rightsFreeUptoRow.holds Try.pinned (OpenSpec.upto rightsFreeSpec)

/-- 'tappetlaw05.RightsWhole', WHERE WHAT IT READS IS OF BULK AT MOST 1048576: true; the input reads as it did. -/
def rightsWholeUptoRow : OpenClaim := { program := "yteekneicahfkpaa", sum := "84addebff47c9ad05b0ffcdcb3293819cddc292016546f640cf4c1ad78d71826", func := "tappet/tappetlaw05.RightsWhole", spec := "rightsWhole", unfollowed := true, recurses := true, apart := false, narrowed := true }
def RightsWholeUptoSaid : Prop := rightsWholeUptoRow.holds Try.pinned (OpenSpec.upto rightsWholeSpec)

/-- 'tappetlaw05.RightsApart', WHERE WHAT IT READS IS OF BULK AT MOST 1048576: true; the input reads as it did. -/
def rightsApartUptoRow : OpenClaim := { program := "yteekneicahfkpaa", sum := "84addebff47c9ad05b0ffcdcb3293819cddc292016546f640cf4c1ad78d71826", func := "tappet/tappetlaw05.RightsApart", spec := "rightsApart", unfollowed := true, recurses := true, apart := false, narrowed := true }
def RightsApartUptoSaid : Prop := rightsApartUptoRow.holds Try.pinned (OpenSpec.upto rightsApartSpec)

/-- 'tappetlaw05.RightsEach', WHERE WHAT IT READS IS OF BULK AT MOST 1048576: true; the input reads as it did. -/
def rightsEachUptoRow : OpenClaim := { program := "yteekneicahfkpaa", sum := "84addebff47c9ad05b0ffcdcb3293819cddc292016546f640cf4c1ad78d71826", func := "tappet/tappetlaw05.RightsEach", spec := "rightsEach", unfollowed := true, recurses := true, apart := false, narrowed := true }
def RightsEachUptoSaid : Prop := rightsEachUptoRow.holds Try.pinned (OpenSpec.upto rightsEachSpec)

end Rows
end Go.Proofs.Yteekneicahfkpaa
