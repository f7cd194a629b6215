/- FieldPlays, for any arguments that can be read. -/
import Derived.Test.YtdelcndaogjngaaFiePlM
import Derived.Test.YtdelcndaogjngaaFieFrmE
namespace Go.Proofs.Ytdelcndaogjngaa
open Go.RowKit
set_option linter.unusedVariables false
theorem plays_cells (v : Value) (ba : Option Addr) (bl bc : Nat) (w : World) (nI : Int) (a : Option Addr) (len cap rd : Nat) (wt : Int) (S : Nat → Nat)
    (hv : v = .agg #[.int .i64 nI, .slice a len cap, .int .u32 (rd : Int), .int .i64 wt]) (hl : len ≤ cap) (hm : cap ≤ maxLen) (hS : SliceAt w a len (uV S)) (hSl : ∀ i, S i < 4294967296)
    (w1 : ReadsC w 26 [.slice ba bl bc]) :
    Calls Try.prog 3 #[v, .slice ba bl bc] w fun e w' => e = .returned (.bool true) ∧ Below w.heap.size w w' := by
  subst hv
  unfold maxLen at hm
  by_cases h : 1000 < len
  · exact plays_big nI a len cap rd wt _ w (by omega) h
  · obtain ⟨b1, b2, B, hB⟩ := reads_dos w1
    unfold maxLen at b2
    exact plays_any nI a len cap rd wt S ba bl bc B w h hS hSl hB (by omega)
theorem plays_walk (v : Value) (ba : Option Addr) (bl bc : Nat) (w : World)
    (w0 : ReadsC w 25 v.cells.toList ∧ Value.okWide Try.prog w .any 0 25 v)
    (w1 : ReadsC w 26 [.slice ba bl bc]) :
    Calls Try.prog 3 #[v, .slice ba bl bc] w fun e w' => e = .returned (.bool true) ∧ Below w.heap.size w w' := by
  obtain ⟨nI, a, len, cap, rd, wt, S, hv, -, -, -, h2, h3, h4, h5⟩ := field_value w0
  exact plays_cells v ba bl bc w nI a len cap rd wt S hv h2 h3 h4 h5 w1
end Go.Proofs.Ytdelcndaogjngaa
