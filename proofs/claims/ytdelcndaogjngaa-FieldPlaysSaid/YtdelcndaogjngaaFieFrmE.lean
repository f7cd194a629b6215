/- FieldFrame, whole. -/
import Derived.Test.YtdelcndaogjngaaFieFrm
namespace Go.Proofs.Ytdelcndaogjngaa
open Go.RowKit
set_option linter.unusedVariables false
theorem field_value {w : World} {v : Value} (h : ReadsC w 25 v.cells.toList ∧ Value.okWide Try.prog w .any 0 25 v) :
    ∃ (nI : Int) (a : Option Addr) (len cap rd : Nat) (wr : Int) (S : Nat → Nat), v = .agg #[.int .i64 nI, .slice a len cap, .int .u32 (rd : Int), .int .i64 wr] ∧ in64 nI ∧ rd < 4294967296 ∧ in64 wr ∧ len ≤ cap ∧ cap ≤ maxLen ∧ SliceAt w a len (uV S) ∧ ∀ i, S i < 4294967296 := by
  obtain ⟨cs, rfl, _⟩ := Go.WideShapes.okWide_struct Try.underlying25 h.2
  obtain ⟨nI, a, len, cap, rd, wr, S, hc, h1⟩ := reads_field h.1
  have hc' : cs.toList = [.int .i64 nI, .slice a len cap, .int .u32 (rd : Int), .int .i64 wr] := hc
  refine ⟨nI, a, len, cap, rd, wr, S, ?_, h1⟩
  congr 1
  exact Array.toList_inj.1 hc'
theorem frame_cells (v : Value) (ba : Option Addr) (bl bc : Nat) (xa : Option Addr) (xl xc : Nat) (fa : Option Addr) (fl fc : Nat) (ok : Bool) (w : World) (nI : Int) (a : Option Addr) (len cap rd : Nat) (wt : Int) (S : Nat → Nat)
    (hv : v = .agg #[.int .i64 nI, .slice a len cap, .int .u32 (rd : Int), .int .i64 wt]) (hl : len ≤ cap) (hm : cap ≤ maxLen) (hS : SliceAt w a len (uV S)) (hSl : ∀ i, S i < 4294967296)
    (w1 : ReadsC w 26 [.slice ba bl bc]) (w2 : ReadsC w 22 [.slice xa xl xc]) (w3 : ReadsC w 26 [.slice fa fl fc]) :
    Calls Try.prog 4 #[v, .slice ba bl bc, .slice xa xl xc, .slice fa fl fc, .bool ok] w fun e w' => e = .returned (.bool true) ∧ Below w.heap.size w w' := by
  subst hv
  unfold maxLen at hm
  by_cases h : 1000 < len
  · exact frame_big nI a len cap rd wt _ _ _ ok w (by omega) h
  · obtain ⟨b1, b2, B, hB⟩ := reads_dos w1
    obtain ⟨x1, x2, X, hX, hXl⟩ := reads_words w2
    obtain ⟨f1, f2, R, hR⟩ := reads_dos w3
    unfold maxLen at b2 x2 f2
    exact frame_any nI a len cap rd wt S ba bl bc B xa xl xc X fa fl fc R ok w h hS hSl hB (by omega) hX hXl (by omega) hR (by omega)
theorem frame_walk (v : Value) (ba : Option Addr) (bl bc : Nat) (xa : Option Addr) (xl xc : Nat) (fa : Option Addr) (fl fc : Nat) (ok : Bool) (w : World)
    (w0 : ReadsC w 25 v.cells.toList ∧ Value.okWide Try.prog w .any 0 25 v)
    (w1 : ReadsC w 26 [.slice ba bl bc]) (w2 : ReadsC w 22 [.slice xa xl xc]) (w3 : ReadsC w 26 [.slice fa fl fc]) :
    Calls Try.prog 4 #[v, .slice ba bl bc, .slice xa xl xc, .slice fa fl fc, .bool ok] w fun e w' => e = .returned (.bool true) ∧ Below w.heap.size w w' := by
  obtain ⟨nI, a, len, cap, rd, wt, S, hv, -, -, -, h2, h3, h4, h5⟩ := field_value w0
  exact frame_cells v ba bl bc xa xl xc fa fl fc ok w nI a len cap rd wt S hv h2 h3 h4 h5 w1 w2 w3
end Go.Proofs.Ytdelcndaogjngaa
