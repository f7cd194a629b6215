/- FrameTells, whole. -/
import Derived.Test.YthbieplfphignaaFraTellsM
namespace Go.Proofs.Ythbieplfphignaa
open Go.RowKit Go.Shelf
set_option linter.unusedVariables false
theorem tells_cells (v : Value) (w : World) (L sw : Nat) (a : Option Addr) (len cap : Nat) (S : Nat → SlotR) (hv : v = .agg #[.int .u32 (L : Int), .int .u32 (sw : Int), .slice a len cap]) (hL : L < 4294967296) (hsw : sw < 4294967296) (hl : len ≤ cap) (hm : cap ≤ maxLen) (hS : SlotsAt w a len S)
    (parts part k tick n : Int) (w1 : (Lit.int .i64 parts).wf = true) (w2 : (Lit.int .i64 part).wf = true) (w3 : (Lit.int .u64 k).wf = true) (w4 : (Lit.int .u64 tick).wf = true) (w5 : (Lit.int .i64 n).wf = true) :
    Calls Try.prog 3 #[v, .int .i64 parts, .int .i64 part, .int .u64 k, .int .u64 tick, .int .i64 n] w fun e w' => e = .returned (.bool true) ∧ Below w.heap.size w w' := by
  subst hv
  obtain ⟨p0, p1⟩ := bounds_i64 w1
  have hk : 0 ≤ k ∧ k ≤ 18446744073709551615 := by simpa [Lit.wf, IntKind.min, IntKind.max, IntKind.bits, IntKind.signed] using w3
  have ht : 0 ≤ tick ∧ tick ≤ 18446744073709551615 := by simpa [Lit.wf, IntKind.min, IntKind.max, IntKind.bits, IntKind.signed] using w4
  obtain ⟨k', rfl⟩ := Int.eq_ofNat_of_zero_le hk.1
  obtain ⟨t', rfl⟩ := Int.eq_ofNat_of_zero_le ht.1
  unfold maxLen at hm
  by_cases h : 2000 < len
  · exact tells_big L sw a len cap parts part k' t' n w (by omega) h
  · exact tells_ok L sw a len cap S parts part k' t' n w (by omega) hL hsw (by omega) (by omega) p0 p1 hS
theorem frame_value {w : World} {v : Value} (h : ReadsC w 25 v.cells.toList ∧ Value.okWide Try.prog w .any 0 25 v) :
    ∃ (L sw : Nat) (a : Option Addr) (len cap : Nat) (S : Nat → SlotR), v = .agg #[.int .u32 (L : Int), .int .u32 (sw : Int), .slice a len cap] ∧ L < 4294967296 ∧ sw < 4294967296 ∧ len ≤ cap ∧ cap ≤ maxLen ∧ SlotsAt w a len S := by
  obtain ⟨cs, rfl, _⟩ := Go.WideShapes.okWide_struct Try.underlying25 h.2
  obtain ⟨L, sw, a, len, cap, S, hc, h1, h2, h3, h4, h5⟩ := reads_frame h.1
  have hc' : cs.toList = [.int .u32 (L : Int), .int .u32 (sw : Int), .slice a len cap] := hc
  refine ⟨L, sw, a, len, cap, S, ?_, h1, h2, h3, h4, h5⟩
  congr 1
  exact Array.toList_inj.1 hc'
theorem tells_walk (v : Value) (parts part k tick n : Int) (w : World) (w0 : ReadsC w 25 v.cells.toList ∧ Value.okWide Try.prog w .any 0 25 v)
    (w1 : (Lit.int .i64 parts).wf = true) (w2 : (Lit.int .i64 part).wf = true) (w3 : (Lit.int .u64 k).wf = true) (w4 : (Lit.int .u64 tick).wf = true) (w5 : (Lit.int .i64 n).wf = true) :
    Calls Try.prog 3 #[v, .int .i64 parts, .int .i64 part, .int .u64 k, .int .u64 tick, .int .i64 n] w fun e w' => e = .returned (.bool true) ∧ Below w.heap.size w w' := by
  obtain ⟨L, sw, a, len, cap, S, hv, h1, h2, h3, h4, h5⟩ := frame_value w0
  exact tells_cells v w L sw a len cap S hv h1 h2 h3 h4 h5 parts part k tick n w1 w2 w3 w4 w5
end Go.Proofs.Ythbieplfphignaa
