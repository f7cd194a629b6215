/- What is read. -/
import Derived.Test.YtalmgjeiopjhlaaGreatDoorIsaKnA
namespace Go.Proofs.YtalmgjeiopjhlaaGreatDoor
open Go.RowKit
set_option linter.unusedVariables false
theorem u8Cells : Tryz.prog.cellsOf 5 = 1 := by kernel_rfl
/-- A slice of bytes. -/
theorem reads_bytes {w : World} {a : Option Addr} {len cap : Nat} (h : ReadsC w 42 [.slice a len cap]) : len ≤ cap ∧ cap ≤ maxLen ∧ ∃ X : Nat → Nat, SliceAt w a len (bV X) ∧ ∀ i, X i < 256 := by
  obtain ⟨l, hl, h1, h2, h3, h4⟩ := reads_ints Tryz.underlying42 Tryz.underlying5 u8Cells h
  refine ⟨h1, h2, fun i => if i < len then (l.getD i 0).toNat else 0, h3.congr fun i hi => ?_, fun i => ?_⟩
  · obtain ⟨k0, k1⟩ := bounds_u8 (h4 i hi)
    unfold intV bV
    simp only [if_pos hi]
    rw [Int.toNat_of_nonneg k0]
  · show (if i < len then (l.getD i 0).toNat else 0) < _
    by_cases hi : i < len
    · obtain ⟨k0, k1⟩ := bounds_u8 (h4 i hi)
      rw [if_pos hi]; omega
    · rw [if_neg hi]; omega
theorem Ins.eq_refl (i : Ins) : i.eq i = true := by unfold Ins.eq; simp
end Go.Proofs.YtalmgjeiopjhlaaGreatDoor
