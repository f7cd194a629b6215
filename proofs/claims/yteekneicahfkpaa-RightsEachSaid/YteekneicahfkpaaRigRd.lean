/- What can be read of regions. -/
import Derived.Test.YteekneicahfkpaaReg
import Derived.Laws.BytesArg
namespace Go.Proofs.Yteekneicahfkpaa
open Go.RowKit
set_option linter.unusedVariables false
theorem u8Cells : Try.prog.cellsOf 5 = 1 := by kernel_rfl
theorem u32Cells : Try.prog.cellsOf 22 = 1 := by kernel_rfl
theorem regCells : Try.prog.cellsOf 24 = 3 := by kernel_rfl
theorem reads_u32 {w : World} {cs : List Value} {o : Nat} (h : ReadsC w 22 ((cs.drop o).take (Try.prog.cellsOf 22))) : ∃ n : Nat, n < 4294967296 ∧ cs.getD o undef = .int .u32 (n : Int) := by
  rw [u32Cells] at h
  obtain ⟨n, hc, hw⟩ := reads_int1 Try.underlying22 h
  obtain ⟨h0, h1⟩ := bounds_u32 hw
  obtain ⟨m, rfl⟩ := Int.eq_ofNat_of_zero_le h0
  exact ⟨m, by omega, one_take hc⟩
theorem reads_right {w : World} {cs : List Value} {o : Nat} (h : ReadsC w 5 ((cs.drop o).take (Try.prog.cellsOf 5))) : ∃ n : Nat, n < 256 ∧ cs.getD o undef = .int .u8 (n : Int) := by
  rw [u8Cells] at h
  obtain ⟨n, hc, hw⟩ := reads_int1 Try.underlying5 h
  obtain ⟨h0, h1⟩ := bounds_u8 hw
  obtain ⟨m, rfl⟩ := Int.eq_ofNat_of_zero_le h0
  exact ⟨m, by omega, one_take hc⟩
theorem reads_reg {w : World} {cs : List Value} (h : ReadsC w 24 cs) : ∃ r : Reg, r.ok ∧ ∀ j, j < 3 → cs.getD j undef = regV r j := by
  obtain ⟨hl, hf⟩ := reads_struct Try.underlying24 h
  obtain ⟨b, h0, e0⟩ := reads_u32 (hf 0 _ rfl)
  obtain ⟨s, h1, e1⟩ := reads_u32 (hf 1 _ rfl)
  obtain ⟨r, h2, e2⟩ := reads_right (hf 2 _ rfl)
  refine ⟨{ base := b, size := s, rt := r }, by constructor <;> first | exact h0 | exact h1 | exact h2, fun j hj => ?_⟩
  match j, hj with
  | 0, _ => exact e0
  | 1, _ => exact e1
  | 2, _ => exact e2
theorem reads_regs {w : World} {a : Option Addr} {len cap : Nat} (h : ReadsC w 29 [.slice a len cap]) : len ≤ cap ∧ cap ≤ maxLen ∧ ∃ L, RegsAt w a len L := by
  obtain ⟨hl, hm, C, hs, hr⟩ := reads_sliceN Try.underlying29 regCells (by omega) h
  obtain ⟨D, hD⟩ := choose_nat (α := Reg) (p := fun i d => d.ok ∧ ∀ j, j < 3 → (C i).getD j undef = regV d j) (fun i hi => reads_reg (hr i hi).2)
  refine ⟨hl, hm, fun i => if i < len then D i else ⟨0, 0, 0⟩, hs.congr fun i hi j hj => ?_, fun i => ?_⟩
  · simp only [if_pos hi]; exact (hD i hi).2 j hj
  · by_cases hi : i < len
    · simp only [if_pos hi]; exact (hD i hi).1
    · simp only [if_neg hi]; constructor <;> decide
theorem u32_nat {a : Int} (h : (Lit.int .u32 a).wf = true) : ∃ n : Nat, a = (n : Int) ∧ n < 4294967296 := by
  obtain ⟨h0, h1⟩ := bounds_u32 h
  obtain ⟨m, rfl⟩ := Int.eq_ofNat_of_zero_le h0
  exact ⟨m, rfl, by omega⟩
theorem u8_nat {a : Int} (h : (Lit.int .u8 a).wf = true) : ∃ n : Nat, a = (n : Int) ∧ n < 256 := by
  obtain ⟨h0, h1⟩ := bounds_u8 h
  obtain ⟨m, rfl⟩ := Int.eq_ofNat_of_zero_le h0
  exact ⟨m, rfl, by omega⟩
theorem reg_value {w : World} {v : Value} (h : ReadsC w 24 v.cells.toList ∧ Value.okWide Try.prog w .any 0 24 v) : ∃ r : Reg, r.ok ∧ v = r.val := by
  obtain ⟨cs, rfl, _⟩ := Go.WideShapes.okWide_struct Try.underlying24 h.2
  obtain ⟨hl, _⟩ := reads_struct Try.underlying24 h.1
  obtain ⟨r, hr, hj⟩ := reads_reg h.1
  rw [regCells] at hl
  refine ⟨r, hr, ?_⟩
  unfold Reg.val
  congr 1
  apply Array.toList_inj.1
  generalize hcs : (Value.agg cs).cells.toList = l at *
  have hcl : cs.toList = l := hcs
  rw [hcl]
  match l, hl with
  | [x0, x1, x2], _ =>
    have g0 : x0 = _ := hj 0 (by omega)
    have g1 : x1 = _ := hj 1 (by omega)
    have g2 : x2 = _ := hj 2 (by omega)
    subst g0 g1 g2
    rfl
end Go.Proofs.Yteekneicahfkpaa
