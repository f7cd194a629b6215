/- The walk of IsaBack. -/
import Derived.Test.YtalmgjeiopjhlaaGreatDoorIsaApp
import Derived.Laws.BytesArg
namespace Go.Proofs.YtalmgjeiopjhlaaGreatDoor
open Go.RowKit
set_option linter.unusedVariables false
theorem u16Cells : Tryz.prog.cellsOf 29 = 1 := by kernel_rfl
theorem u32Cells : Tryz.prog.cellsOf 30 = 1 := by kernel_rfl
theorem insCells : Tryz.prog.cellsOf 32 = 4 := by kernel_rfl
theorem reads_u8 {w : World} {cs : List Value} {o : Nat} (h : ReadsC w 5 ((cs.drop o).take (Tryz.prog.cellsOf 5))) : ∃ n : Nat, n < 256 ∧ cs.getD o undef = .int .u8 (n : Int) := by
  rw [u8Cells] at h
  obtain ⟨n, hc, hw⟩ := reads_int1 Tryz.underlying5 h
  obtain ⟨h0, h1⟩ := bounds_u8 hw
  obtain ⟨m, rfl⟩ := Int.eq_ofNat_of_zero_le h0
  exact ⟨m, by omega, one_take hc⟩
theorem reads_u16 {w : World} {cs : List Value} {o : Nat} (h : ReadsC w 29 ((cs.drop o).take (Tryz.prog.cellsOf 29))) : ∃ n : Nat, n < 65536 ∧ cs.getD o undef = .int .u16 (n : Int) := by
  rw [u16Cells] at h
  obtain ⟨n, hc, hw⟩ := reads_int1 Tryz.underlying29 h
  obtain ⟨h0, h1⟩ := bounds_u16 hw
  obtain ⟨m, rfl⟩ := Int.eq_ofNat_of_zero_le h0
  exact ⟨m, by omega, one_take hc⟩
theorem reads_u32 {w : World} {cs : List Value} {o : Nat} (h : ReadsC w 30 ((cs.drop o).take (Tryz.prog.cellsOf 30))) : ∃ n : Nat, n < 4294967296 ∧ cs.getD o undef = .int .u32 (n : Int) := by
  rw [u32Cells] at h
  obtain ⟨n, hc, hw⟩ := reads_int1 Tryz.underlying30 h
  obtain ⟨h0, h1⟩ := bounds_u32 hw
  obtain ⟨m, rfl⟩ := Int.eq_ofNat_of_zero_le h0
  exact ⟨m, by omega, one_take hc⟩
set_option maxRecDepth 100000 in
theorem ins_value {w : World} {v : Value} (h : ReadsC w 32 v.cells.toList ∧ Value.okWide Tryz.prog w .any 0 32 v) : ∃ i : Ins, i.ok ∧ v = i.val := by
  obtain ⟨cs, rfl, _⟩ := Go.WideShapes.okWide_struct Tryz.underlying32 h.2
  obtain ⟨hl, hf⟩ := reads_struct Tryz.underlying32 h.1
  rw [insCells] at hl
  obtain ⟨op, h0, e0⟩ := reads_u8 (hf 0 _ rfl)
  obtain ⟨a, h1, e1⟩ := reads_u8 (hf 1 _ rfl)
  obtain ⟨b, h2, e2⟩ := reads_u16 (hf 2 _ rfl)
  obtain ⟨c, h3, e3⟩ := reads_u32 (hf 3 _ rfl)
  refine ⟨⟨op, a, b, c⟩, ⟨h0, h1, h2, h3⟩, ?_⟩
  unfold Ins.val
  congr 1
  apply Array.toList_inj.1
  generalize hcs : (Value.agg cs).cells.toList = l at *
  have hcl : cs.toList = l := hcs
  rw [hcl]
  match l, hl with
  | [x0, x1, x2, x3], _ =>
    have g0 : x0 = _ := e0
    have g1 : x1 = _ := e1
    have g2 : x2 = _ := e2
    have g3 : x3 = _ := e3
    subst g0 g1 g2 g3
    rfl
def strB (X : Nat → Nat) (n : Nat) : ByteArray := strOfNums ((List.range n).map fun i => ((X i : Nat) : Int))
theorem strB_congr {X Y : Nat → Nat} {n : Nat} (h : ∀ i, i < n → X i = Y i) : strB X n = strB Y n := by
  unfold strB
  congr 1
  apply List.map_congr_left
  intro i hi
  rw [h i (by simpa using hi)]
theorem str_at {w : World} {b off n : Nat} {X : Nat → Nat} (c : Nat) (hc : ∀ i, i < n → w.cell? ⟨b, off + i, none⟩ = some (bV X i)) : (convert 42 9 (.slice (some ⟨b, off, none⟩) n c)).run Tryz.prog w = .ok (.string (strB X n)) w :=
  run_convert_bytes_arg w _ _ Tryz.underlying42 Tryz.underlying5 b off n c _ (by simp) (fun i hi => by rw [hc i hi]; simp [bV, hi]) _ Tryz.underlying9
theorem slice_all (w : World) (g : Nat) : (Instr.sliceAt 76 (.pointer (some ⟨g, 0, none⟩)) none none none).run Tryz.prog w = .ok (.slice (some ⟨g, 0, none⟩) 8 8) w := by kernel_rfl
end Go.Proofs.YtalmgjeiopjhlaaGreatDoor
