/- The walk of HealthTable: without a row that makes the system safe it never is; a partition with a limit is restarted at most so often. -/
import Derived.Test.YtfbbmapihgepmaaHeaTable
namespace Go.Proofs.Ytfbbmapihgepmaa
open Go.RowKit
set_option linter.unusedVariables false
theorem slotCells : Try.prog.cellsOf 48 = 3 := by kernel_rfl
theorem doCells : Try.prog.cellsOf 39 = 6 := by kernel_rfl
theorem resCells : Try.prog.cellsOf 37 = 4 := by kernel_rfl
theorem u8Cells : Try.prog.cellsOf 5 = 1 := by kernel_rfl
theorem intCells : Try.prog.cellsOf 3 = 1 := by kernel_rfl
theorem u32Cells : Try.prog.cellsOf 35 = 1 := by kernel_rfl
theorem reads_u8 {w : World} {cs : List Value} {o : Nat} (h : ReadsC w 5 ((cs.drop o).take (Try.prog.cellsOf 5))) : ∃ n : Nat, n < 256 ∧ cs.getD o undef = .int .u8 (n : Int) := by
  rw [u8Cells] at h
  obtain ⟨n, hc, hw⟩ := reads_int1 Try.underlying5 h
  obtain ⟨h0, h1⟩ := bounds_u8 hw
  obtain ⟨m, rfl⟩ := Int.eq_ofNat_of_zero_le h0
  exact ⟨m, by omega, one_take hc⟩
theorem reads_u32 {w : World} {cs : List Value} {o : Nat} (h : ReadsC w 35 ((cs.drop o).take (Try.prog.cellsOf 35))) : ∃ n : Nat, n < 4294967296 ∧ cs.getD o undef = .int .u32 (n : Int) := by
  rw [u32Cells] at h
  obtain ⟨n, hc, hw⟩ := reads_int1 Try.underlying35 h
  obtain ⟨h0, h1⟩ := bounds_u32 hw
  obtain ⟨m, rfl⟩ := Int.eq_ofNat_of_zero_le h0
  exact ⟨m, by omega, one_take hc⟩
theorem reads_i64 {w : World} {cs : List Value} {o : Nat} (h : ReadsC w 3 ((cs.drop o).take (Try.prog.cellsOf 3))) : ∃ n : Int, -9223372036854775808 ≤ n ∧ n ≤ 9223372036854775807 ∧ cs.getD o undef = .int .i64 n := by
  rw [intCells] at h
  obtain ⟨n, hc, hw⟩ := reads_int1 Try.underlying3 h
  obtain ⟨h0, h1⟩ := bounds_i64 hw
  exact ⟨n, h0, h1, one_take hc⟩
theorem reads_def {w : World} {cs : List Value} (h : ReadsC w 48 cs) : ∃ d : HDef, d.trap < 256 ∧ d.over < 256 ∧ d.lim < 256 ∧ ∀ j, j < 3 → cs.getD j undef = defV d j := by
  obtain ⟨_, hf⟩ := reads_struct Try.underlying48 h
  obtain ⟨t, h1, e1⟩ := reads_u8 (hf 0 _ rfl)
  obtain ⟨o, h2, e2⟩ := reads_u8 (hf 1 _ rfl)
  obtain ⟨l, h3, e3⟩ := reads_u8 (hf 2 _ rfl)
  refine ⟨{ trap := t, over := o, lim := l }, h1, h2, h3, fun j hj => ?_⟩
  match j, hj with
  | 0, _ => exact e1
  | 1, _ => exact e2
  | 2, _ => exact e3
instance : Inhabited HDef := ⟨{ trap := 0, over := 0, lim := 0 }⟩
theorem reads_defs {w : World} {a : Option Addr} {len cap : Nat} (h : ReadsC w 22 [.slice a len cap]) : len ≤ cap ∧ cap ≤ maxLen ∧ ∃ D, DefsAt w a len D := by
  obtain ⟨hl, hm, C, hs, hr⟩ := reads_sliceN Try.underlying22 slotCells (by omega) h
  obtain ⟨D, hD⟩ := choose_nat (α := HDef) (p := fun i d => d.trap < 256 ∧ d.over < 256 ∧ d.lim < 256 ∧ ∀ j, j < 3 → (C i).getD j undef = defV d j) (fun i hi => reads_def (hr i hi).2)
  exact ⟨hl, hm, D, hs.congr fun i hi j hj => (hD i hi).2.2.2 j hj, fun i hi => ⟨(hD i hi).1, (hD i hi).2.1, (hD i hi).2.2.1⟩⟩
/-- A call of a script. -/
structure DoRec where
  kind : Int
  part : Int
  rk : Nat
  rt : Nat
  used : Nat
  pc : Nat
instance : Inhabited DoRec := ⟨{ kind := 0, part := 0, rk := 0, rt := 0, used := 0, pc := 0 }⟩
def doV (d : DoRec) (j : Nat) : Value :=
  if j = 0 then .int .i64 d.kind else if j = 1 then .int .i64 d.part else if j = 2 then .int .u8 (d.rk : Int) else if j = 3 then .int .u8 (d.rt : Int) else if j = 4 then .int .u32 (d.used : Int) else .int .u32 (d.pc : Int)
def DosAt (w : World) (a : Option Addr) (len : Nat) (L : Nat → DoRec) : Prop :=
  SliceN w a len 6 (fun i j => doV (L i) j) ∧ ∀ i, i < len → (-9223372036854775808 ≤ (L i).kind ∧ (L i).kind ≤ 9223372036854775807) ∧ (-9223372036854775808 ≤ (L i).part ∧ (L i).part ≤ 9223372036854775807) ∧ (L i).rk < 256
theorem DosAt.below {w w' : World} {a : Option Addr} {len : Nat} {L : Nat → DoRec} (h : DosAt w a len L) (hb : Below w.heap.size w w') : DosAt w' a len L := ⟨h.1.below hb, h.2⟩
theorem reads_do {w : World} {cs : List Value} (h : ReadsC w 39 cs) : ∃ d : DoRec, ((-9223372036854775808 ≤ d.kind ∧ d.kind ≤ 9223372036854775807) ∧ (-9223372036854775808 ≤ d.part ∧ d.part ≤ 9223372036854775807) ∧ d.rk < 256) ∧ ∀ j, j < 6 → cs.getD j undef = doV d j := by
  obtain ⟨hlen, hf⟩ := reads_struct Try.underlying39 h
  obtain ⟨k, k0, k1, e0⟩ := reads_i64 (hf 0 _ rfl)
  obtain ⟨p, p0, p1, e1⟩ := reads_i64 (hf 1 _ rfl)
  obtain ⟨_, hg⟩ := reads_struct Try.underlying37 (hf 2 _ rfl)
  obtain ⟨r0, h0, f0⟩ := reads_u8 (hg 0 _ rfl)
  obtain ⟨r1, h1, f1⟩ := reads_u8 (hg 1 _ rfl)
  obtain ⟨r2, h2, f2⟩ := reads_u32 (hg 2 _ rfl)
  obtain ⟨r3, h3, f3⟩ := reads_u32 (hg 3 _ rfl)
  have hget : ∀ o, o < 4 → (((cs.drop 2).take (Try.prog.cellsOf 37)).getD o undef) = cs.getD (2 + o) undef := by
    intro o ho
    rw [resCells]
    simp [List.getD_eq_getElem?_getD, ho]
  refine ⟨{ kind := k, part := p, rk := r0, rt := r1, used := r2, pc := r3 }, ⟨⟨k0, k1⟩, ⟨p0, p1⟩, h0⟩, fun j hj => ?_⟩
  match j, hj with
  | 0, _ => exact e0
  | 1, _ => exact e1
  | 2, _ => exact (hget 0 (by omega)).symm.trans f0
  | 3, _ => exact (hget 1 (by omega)).symm.trans f1
  | 4, _ => exact (hget 2 (by omega)).symm.trans f2
  | 5, _ => exact (hget 3 (by omega)).symm.trans f3
theorem reads_dos {w : World} {a : Option Addr} {len cap : Nat} (h : ReadsC w 23 [.slice a len cap]) : len ≤ cap ∧ cap ≤ maxLen ∧ ∃ L, DosAt w a len L := by
  obtain ⟨hl, hm, C, hs, hr⟩ := reads_sliceN Try.underlying23 doCells (by omega) h
  obtain ⟨D, hD⟩ := choose_nat (α := DoRec) (p := fun i d => ((-9223372036854775808 ≤ d.kind ∧ d.kind ≤ 9223372036854775807) ∧ (-9223372036854775808 ≤ d.part ∧ d.part ≤ 9223372036854775807) ∧ d.rk < 256) ∧ ∀ j, j < 6 → (C i).getD j undef = doV d j) (fun i hi => reads_do (hr i hi).2)
  exact ⟨hl, hm, D, hs.congr fun i hi j hj => (hD i hi).2 j hj, fun i hi => (hD i hi).1⟩
end Go.Proofs.Ytfbbmapihgepmaa
