/- A frame's definition that comes in: what can be read of it. -/
import Derived.Test.YthbieplfphignaaFraKnown
namespace Go.Proofs.Ythbieplfphignaa
open Go.RowKit Go.Shelf
set_option linter.unusedVariables false
theorem slotCells : Try.prog.cellsOf 39 = 3 := by kernel_rfl
theorem intCells : Try.prog.cellsOf 3 = 1 := by kernel_rfl
theorem u32Cells : Try.prog.cellsOf 22 = 1 := by kernel_rfl
theorem reads_u32 {w : World} {cs : List Value} {o : Nat} (h : ReadsC w 22 ((cs.drop o).take (Try.prog.cellsOf 22))) : ∃ n : Nat, n < 4294967296 ∧ cs.getD o undef = .int .u32 (n : Int) := by
  rw [u32Cells] at h
  obtain ⟨n, hc, hw⟩ := reads_int1 Try.underlying22 h
  obtain ⟨h0, h1⟩ := bounds_u32 hw
  obtain ⟨m, rfl⟩ := Int.eq_ofNat_of_zero_le h0
  exact ⟨m, by omega, one_take hc⟩
theorem reads_i64 {w : World} {cs : List Value} {o : Nat} (h : ReadsC w 3 ((cs.drop o).take (Try.prog.cellsOf 3))) : ∃ n : Int, -9223372036854775808 ≤ n ∧ n ≤ 9223372036854775807 ∧ cs.getD o undef = .int .i64 n := by
  rw [intCells] at h
  obtain ⟨n, hc, hw⟩ := reads_int1 Try.underlying3 h
  obtain ⟨h0, h1⟩ := bounds_i64 hw
  exact ⟨n, h0, h1, one_take hc⟩
theorem reads_slot {w : World} {cs : List Value} (h : ReadsC w 39 cs) : ∃ s : SlotR, s.ok ∧ ∀ j, j < 3 → cs.getD j undef = slotV s j := by
  obtain ⟨_, hf⟩ := reads_struct Try.underlying39 h
  obtain ⟨p, p0, p1, e1⟩ := reads_i64 (hf 0 _ rfl)
  obtain ⟨s, h2, e2⟩ := reads_u32 (hf 1 _ rfl)
  obtain ⟨b, h3, e3⟩ := reads_u32 (hf 2 _ rfl)
  refine ⟨{ part := p, start := s, budget := b }, ⟨⟨p0, p1⟩, h2, h3⟩, fun j hj => ?_⟩
  match j, hj with
  | 0, _ => exact e1
  | 1, _ => exact e2
  | 2, _ => exact e3
theorem reads_slots {w : World} {a : Option Addr} {len cap : Nat} (h : ReadsC w 23 [.slice a len cap]) : len ≤ cap ∧ cap ≤ maxLen ∧ ∃ S, SlotsAt w a len S := by
  obtain ⟨hl, hm, C, hs, hr⟩ := reads_sliceN Try.underlying23 slotCells (by omega) h
  obtain ⟨D, hD⟩ := choose_nat (α := SlotR) (p := fun i d => d.ok ∧ ∀ j, j < 3 → (C i).getD j undef = slotV d j) (fun i hi => reads_slot (hr i hi).2)
  refine ⟨hl, hm, fun i => if i < len then D i else default, hs.congr fun i hi j hj => ?_, fun i => ?_⟩
  · simp only [if_pos hi]; exact (hD i hi).2 j hj
  · by_cases hi : i < len
    · simp only [if_pos hi]; exact (hD i hi).1
    · simp only [if_neg hi]; exact ⟨by decide, by decide, by decide⟩

theorem slcCells : Try.prog.cellsOf 23 = 1 := by kernel_rfl
theorem defCells : Try.prog.cellsOf 25 = 3 := by kernel_rfl
theorem slice_of {w : World} {x : Value} (h : ReadsC w 23 [x]) : ∃ a len cap, x = .slice a len cap := by
  obtain ⟨H, enc, m, y, hf⟩ := h
  rcases Go.Deep.open_slice Try.underlying23 hf with ⟨hcs, _⟩ | ⟨p, l, c, m', n, D, Pl, hcs, _⟩
  · simp at hcs; exact ⟨_, _, _, hcs⟩
  · simp at hcs; exact ⟨_, _, _, hcs⟩
theorem reads_frame {w : World} {cs : List Value} (h : ReadsC w 25 cs) :
    ∃ (L sw : Nat) (a : Option Addr) (len cap : Nat) (S : Nat → SlotR), cs = [.int .u32 (L : Int), .int .u32 (sw : Int), .slice a len cap] ∧ L < 4294967296 ∧ sw < 4294967296 ∧ len ≤ cap ∧ cap ≤ maxLen ∧ SlotsAt w a len S := by
  obtain ⟨hl, hf⟩ := reads_struct Try.underlying25 h
  rw [defCells] at hl
  obtain ⟨L, h1, e1⟩ := reads_u32 (hf 0 _ rfl)
  obtain ⟨sw, h2, e2⟩ := reads_u32 (hf 1 _ rfl)
  have h3 := hf 2 _ rfl
  match cs, hl with
  | [x, y, z], _ =>
    have h4 : ReadsC w 23 [z] := h3
    obtain ⟨a, len, cap, rfl⟩ := slice_of h4
    obtain ⟨k1, k2, S, hS⟩ := reads_slots h4
    have e1' : x = .int .u32 (L : Int) := e1
    have e2' : y = .int .u32 (sw : Int) := e2
    subst e1' e2'
    exact ⟨L, sw, a, len, cap, S, rfl, h1, h2, k1, k2, hS⟩
end Go.Proofs.Ythbieplfphignaa
