/- What can be read of lines and of instructions; great. -/
import Derived.Test.YtalmgjeiopjhlaaGreatDoorAsmCD
import Derived.Test.YtalmgjeiopjhlaaGreatDoorIsaBack
namespace Go.Proofs.YtalmgjeiopjhlaaGreatDoor
open Go.Shelf Go.RowKit
set_option linter.unusedVariables false
set_option linter.unusedSimpArgs false
theorem strCells : Tryz.prog.cellsOf 9 = 1 := by kernel_rfl
theorem alCells : Tryz.prog.cellsOf 34 = 6 := by kernel_rfl
theorem reads_str {w : World} {cs : List Value} {o : Nat} (h : ReadsC w 9 ((cs.drop o).take (Tryz.prog.cellsOf 9))) : ∃ s : ByteArray, s.size ≤ 9223372036854775807 ∧ cs.getD o undef = .string s := by
  rw [strCells] at h
  obtain ⟨s, hc, hs⟩ := reads_string1 Tryz.underlying9 h
  exact ⟨s, by unfold maxLen at hs; exact hs, one_take hc⟩
theorem reads_ins {w : World} {cs : List Value} (h : ReadsC w 32 cs) : cs.length = 4 ∧ ∃ i : Ins, i.ok ∧ ∀ j, j < 4 → cs.getD j undef = (insC i).getD j undef := by
  obtain ⟨hl, hf⟩ := reads_struct Tryz.underlying32 h
  rw [insCells] at hl
  obtain ⟨op, h0, e0⟩ := reads_u8 (hf 0 _ rfl)
  obtain ⟨a, h1, e1⟩ := reads_u8 (hf 1 _ rfl)
  obtain ⟨b, h2, e2⟩ := reads_u16 (hf 2 _ rfl)
  obtain ⟨c, h3, e3⟩ := reads_u32 (hf 3 _ rfl)
  refine ⟨hl, ⟨op, a, b, c⟩, ⟨h0, h1, h2, h3⟩, fun j hj => ?_⟩
  match j, hj with
  | 0, _ => exact e0
  | 1, _ => exact e1
  | 2, _ => exact e2
  | 3, _ => exact e3
theorem getD_drop {cs : List Value} {o j : Nat} (n : Nat) (hj : j < n) (h : o + n ≤ cs.length) : ((cs.drop o).take n).getD j undef = cs.getD (o + j) undef := by
  rw [List.getD_eq_getElem?_getD, List.getD_eq_getElem?_getD, List.getElem?_take, if_pos hj, List.getElem?_drop]
theorem reads_al {w : World} {cs : List Value} (h : ReadsC w 34 cs) : ∃ x : AL, x.ok ∧ ∀ j, j < 6 → cs.getD j undef = (alC x).getD j undef := by
  obtain ⟨hl, hf⟩ := reads_struct Tryz.underlying34 h
  rw [alCells] at hl
  obtain ⟨lab, h0, e0⟩ := reads_str (hf 0 _ rfl)
  have hi : ReadsC w 32 ((cs.drop 1).take (Tryz.prog.cellsOf 32)) := hf 1 _ rfl
  rw [insCells] at hi
  obtain ⟨_, i, hok, hij⟩ := reads_ins hi
  obtain ⟨tgt, h5, e5⟩ := reads_str (hf 2 _ rfl)
  have g : ∀ j, j < 4 → cs.getD (1 + j) undef = (insC i).getD j undef := fun j hj => by
    rw [← hij j hj]; exact (getD_drop 4 hj (by omega)).symm
  refine ⟨⟨lab, i, tgt⟩, ⟨hok, h0, h5⟩, fun j hj => ?_⟩
  match j, hj with
  | 0, _ => exact e0
  | 1, _ => exact g 0 (by omega)
  | 2, _ => exact g 1 (by omega)
  | 3, _ => exact g 2 (by omega)
  | 4, _ => exact g 3 (by omega)
  | 5, _ => exact e5
instance : Inhabited AL := ⟨al0⟩
instance : Inhabited Ins := ⟨noIns⟩
theorem reads_als {w : World} {a : Option Addr} {len cap : Nat} (h : ReadsC w 22 [.slice a len cap]) : len ≤ cap ∧ cap ≤ maxLen ∧ ∃ ls : List AL, ls.length = len ∧ AlsAt w a ls ∧ ∀ i, i < ls.length → (ls.getD i al0).ok := by
  obtain ⟨hl, hm, C, hs, hr⟩ := reads_sliceN Tryz.underlying22 alCells (by omega) h
  obtain ⟨D, hD⟩ := choose_nat (α := AL) (p := fun i d => d.ok ∧ ∀ j, j < 6 → (C i).getD j undef = (alC d).getD j undef) (fun i hi => reads_al (hr i hi).2)
  obtain ⟨ls, hll, hle⟩ := list_of len D al0
  subst hll
  exact ⟨hl, hm, ls, rfl, hs.congr fun i hi j hj => by unfold alV; rw [hle i hi]; exact (hD i hi).2 j hj, fun i hi => by rw [hle i hi]; exact (hD i hi).1⟩
theorem reads_inss {w : World} {a : Option Addr} {len cap : Nat} (h : ReadsC w 25 [.slice a len cap]) : len ≤ cap ∧ cap ≤ maxLen ∧ ∃ ls : List Ins, ls.length = len ∧ InsAt w a ls ∧ ∀ i, i < ls.length → (ls.getD i noIns).ok := by
  obtain ⟨hl, hm, C, hs, hr⟩ := reads_sliceN Tryz.underlying25 insCells (by omega) h
  obtain ⟨D, hD⟩ := choose_nat (α := Ins) (p := fun i d => d.ok ∧ ∀ j, j < 4 → (C i).getD j undef = (insC d).getD j undef) (fun i hi => (reads_ins (hr i hi).2).2)
  obtain ⟨ls, hll, hle⟩ := list_of len D noIns
  subst hll
  exact ⟨hl, hm, ls, rfl, hs.congr fun i hi j hj => by unfold insV; rw [hle i hi]; exact (hD i hi).2 j hj, fun i hi => by rw [hle i hi]; exact (hD i hi).1⟩
def GreatP (n : Nat) (w : World) (e : Ending) (w' : World) : Prop := ∃ b : Bool, e = .returned (.bool b) ∧ (b = false → n ≤ 3000) ∧ Below w.heap.size w w'
set_option maxRecDepth 100000 in
set_option maxHeartbeats 2000000 in
theorem great_any (ls : List AL) (a : Option Addr) (c : Nat) (w : World) (hA : AlsAt w a ls) (hok : ∀ i, i < ls.length → (ls.getD i al0).ok) (hm : ls.length ≤ 9223372036854775807) :
    Calls Tryz.prog 9 #[.slice a ls.length c] w fun e w' => GreatP ls.length w e w' := by
  have HA := Lib.hid hA; have HOKS := Lib.hid hok
  clear hA hok
  generalize hn : ls.length = n at *
  go_enter Tryz.func9, Tryz.ntmps9
  go_wp2_with fail
  go_loopw [3, 8] (fun v i wr => ∃ k m : Nat, k ≤ n ∧ v = .int .i64 (m : Int) ∧ i = .int .i64 (k : Int) ∧ k ≤ m ∧ m ≤ 3000 ∧ Hid (Below w.heap.size w wr)) (fun _ i _ => n - (intOf i).toNat)
  case atStart => exact ⟨0, 0, Nat.zero_le _, rfl, rfl, Nat.le_refl _, by omega, Below.refl _ _⟩
  case round =>
    obtain ⟨k, m, hk, rfl, rfl, hkm, hm3, HB⟩ := hrel
    rcases Nat.lt_or_ge k n with hk2 | hk2
    case inr =>
      obtain rfl : k = n := by omega
      have t2 : decide ((k : Int) < (k : Int)) = false := by simp
      go_wp2_with fail
      go_ret
      exact ⟨false, rfl, fun _ => by omega, HB.out⟩
    have t2 : decide ((k : Int) < (n : Int)) = true := decide_eq_true (by omega)
    obtain ⟨b, off, rfl, hb, hc⟩ := HA.out.at (by omega)
    have a0 : wr.cell? ⟨b, off + k * 6, none⟩ = some (.string (ls.getD k al0).lab) := (HB.out.cell hb).trans (hc k (by omega) 0 (by omega))
    have a1 : wr.cell? ⟨b, off + k * 6 + 1, none⟩ = some (.int .u8 ((ls.getD k al0).i.op : Int)) := (HB.out.cell hb).trans (hc k (by omega) 1 (by omega))
    have a2 : wr.cell? ⟨b, off + k * 6 + 2, none⟩ = some (.int .u8 ((ls.getD k al0).i.a : Int)) := (HB.out.cell hb).trans (hc k (by omega) 2 (by omega))
    have a3 : wr.cell? ⟨b, off + k * 6 + 3, none⟩ = some (.int .u16 ((ls.getD k al0).i.b : Int)) := (HB.out.cell hb).trans (hc k (by omega) 3 (by omega))
    have a4 : wr.cell? ⟨b, off + k * 6 + 4, none⟩ = some (.int .u32 ((ls.getD k al0).i.c : Int)) := (HB.out.cell hb).trans (hc k (by omega) 4 (by omega))
    have a5 : wr.cell? ⟨b, off + k * 6 + 5, none⟩ = some (.string (ls.getD k al0).tgt) := (HB.out.cell hb).trans (hc k (by omega) 5 (by omega))
    have HO := Lib.hid (HOKS.out k hk2)
    clear hc
    have hl1 := HO.out.lab
    have hl2 := HO.out.tgt
    generalize (ls.getD k al0) = x at *
    obtain ⟨lab, ⟨op, ia, ib, ic⟩, tgt⟩ := x
    simp only at a0 a1 a2 a3 a4 a5 hl1 hl2
    have B0 : Hid (Below w.heap.size w (wr.alloc (.cells #[.string lab, .int .u8 (op : Int), .int .u8 (ia : Int), .int .u16 (ib : Int), .int .u32 (ic : Int), .string tgt] 34))) := HB.out.alloc HB.out.size _
    generalize hL : lab.size = L at *
    generalize hT : tgt.size = T at *
    go_upto_region 6 with fail
    obtain ⟨q, hq, hq1⟩ : ∃ q : Nat, ((m : Int) + (1 + (min (L : Int) 65536 + min (T : Int) 65536) / 32)) = (q : Int) ∧ m + 1 ≤ q := ⟨((m : Int) + (1 + (min (L : Int) 65536 + min (T : Int) 65536) / 32)).toNat, by omega, by omega⟩
    rw [hq]
    clear hq
    generalize wr.alloc (.cells #[.string lab, .int .u8 (op : Int), .int .u8 (ia : Int), .int .u16 (ib : Int), .int .u32 (ic : Int), .string tgt] 34) = w1 at *
    by_cases hbig : 3000 < q
    · have t3 : decide ((3000 : Int) < (q : Int)) = true := decide_eq_true (by omega)
      go_wp2_with fail
      go_ret
      exact ⟨true, rfl, (fun h => by cases h), B0.out⟩
    · have t3 : decide ((3000 : Int) < (q : Int)) = false := decide_eq_false (by omega)
      go_wp2_with fail
      refine ⟨⟨k + 1, q, by omega, rfl, by go_num, by omega, by omega, B0⟩, ?_⟩
      simp [intOf]; omega
end Go.Proofs.YtalmgjeiopjhlaaGreatDoor
