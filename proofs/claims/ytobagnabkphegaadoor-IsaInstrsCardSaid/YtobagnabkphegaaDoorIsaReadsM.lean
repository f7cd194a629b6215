/- The walk of IsaReads. -/
import Derived.Test.YtobagnabkphegaaDoorIsaKn
namespace Go.Proofs.YtobagnabkphegaaDoor
open Go.RowKit
set_option linter.unusedVariables false
theorem u8Cells : Tryd.prog.cellsOf 5 = 1 := by kernel_rfl
/-- A slice of bytes. -/
theorem reads_bytes {w : World} {a : Option Addr} {len cap : Nat} (h : ReadsC w 22 [.slice a len cap]) : len ≤ cap ∧ cap ≤ maxLen ∧ ∃ X : Nat → Nat, SliceAt w a len (bV X) ∧ ∀ i, X i < 256 := by
  obtain ⟨l, hl, h1, h2, h3, h4⟩ := reads_ints Tryd.underlying22 Tryd.underlying5 u8Cells h
  refine ⟨h1, h2, fun i => if i < len then (l.getD i 0).toNat else 0, h3.congr fun i hi => ?_, fun i => ?_⟩
  · obtain ⟨k0, k1⟩ := bounds_u8 (h4 i hi)
    unfold intV bV
    simp only [if_pos hi]
    rw [Int.toNat_of_nonneg k0]
  · show (if i < len then (l.getD i 0).toNat else 0) < _
    by_cases hi : i < len
    · obtain ⟨k0, k1⟩ := bounds_u8 (h4 i hi)
      rw [if_pos hi]; omega
    · rw [if_neg hi]; omega
theorem Ins.eq_refl (i : Ins) : i.eq i = true := by unfold Ins.eq; simp
set_option maxHeartbeats 2000000 in
set_option maxRecDepth 100000 in
theorem reads_walk (a : Option Addr) (len cap : Nat) (w : World) (w0 : ReadsC w 22 [.slice a len cap]) :
    Calls Tryd.prog 3 #[.slice a len cap] w fun e w' => e = .returned (.bool true) ∧ Below w.heap.size w w' := by
  obtain ⟨b1, b2, X, hX, hl⟩ := reads_bytes w0
  unfold maxLen at b2
  clear w0
  have HX := Lib.hid hX
  have HL := Lib.hid hl
  have hm : len ≤ 9223372036854775807 := by omega
  clear hX hl
  go_enter Tryd.func3, Tryd.ntmps3
  go_wp2_with fail
  refine (known_any w).mono ?_
  rintro e w1 ⟨rfl, hb⟩
  have B1 := Lib.hid hb
  clear hb
  go_wp2_with fail
  refine (read_any a len cap X w1 (HX.out.below B1.out) HL.out hm b1).mono ?_
  rintro e w2 ⟨rfl, hb⟩
  have B2 : Hid (Below w.heap.size w w2) := B1.out.trans (hb.mono B1.out.size)
  have HEQ := fun W => equal_ins (readI len X) (readI len X) W
  rw [Ins.eq_refl] at HEQ
  have HR2 : Hid (∀ W, Below w.heap.size w W → Calls Tryd.prog 10 #[.slice a len cap] W (ReadPost len X W)) := fun W hW => rread_any a len cap X W (HX.out.below hW) HL.out hm b1
  unfold ReadPost at HR2
  unfold Ins.val at *
  generalize readI len X = i at *
  generalize readE len X = E at *
  have B3 : Hid (Below w.heap.size w (w2.alloc (.cells #[.int .u8 (i.op : Int), .int .u8 (i.a : Int), .int .u16 (i.b : Int), .int .u32 (i.c : Int)] 27))) := B2.out.alloc B2.out.size _
  have K3 : Hid ((w2.alloc (.cells #[.int .u8 (i.op : Int), .int .u8 (i.a : Int), .int .u16 (i.b : Int), .int .u32 (i.c : Int)] 27)).heap[w2.heap.size]? = some (.cells #[.int .u8 (i.op : Int), .int .u8 (i.a : Int), .int .u16 (i.b : Int), .int .u32 (i.c : Int)] 27 (0, 0))) := heap_alloc_new _ _
  clear hb B1
  go_wp2_with fail
  generalize w2.alloc _ = w3 at *
  generalize w2.heap.size = gi at *
  refine (HR2.out w3 B3.out).mono ?_
  rintro e w4 ⟨rfl, hb⟩
  have B4 : Hid (Below w.heap.size w w4) := B3.out.trans (hb.mono B3.out.size)
  have K4 := kept K3.out hb
  have z0 := cell_row (j := 0) K4 rfl
  have z1 := cell_row (j := 1) K4 rfl
  have z2 := cell_row (j := 2) K4 rfl
  have z3 := cell_row (j := 3) K4 rfl
  have z4 := heap_lt K4
  have T1 : (E == E) = true := by simp
  clear hb K4 HR2 K3 B3
  go_wp2_with fail
  go_ret
  exact ⟨rfl, B4.out.alloc B4.out.size _⟩
end Go.Proofs.YtobagnabkphegaaDoor
