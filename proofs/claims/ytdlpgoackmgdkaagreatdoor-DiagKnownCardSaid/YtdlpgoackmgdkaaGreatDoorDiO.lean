/- two, works. -/
import Derived.Test.YtdlpgoackmgdkaaGreatDoorDiN
namespace Go.Proofs.YtdlpgoackmgdkaaGreatDoor
open Go.RowKit Go.Shelf
set_option linter.unusedVariables false
set_option linter.unusedSimpArgs false
set_option maxHeartbeats 4000000 in
theorem two_any29 (w : World) : Calls Tryz.prog 22 #[] w fun e w' => (∃ a, e = .returned (.agg #[.slice a 2 2, .int .u32 16, .int .i64 2, .int .i64 1]) ∧ IlAt w' a [0, 3]) ∧ Below w.heap.size w w' := by
  go_enter Tryz.func22, Tryz.ntmps22
  go_upto_region 1 with fail
  go_wp2_with fail
  have z0 : (w.alloc (.cells #[.slice (some ⟨w.heap.size + 1, 0, none⟩) 2 2, .int .u32 16, .int .i64 2, .int .i64 1] 44)).heap.size = w.heap.size + 1 := Array.size_push _
  obtain ⟨w1, hw1⟩ : ∃ x, x = (w.alloc (.cells #[.slice (some ⟨w.heap.size + 1, 0, none⟩) 2 2, .int .u32 16, .int .i64 2, .int .i64 1] 44)).alloc (.cells #[.int .i64 0, .int .i64 3] 3) := ⟨_, rfl⟩
  have B1 : Below w.heap.size w w1 := by rw [hw1]; exact (alloc_below w _).trans ((alloc_below _ _).mono (by rw [z0]; omega))
  have P1 : w1.heap[w.heap.size]? = some (.cells #[.slice (some ⟨w.heap.size + 1, 0, none⟩) 2 2, .int .u32 16, .int .i64 2, .int .i64 1] 44 (0, 0)) := by rw [hw1]; exact kept (heap_alloc_new _ _) (alloc_below _ _)
  have R1 : w1.heap[w.heap.size + 1]? = some (.cells #[.int .i64 0, .int .i64 3] 3 (0, 0)) := by
    have h := heap_alloc_new (w.alloc (.cells #[.slice (some ⟨w.heap.size + 1, 0, none⟩) 2 2, .int .u32 16, .int .i64 2, .int .i64 1] 44)) (.cells #[.int .i64 0, .int .i64 3] 3)
    rw [z0] at h
    rw [hw1]; exact h
  rw [← hw1]
  have q0 := cell_row (j := 0) P1 rfl
  have q1 := cell_row (j := 1) P1 rfl
  have q2 := cell_row (j := 2) P1 rfl
  have q3 := cell_row (j := 3) P1 rfl
  refine ⟨rfl, .agg #[.slice (some ⟨w.heap.size + 1, 0, none⟩) 2 2, .int .u32 16, .int .i64 2, .int .i64 1], by simp [results, Tryz.f22, go_sem, q0, q1, q2, q3], ⟨_, rfl, .inr ⟨_, 0, rfl, heap_lt R1, fun i hi j hj => ?_⟩⟩, B1⟩
  obtain rfl : j = 0 := by omega
  match i, hi with
  | 0, _ => exact cell_row (j := 0) R1 rfl
  | 1, _ => exact cell_row (j := 1) R1 rfl
  | n + 2, h => exact absurd h (by simp)
def lgTwo : LG := lgOf [0, 3] 16 2 1
theorem may_two : mayD [0, 3] 16 2 1 = true := by decide
def fW (i j : Nat) : Nat := match i with | 0 => 0 | 1 => if j = 0 then 5 else 0 | 2 => if j = 0 then 5 else if j = 3 then 7 else 0 | _ => if j = 0 then 6 else if j = 3 then 7 else 0
theorem fW_lt (i j : Nat) : fW i j < 4294967296 := by unfold fW; split <;> (try split) <;> (try split) <;> omega
theorem all_two : allC lgTwo.ins fW 4 = [(0, 5), (1, 7), (0, 6)] := by decide
theorem two_ok : lgTwo.Ok := (mayD_ok may_two).1
theorem tells_two : wordD (lgTwo.runD fW 4) 0 = 3 ∧ kOf 2 (lgTwo.runD fW 4) = 2 ∧ chs 2 2 (lgTwo.runD fW 4) = [(1, 7), (0, 6)] ∧ chsOk 2 2 (lgTwo.runD fW 4) = true := by
  have h := run_tells two_ok fW fW_lt (k := 4) (by decide)
  rw [all_two] at h
  exact h
def frW : Array Value := ((List.range 64).map fun p => Value.int .u32 (fW (p / 16) (p % 16) : Int)).toArray
theorem frW_get {i j : Nat} (hi : i < 4) (hj : j < 16) : frW[i * 16 + j]? = some (.int .u32 (fW i j : Int)) := by
  unfold frW
  rw [List.getElem?_toArray, List.getElem?_map, List.getElem?_range (by omega)]
  show some (Value.int .u32 ((fW ((i * 16 + j) / 16) ((i * 16 + j) % 16) : Nat) : Int)) = _
  rw [show (i * 16 + j) / 16 = i by omega, show (i * 16 + j) % 16 = j by omega]
theorem frW_at {w : World} {b : Nat} (h : w.heap[b]? = some (.cells frW 46 (0, 0))) : FrAt w (some ⟨b, 0, none⟩) 4 fW :=
  .inr ⟨b, 0, rfl, heap_lt h, fun i hi j hj => by rw [Nat.zero_add]; exact cell_row h (frW_get hi hj)⟩
set_option maxRecDepth 100000 in
set_option maxHeartbeats 4000000 in
theorem works29_any (w : World) (hL : LibW w) : Calls Tryz.prog 25 #[] w fun e w' => e = .returned (.bool true) ∧ Below w.heap.size w w' := by
  have HL := Lib.hid hL
  clear hL
  have HP := Lib.hid (two_any29 w)
  go_enter Tryz.func25, Tryz.ntmps25
  go_wp2_with fail
  refine HP.out.mono ?_
  rintro e w2 ⟨⟨a, rfl, hp⟩, hb⟩
  have B2 := Lib.hid hb
  have HI := Lib.hid hp
  clear hp hb HP
  obtain ⟨w3, hw3⟩ : ∃ x, x = w2.alloc (.cells frW 46) := ⟨_, rfl⟩
  have b3 : Below w2.heap.size w2 w3 := by rw [hw3]; exact alloc_below _ _
  have B3 : Hid (Below w.heap.size w w3) := B2.out.trans (b3.mono B2.out.size)
  have HR := Lib.hid (runs_any [0, 3] a 2 16 2 1 (some ⟨w2.heap.size, 0, none⟩) 4 4 fW w3 (HI.out.below b3) (by decide) (by decide) may_two (by rw [hw3]; exact frW_at (heap_alloc_new _ _)) fW_lt (by decide) (HL.out.below B3.out))
  have HW3 := Lib.hid hw3
  clear hw3 b3 HI B2
  go_wp2_with fail
  change Calls _ _ _ (w2.alloc (.cells frW 46)) _
  rw [← HW3.out]
  clear HW3
  refine HR.out.mono ?_
  rintro e w4 ⟨⟨db, rfl, hrow, _⟩, hb⟩
  have HD := Lib.hid (row_db hrow)
  have B4 : Hid (Below w.heap.size w w4) := B3.out.trans (hb.mono B3.out.size)
  have HP := Lib.hid (two_any29 w4)
  clear hrow hb HR B3
  go_wp2_with fail
  refine HP.out.mono ?_
  rintro e w5 ⟨⟨a5, rfl, hp⟩, hb⟩
  have B5 : Hid (Below w.heap.size w w5) := B4.out.trans (hb.mono B4.out.size)
  have HR := Lib.hid (read_any [0, 3] a5 2 16 2 1 (some ⟨db, 0, none⟩) 28 28 _ w5 hp (by decide) (by decide) may_two (HD.out.below hb) ((lgOf [0, 3] 16 2 1).runD_lt fW 4) (by decide) (by decide) (by decide))
  clear hp hb HP B4 HD
  go_wp2_with fail
  refine HR.out.mono ?_
  rintro e w6 ⟨hr, hb⟩
  have B6 : Hid (Below w.heap.size w w6) := B5.out.trans (hb.mono B5.out.size)
  obtain ⟨t1, t2, t3, t4⟩ := tells_two
  have hr2 : if chsOk 2 2 (lgTwo.runD fW 4) then ∃ a c, e = .returned (.tuple #[.slice a (kOf 2 (lgTwo.runD fW 4)) c, .int .u32 (wordD (lgTwo.runD fW 4) 0 : Int), .int .i64 0]) ∧ ChAt w6 a [0, 3] (chs 2 2 (lgTwo.runD fW 4))
    else e = .returned (.tuple #[.slice none 0 0, .int .u32 0, .int .i64 42]) := hr
  rw [t4, if_pos rfl, t1, t2, t3] at hr2
  obtain ⟨a6, c6, rfl, hc6⟩ := hr2
  obtain ⟨w7, hw7⟩ : ∃ x, x = w6.alloc (.cells #[.int .i64 3, .int .u32 7, .int .i64 0, .int .u32 6] 127) := ⟨_, rfl⟩
  have b7 : Below w6.heap.size w6 w7 := by rw [hw7]; exact alloc_below _ _
  have B7 : Hid (Below w.heap.size w w7) := B6.out.trans (b7.mono B6.out.size)
  have K7 : w7.heap[w6.heap.size]? = some (.cells #[.int .i64 3, .int .u32 7, .int .i64 0, .int .u32 6] 127 (0, 0)) := by rw [hw7]; exact heap_alloc_new _ _
  have HS := Lib.hid (same29_any [0, 3] [(1, 7), (0, 6)] a6 (some ⟨w6.heap.size, 0, none⟩) c6 2 2 w7 rfl (SliceN.below hc6 b7) (.inr ⟨_, 0, rfl, heap_lt K7, fun i hi j hj => by
    match i, hi, j, hj with
    | 0, _, 0, _ => exact cell_row (j := 0) K7 rfl
    | 0, _, 1, _ => exact cell_row (j := 1) K7 rfl
    | 1, _, 0, _ => exact cell_row (j := 2) K7 rfl
    | 1, _, 1, _ => exact cell_row (j := 3) K7 rfl
    | n + 2, h, _, _ => exact absurd h (by simp)
    | _, _, n + 2, h => omega⟩) (by decide))
  have HW7 := Lib.hid hw7
  clear hr hb HR B5 hw7 b7 K7 hc6 t1 t2 t3 t4 B6
  go_wp2_with fail
  rw [← HW7.out]
  clear HW7
  refine HS.out.mono ?_
  rintro e w8 ⟨rfl, hb⟩
  have B8 : Hid (Below w.heap.size w w8) := B7.out.trans (hb.mono B7.out.size)
  clear hb HS B7
  go_wp2_with fail
  go_ret
  exact ⟨rfl, B8.out⟩
end Go.Proofs.YtdlpgoackmgdkaaGreatDoor
