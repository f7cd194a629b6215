/- DiagKnown: the document's examples; what may not be. -/
import Derived.Test.YtdlpgoackmgdkaaGreatDoorDiS
namespace Go.Proofs.YtdlpgoackmgdkaaGreatDoor
open Go.RowKit Go.Shelf
set_option linter.unusedVariables false
set_option linter.unusedSimpArgs false
set_option maxRecDepth 100000 in
set_option maxHeartbeats 4000000 in
theorem dbuild_bad (l : List Int) (ia : Option Addr) (ic base : Nat) (size port : Int) (w : World) (hA : IlAt w ia l) (hm : l.length ≤ 9223372036854775807) (hb0 : base < 4294967296) (hmay : mayD l base size port = false) :
    Calls Tryz.prog 24 #[.agg #[.slice ia l.length ic, .int .u32 (base : Int), .int .i64 size, .int .i64 port]] w fun e w' => e = .returned (.tuple #[.slice none 0 0, .int .i64 2]) ∧ Below w.heap.size w w' := by
  obtain ⟨w1, hw1⟩ : ∃ x, x = w.alloc (.cells #[.slice ia l.length ic, .int .u32 (base : Int), .int .i64 size, .int .i64 port] 44) := ⟨_, rfl⟩
  have B1 : Hid (Below w.heap.size w w1) := by rw [hw1]; exact alloc_below _ _
  have K1 : Hid (w1.heap[w.heap.size]? = some (.cells #[.slice ia l.length ic, .int .u32 (base : Int), .int .i64 size, .int .i64 port] 44 (0, 0))) := by rw [hw1]; exact heap_alloc_new _ _
  have HM0 := dbytes_any l ia ic base size port w1 (hA.below B1.out) hm hb0
  rw [hmay] at HM0
  have HM : Hid (Calls Tryz.prog 26 #[.agg #[.slice ia l.length ic, .int .u32 (base : Int), .int .i64 size, .int .i64 port]] w1 fun e w' => e = .returned (.int .i64 0) ∧ Below w1.heap.size w1 w') := HM0
  have HW1 := Lib.hid hw1
  generalize l.length = n at *
  clear hA hmay hw1 HM0
  have q0 := cell_row (j := 0) K1.out rfl
  have q1 := cell_row (j := 1) K1.out rfl
  have q2 := cell_row (j := 2) K1.out rfl
  have q3 := cell_row (j := 3) K1.out rfl
  go_enter Tryz.func24, Tryz.ntmps24
  go_upto_region 1 with fail
  rw [← HW1.out]
  clear HW1
  go_wp2_with fail
  refine HM.out.mono ?_
  rintro e w2 ⟨rfl, hb⟩
  have B2 : Hid (Below w.heap.size w w2) := B1.out.trans (hb.mono B1.out.size)
  clear HM hb
  go_wp2_with fail
  go_ret2
  exact ⟨rfl, B2.out⟩
def fZ (i j : Nat) : Nat := 0
theorem fZ_lt (i j : Nat) : fZ i j < 4294967296 := by unfold fZ; decide
theorem all_zero : allC lgTwo.ins fZ 1 = [] := by decide
theorem tells_zero : wordD (lgTwo.runD fZ 1) 0 = 0 ∧ kOf 2 (lgTwo.runD fZ 1) = 0 ∧ chs 2 2 (lgTwo.runD fZ 1) = [] ∧ chsOk 2 2 (lgTwo.runD fZ 1) = true := by
  have h := run_tells two_ok fZ fZ_lt (k := 1) (by decide)
  rw [all_zero] at h
  exact h
def frZ : Array Value := #[.int .u32 0, .int .u32 0, .int .u32 0, .int .u32 0, .int .u32 0, .int .u32 0, .int .u32 0, .int .u32 0, .int .u32 0, .int .u32 0, .int .u32 0, .int .u32 0, .int .u32 0, .int .u32 0, .int .u32 0, .int .u32 0]
theorem frZ_get {j : Nat} (hj : j < 16) : frZ[j]? = some (.int .u32 0) := by
  match j, hj with
  | 0, _ => rfl
  | 1, _ => rfl
  | 2, _ => rfl
  | 3, _ => rfl
  | 4, _ => rfl
  | 5, _ => rfl
  | 6, _ => rfl
  | 7, _ => rfl
  | 8, _ => rfl
  | 9, _ => rfl
  | 10, _ => rfl
  | 11, _ => rfl
  | 12, _ => rfl
  | 13, _ => rfl
  | 14, _ => rfl
  | 15, _ => rfl
  | n + 16, h => omega
theorem frZ_at {w : World} {b : Nat} (h : w.heap[b]? = some (.cells frZ 46 (0, 0))) : FrAt w (some ⟨b, 0, none⟩) 1 fZ :=
  .inr ⟨b, 0, rfl, heap_lt h, fun i hi j hj => by
    obtain rfl : i = 0 := by omega
    rw [Nat.zero_mul, Nat.zero_add]; exact cell_row h (frZ_get hj)⟩
theorem may_bad29 : mayD [3, 0] 0 1 (-1) = false := by decide
theorem may_nil29 : mayD [] 0 0 0 = false := by decide
set_option maxRecDepth 100000 in
set_option maxHeartbeats 4000000 in
theorem dknown_walk (w : World) (hL : LibW w) : Calls Tryz.prog 5 #[] w fun e w' => e = .returned (.bool true) ∧ Below w.heap.size w w' := by
  have HL := Lib.hid hL
  clear hL
  have HP := Lib.hid (two_any29 w)
  go_enter Tryz.func5, Tryz.ntmps5
  go_wp2_with fail
  refine HP.out.mono ?_
  rintro e w2 ⟨⟨a, rfl, hp⟩, hb⟩
  have B2 := Lib.hid hb
  have HI := Lib.hid hp
  clear hp hb HP
  obtain ⟨w3, hw3⟩ : ∃ x, x = w2.alloc (.cells frZ 46) := ⟨_, rfl⟩
  have b3 : Below w2.heap.size w2 w3 := by rw [hw3]; exact alloc_below _ _
  have B3 : Hid (Below w.heap.size w w3) := B2.out.trans (b3.mono B2.out.size)
  have HR := Lib.hid (runs_any [0, 3] a 2 16 2 1 (some ⟨w2.heap.size, 0, none⟩) 1 1 fZ w3 (HI.out.below b3) (by decide) (by decide) may_two (by rw [hw3]; exact frZ_at (heap_alloc_new _ _)) fZ_lt (by decide) (HL.out.below B3.out))
  have HW3 := Lib.hid hw3
  clear hw3 b3 HI B2
  go_wp2_with fail
  change Calls _ _ _ (w2.alloc (.cells frZ 46)) _
  rw [← HW3.out]
  clear HW3
  refine HR.out.mono ?_
  rintro e w4 ⟨⟨db, rfl, hrow, _⟩, hb⟩
  have HD := Lib.hid (row_db hrow)
  have B4 : Hid (Below w.heap.size w w4) := B3.out.trans (hb.mono B3.out.size)
  have HP := Lib.hid (two_any29 w4)
  clear hrow hb HR B3
  go_wp2_with fail
  refine HP.out.mono ?_
  rintro e w5 ⟨⟨a5, rfl, hp⟩, hb⟩
  have B5 : Hid (Below w.heap.size w w5) := B4.out.trans (hb.mono B4.out.size)
  have HR := Lib.hid (read_any [0, 3] a5 2 16 2 1 (some ⟨db, 0, none⟩) 28 28 _ w5 hp (by decide) (by decide) may_two (HD.out.below hb) ((lgOf [0, 3] 16 2 1).runD_lt fZ 1) (by decide) (by decide) (by decide))
  clear hp hb HP B4 HD
  go_wp2_with fail
  refine HR.out.mono ?_
  rintro e w6 ⟨hr, hb⟩
  have B6 : Hid (Below w.heap.size w w6) := B5.out.trans (hb.mono B5.out.size)
  obtain ⟨t1, t2, t3, t4⟩ := tells_zero
  have hr2 : if chsOk 2 2 (lgTwo.runD fZ 1) then ∃ a c, e = .returned (.tuple #[.slice a (kOf 2 (lgTwo.runD fZ 1)) c, .int .u32 (wordD (lgTwo.runD fZ 1) 0 : Int), .int .i64 0]) ∧ ChAt w6 a [0, 3] (chs 2 2 (lgTwo.runD fZ 1))
    else e = .returned (.tuple #[.slice none 0 0, .int .u32 0, .int .i64 42]) := hr
  rw [t4, if_pos rfl, t1, t2, t3] at hr2
  obtain ⟨a6, c6, rfl, hc6⟩ := hr2
  obtain ⟨w7, hw7⟩ : ∃ x, x = w6.alloc (.cells #[.int .i64 3, .int .i64 0] 3) := ⟨_, rfl⟩
  have b7 : Below w6.heap.size w6 w7 := by rw [hw7]; exact alloc_below _ _
  have B7 : Hid (Below w.heap.size w w7) := B6.out.trans (b7.mono B6.out.size)
  have K7 : w7.heap[w6.heap.size]? = some (.cells #[.int .i64 3, .int .i64 0] 3 (0, 0)) := by rw [hw7]; exact heap_alloc_new _ _
  have HB := Lib.hid (dbuild_bad [3, 0] (some ⟨w6.heap.size, 0, none⟩) 2 0 1 (-1) w7 (.inr ⟨_, 0, rfl, heap_lt K7, fun i hi j hj => by
    obtain rfl : j = 0 := by omega
    match i, hi with
    | 0, _ => exact cell_row (j := 0) K7 rfl
    | 1, _ => exact cell_row (j := 1) K7 rfl
    | n + 2, h => exact absurd h (by simp)⟩) (by decide) (by decide) may_bad29)
  have HW7 := Lib.hid hw7
  clear hr hb HR B5 hw7 b7 K7 hc6 t1 t2 t3 t4 B6
  go_wp2_with fail
  rw [← HW7.out]
  clear HW7
  refine HB.out.mono ?_
  rintro e w8 ⟨rfl, hb⟩
  have B8 : Hid (Below w.heap.size w w8) := B7.out.trans (hb.mono B7.out.size)
  have HP := Lib.hid (two_any29 w8)
  clear hb HB B7
  go_wp2_with fail
  refine HP.out.mono ?_
  rintro e w9 ⟨⟨a9, rfl, hp⟩, hb⟩
  have B9 : Hid (Below w.heap.size w w9) := B8.out.trans (hb.mono B8.out.size)
  have HN0 := dread_no [0, 3] a9 2 16 2 1 none 0 0 w9 hp (by decide) (by decide) (fun _ => by decide)
  have hne : noE [0, 3] 16 2 1 = 40 := by unfold noE; rw [may_two]; rfl
  rw [hne] at HN0
  have HN := Lib.hid HN0
  clear hb HP B8 hp HN0 hne
  go_wp2_with fail
  refine HN.out.mono ?_
  rintro e w10 ⟨rfl, hb⟩
  have B10 : Hid (Below w.heap.size w w10) := B9.out.trans (hb.mono B9.out.size)
  have HWK := Lib.hid (works29_any w10 (HL.out.below B10.out))
  clear hb HN B9
  go_wp2_with fail
  refine HWK.out.mono ?_
  rintro e w11 ⟨rfl, hb⟩
  have B11 : Hid (Below w.heap.size w w11) := B10.out.trans (hb.mono B10.out.size)
  have HY0 := dbytes_any [] none 0 0 0 0 w11 (.inl rfl) (by decide) (by decide)
  rw [may_nil29] at HY0
  have HY : Hid (Calls Tryz.prog 26 #[.agg #[.slice none 0 0, .int .u32 0, .int .i64 0, .int .i64 0]] w11 fun e w' => e = .returned (.int .i64 0) ∧ Below w11.heap.size w11 w') := HY0
  clear hb HWK B10 HY0
  go_wp2_with fail
  refine HY.out.mono ?_
  rintro e w12 ⟨rfl, hb⟩
  have B12 : Hid (Below w.heap.size w w12) := B11.out.trans (hb.mono B11.out.size)
  clear hb HY B11
  go_wp2_with fail
  go_ret
  exact ⟨rfl, B12.out⟩
end Go.Proofs.YtdlpgoackmgdkaaGreatDoor
