/- rows, of. -/
import Derived.Test.YtalmgjeiopjhlaaGreatDoorIsaRows
import Derived.Deep.CutRange
namespace Go.Proofs.YtalmgjeiopjhlaaGreatDoor
open Go.RowKit
set_option linter.unusedVariables false
theorem info54 : (Tryz.prog.info? 113).map (·.size) = some 140 := by kernel_rfl
theorem info45 : (Tryz.prog.info? 81).map (·.size) = some 5 := by kernel_rfl
theorem rowsL_size (k : Nat) : (rowsL k).toArray.size = 140 := by unfold rowsL; simp
theorem rowsL_oneL (k : Nat) : ∀ v ∈ rowsL k, v.oneCell' = true := fun v hv => by
  unfold rowsL at hv
  obtain ⟨i, _, rfl⟩ := List.mem_map.1 hv
  exact rows_one k i
theorem RowI.arr_one (r : RowI) : ∀ v ∈ r.arr.toList, v.oneCell' = true := by
  intro v hv
  simp [RowI.arr] at hv
  rcases hv with rfl | rfl | rfl | rfl | rfl <;> rfl
theorem Z140_size : Z140.size = 140 := by kernel_rfl
theorem alloc_below (V : World) (o : Obj) : Below V.heap.size V (V.alloc o) := (Below.refl _ V).alloc (Nat.le_refl _) o
def BR (c : Array Value) : Obj := .cells c 113
set_option maxHeartbeats 4000000 in
set_option maxRecDepth 100000 in
theorem rows_any (w : World) :
    Calls Tryz.prog 78 #[] w fun e w' => e = .returned (.agg rowsArr) ∧ Below w.heap.size w w' := by
  have h1 := zero54
  obtain ⟨W2, hW2⟩ : ∃ x, x = (w.alloc (.cells Z140 113)).alloc (.cells Z140 113) := ⟨_, rfl⟩
  have a1 : W2.heap[w.heap.size + 1]? = some (.cells Z140 113 (0, 0)) := by rw [hW2]; exact Go.heap_alloc2_new _ _ _
  have a2 : W2.heap[w.heap.size]? = some (.cells Z140 113 (0, 0)) := by rw [hW2]; exact Go.heap_alloc2_old _ _ _
  have a3 : Below w.heap.size w W2 := by rw [hW2]; exact ((Below.refl _ w).alloc (Nat.le_refl _) _).alloc (by simp) _
  have hst := store_rowL (P := Tryz.prog) W2 (w.heap.size + 1) 113 Z140 (rowsL 0) a1 (by rw [Z140_size]; unfold rowsL; simp) (rowsL_oneL 0)
  obtain ⟨W3, hW3⟩ : ∃ x, x = W2.setRow (w.heap.size + 1) (rowsL 0).toArray := ⟨_, rfl⟩
  have R0 : Hid (RowsAt W3 (w.heap.size + 1) 0) := ⟨_, by rw [hW3]; exact setRow_heap _ _ _ _ _ _ a1, rowsL_size 0, fun i hi => by unfold rowsL; simp [hi]⟩
  have A0 : Hid (W3.heap[w.heap.size]? = some (.cells Z140 113 (0, 0))) := by rw [hW3]; exact (setRow_other _ _ _ _ (by omega)).trans a2
  have B0 : Hid (Below w.heap.size w W3) := by rw [hW3]; exact setRow_below a3 (by omega) _
  rw [← hW3, hW2] at hst
  clear a1 a2 a3 hW2 hW3
  go_enter Tryz.func78, Tryz.ntmps78
  go_upto_region 1 with fail
  go_step
  refine wpList_build_eq rfl 81 _ rfl #[.string { data := #[112, 117, 115, 104] }, .int .u8 4, .int .i64 0, .int .i64 0, .int .i64 1] (by kernel_rfl) ?_
  refine wpList_build_eq rfl 81 _ rfl #[.string { data := #[100, 117, 112] }, .int .u8 0, .int .i64 0, .int .i64 1, .int .i64 2] (by kernel_rfl) ?_
  refine wpList_build_eq rfl 81 _ rfl #[.string { data := #[100, 114, 111, 112] }, .int .u8 0, .int .i64 0, .int .i64 1, .int .i64 0] (by kernel_rfl) ?_
  refine wpList_build_eq rfl 81 _ rfl #[.string { data := #[115, 119, 97, 112] }, .int .u8 0, .int .i64 0, .int .i64 2, .int .i64 2] (by kernel_rfl) ?_
  refine wpList_build_eq rfl 81 _ rfl #[.string { data := #[108, 111, 97, 100] }, .int .u8 12, .int .i64 0, .int .i64 1, .int .i64 1] (by kernel_rfl) ?_
  refine wpList_build_eq rfl 81 _ rfl #[.string { data := #[115, 116, 111, 114, 101] }, .int .u8 12, .int .i64 0, .int .i64 2, .int .i64 0] (by kernel_rfl) ?_
  refine wpList_build_eq rfl 81 _ rfl #[.string { data := #[106, 117, 109, 112] }, .int .u8 4, .int .i64 0, .int .i64 0, .int .i64 0] (by kernel_rfl) ?_
  refine wpList_build_eq rfl 81 _ rfl #[.string { data := #[122, 101, 114, 111] }, .int .u8 4, .int .i64 0, .int .i64 1, .int .i64 0] (by kernel_rfl) ?_
  refine wpList_build_eq rfl 81 _ rfl #[.string { data := #[105, 110] }, .int .u8 1, .int .i64 16, .int .i64 0, .int .i64 1] (by kernel_rfl) ?_
  refine wpList_build_eq rfl 81 _ rfl #[.string { data := #[111, 117, 116] }, .int .u8 1, .int .i64 16, .int .i64 1, .int .i64 0] (by kernel_rfl) ?_
  refine wpList_build_eq rfl 81 _ rfl #[.string { data := #[114, 101, 97, 100] }, .int .u8 3, .int .i64 16, .int .i64 0, .int .i64 1] (by kernel_rfl) ?_
  refine wpList_build_eq rfl 81 _ rfl #[.string { data := #[97, 103, 101] }, .int .u8 1, .int .i64 16, .int .i64 0, .int .i64 1] (by kernel_rfl) ?_
  refine wpList_build_eq rfl 81 _ rfl #[.string { data := #[112, 117, 116] }, .int .u8 3, .int .i64 16, .int .i64 1, .int .i64 0] (by kernel_rfl) ?_
  refine wpList_build_eq rfl 81 _ rfl #[.string { data := #[115, 101, 110, 100] }, .int .u8 1, .int .i64 16, .int .i64 0, .int .i64 0] (by kernel_rfl) ?_
  refine wpList_build_eq rfl 81 _ rfl #[.string { data := #[121, 105, 101, 108, 100] }, .int .u8 0, .int .i64 0, .int .i64 0, .int .i64 0] (by kernel_rfl) ?_
  refine wpList_build_eq rfl 113 _ rfl (rowsL 0).toArray (by kernel_rfl) ?_
  go_upto_region 2 with fail
  go_step
  refine wpList_build_eq rfl 126 _ rfl names12 (by kernel_rfl) ?_
  go_wp2_with fail
  generalize hgb : w.heap.size = gb at *
  clear hst
  go_loopw [21] (fun i wr => ∃ k : Nat, k ≤ 12 ∧ i = .int .i64 (k : Int) ∧ RowsAt wr (gb + 1) k ∧ wr.heap[gb]? = some (.cells Z140 113 (0, 0)) ∧ Below gb w wr) (fun i _ => 12 - (intOf i).toNat)
  case atStart => exact ⟨0, by omega, rfl, R0.out, A0.out, B0.out⟩
  case round =>
    obtain ⟨k, hk, rfl, r1, r2, r3⟩ := hrel
    have RK := Lib.hid r1; have AK := Lib.hid r2; have BK := Lib.hid r3
    clear r1 r2 r3
    by_cases hlt : k < 12
    · have hi := index56 k hlt
      have hki : (k : Int) < 12 := by omega
      have hm := row_mid k hlt
      have hth : wr.there (gb + 1) ((5 + k) * 5) 5 := fun j hj => by
        obtain ⟨cur, e1, e2, e3⟩ := RK.out
        exact ⟨by rw [Go.cell_of_row wr _ _ _ _ _ e1, e3 _ (by omega)]; rfl, frozen_of_row _ _ _ _ _ e1⟩
      have hst := store_midL (P := Tryz.prog) wr (gb + 1) ((5 + k) * 5) (rowAt (5 + k)).arr.toList hth (RowI.arr_one _)
      have hbl : gb + 1 < wr.heap.size := by obtain ⟨cur, e1, _⟩ := RK.out; exact heap_lt e1
      have RN := Lib.hid (RK.out.step hlt)
      have AN : Hid ((wr.setCells (gb + 1) ((5 + k) * 5) (rowAt (5 + k)).arr.toList).heap[gb]? = some (.cells Z140 113 (0, 0))) := (setCells_other _ _ _ _ _ (by omega)).trans AK.out
      have BN : Hid (Below gb w (wr.setCells (gb + 1) ((5 + k) * 5) (rowAt (5 + k)).arr.toList)) := setCells_below BK.out (by omega) _ _
      generalize wr.setCells (gb + 1) ((5 + k) * 5) _ = wn at *
      have hrs : (rowAt (5 + k)).arr.size = 5 := rfl
      have HM := Lib.hid hm
      clear hm hth
      go_upto_region 5 with fail
      iterate 10 go_step
      refine wpList_build_eq rfl 81 _ rfl (rowAt (5 + k)).arr (by rw [HM.out]; kernel_rfl) ?_
      clear HM
      generalize (rowAt (5 + k)).arr = ra at *
      generalize (rowAt (5 + k)).name = nm at *
      go_wp2_with fail
      go_roundw
      case rel => exact ⟨k + 1, by omega, by go_num, RN.out, AN.out, BN.out⟩
      case measure => simp [intOf]; omega
    · obtain rfl : k = 12 := by omega
      have hz : Z140.size = rowsArr.size := by unfold rowsArr rowsL; rw [Z140_size]; simp
      have hi54 : (Tryz.prog.info? 113).map (·.size) = some rowsArr.size := by rw [← hz, Z140_size]; exact info54
      have h1' : rowsArr.all (·.oneCell') = true := Go.all_oneCell_toArray (rowsL_oneL 12)
      have HR : Hid ((wr.setRow gb rowsArr).heap[gb]? = some (.cells rowsArr 113 (0, 0))) := setRow_heap _ _ _ _ _ _ AK.out
      have BN : Hid (Below gb w (wr.setRow gb rowsArr)) := setRow_below BK.out (Nat.le_refl _) _
      go_upto_region 7 with fail
      go_step
      refine Go.wpList_load_row rfl 113 _ rfl (gb + 1) rfl 113 rowsArr (0, 0) _ RK.out.arr Tryz.underlying113 rfl hi54 ?_
      refine Go.wpList_store_row rfl 113 _ _ rfl gb rowsArr rfl rfl 113 Z140 AK.out hi54 hz h1' ?_
      generalize wr.setRow gb rowsArr = wn at *
      clear h1 h1' hi54 hz
      go_wp2_with fail
      try simp only [Exit.inBlock, Exit.then]
      refine bodyPost_ret (Go.results_cell_row rfl _ _ gb 113 rowsArr (0, 0) _ rfl HR.out Tryz.underlying113 rfl (by unfold rowsArr rowsL; rw [info54]; simp)) rfl ?_
      exact ⟨rfl, by rw [hgb]; exact BN.out⟩
theorem rowAt_none {op : Nat} (h : 27 < op) : rowAt op = noRow := by
  unfold rowAt
  rw [List.getD_eq_getElem?_getD, List.getElem?_eq_none (by show 28 ≤ op; omega)]; rfl
set_option maxHeartbeats 2000000 in
set_option maxRecDepth 100000 in
theorem of_any (op : Nat) (w : World) (h : op < 256) :
    Calls Tryz.prog 50 #[.int .u8 (op : Int)] w fun e w' => e = .returned (.agg (rowAt op).arr) ∧ Below w.heap.size w w' := by
  by_cases hb : 27 < op
  · have e := rowAt_none hb
    rw [e]
    have t1 : decide ((27 : Int) < (op : Int)) = true := by simp; omega
    clear e hb
    go_enter Tryz.func50, Tryz.ntmps50
    go_wp2_with fail
    try simp only [Exit.inBlock, Exit.then]
    refine bodyPost_ret (Go.results_cell_row rfl _ _ w.heap.size 81 noRow.arr (0, 0) _ rfl (heap_alloc_new _ _) Tryz.underlying81 rfl info45) rfl ?_
    exact ⟨rfl, alloc_below _ _⟩
  · have t1 : decide ((27 : Int) < (op : Int)) = false := by simp; omega
    have hi := index54 op (by omega)
    have ha : (w.alloc (.cells noRow.arr 81)).heap[w.heap.size]? = some (.cells noRow.arr 81 (0, 0)) := heap_alloc_new _ _
    have HB0 : Hid (Below w.heap.size w (w.alloc (.cells noRow.arr 81))) := alloc_below _ _
    have hz : (zeroValue 81).run Tryz.prog w = .ok (.agg noRow.arr) w := by kernel_rfl
    have hlt0 : w.heap.size < (w.alloc (.cells noRow.arr 81)).heap.size := heap_lt ha
    have HA := Lib.hid ha
    clear ha
    go_enter Tryz.func50, Tryz.ntmps50
    go_wp2_with fail
    generalize hgb : w.heap.size = gb at *
    generalize w.alloc (.cells noRow.arr 81) = w0 at *
    refine (rows_any w0).mono ?_
    rintro e w1 ⟨rfl, hb⟩
    have h1 : w1.heap[gb]? = some (.cells noRow.arr 81 (0, 0)) := (hb.block gb hlt0).trans HA.out
    have hst : (storeCells ⟨gb, 0, none⟩ (rowAt op).arr.toList).run Tryz.prog w1 = .ok () (w1.setRow gb (rowAt op).arr) := store_rowL w1 gb 81 noRow.arr (rowAt op).arr.toList h1 rfl (RowI.arr_one _)
    have HR : Hid ((w1.setRow gb (rowAt op).arr).heap[gb]? = some (.cells (rowAt op).arr 81 (0, 0))) := setRow_heap _ _ _ _ _ _ h1
    have HB : Hid (Below gb w (w1.setRow gb (rowAt op).arr)) := setRow_below (HB0.out.trans (hb.mono (by omega))) (Nat.le_refl _) _
    have hrs : (rowAt op).arr.size = 5 := rfl
    have HI : Hid ((Tryz.prog.info? 81).map (·.size) = some (rowAt op).arr.size) := info45
    clear hb h1 hz
    generalize w1.setRow gb (rowAt op).arr = wn at *
    generalize hra : (rowAt op).arr = ra at *
    have HRA := Lib.hid hra
    clear hra
    go_wp2_with fail
    try simp only [Exit.inBlock, Exit.then]
    refine bodyPost_ret (Go.results_cell_row rfl _ _ gb 81 ra (0, 0) _ rfl HR.out Tryz.underlying81 rfl HI.out) rfl ?_
    exact ⟨congrArg (fun x => Ending.returned (Value.agg x)) HRA.out.symm, by rw [hgb]; exact HB.out⟩
end Go.Proofs.YtalmgjeiopjhlaaGreatDoor
