/- The rows of the instructions. (Printed by gen_isa.py.) -/
import Derived.Test.YtdlpgoackmgdkaaGreatDoorSet
import Derived.Deep.CutRange
import Derived.Deep.RegionHeld3
import Derived.Laws.BitsAllLaws
namespace Go.Proofs.YtdlpgoackmgdkaaGreatDoor
open Go.RowKit
set_option linter.unusedVariables false
structure RowI where
  name : List UInt8
  (nm most takes gives : Nat)
def noRow : RowI := ⟨[], 0, 0, 0, 0⟩
def tab : List RowI := [⟨[], 0, 0, 0, 0⟩, ⟨[112, 117, 115, 104], 4, 0, 0, 1⟩, ⟨[100, 117, 112], 0, 0, 1, 2⟩, ⟨[100, 114, 111, 112], 0, 0, 1, 0⟩, ⟨[115, 119, 97, 112], 0, 0, 2, 2⟩, ⟨[97, 100, 100], 0, 0, 2, 1⟩, ⟨[115, 117, 98], 0, 0, 2, 1⟩, ⟨[109, 117, 108], 0, 0, 2, 1⟩, ⟨[100, 105, 118], 0, 0, 2, 1⟩, ⟨[109, 111, 100], 0, 0, 2, 1⟩, ⟨[97, 110, 100], 0, 0, 2, 1⟩, ⟨[111, 114], 0, 0, 2, 1⟩, ⟨[120, 111, 114], 0, 0, 2, 1⟩, ⟨[115, 104, 108], 0, 0, 2, 1⟩, ⟨[115, 104, 114], 0, 0, 2, 1⟩, ⟨[101, 113], 0, 0, 2, 1⟩, ⟨[108, 101, 115, 115], 0, 0, 2, 1⟩, ⟨[108, 111, 97, 100], 12, 0, 1, 1⟩, ⟨[115, 116, 111, 114, 101], 12, 0, 2, 0⟩, ⟨[106, 117, 109, 112], 4, 0, 0, 0⟩, ⟨[122, 101, 114, 111], 4, 0, 1, 0⟩, ⟨[105, 110], 1, 16, 0, 1⟩, ⟨[111, 117, 116], 1, 16, 1, 0⟩, ⟨[114, 101, 97, 100], 3, 16, 0, 1⟩, ⟨[97, 103, 101], 1, 16, 0, 1⟩, ⟨[112, 117, 116], 3, 16, 1, 0⟩, ⟨[115, 101, 110, 100], 1, 16, 0, 0⟩, ⟨[121, 105, 101, 108, 100], 0, 0, 0, 0⟩]
def tab0 : List RowI := [⟨[], 0, 0, 0, 0⟩, ⟨[112, 117, 115, 104], 4, 0, 0, 1⟩, ⟨[100, 117, 112], 0, 0, 1, 2⟩, ⟨[100, 114, 111, 112], 0, 0, 1, 0⟩, ⟨[115, 119, 97, 112], 0, 0, 2, 2⟩, noRow, noRow, noRow, noRow, noRow, noRow, noRow, noRow, noRow, noRow, noRow, noRow, ⟨[108, 111, 97, 100], 12, 0, 1, 1⟩, ⟨[115, 116, 111, 114, 101], 12, 0, 2, 0⟩, ⟨[106, 117, 109, 112], 4, 0, 0, 0⟩, ⟨[122, 101, 114, 111], 4, 0, 1, 0⟩, ⟨[105, 110], 1, 16, 0, 1⟩, ⟨[111, 117, 116], 1, 16, 1, 0⟩, ⟨[114, 101, 97, 100], 3, 16, 0, 1⟩, ⟨[97, 103, 101], 1, 16, 0, 1⟩, ⟨[112, 117, 116], 3, 16, 1, 0⟩, ⟨[115, 101, 110, 100], 1, 16, 0, 0⟩, ⟨[121, 105, 101, 108, 100], 0, 0, 0, 0⟩]
def rowAt (op : Nat) : RowI := tab.getD op noRow
def RowI.cell (r : RowI) (j : Nat) : Value := if j = 0 then .string ⟨r.name.toArray⟩ else if j = 1 then .int .u8 (r.nm : Int) else if j = 2 then .int .i64 (r.most : Int) else if j = 3 then .int .i64 (r.takes : Int) else .int .i64 (r.gives : Int)
def RowI.arr (r : RowI) : Array Value := #[.string ⟨r.name.toArray⟩, .int .u8 (r.nm : Int), .int .i64 (r.most : Int), .int .i64 (r.takes : Int), .int .i64 (r.gives : Int)]
def rowsV (k i : Nat) : Value := ((if 5 ≤ i / 5 ∧ i / 5 < 5 + k then tab else tab0).getD (i / 5) noRow).cell (i % 5)
def rowsL (k : Nat) : List Value := (List.range 140).map (rowsV k)
def rowsArr : Array Value := (rowsL 12).toArray
def Z140 : Array Value := (List.replicate 28 [Value.string ⟨#[]⟩, .int .u8 0, .int .i64 0, .int .i64 0, .int .i64 0]).flatten.toArray
theorem zero54 (w : World) : (zeroValue 224).run Tryz.prog w = .ok (.agg Z140) w := by kernel_rfl
def names12 : Array Value := #[.string { data := #[97, 100, 100] }, .string { data := #[115, 117, 98] }, .string { data := #[109, 117, 108] }, .string { data := #[100, 105, 118] }, .string { data := #[109, 111, 100] }, .string { data := #[97, 110, 100] }, .string { data := #[111, 114] }, .string { data := #[120, 111, 114] }, .string { data := #[115, 104, 108] }, .string { data := #[115, 104, 114] }, .string { data := #[101, 113] }, .string { data := #[108, 101, 115, 115] }]
theorem index56 (k : Nat) (h : k < 12) (w : World) : (Instr.index 235 (.agg names12) (.int .i64 (k : Int))).run Tryz.prog w = .ok (.string ⟨(rowAt (5 + k)).name.toArray⟩) w := by
  match k, h with
  | 0, _ => show _ = _; kernel_rfl
  | 1, _ => show _ = _; kernel_rfl
  | 2, _ => show _ = _; kernel_rfl
  | 3, _ => show _ = _; kernel_rfl
  | 4, _ => show _ = _; kernel_rfl
  | 5, _ => show _ = _; kernel_rfl
  | 6, _ => show _ = _; kernel_rfl
  | 7, _ => show _ = _; kernel_rfl
  | 8, _ => show _ = _; kernel_rfl
  | 9, _ => show _ = _; kernel_rfl
  | 10, _ => show _ = _; kernel_rfl
  | 11, _ => show _ = _; kernel_rfl
set_option maxRecDepth 100000 in
theorem index54 (op : Nat) (h : op < 28) (w : World) : (Instr.index 224 (.agg rowsArr) (.int .u8 (op : Int))).run Tryz.prog w = .ok (.agg (rowAt op).arr) w := by
  match op, h with
  | 0, _ => show _ = _; kernel_rfl
  | 1, _ => show _ = _; kernel_rfl
  | 2, _ => show _ = _; kernel_rfl
  | 3, _ => show _ = _; kernel_rfl
  | 4, _ => show _ = _; kernel_rfl
  | 5, _ => show _ = _; kernel_rfl
  | 6, _ => show _ = _; kernel_rfl
  | 7, _ => show _ = _; kernel_rfl
  | 8, _ => show _ = _; kernel_rfl
  | 9, _ => show _ = _; kernel_rfl
  | 10, _ => show _ = _; kernel_rfl
  | 11, _ => show _ = _; kernel_rfl
  | 12, _ => show _ = _; kernel_rfl
  | 13, _ => show _ = _; kernel_rfl
  | 14, _ => show _ = _; kernel_rfl
  | 15, _ => show _ = _; kernel_rfl
  | 16, _ => show _ = _; kernel_rfl
  | 17, _ => show _ = _; kernel_rfl
  | 18, _ => show _ = _; kernel_rfl
  | 19, _ => show _ = _; kernel_rfl
  | 20, _ => show _ = _; kernel_rfl
  | 21, _ => show _ = _; kernel_rfl
  | 22, _ => show _ = _; kernel_rfl
  | 23, _ => show _ = _; kernel_rfl
  | 24, _ => show _ = _; kernel_rfl
  | 25, _ => show _ = _; kernel_rfl
  | 26, _ => show _ = _; kernel_rfl
  | 27, _ => show _ = _; kernel_rfl
  | n + 28, h => exact absurd h (by omega)
set_option maxRecDepth 100000 in
theorem index54i (op : Nat) (h : op < 28) (w : World) : (Instr.index 224 (.agg rowsArr) (.int .i64 (op : Int))).run Tryz.prog w = .ok (.agg (rowAt op).arr) w := by
  match op, h with
  | 0, _ => show _ = _; kernel_rfl
  | 1, _ => show _ = _; kernel_rfl
  | 2, _ => show _ = _; kernel_rfl
  | 3, _ => show _ = _; kernel_rfl
  | 4, _ => show _ = _; kernel_rfl
  | 5, _ => show _ = _; kernel_rfl
  | 6, _ => show _ = _; kernel_rfl
  | 7, _ => show _ = _; kernel_rfl
  | 8, _ => show _ = _; kernel_rfl
  | 9, _ => show _ = _; kernel_rfl
  | 10, _ => show _ = _; kernel_rfl
  | 11, _ => show _ = _; kernel_rfl
  | 12, _ => show _ = _; kernel_rfl
  | 13, _ => show _ = _; kernel_rfl
  | 14, _ => show _ = _; kernel_rfl
  | 15, _ => show _ = _; kernel_rfl
  | 16, _ => show _ = _; kernel_rfl
  | 17, _ => show _ = _; kernel_rfl
  | 18, _ => show _ = _; kernel_rfl
  | 19, _ => show _ = _; kernel_rfl
  | 20, _ => show _ = _; kernel_rfl
  | 21, _ => show _ = _; kernel_rfl
  | 22, _ => show _ = _; kernel_rfl
  | 23, _ => show _ = _; kernel_rfl
  | 24, _ => show _ = _; kernel_rfl
  | 25, _ => show _ = _; kernel_rfl
  | 26, _ => show _ = _; kernel_rfl
  | 27, _ => show _ = _; kernel_rfl
  | n + 28, h => exact absurd h (by omega)
theorem rows_step (k i : Nat) (hk : k < 12) (hi : i < 140) : (if (5 + k) * 5 ≤ i ∧ i < (5 + k) * 5 + 5 then (rowAt (5 + k)).arr.toList.getD (i - (5 + k) * 5) undef else rowsV k i) = rowsV (k + 1) i := by
  by_cases h : (5 + k) * 5 ≤ i ∧ i < (5 + k) * 5 + 5
  · rw [if_pos h]
    unfold rowsV
    rw [if_pos (by omega), show i / 5 = 5 + k by omega, show i % 5 = i - (5 + k) * 5 by omega]
    have hj : i - (5 + k) * 5 < 5 := by omega
    generalize i - (5 + k) * 5 = j at *
    show (rowAt (5 + k)).arr.toList.getD j undef = (rowAt (5 + k)).cell j
    generalize rowAt (5 + k) = r
    match j, hj with
    | 0, _ => rfl
    | 1, _ => rfl
    | 2, _ => rfl
    | 3, _ => rfl
    | 4, _ => rfl
  · rw [if_neg h]
    unfold rowsV
    by_cases h2 : 5 ≤ i / 5 ∧ i / 5 < 5 + k
    · rw [if_pos h2, if_pos (by omega)]
    · rw [if_neg h2, if_neg (by omega)]
theorem row_mid (k : Nat) (hk : k < 12) : (rowAt (5 + k)).arr = #[.string ⟨(rowAt (5 + k)).name.toArray⟩, .int .u8 0, .int .i64 0, .int .i64 2, .int .i64 1] := by
  match k, hk with
  | 0, _ => rfl
  | 1, _ => rfl
  | 2, _ => rfl
  | 3, _ => rfl
  | 4, _ => rfl
  | 5, _ => rfl
  | 6, _ => rfl
  | 7, _ => rfl
  | 8, _ => rfl
  | 9, _ => rfl
  | 10, _ => rfl
  | 11, _ => rfl
theorem rows_one (k i : Nat) : (rowsV k i).oneCell' = true := by
  unfold rowsV RowI.cell
  repeat' split
  all_goals rfl
def RowsAt (w : World) (g k : Nat) : Prop := ∃ cur, w.heap[g]? = some (.cells cur 224 (0, 0)) ∧ cur.size = 140 ∧ ∀ i, i < 140 → cur[i]? = some (rowsV k i)
theorem RowsAt.arr {w : World} {g : Nat} (h : RowsAt w g 12) : w.heap[g]? = some (.cells rowsArr 224 (0, 0)) := by
  obtain ⟨cur, h1, h2, h3⟩ := h
  rw [h1]
  have e : cur = rowsArr := by
    apply Array.ext_getElem?
    intro i
    by_cases hi : i < 140
    · rw [h3 i hi]; unfold rowsArr rowsL; simp [hi]
    · rw [Array.getElem?_eq_none (by omega), Array.getElem?_eq_none (by unfold rowsArr rowsL; simp; omega)]
  rw [e]
theorem RowsAt.step {w : World} {g k : Nat} (h : RowsAt w g k) (hk : k < 12) : RowsAt (w.setCells g ((5 + k) * 5) (rowAt (5 + k)).arr.toList) g (k + 1) := by
  obtain ⟨cur, h1, h2, h3⟩ := h
  obtain ⟨cur', e1, e2, e3⟩ := setCells_row (rowAt (5 + k)).arr.toList ((5 + k) * 5) w g 224 cur h1
  refine ⟨cur', e1, e2.trans h2, fun i hi => ?_⟩
  rw [e3 i (by omega), ← rows_step k i hk hi]
  have hl : (rowAt (5 + k)).arr.toList.length = 5 := rfl
  rw [hl]
  split
  · rfl
  · exact h3 i hi
end Go.Proofs.YtdlpgoackmgdkaaGreatDoor
/- rows, of. -/
namespace Go.Proofs.YtdlpgoackmgdkaaGreatDoor
open Go.RowKit
set_option linter.unusedVariables false
theorem info54 : (Tryz.prog.info? 224).map (·.size) = some 140 := by kernel_rfl
theorem info45 : (Tryz.prog.info? 210).map (·.size) = some 5 := by kernel_rfl
theorem rowsL_size (k : Nat) : (rowsL k).toArray.size = 140 := by unfold rowsL; simp
theorem rowsL_oneL (k : Nat) : ∀ v ∈ rowsL k, v.oneCell' = true := fun v hv => by
  unfold rowsL at hv
  obtain ⟨i, _, rfl⟩ := List.mem_map.1 hv
  exact rows_one k i
theorem RowI.arr_one (r : RowI) : ∀ v ∈ r.arr.toList, v.oneCell' = true := by
  intro v hv
  simp [RowI.arr] at hv
  rcases hv with rfl | rfl | rfl | rfl | rfl <;> rfl
theorem Z140_size : Z140.size = 140 := by kernel_rfl
theorem alloc_below (V : World) (o : Obj) : Below V.heap.size V (V.alloc o) := (Below.refl _ V).alloc (Nat.le_refl _) o
set_option maxHeartbeats 4000000 in
set_option maxRecDepth 100000 in
theorem rows_any (w : World) :
    Calls Tryz.prog 156 #[] w fun e w' => e = .returned (.agg rowsArr) ∧ Below w.heap.size w w' := by
  have h1 := zero54
  obtain ⟨W2, hW2⟩ : ∃ x, x = (w.alloc (.cells Z140 224)).alloc (.cells Z140 224) := ⟨_, rfl⟩
  have a1 : W2.heap[w.heap.size + 1]? = some (.cells Z140 224 (0, 0)) := by rw [hW2]; exact Go.heap_alloc2_new _ _ _
  have a2 : W2.heap[w.heap.size]? = some (.cells Z140 224 (0, 0)) := by rw [hW2]; exact Go.heap_alloc2_old _ _ _
  have a3 : Below w.heap.size w W2 := by rw [hW2]; exact ((Below.refl _ w).alloc (Nat.le_refl _) _).alloc (by simp) _
  have hst := store_rowL (P := Tryz.prog) W2 (w.heap.size + 1) 224 Z140 (rowsL 0) a1 (by rw [Z140_size]; unfold rowsL; simp) (rowsL_oneL 0)
  obtain ⟨W3, hW3⟩ : ∃ x, x = W2.setRow (w.heap.size + 1) (rowsL 0).toArray := ⟨_, rfl⟩
  have R0 : Hid (RowsAt W3 (w.heap.size + 1) 0) := ⟨_, by rw [hW3]; exact setRow_heap _ _ _ _ _ _ a1, rowsL_size 0, fun i hi => by unfold rowsL; simp [hi]⟩
  have A0 : Hid (W3.heap[w.heap.size]? = some (.cells Z140 224 (0, 0))) := by rw [hW3]; exact (setRow_other _ _ _ _ (by omega)).trans a2
  have B0 : Hid (Below w.heap.size w W3) := by rw [hW3]; exact setRow_below a3 (by omega) _
  rw [← hW3, hW2] at hst
  clear a1 a2 a3 hW2 hW3
  go_enter Tryz.func156, Tryz.ntmps156
  go_upto_region 1 with fail
  go_step
  refine wpList_build_eq rfl 210 _ rfl #[.string { data := #[112, 117, 115, 104] }, .int .u8 4, .int .i64 0, .int .i64 0, .int .i64 1] (by kernel_rfl) ?_
  refine wpList_build_eq rfl 210 _ rfl #[.string { data := #[100, 117, 112] }, .int .u8 0, .int .i64 0, .int .i64 1, .int .i64 2] (by kernel_rfl) ?_
  refine wpList_build_eq rfl 210 _ rfl #[.string { data := #[100, 114, 111, 112] }, .int .u8 0, .int .i64 0, .int .i64 1, .int .i64 0] (by kernel_rfl) ?_
  refine wpList_build_eq rfl 210 _ rfl #[.string { data := #[115, 119, 97, 112] }, .int .u8 0, .int .i64 0, .int .i64 2, .int .i64 2] (by kernel_rfl) ?_
  refine wpList_build_eq rfl 210 _ rfl #[.string { data := #[108, 111, 97, 100] }, .int .u8 12, .int .i64 0, .int .i64 1, .int .i64 1] (by kernel_rfl) ?_
  refine wpList_build_eq rfl 210 _ rfl #[.string { data := #[115, 116, 111, 114, 101] }, .int .u8 12, .int .i64 0, .int .i64 2, .int .i64 0] (by kernel_rfl) ?_
  refine wpList_build_eq rfl 210 _ rfl #[.string { data := #[106, 117, 109, 112] }, .int .u8 4, .int .i64 0, .int .i64 0, .int .i64 0] (by kernel_rfl) ?_
  refine wpList_build_eq rfl 210 _ rfl #[.string { data := #[122, 101, 114, 111] }, .int .u8 4, .int .i64 0, .int .i64 1, .int .i64 0] (by kernel_rfl) ?_
  refine wpList_build_eq rfl 210 _ rfl #[.string { data := #[105, 110] }, .int .u8 1, .int .i64 16, .int .i64 0, .int .i64 1] (by kernel_rfl) ?_
  refine wpList_build_eq rfl 210 _ rfl #[.string { data := #[111, 117, 116] }, .int .u8 1, .int .i64 16, .int .i64 1, .int .i64 0] (by kernel_rfl) ?_
  refine wpList_build_eq rfl 210 _ rfl #[.string { data := #[114, 101, 97, 100] }, .int .u8 3, .int .i64 16, .int .i64 0, .int .i64 1] (by kernel_rfl) ?_
  refine wpList_build_eq rfl 210 _ rfl #[.string { data := #[97, 103, 101] }, .int .u8 1, .int .i64 16, .int .i64 0, .int .i64 1] (by kernel_rfl) ?_
  refine wpList_build_eq rfl 210 _ rfl #[.string { data := #[112, 117, 116] }, .int .u8 3, .int .i64 16, .int .i64 1, .int .i64 0] (by kernel_rfl) ?_
  refine wpList_build_eq rfl 210 _ rfl #[.string { data := #[115, 101, 110, 100] }, .int .u8 1, .int .i64 16, .int .i64 0, .int .i64 0] (by kernel_rfl) ?_
  refine wpList_build_eq rfl 210 _ rfl #[.string { data := #[121, 105, 101, 108, 100] }, .int .u8 0, .int .i64 0, .int .i64 0, .int .i64 0] (by kernel_rfl) ?_
  refine wpList_build_eq rfl 224 _ rfl (rowsL 0).toArray (by kernel_rfl) ?_
  go_upto_region 2 with fail
  go_step
  refine wpList_build_eq rfl 235 _ rfl names12 (by kernel_rfl) ?_
  go_wp2_with fail
  generalize hgb : w.heap.size = gb at *
  clear hst
  go_loopw [21] (fun i wr => ∃ k : Nat, k ≤ 12 ∧ i = .int .i64 (k : Int) ∧ RowsAt wr (gb + 1) k ∧ wr.heap[gb]? = some (.cells Z140 224 (0, 0)) ∧ Below gb w wr) (fun i _ => 12 - (intOf i).toNat)
  case atStart => exact ⟨0, by omega, rfl, R0.out, A0.out, B0.out⟩
  case round =>
    obtain ⟨k, hk, rfl, r1, r2, r3⟩ := hrel
    have RK := Lib.hid r1; have AK := Lib.hid r2; have BK := Lib.hid r3
    clear r1 r2 r3
    by_cases hlt : k < 12
    · have hi := index56 k hlt
      have hki : (k : Int) < 12 := by omega
      have hm := row_mid k hlt
      have hth : wr.there (gb + 1) ((5 + k) * 5) 5 := fun j hj => by
        obtain ⟨cur, e1, e2, e3⟩ := RK.out
        exact ⟨by rw [Go.cell_of_row wr _ _ _ _ _ e1, e3 _ (by omega)]; rfl, frozen_of_row _ _ _ _ _ e1⟩
      have hst := store_midL (P := Tryz.prog) wr (gb + 1) ((5 + k) * 5) (rowAt (5 + k)).arr.toList hth (RowI.arr_one _)
      have hbl : gb + 1 < wr.heap.size := by obtain ⟨cur, e1, _⟩ := RK.out; exact heap_lt e1
      have RN := Lib.hid (RK.out.step hlt)
      have AN : Hid ((wr.setCells (gb + 1) ((5 + k) * 5) (rowAt (5 + k)).arr.toList).heap[gb]? = some (.cells Z140 224 (0, 0))) := (setCells_other _ _ _ _ _ (by omega)).trans AK.out
      have BN : Hid (Below gb w (wr.setCells (gb + 1) ((5 + k) * 5) (rowAt (5 + k)).arr.toList)) := setCells_below BK.out (by omega) _ _
      generalize wr.setCells (gb + 1) ((5 + k) * 5) _ = wn at *
      have hrs : (rowAt (5 + k)).arr.size = 5 := rfl
      have HM := Lib.hid hm
      clear hm hth
      go_upto_region 5 with fail
      iterate 10 go_step
      refine wpList_build_eq rfl 210 _ rfl (rowAt (5 + k)).arr (by rw [HM.out]; kernel_rfl) ?_
      clear HM
      generalize (rowAt (5 + k)).arr = ra at *
      generalize (rowAt (5 + k)).name = nm at *
      go_wp2_with fail
      go_roundw
      case rel => exact ⟨k + 1, by omega, by go_num, RN.out, AN.out, BN.out⟩
      case measure => simp [intOf]; omega
    · obtain rfl : k = 12 := by omega
      have hz : Z140.size = rowsArr.size := by unfold rowsArr rowsL; rw [Z140_size]; simp
      have hi54 : (Tryz.prog.info? 224).map (·.size) = some rowsArr.size := by rw [← hz, Z140_size]; exact info54
      have h1' : rowsArr.all (·.oneCell') = true := Go.all_oneCell_toArray (rowsL_oneL 12)
      have HR : Hid ((wr.setRow gb rowsArr).heap[gb]? = some (.cells rowsArr 224 (0, 0))) := setRow_heap _ _ _ _ _ _ AK.out
      have BN : Hid (Below gb w (wr.setRow gb rowsArr)) := setRow_below BK.out (Nat.le_refl _) _
      go_upto_region 7 with fail
      go_step
      refine Go.wpList_load_row rfl 224 _ rfl (gb + 1) rfl 224 rowsArr (0, 0) _ RK.out.arr Tryz.underlying224 rfl hi54 ?_
      refine Go.wpList_store_row rfl 224 _ _ rfl gb rowsArr rfl rfl 224 Z140 AK.out hi54 hz h1' ?_
      generalize wr.setRow gb rowsArr = wn at *
      clear h1 h1' hi54 hz
      go_wp2_with fail
      try simp only [Exit.inBlock, Exit.then]
      refine bodyPost_ret (Go.results_cell_row rfl _ _ gb 224 rowsArr (0, 0) _ rfl HR.out Tryz.underlying224 rfl (by unfold rowsArr rowsL; rw [info54]; simp)) rfl ?_
      exact ⟨rfl, by rw [hgb]; exact BN.out⟩
theorem rowAt_none {op : Nat} (h : 27 < op) : rowAt op = noRow := by
  unfold rowAt
  rw [List.getD_eq_getElem?_getD, List.getElem?_eq_none (by show 28 ≤ op; omega)]; rfl
set_option maxHeartbeats 2000000 in
set_option maxRecDepth 100000 in
theorem of_any (op : Nat) (w : World) (h : op < 256) :
    Calls Tryz.prog 135 #[.int .u8 (op : Int)] w fun e w' => e = .returned (.agg (rowAt op).arr) ∧ Below w.heap.size w w' := by
  by_cases hb : 27 < op
  · have e := rowAt_none hb
    rw [e]
    have t1 : decide ((27 : Int) < (op : Int)) = true := by simp; omega
    clear e hb
    go_enter Tryz.func135, Tryz.ntmps135
    go_wp2_with fail
    try simp only [Exit.inBlock, Exit.then]
    refine bodyPost_ret (Go.results_cell_row rfl _ _ w.heap.size 210 noRow.arr (0, 0) _ rfl (heap_alloc_new _ _) Tryz.underlying210 rfl info45) rfl ?_
    exact ⟨rfl, alloc_below _ _⟩
  · have t1 : decide ((27 : Int) < (op : Int)) = false := by simp; omega
    have hi := index54 op (by omega)
    have ha : (w.alloc (.cells noRow.arr 210)).heap[w.heap.size]? = some (.cells noRow.arr 210 (0, 0)) := heap_alloc_new _ _
    have HB0 : Hid (Below w.heap.size w (w.alloc (.cells noRow.arr 210))) := alloc_below _ _
    have hz : (zeroValue 210).run Tryz.prog w = .ok (.agg noRow.arr) w := by kernel_rfl
    have hlt0 : w.heap.size < (w.alloc (.cells noRow.arr 210)).heap.size := heap_lt ha
    have HA := Lib.hid ha
    clear ha
    go_enter Tryz.func135, Tryz.ntmps135
    go_wp2_with fail
    generalize hgb : w.heap.size = gb at *
    generalize w.alloc (.cells noRow.arr 210) = w0 at *
    refine (rows_any w0).mono ?_
    rintro e w1 ⟨rfl, hb⟩
    have h1 : w1.heap[gb]? = some (.cells noRow.arr 210 (0, 0)) := (hb.block gb hlt0).trans HA.out
    have hst : (storeCells ⟨gb, 0, none⟩ (rowAt op).arr.toList).run Tryz.prog w1 = .ok () (w1.setRow gb (rowAt op).arr) := store_rowL w1 gb 210 noRow.arr (rowAt op).arr.toList h1 rfl (RowI.arr_one _)
    have HR : Hid ((w1.setRow gb (rowAt op).arr).heap[gb]? = some (.cells (rowAt op).arr 210 (0, 0))) := setRow_heap _ _ _ _ _ _ h1
    have HB : Hid (Below gb w (w1.setRow gb (rowAt op).arr)) := setRow_below (HB0.out.trans (hb.mono (by omega))) (Nat.le_refl _) _
    have hrs : (rowAt op).arr.size = 5 := rfl
    have HI : Hid ((Tryz.prog.info? 210).map (·.size) = some (rowAt op).arr.size) := info45
    clear hb h1 hz
    generalize w1.setRow gb (rowAt op).arr = wn at *
    generalize hra : (rowAt op).arr = ra at *
    have HRA := Lib.hid hra
    clear hra
    go_wp2_with fail
    try simp only [Exit.inBlock, Exit.then]
    refine bodyPost_ret (Go.results_cell_row rfl _ _ gb 210 ra (0, 0) _ rfl HR.out Tryz.underlying210 rfl HI.out) rfl ?_
    exact ⟨congrArg (fun x => Ending.returned (Value.agg x)) HRA.out.symm, by rw [hgb]; exact HB.out⟩
end Go.Proofs.YtdlpgoackmgdkaaGreatDoor
/- May. -/
namespace Go.Proofs.YtdlpgoackmgdkaaGreatDoor
open Go.RowKit
set_option linter.unusedVariables false
set_option linter.unusedSimpArgs false
def mayN (nm a b c : Nat) : Bool := !(nm &&& 4 == 0 && c != 0) && !(nm &&& 2 == 0 && b != 0) && decide (b < 16) && (if nm &&& 8 ≠ 0 then a == 1 || a == 2 || a == 4 else if nm &&& 1 ≠ 0 then decide (a < 16) else a == 0)
def mayI (op a b c : Nat) : Bool := if (rowAt op).name = [] then false else mayN (rowAt op).nm a b c
structure Ins where
  (op a b c : Nat)
structure Ins.ok (i : Ins) : Prop where
  op : i.op < 256
  a : i.a < 256
  b : i.b < 65536
  c : i.c < 4294967296
def Ins.val (i : Ins) : Value := .agg #[.int .u8 (i.op : Int), .int .u8 (i.a : Int), .int .u16 (i.b : Int), .int .u32 (i.c : Int)]
def Ins.may (i : Ins) : Bool := mayI i.op i.a i.b i.c
theorem row_class (op : Nat) : (rowAt op).name = [] ∧ rowAt op = noRow ∨ (rowAt op).name ≠ [] ∧ op < 28 ∧ ((rowAt op).nm = 0 ∨ ((rowAt op).nm = 1 ∧ (rowAt op).most = 16) ∨ ((rowAt op).nm = 3 ∧ (rowAt op).most = 16) ∨ (rowAt op).nm = 4 ∨ (rowAt op).nm = 12) := by
  by_cases h : op < 28
  · match op, h with
    | 0, _ => exact .inl ⟨rfl, rfl⟩
    | n + 1, h =>
      right
      have : ∀ n, n < 27 → (rowAt (n + 1)).name ≠ [] ∧ n + 1 < 28 ∧ ((rowAt (n + 1)).nm = 0 ∨ ((rowAt (n + 1)).nm = 1 ∧ (rowAt (n + 1)).most = 16) ∨ ((rowAt (n + 1)).nm = 3 ∧ (rowAt (n + 1)).most = 16) ∨ (rowAt (n + 1)).nm = 4 ∨ (rowAt (n + 1)).nm = 12) := by decide
      exact this n (by omega)
  · left
    have e := rowAt_none (op := op) (by omega)
    rw [e]; exact ⟨rfl, rfl⟩
set_option maxHeartbeats 4000000 in
set_option maxRecDepth 100000 in
theorem may_any (i : Ins) (w : World) (h : i.ok) :
    Calls Tryz.prog 113 #[i.val] w fun e w' => e = .returned (.bool i.may) ∧ Below w.heap.size w w' := by
  unfold Ins.val
  have HOF := Lib.hid (of_any i.op (w.alloc (.cells #[.int .u8 (i.op : Int), .int .u8 (i.a : Int), .int .u16 (i.b : Int), .int .u32 (i.c : Int)] 145)) h.op)
  have hw0 : Hid ((w.alloc (.cells #[.int .u8 (i.op : Int), .int .u8 (i.a : Int), .int .u16 (i.b : Int), .int .u32 (i.c : Int)] 145)).heap[w.heap.size]? = some (.cells #[.int .u8 (i.op : Int), .int .u8 (i.a : Int), .int .u16 (i.b : Int), .int .u32 (i.c : Int)] 145 (0, 0))) := heap_alloc_new _ _
  have h0 : Hid (Below w.heap.size w (w.alloc (.cells #[.int .u8 (i.op : Int), .int .u8 (i.a : Int), .int .u16 (i.b : Int), .int .u32 (i.c : Int)] 145))) := alloc_below _ _
  have hlt := heap_lt hw0.out
  unfold RowI.arr at HOF
  have ha8 := h.a
  have hw8 : wrap64 (i.a : Int) = (i.a : Int) := by unfold wrap64; omega
  rcases row_class i.op with ⟨hn, hr⟩ | ⟨hn, ho, hr⟩
  · have e1 : i.may = false := by unfold Ins.may mayI; rw [if_pos hn]
    rw [e1]
    rw [hr] at HOF
    unfold noRow at HOF
    clear e1 hn hr
    go_enter Tryz.func113, Tryz.ntmps113
    go_wp2_with fail
    refine HOF.out.mono ?_
    rintro e w1 ⟨rfl, hb⟩
    have HB := Lib.hid (h0.out.trans (hb.mono h0.out.size))
    have z0 : w1.cell? ⟨w.heap.size, 0, none⟩ = some (.int .u8 (i.op : Int)) := by rw [hb.cell hlt]; exact cell_row hw0.out rfl
    have z1 : w1.cell? ⟨w.heap.size, 1, none⟩ = some (.int .u8 (i.a : Int)) := by rw [hb.cell hlt]; exact cell_row hw0.out rfl
    have z2 : w1.cell? ⟨w.heap.size, 2, none⟩ = some (.int .u16 (i.b : Int)) := by rw [hb.cell hlt]; exact cell_row hw0.out rfl
    have z3 : w1.cell? ⟨w.heap.size, 3, none⟩ = some (.int .u32 (i.c : Int)) := by rw [hb.cell hlt]; exact cell_row hw0.out rfl
    have hl1 : w.heap.size < w1.heap.size := Nat.lt_of_lt_of_le hlt hb.size
    clear hb
    go_wp2_with fail
    go_ret
    exact ⟨rfl, HB.out.alloc HB.out.size _⟩
  · have e1 : i.may = mayN (rowAt i.op).nm i.a i.b i.c := by unfold Ins.may mayI; rw [if_neg hn]
    rw [e1]
    have hne : (rowAt i.op).name.isEmpty = false := by cases hx : (rowAt i.op).name with | nil => exact absurd hx hn | cons x l => rfl
    clear hn ho
    rcases hr with hr | ⟨hr, hm⟩ | ⟨hr, hm⟩ | hr | hr
    · rw [hr] at HOF ⊢
      clear e1 hr
      have hb8 : (bits BinOp.and IntKind.u8 0 8 != 0) = false := by decide
      have hb1 : (bits BinOp.and IntKind.u8 0 1 != 0) = false := by decide
      have hb4 : (bits BinOp.and IntKind.u8 0 4 == 0) = true := by decide
      have hb2 : (bits BinOp.and IntKind.u8 0 2 == 0) = true := by decide
      generalize (rowAt i.op).name = nm at *
      generalize (rowAt i.op).most = mo at *
      generalize (rowAt i.op).takes = ta at *
      generalize (rowAt i.op).gives = gi at *
      by_cases hc : i.c = 0
      case neg =>
        have tc : ((i.c : Int) != 0) = true := by simp; omega
        have HV : Hid (mayN 0 i.a i.b i.c = false) := by show _ = _; unfold mayN; simp [hc]
        rw [HV.out]
        clear HV hc
        go_enter Tryz.func113, Tryz.ntmps113
        go_wp2_with fail
        refine HOF.out.mono ?_
        rintro e w1 ⟨rfl, hb⟩
        have HB := Lib.hid (h0.out.trans (hb.mono h0.out.size))
        have z0 : w1.cell? ⟨w.heap.size, 0, none⟩ = some (.int .u8 (i.op : Int)) := by rw [hb.cell hlt]; exact cell_row hw0.out rfl
        have z1 : w1.cell? ⟨w.heap.size, 1, none⟩ = some (.int .u8 (i.a : Int)) := by rw [hb.cell hlt]; exact cell_row hw0.out rfl
        have z2 : w1.cell? ⟨w.heap.size, 2, none⟩ = some (.int .u16 (i.b : Int)) := by rw [hb.cell hlt]; exact cell_row hw0.out rfl
        have z3 : w1.cell? ⟨w.heap.size, 3, none⟩ = some (.int .u32 (i.c : Int)) := by rw [hb.cell hlt]; exact cell_row hw0.out rfl
        have hl1 : w.heap.size < w1.heap.size := Nat.lt_of_lt_of_le hlt hb.size
        clear hb
        go_wp2_with fail
        go_ret
        exact ⟨rfl, HB.out.alloc HB.out.size _⟩
      have tc : ((i.c : Int) != 0) = false := by simp; omega
      by_cases hb : i.b = 0
      case neg =>
        have tb : ((i.b : Int) != 0) = true := by simp; omega
        skip
        have HV : Hid (mayN 0 i.a i.b i.c = false) := by show _ = _; unfold mayN; simp [hb, hc]
        rw [HV.out]
        clear HV hb hc
        go_enter Tryz.func113, Tryz.ntmps113
        go_wp2_with fail
        refine HOF.out.mono ?_
        rintro e w1 ⟨rfl, hb⟩
        have HB := Lib.hid (h0.out.trans (hb.mono h0.out.size))
        have z0 : w1.cell? ⟨w.heap.size, 0, none⟩ = some (.int .u8 (i.op : Int)) := by rw [hb.cell hlt]; exact cell_row hw0.out rfl
        have z1 : w1.cell? ⟨w.heap.size, 1, none⟩ = some (.int .u8 (i.a : Int)) := by rw [hb.cell hlt]; exact cell_row hw0.out rfl
        have z2 : w1.cell? ⟨w.heap.size, 2, none⟩ = some (.int .u16 (i.b : Int)) := by rw [hb.cell hlt]; exact cell_row hw0.out rfl
        have z3 : w1.cell? ⟨w.heap.size, 3, none⟩ = some (.int .u32 (i.c : Int)) := by rw [hb.cell hlt]; exact cell_row hw0.out rfl
        have hl1 : w.heap.size < w1.heap.size := Nat.lt_of_lt_of_le hlt hb.size
        clear hb
        go_wp2_with fail
        go_ret
        exact ⟨rfl, HB.out.alloc HB.out.size _⟩
      have tb : ((i.b : Int) != 0) = false := by simp; omega
      have tb2 : decide ((16 : Int) ≤ (i.b : Int)) = false := by simp; omega
      by_cases ha : i.a = 0
      case pos =>
        have t1 : ((i.a : Int) == 0) = true := by simp; omega
        have HV : Hid (mayN 0 i.a i.b i.c = true) := by show _ = _; unfold mayN; simp [ha, hc, hb]
        rw [HV.out]
        clear HV ha hc hb
        go_enter Tryz.func113, Tryz.ntmps113
        go_wp2_with fail
        refine HOF.out.mono ?_
        rintro e w1 ⟨rfl, hb⟩
        have HB := Lib.hid (h0.out.trans (hb.mono h0.out.size))
        have z0 : w1.cell? ⟨w.heap.size, 0, none⟩ = some (.int .u8 (i.op : Int)) := by rw [hb.cell hlt]; exact cell_row hw0.out rfl
        have z1 : w1.cell? ⟨w.heap.size, 1, none⟩ = some (.int .u8 (i.a : Int)) := by rw [hb.cell hlt]; exact cell_row hw0.out rfl
        have z2 : w1.cell? ⟨w.heap.size, 2, none⟩ = some (.int .u16 (i.b : Int)) := by rw [hb.cell hlt]; exact cell_row hw0.out rfl
        have z3 : w1.cell? ⟨w.heap.size, 3, none⟩ = some (.int .u32 (i.c : Int)) := by rw [hb.cell hlt]; exact cell_row hw0.out rfl
        have hl1 : w.heap.size < w1.heap.size := Nat.lt_of_lt_of_le hlt hb.size
        clear hb
        go_wp2_with fail
        go_ret
        exact ⟨rfl, HB.out.alloc HB.out.size _⟩
      have t1 : ((i.a : Int) == 0) = false := by simp; omega
      have HV : Hid (mayN 0 i.a i.b i.c = false) := by show _ = _; unfold mayN; simp [ha, hc, hb]
      rw [HV.out]
      clear HV ha hc hb
      go_enter Tryz.func113, Tryz.ntmps113
      go_wp2_with fail
      refine HOF.out.mono ?_
      rintro e w1 ⟨rfl, hb⟩
      have HB := Lib.hid (h0.out.trans (hb.mono h0.out.size))
      have z0 : w1.cell? ⟨w.heap.size, 0, none⟩ = some (.int .u8 (i.op : Int)) := by rw [hb.cell hlt]; exact cell_row hw0.out rfl
      have z1 : w1.cell? ⟨w.heap.size, 1, none⟩ = some (.int .u8 (i.a : Int)) := by rw [hb.cell hlt]; exact cell_row hw0.out rfl
      have z2 : w1.cell? ⟨w.heap.size, 2, none⟩ = some (.int .u16 (i.b : Int)) := by rw [hb.cell hlt]; exact cell_row hw0.out rfl
      have z3 : w1.cell? ⟨w.heap.size, 3, none⟩ = some (.int .u32 (i.c : Int)) := by rw [hb.cell hlt]; exact cell_row hw0.out rfl
      have hl1 : w.heap.size < w1.heap.size := Nat.lt_of_lt_of_le hlt hb.size
      clear hb
      go_wp2_with fail
      go_ret
      exact ⟨rfl, HB.out.alloc HB.out.size _⟩
    · rw [hr] at HOF ⊢
      rw [hm] at HOF
      clear e1 hr hm
      have hb8 : (bits BinOp.and IntKind.u8 1 8 != 0) = false := by decide
      have hb1 : (bits BinOp.and IntKind.u8 1 1 != 0) = true := by decide
      have hb4 : (bits BinOp.and IntKind.u8 1 4 == 0) = true := by decide
      have hb2 : (bits BinOp.and IntKind.u8 1 2 == 0) = true := by decide
      generalize (rowAt i.op).name = nm at *
      generalize (rowAt i.op).takes = ta at *
      generalize (rowAt i.op).gives = gi at *
      by_cases hc : i.c = 0
      case neg =>
        have tc : ((i.c : Int) != 0) = true := by simp; omega
        have HV : Hid (mayN 1 i.a i.b i.c = false) := by show _ = _; unfold mayN; simp [hc]
        rw [HV.out]
        clear HV hc
        go_enter Tryz.func113, Tryz.ntmps113
        go_wp2_with fail
        refine HOF.out.mono ?_
        rintro e w1 ⟨rfl, hb⟩
        have HB := Lib.hid (h0.out.trans (hb.mono h0.out.size))
        have z0 : w1.cell? ⟨w.heap.size, 0, none⟩ = some (.int .u8 (i.op : Int)) := by rw [hb.cell hlt]; exact cell_row hw0.out rfl
        have z1 : w1.cell? ⟨w.heap.size, 1, none⟩ = some (.int .u8 (i.a : Int)) := by rw [hb.cell hlt]; exact cell_row hw0.out rfl
        have z2 : w1.cell? ⟨w.heap.size, 2, none⟩ = some (.int .u16 (i.b : Int)) := by rw [hb.cell hlt]; exact cell_row hw0.out rfl
        have z3 : w1.cell? ⟨w.heap.size, 3, none⟩ = some (.int .u32 (i.c : Int)) := by rw [hb.cell hlt]; exact cell_row hw0.out rfl
        have hl1 : w.heap.size < w1.heap.size := Nat.lt_of_lt_of_le hlt hb.size
        clear hb
        go_wp2_with fail
        go_ret
        exact ⟨rfl, HB.out.alloc HB.out.size _⟩
      have tc : ((i.c : Int) != 0) = false := by simp; omega
      by_cases hb : i.b = 0
      case neg =>
        have tb : ((i.b : Int) != 0) = true := by simp; omega
        skip
        have HV : Hid (mayN 1 i.a i.b i.c = false) := by show _ = _; unfold mayN; simp [hb, hc]
        rw [HV.out]
        clear HV hb hc
        go_enter Tryz.func113, Tryz.ntmps113
        go_wp2_with fail
        refine HOF.out.mono ?_
        rintro e w1 ⟨rfl, hb⟩
        have HB := Lib.hid (h0.out.trans (hb.mono h0.out.size))
        have z0 : w1.cell? ⟨w.heap.size, 0, none⟩ = some (.int .u8 (i.op : Int)) := by rw [hb.cell hlt]; exact cell_row hw0.out rfl
        have z1 : w1.cell? ⟨w.heap.size, 1, none⟩ = some (.int .u8 (i.a : Int)) := by rw [hb.cell hlt]; exact cell_row hw0.out rfl
        have z2 : w1.cell? ⟨w.heap.size, 2, none⟩ = some (.int .u16 (i.b : Int)) := by rw [hb.cell hlt]; exact cell_row hw0.out rfl
        have z3 : w1.cell? ⟨w.heap.size, 3, none⟩ = some (.int .u32 (i.c : Int)) := by rw [hb.cell hlt]; exact cell_row hw0.out rfl
        have hl1 : w.heap.size < w1.heap.size := Nat.lt_of_lt_of_le hlt hb.size
        clear hb
        go_wp2_with fail
        go_ret
        exact ⟨rfl, HB.out.alloc HB.out.size _⟩
      have tb : ((i.b : Int) != 0) = false := by simp; omega
      have tb2 : decide ((16 : Int) ≤ (i.b : Int)) = false := by simp; omega
      by_cases ha : i.a < 16
      case pos =>
        have t1 : decide ((i.a : Int) < 16) = true := by simp; omega
        have HV : Hid (mayN 1 i.a i.b i.c = true) := by show _ = _; unfold mayN; simp [ha, hc, hb]
        rw [HV.out]
        clear HV ha hc hb
        go_enter Tryz.func113, Tryz.ntmps113
        go_wp2_with fail
        refine HOF.out.mono ?_
        rintro e w1 ⟨rfl, hb⟩
        have HB := Lib.hid (h0.out.trans (hb.mono h0.out.size))
        have z0 : w1.cell? ⟨w.heap.size, 0, none⟩ = some (.int .u8 (i.op : Int)) := by rw [hb.cell hlt]; exact cell_row hw0.out rfl
        have z1 : w1.cell? ⟨w.heap.size, 1, none⟩ = some (.int .u8 (i.a : Int)) := by rw [hb.cell hlt]; exact cell_row hw0.out rfl
        have z2 : w1.cell? ⟨w.heap.size, 2, none⟩ = some (.int .u16 (i.b : Int)) := by rw [hb.cell hlt]; exact cell_row hw0.out rfl
        have z3 : w1.cell? ⟨w.heap.size, 3, none⟩ = some (.int .u32 (i.c : Int)) := by rw [hb.cell hlt]; exact cell_row hw0.out rfl
        have hl1 : w.heap.size < w1.heap.size := Nat.lt_of_lt_of_le hlt hb.size
        clear hb
        go_wp2_with fail
        go_ret
        exact ⟨rfl, HB.out.alloc HB.out.size _⟩
      have t1 : decide ((i.a : Int) < 16) = false := by simp; omega
      have HV : Hid (mayN 1 i.a i.b i.c = false) := by show _ = _; unfold mayN; simp [ha, hc, hb]
      rw [HV.out]
      clear HV ha hc hb
      go_enter Tryz.func113, Tryz.ntmps113
      go_wp2_with fail
      refine HOF.out.mono ?_
      rintro e w1 ⟨rfl, hb⟩
      have HB := Lib.hid (h0.out.trans (hb.mono h0.out.size))
      have z0 : w1.cell? ⟨w.heap.size, 0, none⟩ = some (.int .u8 (i.op : Int)) := by rw [hb.cell hlt]; exact cell_row hw0.out rfl
      have z1 : w1.cell? ⟨w.heap.size, 1, none⟩ = some (.int .u8 (i.a : Int)) := by rw [hb.cell hlt]; exact cell_row hw0.out rfl
      have z2 : w1.cell? ⟨w.heap.size, 2, none⟩ = some (.int .u16 (i.b : Int)) := by rw [hb.cell hlt]; exact cell_row hw0.out rfl
      have z3 : w1.cell? ⟨w.heap.size, 3, none⟩ = some (.int .u32 (i.c : Int)) := by rw [hb.cell hlt]; exact cell_row hw0.out rfl
      have hl1 : w.heap.size < w1.heap.size := Nat.lt_of_lt_of_le hlt hb.size
      clear hb
      go_wp2_with fail
      go_ret
      exact ⟨rfl, HB.out.alloc HB.out.size _⟩
    · rw [hr] at HOF ⊢
      rw [hm] at HOF
      clear e1 hr hm
      have hb8 : (bits BinOp.and IntKind.u8 3 8 != 0) = false := by decide
      have hb1 : (bits BinOp.and IntKind.u8 3 1 != 0) = true := by decide
      have hb4 : (bits BinOp.and IntKind.u8 3 4 == 0) = true := by decide
      have hb2 : (bits BinOp.and IntKind.u8 3 2 == 0) = false := by decide
      generalize (rowAt i.op).name = nm at *
      generalize (rowAt i.op).takes = ta at *
      generalize (rowAt i.op).gives = gi at *
      by_cases hc : i.c = 0
      case neg =>
        have tc : ((i.c : Int) != 0) = true := by simp; omega
        have HV : Hid (mayN 3 i.a i.b i.c = false) := by show _ = _; unfold mayN; simp [hc]
        rw [HV.out]
        clear HV hc
        go_enter Tryz.func113, Tryz.ntmps113
        go_wp2_with fail
        refine HOF.out.mono ?_
        rintro e w1 ⟨rfl, hb⟩
        have HB := Lib.hid (h0.out.trans (hb.mono h0.out.size))
        have z0 : w1.cell? ⟨w.heap.size, 0, none⟩ = some (.int .u8 (i.op : Int)) := by rw [hb.cell hlt]; exact cell_row hw0.out rfl
        have z1 : w1.cell? ⟨w.heap.size, 1, none⟩ = some (.int .u8 (i.a : Int)) := by rw [hb.cell hlt]; exact cell_row hw0.out rfl
        have z2 : w1.cell? ⟨w.heap.size, 2, none⟩ = some (.int .u16 (i.b : Int)) := by rw [hb.cell hlt]; exact cell_row hw0.out rfl
        have z3 : w1.cell? ⟨w.heap.size, 3, none⟩ = some (.int .u32 (i.c : Int)) := by rw [hb.cell hlt]; exact cell_row hw0.out rfl
        have hl1 : w.heap.size < w1.heap.size := Nat.lt_of_lt_of_le hlt hb.size
        clear hb
        go_wp2_with fail
        go_ret
        exact ⟨rfl, HB.out.alloc HB.out.size _⟩
      have tc : ((i.c : Int) != 0) = false := by simp; omega
      by_cases hb : i.b < 16
      case neg =>
        have tb2 : decide ((16 : Int) ≤ (i.b : Int)) = true := by simp; omega
        have HV : Hid (mayN 3 i.a i.b i.c = false) := by show _ = _; unfold mayN; simp [hb, hc]
        rw [HV.out]
        clear HV hb hc
        go_enter Tryz.func113, Tryz.ntmps113
        go_wp2_with fail
        refine HOF.out.mono ?_
        rintro e w1 ⟨rfl, hb⟩
        have HB := Lib.hid (h0.out.trans (hb.mono h0.out.size))
        have z0 : w1.cell? ⟨w.heap.size, 0, none⟩ = some (.int .u8 (i.op : Int)) := by rw [hb.cell hlt]; exact cell_row hw0.out rfl
        have z1 : w1.cell? ⟨w.heap.size, 1, none⟩ = some (.int .u8 (i.a : Int)) := by rw [hb.cell hlt]; exact cell_row hw0.out rfl
        have z2 : w1.cell? ⟨w.heap.size, 2, none⟩ = some (.int .u16 (i.b : Int)) := by rw [hb.cell hlt]; exact cell_row hw0.out rfl
        have z3 : w1.cell? ⟨w.heap.size, 3, none⟩ = some (.int .u32 (i.c : Int)) := by rw [hb.cell hlt]; exact cell_row hw0.out rfl
        have hl1 : w.heap.size < w1.heap.size := Nat.lt_of_lt_of_le hlt hb.size
        clear hb
        go_wp2_with fail
        go_ret
        exact ⟨rfl, HB.out.alloc HB.out.size _⟩
      have tb2 : decide ((16 : Int) ≤ (i.b : Int)) = false := by simp; omega
      by_cases ha : i.a < 16
      case pos =>
        have t1 : decide ((i.a : Int) < 16) = true := by simp; omega
        have HV : Hid (mayN 3 i.a i.b i.c = true) := by show _ = _; unfold mayN; simp [ha, hc, hb]
        rw [HV.out]
        clear HV ha hc hb
        go_enter Tryz.func113, Tryz.ntmps113
        go_wp2_with fail
        refine HOF.out.mono ?_
        rintro e w1 ⟨rfl, hb⟩
        have HB := Lib.hid (h0.out.trans (hb.mono h0.out.size))
        have z0 : w1.cell? ⟨w.heap.size, 0, none⟩ = some (.int .u8 (i.op : Int)) := by rw [hb.cell hlt]; exact cell_row hw0.out rfl
        have z1 : w1.cell? ⟨w.heap.size, 1, none⟩ = some (.int .u8 (i.a : Int)) := by rw [hb.cell hlt]; exact cell_row hw0.out rfl
        have z2 : w1.cell? ⟨w.heap.size, 2, none⟩ = some (.int .u16 (i.b : Int)) := by rw [hb.cell hlt]; exact cell_row hw0.out rfl
        have z3 : w1.cell? ⟨w.heap.size, 3, none⟩ = some (.int .u32 (i.c : Int)) := by rw [hb.cell hlt]; exact cell_row hw0.out rfl
        have hl1 : w.heap.size < w1.heap.size := Nat.lt_of_lt_of_le hlt hb.size
        clear hb
        go_wp2_with fail
        go_ret
        exact ⟨rfl, HB.out.alloc HB.out.size _⟩
      have t1 : decide ((i.a : Int) < 16) = false := by simp; omega
      have HV : Hid (mayN 3 i.a i.b i.c = false) := by show _ = _; unfold mayN; simp [ha, hc, hb]
      rw [HV.out]
      clear HV ha hc hb
      go_enter Tryz.func113, Tryz.ntmps113
      go_wp2_with fail
      refine HOF.out.mono ?_
      rintro e w1 ⟨rfl, hb⟩
      have HB := Lib.hid (h0.out.trans (hb.mono h0.out.size))
      have z0 : w1.cell? ⟨w.heap.size, 0, none⟩ = some (.int .u8 (i.op : Int)) := by rw [hb.cell hlt]; exact cell_row hw0.out rfl
      have z1 : w1.cell? ⟨w.heap.size, 1, none⟩ = some (.int .u8 (i.a : Int)) := by rw [hb.cell hlt]; exact cell_row hw0.out rfl
      have z2 : w1.cell? ⟨w.heap.size, 2, none⟩ = some (.int .u16 (i.b : Int)) := by rw [hb.cell hlt]; exact cell_row hw0.out rfl
      have z3 : w1.cell? ⟨w.heap.size, 3, none⟩ = some (.int .u32 (i.c : Int)) := by rw [hb.cell hlt]; exact cell_row hw0.out rfl
      have hl1 : w.heap.size < w1.heap.size := Nat.lt_of_lt_of_le hlt hb.size
      clear hb
      go_wp2_with fail
      go_ret
      exact ⟨rfl, HB.out.alloc HB.out.size _⟩
    · rw [hr] at HOF ⊢
      clear e1 hr
      have hb8 : (bits BinOp.and IntKind.u8 4 8 != 0) = false := by decide
      have hb1 : (bits BinOp.and IntKind.u8 4 1 != 0) = false := by decide
      have hb4 : (bits BinOp.and IntKind.u8 4 4 == 0) = false := by decide
      have hb2 : (bits BinOp.and IntKind.u8 4 2 == 0) = true := by decide
      generalize (rowAt i.op).name = nm at *
      generalize (rowAt i.op).most = mo at *
      generalize (rowAt i.op).takes = ta at *
      generalize (rowAt i.op).gives = gi at *
      by_cases hb : i.b = 0
      case neg =>
        have tb : ((i.b : Int) != 0) = true := by simp; omega
        skip
        have HV : Hid (mayN 4 i.a i.b i.c = false) := by show _ = _; unfold mayN; simp [hb]
        rw [HV.out]
        clear HV hb
        go_enter Tryz.func113, Tryz.ntmps113
        go_wp2_with fail
        refine HOF.out.mono ?_
        rintro e w1 ⟨rfl, hb⟩
        have HB := Lib.hid (h0.out.trans (hb.mono h0.out.size))
        have z0 : w1.cell? ⟨w.heap.size, 0, none⟩ = some (.int .u8 (i.op : Int)) := by rw [hb.cell hlt]; exact cell_row hw0.out rfl
        have z1 : w1.cell? ⟨w.heap.size, 1, none⟩ = some (.int .u8 (i.a : Int)) := by rw [hb.cell hlt]; exact cell_row hw0.out rfl
        have z2 : w1.cell? ⟨w.heap.size, 2, none⟩ = some (.int .u16 (i.b : Int)) := by rw [hb.cell hlt]; exact cell_row hw0.out rfl
        have z3 : w1.cell? ⟨w.heap.size, 3, none⟩ = some (.int .u32 (i.c : Int)) := by rw [hb.cell hlt]; exact cell_row hw0.out rfl
        have hl1 : w.heap.size < w1.heap.size := Nat.lt_of_lt_of_le hlt hb.size
        clear hb
        go_wp2_with fail
        go_ret
        exact ⟨rfl, HB.out.alloc HB.out.size _⟩
      have tb : ((i.b : Int) != 0) = false := by simp; omega
      have tb2 : decide ((16 : Int) ≤ (i.b : Int)) = false := by simp; omega
      by_cases ha : i.a = 0
      case pos =>
        have t1 : ((i.a : Int) == 0) = true := by simp; omega
        have HV : Hid (mayN 4 i.a i.b i.c = true) := by show _ = _; unfold mayN; simp [ha, hb]
        rw [HV.out]
        clear HV ha hb
        go_enter Tryz.func113, Tryz.ntmps113
        go_wp2_with fail
        refine HOF.out.mono ?_
        rintro e w1 ⟨rfl, hb⟩
        have HB := Lib.hid (h0.out.trans (hb.mono h0.out.size))
        have z0 : w1.cell? ⟨w.heap.size, 0, none⟩ = some (.int .u8 (i.op : Int)) := by rw [hb.cell hlt]; exact cell_row hw0.out rfl
        have z1 : w1.cell? ⟨w.heap.size, 1, none⟩ = some (.int .u8 (i.a : Int)) := by rw [hb.cell hlt]; exact cell_row hw0.out rfl
        have z2 : w1.cell? ⟨w.heap.size, 2, none⟩ = some (.int .u16 (i.b : Int)) := by rw [hb.cell hlt]; exact cell_row hw0.out rfl
        have z3 : w1.cell? ⟨w.heap.size, 3, none⟩ = some (.int .u32 (i.c : Int)) := by rw [hb.cell hlt]; exact cell_row hw0.out rfl
        have hl1 : w.heap.size < w1.heap.size := Nat.lt_of_lt_of_le hlt hb.size
        clear hb
        go_wp2_with fail
        go_ret
        exact ⟨rfl, HB.out.alloc HB.out.size _⟩
      have t1 : ((i.a : Int) == 0) = false := by simp; omega
      have HV : Hid (mayN 4 i.a i.b i.c = false) := by show _ = _; unfold mayN; simp [ha, hb]
      rw [HV.out]
      clear HV ha hb
      go_enter Tryz.func113, Tryz.ntmps113
      go_wp2_with fail
      refine HOF.out.mono ?_
      rintro e w1 ⟨rfl, hb⟩
      have HB := Lib.hid (h0.out.trans (hb.mono h0.out.size))
      have z0 : w1.cell? ⟨w.heap.size, 0, none⟩ = some (.int .u8 (i.op : Int)) := by rw [hb.cell hlt]; exact cell_row hw0.out rfl
      have z1 : w1.cell? ⟨w.heap.size, 1, none⟩ = some (.int .u8 (i.a : Int)) := by rw [hb.cell hlt]; exact cell_row hw0.out rfl
      have z2 : w1.cell? ⟨w.heap.size, 2, none⟩ = some (.int .u16 (i.b : Int)) := by rw [hb.cell hlt]; exact cell_row hw0.out rfl
      have z3 : w1.cell? ⟨w.heap.size, 3, none⟩ = some (.int .u32 (i.c : Int)) := by rw [hb.cell hlt]; exact cell_row hw0.out rfl
      have hl1 : w.heap.size < w1.heap.size := Nat.lt_of_lt_of_le hlt hb.size
      clear hb
      go_wp2_with fail
      go_ret
      exact ⟨rfl, HB.out.alloc HB.out.size _⟩
    · rw [hr] at HOF ⊢
      clear e1 hr
      have hb8 : (bits BinOp.and IntKind.u8 12 8 != 0) = true := by decide
      have hb1 : (bits BinOp.and IntKind.u8 12 1 != 0) = false := by decide
      have hb4 : (bits BinOp.and IntKind.u8 12 4 == 0) = false := by decide
      have hb2 : (bits BinOp.and IntKind.u8 12 2 == 0) = true := by decide
      generalize (rowAt i.op).name = nm at *
      generalize (rowAt i.op).most = mo at *
      generalize (rowAt i.op).takes = ta at *
      generalize (rowAt i.op).gives = gi at *
      by_cases hb : i.b = 0
      case neg =>
        have tb : ((i.b : Int) != 0) = true := by simp; omega
        skip
        have HV : Hid (mayN 12 i.a i.b i.c = false) := by show _ = _; unfold mayN; simp [hb]
        rw [HV.out]
        clear HV hb
        go_enter Tryz.func113, Tryz.ntmps113
        go_wp2_with fail
        refine HOF.out.mono ?_
        rintro e w1 ⟨rfl, hb⟩
        have HB := Lib.hid (h0.out.trans (hb.mono h0.out.size))
        have z0 : w1.cell? ⟨w.heap.size, 0, none⟩ = some (.int .u8 (i.op : Int)) := by rw [hb.cell hlt]; exact cell_row hw0.out rfl
        have z1 : w1.cell? ⟨w.heap.size, 1, none⟩ = some (.int .u8 (i.a : Int)) := by rw [hb.cell hlt]; exact cell_row hw0.out rfl
        have z2 : w1.cell? ⟨w.heap.size, 2, none⟩ = some (.int .u16 (i.b : Int)) := by rw [hb.cell hlt]; exact cell_row hw0.out rfl
        have z3 : w1.cell? ⟨w.heap.size, 3, none⟩ = some (.int .u32 (i.c : Int)) := by rw [hb.cell hlt]; exact cell_row hw0.out rfl
        have hl1 : w.heap.size < w1.heap.size := Nat.lt_of_lt_of_le hlt hb.size
        clear hb
        go_wp2_with fail
        go_ret
        exact ⟨rfl, HB.out.alloc HB.out.size _⟩
      have tb : ((i.b : Int) != 0) = false := by simp; omega
      have tb2 : decide ((16 : Int) ≤ (i.b : Int)) = false := by simp; omega
      by_cases h1 : i.a = 1
      case pos =>
        have ta1 : ((i.a : Int) == 1) = true := by simp; omega
        have HV : Hid (mayN 12 i.a i.b i.c = true) := by show _ = _; unfold mayN; simp [h1, hb]
        rw [HV.out]
        clear HV h1 hb
        go_enter Tryz.func113, Tryz.ntmps113
        go_wp2_with fail
        refine HOF.out.mono ?_
        rintro e w1 ⟨rfl, hb⟩
        have HB := Lib.hid (h0.out.trans (hb.mono h0.out.size))
        have z0 : w1.cell? ⟨w.heap.size, 0, none⟩ = some (.int .u8 (i.op : Int)) := by rw [hb.cell hlt]; exact cell_row hw0.out rfl
        have z1 : w1.cell? ⟨w.heap.size, 1, none⟩ = some (.int .u8 (i.a : Int)) := by rw [hb.cell hlt]; exact cell_row hw0.out rfl
        have z2 : w1.cell? ⟨w.heap.size, 2, none⟩ = some (.int .u16 (i.b : Int)) := by rw [hb.cell hlt]; exact cell_row hw0.out rfl
        have z3 : w1.cell? ⟨w.heap.size, 3, none⟩ = some (.int .u32 (i.c : Int)) := by rw [hb.cell hlt]; exact cell_row hw0.out rfl
        have hl1 : w.heap.size < w1.heap.size := Nat.lt_of_lt_of_le hlt hb.size
        clear hb
        go_wp2_with fail
        go_ret
        exact ⟨rfl, HB.out.alloc HB.out.size _⟩
      have ta1 : ((i.a : Int) == 1) = false := by simp; omega
      by_cases h2 : i.a = 2
      case pos =>
        have ta2 : ((i.a : Int) == 2) = true := by simp; omega
        have HV : Hid (mayN 12 i.a i.b i.c = true) := by show _ = _; unfold mayN; simp [h2, hb, h1]
        rw [HV.out]
        clear HV h2 hb h1
        go_enter Tryz.func113, Tryz.ntmps113
        go_wp2_with fail
        refine HOF.out.mono ?_
        rintro e w1 ⟨rfl, hb⟩
        have HB := Lib.hid (h0.out.trans (hb.mono h0.out.size))
        have z0 : w1.cell? ⟨w.heap.size, 0, none⟩ = some (.int .u8 (i.op : Int)) := by rw [hb.cell hlt]; exact cell_row hw0.out rfl
        have z1 : w1.cell? ⟨w.heap.size, 1, none⟩ = some (.int .u8 (i.a : Int)) := by rw [hb.cell hlt]; exact cell_row hw0.out rfl
        have z2 : w1.cell? ⟨w.heap.size, 2, none⟩ = some (.int .u16 (i.b : Int)) := by rw [hb.cell hlt]; exact cell_row hw0.out rfl
        have z3 : w1.cell? ⟨w.heap.size, 3, none⟩ = some (.int .u32 (i.c : Int)) := by rw [hb.cell hlt]; exact cell_row hw0.out rfl
        have hl1 : w.heap.size < w1.heap.size := Nat.lt_of_lt_of_le hlt hb.size
        clear hb
        go_wp2_with fail
        go_ret
        exact ⟨rfl, HB.out.alloc HB.out.size _⟩
      have ta2 : ((i.a : Int) == 2) = false := by simp; omega
      by_cases h4 : i.a = 4
      case pos =>
        have ta4 : ((i.a : Int) == 4) = true := by simp; omega
        have HV : Hid (mayN 12 i.a i.b i.c = true) := by show _ = _; unfold mayN; simp [h4, hb, h1, h2]
        rw [HV.out]
        clear HV h4 hb h1 h2
        go_enter Tryz.func113, Tryz.ntmps113
        go_wp2_with fail
        refine HOF.out.mono ?_
        rintro e w1 ⟨rfl, hb⟩
        have HB := Lib.hid (h0.out.trans (hb.mono h0.out.size))
        have z0 : w1.cell? ⟨w.heap.size, 0, none⟩ = some (.int .u8 (i.op : Int)) := by rw [hb.cell hlt]; exact cell_row hw0.out rfl
        have z1 : w1.cell? ⟨w.heap.size, 1, none⟩ = some (.int .u8 (i.a : Int)) := by rw [hb.cell hlt]; exact cell_row hw0.out rfl
        have z2 : w1.cell? ⟨w.heap.size, 2, none⟩ = some (.int .u16 (i.b : Int)) := by rw [hb.cell hlt]; exact cell_row hw0.out rfl
        have z3 : w1.cell? ⟨w.heap.size, 3, none⟩ = some (.int .u32 (i.c : Int)) := by rw [hb.cell hlt]; exact cell_row hw0.out rfl
        have hl1 : w.heap.size < w1.heap.size := Nat.lt_of_lt_of_le hlt hb.size
        clear hb
        go_wp2_with fail
        go_ret
        exact ⟨rfl, HB.out.alloc HB.out.size _⟩
      have ta4 : ((i.a : Int) == 4) = false := by simp; omega
      have HV : Hid (mayN 12 i.a i.b i.c = false) := by show _ = _; unfold mayN; simp [hb, h1, h2, h4]
      rw [HV.out]
      clear HV hb h1 h2 h4
      go_enter Tryz.func113, Tryz.ntmps113
      go_wp2_with fail
      refine HOF.out.mono ?_
      rintro e w1 ⟨rfl, hb⟩
      have HB := Lib.hid (h0.out.trans (hb.mono h0.out.size))
      have z0 : w1.cell? ⟨w.heap.size, 0, none⟩ = some (.int .u8 (i.op : Int)) := by rw [hb.cell hlt]; exact cell_row hw0.out rfl
      have z1 : w1.cell? ⟨w.heap.size, 1, none⟩ = some (.int .u8 (i.a : Int)) := by rw [hb.cell hlt]; exact cell_row hw0.out rfl
      have z2 : w1.cell? ⟨w.heap.size, 2, none⟩ = some (.int .u16 (i.b : Int)) := by rw [hb.cell hlt]; exact cell_row hw0.out rfl
      have z3 : w1.cell? ⟨w.heap.size, 3, none⟩ = some (.int .u32 (i.c : Int)) := by rw [hb.cell hlt]; exact cell_row hw0.out rfl
      have hl1 : w.heap.size < w1.heap.size := Nat.lt_of_lt_of_le hlt hb.size
      clear hb
      go_wp2_with fail
      go_ret
      exact ⟨rfl, HB.out.alloc HB.out.size _⟩
end Go.Proofs.YtdlpgoackmgdkaaGreatDoor
/- Two results, the first of them a row. -/
namespace Go.Proofs.YtdlpgoackmgdkaaGreatDoor
open Go.RowKit
set_option linter.unusedVariables false
theorem results_cell_tmp {P : Program} {fn : Func} {p q : Tmp} {ty : TypeId} (h : fn.results = #[.cell p ty, .tmp q]) (tmps : Array Value) (w : World) (g : Nat) (t : TypeId) (cs : Array Value) (fr : Nat × Nat) (d : TypeDesc) (v : Value)
    (hp : tmps.getD p undef = .pointer (some ⟨g, 0, none⟩)) (hq : tmps.getD q undef = v) (hg : w.heap[g]? = some (.cells cs t fr))
    (hu : P.underlying ty = some d) (hd : (match d with | .struct _ | .array _ _ => true | _ => false) = true) (hi : (P.info? ty).map (·.size) = some cs.size) :
    (results fn tmps).run P w = .ok (.tuple #[.agg cs, v]) w := by
  have hp' : tmps[p]?.getD undef = .pointer (some ⟨g, 0, none⟩) := by simpa using hp
  have hq' : tmps[q]?.getD undef = v := by simpa using hq
  simp [results, h, hp', hq', asAddr, Go.run_loadVar_row w g t ty cs fr d hg hu hd hi]
theorem setCells_all {w : World} {g : Nat} {t : TypeId} {cur : Array Value} (vs : List Value) (h : w.heap[g]? = some (.cells cur t (0, 0))) (hl : vs.length = cur.size) : (w.setCells g 0 vs).heap[g]? = some (.cells vs.toArray t (0, 0)) := by
  obtain ⟨cur', e1, e2, e3⟩ := setCells_row vs 0 w g t cur h
  rw [e1]
  have e : cur' = vs.toArray := by
    apply Array.ext_getElem?
    intro i
    by_cases hi : i < cur.size
    · rw [e3 i hi, if_pos (by omega)]
      simp [List.getD_eq_getElem?_getD, List.getElem?_eq_getElem (show i < vs.length by omega)]
    · rw [Array.getElem?_eq_none (by omega), Array.getElem?_eq_none (by simp; omega)]
  rw [e]
end Go.Proofs.YtdlpgoackmgdkaaGreatDoor
/- Read. -/
namespace Go.Proofs.YtdlpgoackmgdkaaGreatDoor
open Go.RowKit
set_option linter.unusedVariables false
def noIns : Ins := ⟨0, 0, 0, 0⟩
end Go.Proofs.YtdlpgoackmgdkaaGreatDoor
/- The document's May. (Printed by gen_rmay.py.) -/
namespace Go.Proofs.YtdlpgoackmgdkaaGreatDoor
open Go.RowKit
set_option linter.unusedVariables false
set_option linter.unusedSimpArgs false
theorem may_of {i : Ins} {nm : Nat} (h1 : (rowAt i.op).name ≠ []) (h2 : (rowAt i.op).nm = nm) : i.may = mayN nm i.a i.b i.c := by unfold Ins.may mayI; rw [if_neg h1, h2]
theorem may_no {i : Ins} (h : rowAt i.op = noRow) : i.may = false := by unfold Ins.may mayI; rw [if_pos (by rw [h]; rfl)]
end Go.Proofs.YtdlpgoackmgdkaaGreatDoor
