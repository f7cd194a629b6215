/- The rows of the instructions. (Printed by gen_isa.py.) -/
import Derived.Test.YtalmgjeiopjhlaaGreatDoorSet
namespace Go.Proofs.YtalmgjeiopjhlaaGreatDoor
open Go.RowKit
set_option linter.unusedVariables false
structure RowI where
  name : List UInt8
  (nm most takes gives : Nat)
def noRow : RowI := ⟨[], 0, 0, 0, 0⟩
def tab : List RowI := [⟨[], 0, 0, 0, 0⟩, ⟨[112, 117, 115, 104], 4, 0, 0, 1⟩, ⟨[100, 117, 112], 0, 0, 1, 2⟩, ⟨[100, 114, 111, 112], 0, 0, 1, 0⟩, ⟨[115, 119, 97, 112], 0, 0, 2, 2⟩, ⟨[97, 100, 100], 0, 0, 2, 1⟩, ⟨[115, 117, 98], 0, 0, 2, 1⟩, ⟨[109, 117, 108], 0, 0, 2, 1⟩, ⟨[100, 105, 118], 0, 0, 2, 1⟩, ⟨[109, 111, 100], 0, 0, 2, 1⟩, ⟨[97, 110, 100], 0, 0, 2, 1⟩, ⟨[111, 114], 0, 0, 2, 1⟩, ⟨[120, 111, 114], 0, 0, 2, 1⟩, ⟨[115, 104, 108], 0, 0, 2, 1⟩, ⟨[115, 104, 114], 0, 0, 2, 1⟩, ⟨[101, 113], 0, 0, 2, 1⟩, ⟨[108, 101, 115, 115], 0, 0, 2, 1⟩, ⟨[108, 111, 97, 100], 12, 0, 1, 1⟩, ⟨[115, 116, 111, 114, 101], 12, 0, 2, 0⟩, ⟨[106, 117, 109, 112], 4, 0, 0, 0⟩, ⟨[122, 101, 114, 111], 4, 0, 1, 0⟩, ⟨[105, 110], 1, 16, 0, 1⟩, ⟨[111, 117, 116], 1, 16, 1, 0⟩, ⟨[114, 101, 97, 100], 3, 16, 0, 1⟩, ⟨[97, 103, 101], 1, 16, 0, 1⟩, ⟨[112, 117, 116], 3, 16, 1, 0⟩, ⟨[115, 101, 110, 100], 1, 16, 0, 0⟩, ⟨[121, 105, 101, 108, 100], 0, 0, 0, 0⟩]
def tab0 : List RowI := [⟨[], 0, 0, 0, 0⟩, ⟨[112, 117, 115, 104], 4, 0, 0, 1⟩, ⟨[100, 117, 112], 0, 0, 1, 2⟩, ⟨[100, 114, 111, 112], 0, 0, 1, 0⟩, ⟨[115, 119, 97, 112], 0, 0, 2, 2⟩, noRow, noRow, noRow, noRow, noRow, noRow, noRow, noRow, noRow, noRow, noRow, noRow, ⟨[108, 111, 97, 100], 12, 0, 1, 1⟩, ⟨[115, 116, 111, 114, 101], 12, 0, 2, 0⟩, ⟨[106, 117, 109, 112], 4, 0, 0, 0⟩, ⟨[122, 101, 114, 111], 4, 0, 1, 0⟩, ⟨[105, 110], 1, 16, 0, 1⟩, ⟨[111, 117, 116], 1, 16, 1, 0⟩, ⟨[114, 101, 97, 100], 3, 16, 0, 1⟩, ⟨[97, 103, 101], 1, 16, 0, 1⟩, ⟨[112, 117, 116], 3, 16, 1, 0⟩, ⟨[115, 101, 110, 100], 1, 16, 0, 0⟩, ⟨[121, 105, 101, 108, 100], 0, 0, 0, 0⟩]
def rowAt (op : Nat) : RowI := tab.getD op noRow
def RowI.cell (r : RowI) (j : Nat) : Value := if j = 0 then .string ⟨r.name.toArray⟩ else if j = 1 then .int .u8 (r.nm : Int) else if j = 2 then .int .i64 (r.most : Int) else if j = 3 then .int .i64 (r.takes : Int) else .int .i64 (r.gives : Int)
def RowI.arr (r : RowI) : Array Value := #[.string ⟨r.name.toArray⟩, .int .u8 (r.nm : Int), .int .i64 (r.most : Int), .int .i64 (r.takes : Int), .int .i64 (r.gives : Int)]
def rowsV (k i : Nat) : Value := ((if 5 ≤ i / 5 ∧ i / 5 < 5 + k then tab else tab0).getD (i / 5) noRow).cell (i % 5)
def rowsL (k : Nat) : List Value := (List.range 140).map (rowsV k)
def rowsArr : Array Value := (rowsL 12).toArray
def Z140 : Array Value := (List.replicate 28 [Value.string ⟨#[]⟩, .int .u8 0, .int .i64 0, .int .i64 0, .int .i64 0]).flatten.toArray
theorem zero54 (w : World) : (zeroValue 113).run Tryz.prog w = .ok (.agg Z140) w := by kernel_rfl
theorem build45 (s : ByteArray) (a b c d : Int) (w : World) : (Instr.build 81 #[(0, .string s), (1, .int .u8 a), (2, .int .i64 b), (3, .int .i64 c), (4, .int .i64 d)]).run Tryz.prog w = .ok (.agg #[.string s, .int .u8 a, .int .i64 b, .int .i64 c, .int .i64 d]) w := by kernel_rfl
theorem build45b (s : ByteArray) (c d : Int) (w : World) : (Instr.build 81 #[(0, .string s), (3, .int .i64 c), (4, .int .i64 d)]).run Tryz.prog w = .ok (.agg #[.string s, .int .u8 0, .int .i64 0, .int .i64 c, .int .i64 d]) w := by kernel_rfl
theorem build45z (w : World) : (Instr.build 81 #[]).run Tryz.prog w = .ok (.agg noRow.arr) w := by kernel_rfl
set_option maxRecDepth 100000 in
theorem build54 (w : World) : (Instr.build 113 #[(1, .agg #[.string { data := #[112, 117, 115, 104] }, .int .u8 4, .int .i64 0, .int .i64 0, .int .i64 1]), (2, .agg #[.string { data := #[100, 117, 112] }, .int .u8 0, .int .i64 0, .int .i64 1, .int .i64 2]), (3, .agg #[.string { data := #[100, 114, 111, 112] }, .int .u8 0, .int .i64 0, .int .i64 1, .int .i64 0]), (4, .agg #[.string { data := #[115, 119, 97, 112] }, .int .u8 0, .int .i64 0, .int .i64 2, .int .i64 2]), (17, .agg #[.string { data := #[108, 111, 97, 100] }, .int .u8 12, .int .i64 0, .int .i64 1, .int .i64 1]), (18, .agg #[.string { data := #[115, 116, 111, 114, 101] }, .int .u8 12, .int .i64 0, .int .i64 2, .int .i64 0]), (19, .agg #[.string { data := #[106, 117, 109, 112] }, .int .u8 4, .int .i64 0, .int .i64 0, .int .i64 0]), (20, .agg #[.string { data := #[122, 101, 114, 111] }, .int .u8 4, .int .i64 0, .int .i64 1, .int .i64 0]), (21, .agg #[.string { data := #[105, 110] }, .int .u8 1, .int .i64 16, .int .i64 0, .int .i64 1]), (22, .agg #[.string { data := #[111, 117, 116] }, .int .u8 1, .int .i64 16, .int .i64 1, .int .i64 0]), (23, .agg #[.string { data := #[114, 101, 97, 100] }, .int .u8 3, .int .i64 16, .int .i64 0, .int .i64 1]), (24, .agg #[.string { data := #[97, 103, 101] }, .int .u8 1, .int .i64 16, .int .i64 0, .int .i64 1]), (25, .agg #[.string { data := #[112, 117, 116] }, .int .u8 3, .int .i64 16, .int .i64 1, .int .i64 0]), (26, .agg #[.string { data := #[115, 101, 110, 100] }, .int .u8 1, .int .i64 16, .int .i64 0, .int .i64 0]), (27, .agg #[.string { data := #[121, 105, 101, 108, 100] }, .int .u8 0, .int .i64 0, .int .i64 0, .int .i64 0])]).run Tryz.prog w = .ok (.agg (rowsL 0).toArray) w := by kernel_rfl
def names12 : Array Value := #[.string { data := #[97, 100, 100] }, .string { data := #[115, 117, 98] }, .string { data := #[109, 117, 108] }, .string { data := #[100, 105, 118] }, .string { data := #[109, 111, 100] }, .string { data := #[97, 110, 100] }, .string { data := #[111, 114] }, .string { data := #[120, 111, 114] }, .string { data := #[115, 104, 108] }, .string { data := #[115, 104, 114] }, .string { data := #[101, 113] }, .string { data := #[108, 101, 115, 115] }]
theorem build56 (w : World) : (Instr.build 126 #[(0, .string { data := #[97, 100, 100] }), (1, .string { data := #[115, 117, 98] }), (2, .string { data := #[109, 117, 108] }), (3, .string { data := #[100, 105, 118] }), (4, .string { data := #[109, 111, 100] }), (5, .string { data := #[97, 110, 100] }), (6, .string { data := #[111, 114] }), (7, .string { data := #[120, 111, 114] }), (8, .string { data := #[115, 104, 108] }), (9, .string { data := #[115, 104, 114] }), (10, .string { data := #[101, 113] }), (11, .string { data := #[108, 101, 115, 115] })]).run Tryz.prog w = .ok (.agg names12) w := by kernel_rfl
theorem index56 (k : Nat) (h : k < 12) (w : World) : (Instr.index 126 (.agg names12) (.int .i64 (k : Int))).run Tryz.prog w = .ok (.string ⟨(rowAt (5 + k)).name.toArray⟩) w := by
  match k, h with
  | 0, _ => show _ = _; kernel_rfl
  | 1, _ => show _ = _; kernel_rfl
  | 2, _ => show _ = _; kernel_rfl
  | 3, _ => show _ = _; kernel_rfl
  | 4, _ => show _ = _; kernel_rfl
  | 5, _ => show _ = _; kernel_rfl
  | 6, _ => show _ = _; kernel_rfl
  | 7, _ => show _ = _; kernel_rfl
  | 8, _ => show _ = _; kernel_rfl
  | 9, _ => show _ = _; kernel_rfl
  | 10, _ => show _ = _; kernel_rfl
  | 11, _ => show _ = _; kernel_rfl
set_option maxRecDepth 100000 in
theorem index54 (op : Nat) (h : op < 28) (w : World) : (Instr.index 113 (.agg rowsArr) (.int .u8 (op : Int))).run Tryz.prog w = .ok (.agg (rowAt op).arr) w := by
  match op, h with
  | 0, _ => show _ = _; kernel_rfl
  | 1, _ => show _ = _; kernel_rfl
  | 2, _ => show _ = _; kernel_rfl
  | 3, _ => show _ = _; kernel_rfl
  | 4, _ => show _ = _; kernel_rfl
  | 5, _ => show _ = _; kernel_rfl
  | 6, _ => show _ = _; kernel_rfl
  | 7, _ => show _ = _; kernel_rfl
  | 8, _ => show _ = _; kernel_rfl
  | 9, _ => show _ = _; kernel_rfl
  | 10, _ => show _ = _; kernel_rfl
  | 11, _ => show _ = _; kernel_rfl
  | 12, _ => show _ = _; kernel_rfl
  | 13, _ => show _ = _; kernel_rfl
  | 14, _ => show _ = _; kernel_rfl
  | 15, _ => show _ = _; kernel_rfl
  | 16, _ => show _ = _; kernel_rfl
  | 17, _ => show _ = _; kernel_rfl
  | 18, _ => show _ = _; kernel_rfl
  | 19, _ => show _ = _; kernel_rfl
  | 20, _ => show _ = _; kernel_rfl
  | 21, _ => show _ = _; kernel_rfl
  | 22, _ => show _ = _; kernel_rfl
  | 23, _ => show _ = _; kernel_rfl
  | 24, _ => show _ = _; kernel_rfl
  | 25, _ => show _ = _; kernel_rfl
  | 26, _ => show _ = _; kernel_rfl
  | 27, _ => show _ = _; kernel_rfl
  | n + 28, h => exact absurd h (by omega)
set_option maxRecDepth 100000 in
theorem index54i (op : Nat) (h : op < 28) (w : World) : (Instr.index 113 (.agg rowsArr) (.int .i64 (op : Int))).run Tryz.prog w = .ok (.agg (rowAt op).arr) w := by
  match op, h with
  | 0, _ => show _ = _; kernel_rfl
  | 1, _ => show _ = _; kernel_rfl
  | 2, _ => show _ = _; kernel_rfl
  | 3, _ => show _ = _; kernel_rfl
  | 4, _ => show _ = _; kernel_rfl
  | 5, _ => show _ = _; kernel_rfl
  | 6, _ => show _ = _; kernel_rfl
  | 7, _ => show _ = _; kernel_rfl
  | 8, _ => show _ = _; kernel_rfl
  | 9, _ => show _ = _; kernel_rfl
  | 10, _ => show _ = _; kernel_rfl
  | 11, _ => show _ = _; kernel_rfl
  | 12, _ => show _ = _; kernel_rfl
  | 13, _ => show _ = _; kernel_rfl
  | 14, _ => show _ = _; kernel_rfl
  | 15, _ => show _ = _; kernel_rfl
  | 16, _ => show _ = _; kernel_rfl
  | 17, _ => show _ = _; kernel_rfl
  | 18, _ => show _ = _; kernel_rfl
  | 19, _ => show _ = _; kernel_rfl
  | 20, _ => show _ = _; kernel_rfl
  | 21, _ => show _ = _; kernel_rfl
  | 22, _ => show _ = _; kernel_rfl
  | 23, _ => show _ = _; kernel_rfl
  | 24, _ => show _ = _; kernel_rfl
  | 25, _ => show _ = _; kernel_rfl
  | 26, _ => show _ = _; kernel_rfl
  | 27, _ => show _ = _; kernel_rfl
  | n + 28, h => exact absurd h (by omega)
theorem rows_step (k i : Nat) (hk : k < 12) (hi : i < 140) : (if (5 + k) * 5 ≤ i ∧ i < (5 + k) * 5 + 5 then (rowAt (5 + k)).arr.toList.getD (i - (5 + k) * 5) undef else rowsV k i) = rowsV (k + 1) i := by
  by_cases h : (5 + k) * 5 ≤ i ∧ i < (5 + k) * 5 + 5
  · rw [if_pos h]
    unfold rowsV
    rw [if_pos (by omega), show i / 5 = 5 + k by omega, show i % 5 = i - (5 + k) * 5 by omega]
    have hj : i - (5 + k) * 5 < 5 := by omega
    generalize i - (5 + k) * 5 = j at *
    show (rowAt (5 + k)).arr.toList.getD j undef = (rowAt (5 + k)).cell j
    generalize rowAt (5 + k) = r
    match j, hj with
    | 0, _ => rfl
    | 1, _ => rfl
    | 2, _ => rfl
    | 3, _ => rfl
    | 4, _ => rfl
  · rw [if_neg h]
    unfold rowsV
    by_cases h2 : 5 ≤ i / 5 ∧ i / 5 < 5 + k
    · rw [if_pos h2, if_pos (by omega)]
    · rw [if_neg h2, if_neg (by omega)]
theorem row_mid (k : Nat) (hk : k < 12) : (rowAt (5 + k)).arr = #[.string ⟨(rowAt (5 + k)).name.toArray⟩, .int .u8 0, .int .i64 0, .int .i64 2, .int .i64 1] := by
  match k, hk with
  | 0, _ => rfl
  | 1, _ => rfl
  | 2, _ => rfl
  | 3, _ => rfl
  | 4, _ => rfl
  | 5, _ => rfl
  | 6, _ => rfl
  | 7, _ => rfl
  | 8, _ => rfl
  | 9, _ => rfl
  | 10, _ => rfl
  | 11, _ => rfl
theorem rows_one (k i : Nat) : (rowsV k i).oneCell' = true := by
  unfold rowsV RowI.cell
  repeat' split
  all_goals rfl
def RowsAt (w : World) (g k : Nat) : Prop := ∃ cur, w.heap[g]? = some (.cells cur 113 (0, 0)) ∧ cur.size = 140 ∧ ∀ i, i < 140 → cur[i]? = some (rowsV k i)
theorem RowsAt.arr {w : World} {g : Nat} (h : RowsAt w g 12) : w.heap[g]? = some (.cells rowsArr 113 (0, 0)) := by
  obtain ⟨cur, h1, h2, h3⟩ := h
  rw [h1]
  have e : cur = rowsArr := by
    apply Array.ext_getElem?
    intro i
    by_cases hi : i < 140
    · rw [h3 i hi]; unfold rowsArr rowsL; simp [hi]
    · rw [Array.getElem?_eq_none (by omega), Array.getElem?_eq_none (by unfold rowsArr rowsL; simp; omega)]
  rw [e]
theorem RowsAt.step {w : World} {g k : Nat} (h : RowsAt w g k) (hk : k < 12) : RowsAt (w.setCells g ((5 + k) * 5) (rowAt (5 + k)).arr.toList) g (k + 1) := by
  obtain ⟨cur, h1, h2, h3⟩ := h
  obtain ⟨cur', e1, e2, e3⟩ := setCells_row (rowAt (5 + k)).arr.toList ((5 + k) * 5) w g 113 cur h1
  refine ⟨cur', e1, e2.trans h2, fun i hi => ?_⟩
  rw [e3 i (by omega), ← rows_step k i hk hi]
  have hl : (rowAt (5 + k)).arr.toList.length = 5 := rfl
  rw [hl]
  split
  · rfl
  · exact h3 i hi
end Go.Proofs.YtalmgjeiopjhlaaGreatDoor
