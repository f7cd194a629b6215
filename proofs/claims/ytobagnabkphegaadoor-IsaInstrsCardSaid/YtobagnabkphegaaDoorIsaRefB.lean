/- The document's Digits, Takes, Gives; Takes, Gives, Jumps. -/
import Derived.Test.YtobagnabkphegaaDoorIsaTxM
namespace Go.Proofs.YtobagnabkphegaaDoor
open Go.RowKit
set_option linter.unusedVariables false
set_option linter.unusedSimpArgs false
def takesArr : Array Value := #[.int .i64 0, .int .i64 0, .int .i64 1, .int .i64 1, .int .i64 2, .int .i64 2, .int .i64 2, .int .i64 2, .int .i64 2, .int .i64 2, .int .i64 2, .int .i64 2, .int .i64 2, .int .i64 2, .int .i64 2, .int .i64 2, .int .i64 2, .int .i64 1, .int .i64 2, .int .i64 0, .int .i64 1, .int .i64 0, .int .i64 1, .int .i64 0, .int .i64 0, .int .i64 1, .int .i64 0, .int .i64 0]
theorem takes_at (k : Nat) (h : k < 28) : takesArr[k]? = some (.int .i64 (((rowAt k).takes : Nat) : Int)) := by
  match k, h with
  | 0, _ => rfl
  | 1, _ => rfl
  | 2, _ => rfl
  | 3, _ => rfl
  | 4, _ => rfl
  | 5, _ => rfl
  | 6, _ => rfl
  | 7, _ => rfl
  | 8, _ => rfl
  | 9, _ => rfl
  | 10, _ => rfl
  | 11, _ => rfl
  | 12, _ => rfl
  | 13, _ => rfl
  | 14, _ => rfl
  | 15, _ => rfl
  | 16, _ => rfl
  | 17, _ => rfl
  | 18, _ => rfl
  | 19, _ => rfl
  | 20, _ => rfl
  | 21, _ => rfl
  | 22, _ => rfl
  | 23, _ => rfl
  | 24, _ => rfl
  | 25, _ => rfl
  | 26, _ => rfl
  | 27, _ => rfl
  | n + 28, h => exact absurd h (by omega)
set_option maxRecDepth 100000 in
theorem takes_any (op : Nat) (h : op < 256) (w : World) : Calls Tryd.prog 17 #[.int .u8 (op : Int)] w fun e w' => e = .returned (.int .i64 (((rowAt op).takes : Nat) : Int)) ∧ Below w.heap.size w w' := by
  have HO := Lib.hid (of_any op w h)
  unfold RowI.arr at HO
  generalize (rowAt op).name = x0 at *
  generalize (rowAt op).nm = x1 at *
  generalize (rowAt op).most = x2 at *
  generalize (rowAt op).takes = x3 at *
  generalize (rowAt op).gives = x4 at *
  have hf : ∀ W, (Instr.field 45 (.agg #[.string ⟨x0.toArray⟩, .int .u8 (x1 : Int), .int .i64 (x2 : Int), .int .i64 (x3 : Int), .int .i64 (x4 : Int)]) 3).run Tryd.prog W = .ok (.int .i64 (x3 : Int)) W := fun W => by kernel_rfl
  go_enter Tryd.func17, Tryd.ntmps17
  go_wp2_with fail
  refine HO.out.mono ?_
  rintro e w1 ⟨rfl, hb⟩
  have HB := Lib.hid hb
  clear hb HO
  go_wp2_with fail
  go_ret
  exact ⟨rfl, HB.out⟩
set_option maxRecDepth 100000 in
theorem rtakes_any (op : Nat) (h : op < 256) (w : World) : Calls Tryd.prog 18 #[.int .u8 (op : Int)] w fun e w' => e = .returned (.int .i64 (((rowAt op).takes : Nat) : Int)) ∧ Below w.heap.size w w' := by
  have hw : wrap64 (op : Int) = (op : Int) := by unfold wrap64; omega
  obtain ⟨wa, hwa⟩ : ∃ x, x = w.alloc (.cells takesArr 3) := ⟨_, rfl⟩
  have HK : Hid (wa.heap[w.heap.size]? = some (.cells takesArr 3 (0, 0))) := by rw [hwa]; exact heap_alloc_new _ _
  have HB : Hid (Below w.heap.size w wa) := by rw [hwa]; exact alloc_below _ _
  unfold takesArr at hwa
  have HW := Lib.hid hwa
  clear hwa
  by_cases hl : op < 28
  · have HC : Hid (wa.cell? ⟨w.heap.size, op, none⟩ = some (.int .i64 (((rowAt op).takes : Nat) : Int))) := cell_row HK.out (takes_at op hl)
    have hl2 : ¬ 28 ≤ op := by omega
    generalize (rowAt op).takes = t at *
    go_enter Tryd.func18, Tryd.ntmps18
    go_upto_region 2 with fail
    rw [← HW.out]
    have hc := HC.out
    go_wp2_with fail
    go_ret
    exact ⟨rfl, HB.out⟩
  · have e : (rowAt op).takes = 0 := by rw [rowAt_none (by omega)]; rfl
    rw [e]
    clear e
    have hl2 : 28 ≤ op := by omega
    go_enter Tryd.func18, Tryd.ntmps18
    go_upto_region 2 with fail
    rw [← HW.out]
    go_wp2_with fail
    go_ret
    exact ⟨rfl, HB.out⟩
def givesArr : Array Value := #[.int .i64 0, .int .i64 1, .int .i64 2, .int .i64 0, .int .i64 2, .int .i64 1, .int .i64 1, .int .i64 1, .int .i64 1, .int .i64 1, .int .i64 1, .int .i64 1, .int .i64 1, .int .i64 1, .int .i64 1, .int .i64 1, .int .i64 1, .int .i64 1, .int .i64 0, .int .i64 0, .int .i64 0, .int .i64 1, .int .i64 0, .int .i64 1, .int .i64 1, .int .i64 0, .int .i64 0, .int .i64 0]
theorem gives_at (k : Nat) (h : k < 28) : givesArr[k]? = some (.int .i64 (((rowAt k).gives : Nat) : Int)) := by
  match k, h with
  | 0, _ => rfl
  | 1, _ => rfl
  | 2, _ => rfl
  | 3, _ => rfl
  | 4, _ => rfl
  | 5, _ => rfl
  | 6, _ => rfl
  | 7, _ => rfl
  | 8, _ => rfl
  | 9, _ => rfl
  | 10, _ => rfl
  | 11, _ => rfl
  | 12, _ => rfl
  | 13, _ => rfl
  | 14, _ => rfl
  | 15, _ => rfl
  | 16, _ => rfl
  | 17, _ => rfl
  | 18, _ => rfl
  | 19, _ => rfl
  | 20, _ => rfl
  | 21, _ => rfl
  | 22, _ => rfl
  | 23, _ => rfl
  | 24, _ => rfl
  | 25, _ => rfl
  | 26, _ => rfl
  | 27, _ => rfl
  | n + 28, h => exact absurd h (by omega)
set_option maxRecDepth 100000 in
theorem gives_any (op : Nat) (h : op < 256) (w : World) : Calls Tryd.prog 19 #[.int .u8 (op : Int)] w fun e w' => e = .returned (.int .i64 (((rowAt op).gives : Nat) : Int)) ∧ Below w.heap.size w w' := by
  have HO := Lib.hid (of_any op w h)
  unfold RowI.arr at HO
  generalize (rowAt op).name = x0 at *
  generalize (rowAt op).nm = x1 at *
  generalize (rowAt op).most = x2 at *
  generalize (rowAt op).takes = x3 at *
  generalize (rowAt op).gives = x4 at *
  have hf : ∀ W, (Instr.field 45 (.agg #[.string ⟨x0.toArray⟩, .int .u8 (x1 : Int), .int .i64 (x2 : Int), .int .i64 (x3 : Int), .int .i64 (x4 : Int)]) 4).run Tryd.prog W = .ok (.int .i64 (x4 : Int)) W := fun W => by kernel_rfl
  go_enter Tryd.func19, Tryd.ntmps19
  go_wp2_with fail
  refine HO.out.mono ?_
  rintro e w1 ⟨rfl, hb⟩
  have HB := Lib.hid hb
  clear hb HO
  go_wp2_with fail
  go_ret
  exact ⟨rfl, HB.out⟩
set_option maxRecDepth 100000 in
theorem rgives_any (op : Nat) (h : op < 256) (w : World) : Calls Tryd.prog 20 #[.int .u8 (op : Int)] w fun e w' => e = .returned (.int .i64 (((rowAt op).gives : Nat) : Int)) ∧ Below w.heap.size w w' := by
  have hw : wrap64 (op : Int) = (op : Int) := by unfold wrap64; omega
  obtain ⟨wa, hwa⟩ : ∃ x, x = w.alloc (.cells givesArr 3) := ⟨_, rfl⟩
  have HK : Hid (wa.heap[w.heap.size]? = some (.cells givesArr 3 (0, 0))) := by rw [hwa]; exact heap_alloc_new _ _
  have HB : Hid (Below w.heap.size w wa) := by rw [hwa]; exact alloc_below _ _
  unfold givesArr at hwa
  have HW := Lib.hid hwa
  clear hwa
  by_cases hl : op < 28
  · have HC : Hid (wa.cell? ⟨w.heap.size, op, none⟩ = some (.int .i64 (((rowAt op).gives : Nat) : Int))) := cell_row HK.out (gives_at op hl)
    have hl2 : ¬ 28 ≤ op := by omega
    generalize (rowAt op).gives = t at *
    go_enter Tryd.func20, Tryd.ntmps20
    go_upto_region 2 with fail
    rw [← HW.out]
    have hc := HC.out
    go_wp2_with fail
    go_ret
    exact ⟨rfl, HB.out⟩
  · have e : (rowAt op).gives = 0 := by rw [rowAt_none (by omega)]; rfl
    rw [e]
    clear e
    have hl2 : 28 ≤ op := by omega
    go_enter Tryd.func20, Tryd.ntmps20
    go_upto_region 2 with fail
    rw [← HW.out]
    go_wp2_with fail
    go_ret
    exact ⟨rfl, HB.out⟩
def jumpB (op : Nat) : Bool := op == 19 || op == 20
theorem jumps_any (op : Nat) (w : World) : Calls Tryd.prog 21 #[.int .u8 (op : Int)] w fun e w' => e = .returned (.bool (jumpB op)) ∧ w' = w := by
  by_cases h19 : op = 19
  · subst h19
    rw [show jumpB 19 = true from rfl]
    go_enter Tryd.func21, Tryd.ntmps21
    go_wp2_with fail
    go_ret
    exact ⟨rfl, rfl⟩
  · have q19 : ((op : Int) == 19) = false := by simp; omega
    have e : jumpB op = ((op : Int) == 20) := by unfold jumpB; rw [beq_eq_false_iff_ne.2 h19, Bool.false_or]; exact Bool.eq_iff_iff.2 (by simp; omega)
    rw [e]
    clear e h19
    go_enter Tryd.func21, Tryd.ntmps21
    go_wp2_with fail
    go_ret
    exact ⟨by first | rfl | simp, rfl⟩
end Go.Proofs.YtobagnabkphegaaDoor
