/- The chapter's definition, and what is asked of it. -/
import Derived.Test.YthbieplfphignaaFraChk2
import Derived.Laws.Rows
namespace Go.Proofs.Ythbieplfphignaa
open Go.RowKit Go.Shelf
set_option linter.unusedVariables false
def defS (last : Nat) (i : Nat) : SlotR := if i = 0 then { part := 1, start := 10, budget := 20 } else if i = 1 then { part := 0, start := 40, budget := last } else { part := 0, start := 0, budget := 0 }
theorem defS_ok (last : Nat) (h : last < 4294967296) (i : Nat) : (defS last i).ok := by
  unfold defS SlotR.ok
  split
  · simp
  · split
    · simp; omega
    · simp
set_option maxHeartbeats 2000000 in
theorem def_any (last : Nat) (w : World) (h : last < 4294967296) :
    Calls Try.prog 20 #[.int .u32 (last : Int)] w fun e W' => ∃ a, e = .returned (.agg #[.int .u32 100, .int .u32 2, .slice a 2 2]) ∧ SlotsAt W' a 2 (defS last) ∧ Below w.heap.size w W' := by
  go_enter Try.func20, Try.ntmps20
  go_wp2_with fail
  have hB1 : Below w.heap.size w ((w.alloc (.cells #[.int .u32 100, .int .u32 2, .slice (some ⟨w.heap.size + 1, 0, none⟩) 2 2] 25)).alloc (.cells #[.int .i64 1, .int .u32 10, .int .u32 20, .int .i64 0, .int .u32 40, .int .u32 (last : Int)] 39)) := ((Below.refl _ w).alloc (Nat.le_refl _) _).alloc (by simp) _
  have hN := heap_alloc2_new w (.cells #[.int .u32 100, .int .u32 2, .slice (some ⟨w.heap.size + 1, 0, none⟩) 2 2] 25) (.cells #[.int .i64 1, .int .u32 10, .int .u32 20, .int .i64 0, .int .u32 40, .int .u32 (last : Int)] 39)
  have hO : ((w.alloc (.cells #[.int .u32 100, .int .u32 2, .slice (some ⟨w.heap.size + 1, 0, none⟩) 2 2] 25)).alloc (.cells #[.int .i64 1, .int .u32 10, .int .u32 20, .int .i64 0, .int .u32 40, .int .u32 (last : Int)] 39)).heap[w.heap.size]? = some (.cells #[.int .u32 100, .int .u32 2, .slice (some ⟨w.heap.size + 1, 0, none⟩) 2 2] 25 (0, 0)) :=
    (((Below.refl _ (w.alloc (.cells #[.int .u32 100, .int .u32 2, .slice (some ⟨w.heap.size + 1, 0, none⟩) 2 2] 25))).alloc (Nat.le_refl _) _).block _ (by simp)).trans (heap_alloc_new _ _)
  refine bodyPost_ret (results_cell_row rfl _ _ w.heap.size 25 _ (0, 0) _ rfl hO Try.underlying25 rfl (by kernel_rfl)) rfl ?_
  refine ⟨some ⟨w.heap.size + 1, 0, none⟩, rfl, ⟨.inr ⟨w.heap.size + 1, 0, rfl, by simp, fun i hi j hj => ?_⟩, defS_ok last h⟩, hB1⟩
  refine cell_row hN ?_
  match i, hi, j, hj with
  | 0, _, 0, _ => rfl
  | 0, _, 1, _ => rfl
  | 0, _, 2, _ => rfl
  | 1, _, 0, _ => rfl
  | 1, _, 1, _ => rfl
  | 1, _, 2, _ => rfl
theorem atk_any (tick k : Nat) (n : Int) (w : World) (ht : tick < 18446744073709551616) (h1 : tick / 100 = k) (h2 : atN (defS 58) (tick % 100) 2 = n) :
    Calls Try.prog 21 #[.int .u64 (tick : Int), .int .u64 (k : Int), .int .i64 n] w fun e W' => e = .returned (.bool true) ∧ Below w.heap.size w W' := by
  have HA := Lib.hid (fun a W hS => at_any 100 2 a 2 2 (defS 58) tick W (by omega) (by omega) ht hS)
  rw [h1, if_neg (by omega), h2] at HA
  clear h1 h2
  go_enter Try.func21, Try.ntmps21
  go_wp2_with fail
  refine (def_any 58 _ (by omega)).mono ?_
  rintro e w1 ⟨a, rfl, hS, hB⟩
  have hS := Lib.hid hS; have B1 := Lib.hid hB
  clear hB
  go_wp2_with fail
  refine (HA.out a _ hS.out).mono ?_
  rintro e w2 ⟨rfl, hB⟩
  have B2 : Hid (Below w.heap.size w w2) := B1.out.trans (hB.mono B1.out.size)
  clear hB
  go_wp2_with fail
  go_ret
  exact ⟨rfl, B2.out⟩
end Go.Proofs.Ythbieplfphignaa
