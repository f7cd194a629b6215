/- New, Copy. -/
import Derived.Test.YtfochgpjpngnlaaMemPart
import Derived.Deep.OwnRows
namespace Go.Proofs.Ytfochgpjpngnlaa
open Go.RowKit
set_option linter.unusedVariables false
/-- A new memory: its blocks are new. -/
structure NewMem (w w' : World) (T : TypeId) (M : MS) (n : Nat) (B : Nat → Nat) : Prop where
  mem : MemAt w' T M
  eN : M.n = n
  eB : M.B = B
  g : w.heap.size ≤ M.g
  b : 0 < n → w.heap.size ≤ M.b
  below : Below w.heap.size w w'
theorem made_row (V : World) (z : Value) (t : TypeId) (n : Nat) (hn : n ≤ maxLen) : SlAt (V.alloc (.cells (madeCells #[z] n) t)) (.slice (some ⟨V.heap.size, 0, none⟩) n n) V.heap.size t n (fun _ => z) :=
  ⟨_, n, rfl, Nat.le_refl _, hn, fun _ => ⟨rfl, _, heap_alloc_new _ _, by simp [madeCells], fun i hi => by simp [madeCells, hi, Nat.mod_one]⟩⟩
theorem alloc_below (V : World) (o : Obj) : Below V.heap.size V (V.alloc o) := (Below.refl _ V).alloc (Nat.le_refl _) o
theorem new_bad (n : Nat) (w : World) (h : 262144 < n) (hn : n < 4294967296) : Calls Try.prog 8 #[.int .u32 (n : Int)] w fun e w' => e = .returned (.tuple #[.pointer none, .int .i64 2]) ∧ w = w' := by
  have t1 : decide ((262144 : Int) < (n : Int)) = true := by simp; omega
  go_enter Try.func8, Try.ntmps8
  go_wp2_with fail
  go_ret2
  exact ⟨rfl, rfl⟩
theorem new_ok (n : Nat) (w : World) (h : n ≤ 262144) : Calls Try.prog 8 #[.int .u32 (n : Int)] w fun e w' => ∃ M : MS, e = .returned (.tuple #[.pointer (some ⟨M.g, 0, none⟩), .int .i64 0]) ∧ NewMem w w' 57 M n (fun _ => 0) := by
  have t1 : decide ((262144 : Int) < (n : Int)) = false := by simp; omega
  have hmk := fun w => run_make_row' (P := Try.prog) 35 5 (.int .u8 0) 1 Try.underlying35 infoU8 rfl .u32 .u32 n (by omega) (by omega) w
  have HR := Lib.hid (made_row w (.int .u8 0) 5 n (by unfold maxLen; omega))
  have H1 := Lib.hid (alloc_below w (.cells (madeCells #[.int .u8 0] n) 5))
  have H2 := Lib.hid (alloc_below (w.alloc (.cells (madeCells #[.int .u8 0] n) 5)) (.cells #[.slice (some ⟨w.heap.size, 0, none⟩) n n] 57))
  have H3 := Lib.hid (heap_alloc_new (w.alloc (.cells (madeCells #[.int .u8 0] n) 5)) (.cells #[.slice (some ⟨w.heap.size, 0, none⟩) n n] 57))
  have hs : (w.alloc (.cells (madeCells #[.int .u8 0] n) 5)).heap.size = w.heap.size + 1 := by simp
  go_enter Try.func8, Try.ntmps8
  go_wp2_with fail
  go_ret2
  refine ⟨{ g := w.heap.size + 1, b := w.heap.size, n := n, v := .slice (some ⟨w.heap.size, 0, none⟩) n n, B := fun _ => 0 }, rfl, ⟨by rw [← hs]; exact H3.out, ?_, h, fun _ => by show 0 < 256; omega, fun _ => by show w.heap.size ≠ w.heap.size + 1; omega⟩, rfl, rfl, by show _ ≤ w.heap.size + 1; omega, fun _ => Nat.le_refl _, H1.out.trans (H2.out.mono (by rw [hs]; omega))⟩
  exact HR.out.same fun _ => H2.out.block _ (by rw [hs]; omega)
theorem rnew_bad (n : Nat) (w : World) (h : 262144 < n) (hn : n < 4294967296) : Calls Try.prog 9 #[.int .u32 (n : Int)] w fun e w' => e = .returned (.tuple #[.pointer none, .int .i64 2]) ∧ w = w' := by
  have t1 : decide ((262144 : Int) < (n : Int)) = true := by simp; omega
  go_enter Try.func9, Try.ntmps9
  go_wp2_with fail
  go_ret2
  exact ⟨rfl, rfl⟩
theorem rnew_ok (n : Nat) (w : World) (h : n ≤ 262144) : Calls Try.prog 9 #[.int .u32 (n : Int)] w fun e w' => ∃ M : MS, e = .returned (.tuple #[.pointer (some ⟨M.g, 0, none⟩), .int .i64 0]) ∧ NewMem w w' 48 M n (fun _ => 0) := by
  have t1 : decide ((262144 : Int) < (n : Int)) = false := by simp; omega
  have hmk := fun w => run_make_row' (P := Try.prog) 35 5 (.int .u8 0) 1 Try.underlying35 infoU8 rfl .u32 .u32 n (by omega) (by omega) w
  have HR := Lib.hid (made_row w (.int .u8 0) 5 n (by unfold maxLen; omega))
  have H1 := Lib.hid (alloc_below w (.cells (madeCells #[.int .u8 0] n) 5))
  have H2 := Lib.hid (alloc_below (w.alloc (.cells (madeCells #[.int .u8 0] n) 5)) (.cells #[.slice (some ⟨w.heap.size, 0, none⟩) n n] 48))
  have H3 := Lib.hid (heap_alloc_new (w.alloc (.cells (madeCells #[.int .u8 0] n) 5)) (.cells #[.slice (some ⟨w.heap.size, 0, none⟩) n n] 48))
  have hs : (w.alloc (.cells (madeCells #[.int .u8 0] n) 5)).heap.size = w.heap.size + 1 := by simp
  go_enter Try.func9, Try.ntmps9
  go_wp2_with fail
  go_ret2
  refine ⟨{ g := w.heap.size + 1, b := w.heap.size, n := n, v := .slice (some ⟨w.heap.size, 0, none⟩) n n, B := fun _ => 0 }, rfl, ⟨by rw [← hs]; exact H3.out, ?_, h, fun _ => by show 0 < 256; omega, fun _ => by show w.heap.size ≠ w.heap.size + 1; omega⟩, rfl, rfl, by show _ ≤ w.heap.size + 1; omega, fun _ => Nat.le_refl _, H1.out.trans (H2.out.mono (by rw [hs]; omega))⟩
  exact HR.out.same fun _ => H2.out.block _ (by rw [hs]; omega)
set_option maxHeartbeats 2000000 in
theorem copy_any (M : MS) (w : World) (h : MemAt w 57 M) : Calls Try.prog 23 #[.pointer (some ⟨M.g, 0, none⟩)] w fun e w' => ∃ M' : MS, e = .returned (.pointer (some ⟨M'.g, 0, none⟩)) ∧ NewMem w w' 57 M' M.n M.B := by
  have hn := h.n
  have c0 := h.cell
  have hg := heap_lt h.obj
  have HL := Lib.hid h.lt
  obtain ⟨a, c, hv, k1, k2, k3⟩ := h.sl.slice
  rw [hv] at c0
  have HS := Lib.hid k3
  clear hv k3 h
  go_enter Try.func23, Try.ntmps23
  go_wp2_with fail
  refine (clone_u8 a M.n c (bV M.B) w (bV_one _) (by omega) HS.out).mono ?_
  rintro e w1 ⟨v, rfl, ⟨b, hs, hb⟩, hbb⟩
  have hsl : ∃ x y, v = .slice x M.n y := by obtain ⟨x, y, e, _⟩ := hs; exact ⟨x, y, e⟩
  obtain ⟨x, y, rfl⟩ := hsl
  have S := Lib.hid hs; have B := Lib.hid hbb; have HB := Lib.hid hb
  clear hs hbb hb
  have H2 := Lib.hid (alloc_below w1 (.cells #[.slice x M.n y] 57))
  have H3 := Lib.hid (heap_alloc_new w1 (.cells #[.slice x M.n y] 57))
  go_wp2_with fail
  go_ret
  have hB := HB.out; have hsz := B.out.size
  refine ⟨{ g := w1.heap.size, b := b, n := M.n, v := .slice x M.n y, B := M.B }, rfl, ⟨H3.out, S.out.same fun hp => H2.out.block _ (by have := hB hp; omega), hn, HL.out, fun hp => by show b ≠ w1.heap.size; have := hB hp; omega⟩, rfl, rfl, hsz, fun hp => (hB hp).1, B.out.trans (H2.out.mono B.out.size)⟩
end Go.Proofs.Ytfochgpjpngnlaa
