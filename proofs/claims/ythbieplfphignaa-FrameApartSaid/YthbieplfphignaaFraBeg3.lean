/- FrameBegins, whole. -/
import Derived.Test.YthbieplfphignaaFraBeg2
namespace Go.Proofs.Ythbieplfphignaa
open Go.RowKit Go.Shelf
set_option linter.unusedVariables false
set_option maxHeartbeats 8000000 in
theorem begins_out (L sw : Nat) (a : Option Addr) (len cap : Nat) (k : Nat) (most : Int) (w : World) (h : 2000 < len ∨ most < 0 ∨ 100 < most) :
    Calls Try.prog 5 #[.agg #[.int .u32 (L : Int), .int .u32 (sw : Int), .slice a len cap], .int .u64 (k : Int), .int .i64 most] w fun e W' => e = .returned (.bool true) ∧ Below w.heap.size w W' := by
  have HH := Lib.hid h
  clear h
  go_enter Try.func5, Try.ntmps5
  go_wp2_with fail
  have h1 := (((Held.new w #[.int .u32 (L : Int), .int .u32 (sw : Int), .slice a len cap] 25).alloc (.cells #[.int .u64 (k : Int)] 26)).alloc (.cells #[.int .i64 most] 3)).alloc (.cells #[.bool false] 4)
  have h3 := ((Boxed.new ((w.alloc (.cells #[.int .u32 (L : Int), .int .u32 (sw : Int), .slice a len cap] 25)).alloc (.cells #[.int .u64 (k : Int)] 26)) 3 (.int .i64 most)).alloc (.cells #[.bool false] 4))
  have h4 := (Boxed.new (((w.alloc (.cells #[.int .u32 (L : Int), .int .u32 (sw : Int), .slice a len cap] 25)).alloc (.cells #[.int .u64 (k : Int)] 26)).alloc (.cells #[.int .i64 most] 3)) 4 (.bool false))
  simp only [World.size_alloc] at h3 h4
  have hb0 : Below w.heap.size w ((((w.alloc (.cells #[.int .u32 (L : Int), .int .u32 (sw : Int), .slice a len cap] 25)).alloc (.cells #[.int .u64 (k : Int)] 26)).alloc (.cells #[.int .i64 most] 3)).alloc (.cells #[.bool false] 4)) :=
    ((((Below.refl _ w).alloc (Nat.le_refl _) _).alloc (by simp) _).alloc (by simp; omega) _).alloc (by simp; omega) _
  generalize (((w.alloc (.cells #[.int .u32 (L : Int), .int .u32 (sw : Int), .slice a len cap] 25)).alloc (.cells #[.int .u64 (k : Int)] 26)).alloc (.cells #[.int .i64 most] 3)).alloc (.cells #[.bool false] 4) = w0 at *
  refine (known_any w0).mono ?_
  rintro e w1 ⟨rfl, hb⟩
  have D1 : Hid (Held w1 w.heap.size #[.int .u32 (L : Int), .int .u32 (sw : Int), .slice a len cap] 25) := (hb.block _ h1.lt).trans h1
  have M1 : Hid (Boxed w1 (w.heap.size + 1 + 1) 3 (.int .i64 most)) := (hb.block _ h3.lt).trans h3
  have R1 : Hid (Boxed w1 (w.heap.size + 1 + 1 + 1) 4 (.bool false)) := (hb.block _ h4.lt).trans h4
  have B1 : Hid (Below w.heap.size w w1) := hb0.trans (hb.mono hb0.size)
  clear hb hb0 h1 h3 h4
  have d0 : w1.cell? ⟨w.heap.size, 0, none⟩ = some (.int .u32 (L : Int)) := D1.out.cell 0 _ rfl
  have d1 : w1.cell? ⟨w.heap.size, 1, none⟩ = some (.int .u32 (sw : Int)) := D1.out.cell 1 _ rfl
  have d2 : w1.cell? ⟨w.heap.size, 2, none⟩ = some (.slice a len cap) := D1.out.cell 2 _ rfl
  go_wp2_with fail
  clear d0 d1 d2
  cases t1 : decide (2000 < (len : Int))
  case true =>
    refine (great_any L sw a len cap true w1 t1).mono ?_
    rintro e w2 ⟨rfl, hb⟩
    have R2 : Hid (Boxed w2 (w.heap.size + 1 + 1 + 1) 4 (.bool false)) := (hb.block _ R1.out.lt).trans R1.out
    have B2 : Hid (Below w.heap.size w w2) := B1.out.trans (hb.mono B1.out.size)
    clear hb t1
    have d5 : w2.frozen? ⟨w.heap.size + 1 + 1 + 1, 0, none⟩ = false := R2.out.frozen
    have d6 : w2.cell? ⟨w.heap.size + 1 + 1 + 1, 0, none⟩ = some (.bool false) := R2.out.cell
    go_wp2_with fail
    clear d5 d6
    have hc5 : (w2.setCell ⟨w.heap.size + 1 + 1 + 1, 0, none⟩ (.bool true)).cell? ⟨w.heap.size + 1 + 1 + 1, 0, none⟩ = some (.bool true) := (R2.out.set (.bool true)).cell
    refine bodyPost_ret (v := .bool true) (by simp [results, Try.f5, go_sem, hc5]) rfl ⟨rfl, B2.out.setCell (p := ⟨w.heap.size + 1 + 1 + 1, 0, none⟩) (by simp; omega) _⟩
  case false =>
    refine (great_any L sw a len cap false w1 t1).mono ?_
    rintro e w2 ⟨rfl, hb⟩
    have R2 : Hid (Boxed w2 (w.heap.size + 1 + 1 + 1) 4 (.bool false)) := (hb.block _ R1.out.lt).trans R1.out
    have B2 : Hid (Below w.heap.size w w2) := B1.out.trans (hb.mono B1.out.size)
    have M2 : Hid (Boxed w2 (w.heap.size + 1 + 1) 3 (.int .i64 most)) := (hb.block _ M1.out.lt).trans M1.out
    clear hb
    have d3 : w2.cell? ⟨w.heap.size + 1 + 1, 0, none⟩ = some (.int .i64 most) := M2.out.cell
    have hl : ¬ 2000 < len := by have := of_decide_eq_false t1; omega
    clear t1
    cases t2 : decide (most < 0)
    case true =>
      have d5 : w2.frozen? ⟨w.heap.size + 1 + 1 + 1, 0, none⟩ = false := R2.out.frozen
      have d6 : w2.cell? ⟨w.heap.size + 1 + 1 + 1, 0, none⟩ = some (.bool false) := R2.out.cell
      go_wp2_with fail
      clear d5 d6
      have hc5 : (w2.setCell ⟨w.heap.size + 1 + 1 + 1, 0, none⟩ (.bool true)).cell? ⟨w.heap.size + 1 + 1 + 1, 0, none⟩ = some (.bool true) := (R2.out.set (.bool true)).cell
      refine bodyPost_ret (v := .bool true) (by simp [results, Try.f5, go_sem, hc5]) rfl ⟨rfl, B2.out.setCell (p := ⟨w.heap.size + 1 + 1 + 1, 0, none⟩) (by simp; omega) _⟩
    case false =>
      have t3 : decide (100 < most) = true := by
        have := HH.out; simp at t2; simp; omega
      have d5 : w2.frozen? ⟨w.heap.size + 1 + 1 + 1, 0, none⟩ = false := R2.out.frozen
      have d6 : w2.cell? ⟨w.heap.size + 1 + 1 + 1, 0, none⟩ = some (.bool false) := R2.out.cell
      go_wp2_with fail
      clear d5 d6
      have hc5 : (w2.setCell ⟨w.heap.size + 1 + 1 + 1, 0, none⟩ (.bool true)).cell? ⟨w.heap.size + 1 + 1 + 1, 0, none⟩ = some (.bool true) := (R2.out.set (.bool true)).cell
      refine bodyPost_ret (v := .bool true) (by simp [results, Try.f5, go_sem, hc5]) rfl ⟨rfl, B2.out.setCell (p := ⟨w.heap.size + 1 + 1 + 1, 0, none⟩) (by simp; omega) _⟩
theorem begins_walk (v : Value) (k most : Int) (w : World) (w0 : ReadsC w 25 v.cells.toList ∧ Value.okWide Try.prog w .any 0 25 v)
    (w1 : (Lit.int .u64 k).wf = true) (w2 : (Lit.int .i64 most).wf = true) :
    Calls Try.prog 5 #[v, .int .u64 k, .int .i64 most] w fun e w' => e = .returned (.bool true) ∧ Below w.heap.size w w' := by
  obtain ⟨L, sw, a, len, cap, S, rfl, h1, h2, h3, h4, h5⟩ := frame_value w0
  have hk : 0 ≤ k ∧ k ≤ 18446744073709551615 := by simpa [Lit.wf, IntKind.min, IntKind.max, IntKind.bits, IntKind.signed] using w1
  obtain ⟨k', rfl⟩ := Int.eq_ofNat_of_zero_le hk.1
  by_cases h : 2000 < len ∨ most < 0 ∨ 100 < most
  · exact begins_out L sw a len cap k' most w h
  · obtain ⟨m', rfl⟩ := Int.eq_ofNat_of_zero_le (show 0 ≤ most by omega)
    exact (callsIn_wide (n := 4)).1 (begins_ok 4 (Nat.le_refl _) L sw a len cap S k' m' w (by omega) h1 (by omega) (by omega) h5)
end Go.Proofs.Ythbieplfphignaa
