/- Fits, Overlap, of; the document's. -/
import Derived.Test.YteekneicahfkpaaReg
import Derived.Test.YteekneicahfkpaaCls
import Derived.Deep.CutRange
import Derived.Deep.RegionHeld3
namespace Go.Proofs.Yteekneicahfkpaa
open Go.RowKit
set_option linter.unusedVariables false
set_option linter.unusedSimpArgs false
def Reg.has (r : Reg) (at_ : Nat) : Bool := decide (r.base ≤ at_) && decide (at_ < r.base + r.size)
set_option maxHeartbeats 2000000 in
theorem has_any (r : Reg) (at_ : Nat) (w : World) (h : r.ok) (ha : at_ < 18446744073709551616) : Calls Try.prog 22 #[r.val, .int .u64 (at_ : Int)] w fun e w' => e = .returned (.bool (r.has at_)) ∧ Below w.heap.size w w' := by
  have h1 := h.base; have h2 := h.size
  have HR : Hid (r.has at_ = (decide (r.base ≤ at_) && decide (at_ < r.base + r.size))) := rfl
  obtain ⟨b, s, t⟩ := r
  simp only at h1 h2 HR
  unfold Reg.val
  rw [HR.out]
  clear HR h
  have hB : Hid (Below w.heap.size w (w.alloc (.cells #[.int .u32 (b : Int), .int .u32 (s : Int), .int .u8 (t : Int)] 24))) := (Below.refl _ w).alloc (Nat.le_refl _) _
  cases t1 : decide (b ≤ at_)
  case false =>
    have t1' : decide ((b : Int) ≤ (at_ : Int)) = false := by have := of_decide_eq_false t1; simp; omega
    simp only [Bool.false_and]
    go_enter Try.func22, Try.ntmps22
    go_wp2_with fail
    go_ret
    exact ⟨rfl, hB.out⟩
  case true =>
    have t1' : decide ((b : Int) ≤ (at_ : Int)) = true := by have := of_decide_eq_true t1; simp; omega
    simp only [Bool.true_and]
    cases t2 : decide (at_ < b + s)
    case false =>
      have t2' : decide ((at_ : Int) < (b : Int) + (s : Int)) = false := by have := of_decide_eq_false t2; simp; omega
      go_enter Try.func22, Try.ntmps22
      go_wp2_with fail
      go_ret
      exact ⟨rfl, hB.out⟩
    case true =>
      have t2' : decide ((at_ : Int) < (b : Int) + (s : Int)) = true := by have := of_decide_eq_true t2; simp; omega
      go_enter Try.func22, Try.ntmps22
      go_wp2_with fail
      go_ret
      exact ⟨rfl, hB.out⟩

theorem alloc_below (V : World) (o : Obj) : Below V.heap.size V (V.alloc o) := (Below.refl _ V).alloc (Nat.le_refl _) o
theorem kept {w w' : World} {g : Nat} {o : Obj} (h : w.heap[g]? = some o) (hb : Below w.heap.size w w') : w'.heap[g]? = some o := (hb.block g (heap_lt h)).trans h
def Reg.fits (r : Reg) (m : Nat) : Bool := decide (0 < r.size) && decide (r.base + r.size ≤ m) && decide (1 ≤ r.rt) && decide (r.rt ≤ 7)
def Reg.over (a b : Reg) : Bool := decide (a.base < b.base + b.size) && decide (b.base < a.base + a.size) && decide (0 < a.size) && decide (0 < b.size)
set_option maxHeartbeats 2000000 in
theorem fits_any (r : Reg) (m : Nat) (w : World) (h : r.ok) (hm : m < 4294967296) : Calls Try.prog 9 #[r.val, .int .u32 (m : Int)] w fun e w' => e = .returned (.bool (r.fits m)) ∧ Below w.heap.size w w' := by
  have HE := Lib.hid (fun W => end_any r W h)
  have h1 := h.base; have h2 := h.size
  have HR : Hid (r.fits m = (decide (0 < r.size) && decide (r.base + r.size ≤ m) && decide (1 ≤ r.rt) && decide (r.rt ≤ 7))) := rfl
  obtain ⟨b, s, t⟩ := r
  simp only at h1 h2 HR
  unfold Reg.val at *
  rw [HR.out]
  clear HR h
  obtain ⟨wa, hwa⟩ : ∃ x, x = w.alloc (.cells #[.int .u32 (b : Int), .int .u32 (s : Int), .int .u8 (t : Int)] 24) := ⟨_, rfl⟩
  have K0 : Hid (wa.heap[w.heap.size]? = some (.cells #[.int .u32 (b : Int), .int .u32 (s : Int), .int .u8 (t : Int)] 24 (0, 0))) := by rw [hwa]; exact heap_alloc_new _ _
  have hB : Hid (Below w.heap.size w wa) := by rw [hwa]; exact alloc_below _ _
  have HWA := Lib.hid hwa
  clear hwa
  have z0 := cell_row (j := 0) K0.out rfl
  have z1 := cell_row (j := 1) K0.out rfl
  have z2 := cell_row (j := 2) K0.out rfl
  have z4 := heap_lt K0.out
  cases t1 : decide (0 < s)
  case false =>
    have t1' : decide (0 < (s : Int)) = false := by have := of_decide_eq_false t1; simp; omega
    simp only [Bool.false_and]
    go_enter Try.func9, Try.ntmps9
    go_upto_region 1 with fail
    rw [← HWA.out]
    generalize hgb : w.heap.size = gb at *
    go_wp2_with fail
    go_ret
    exact ⟨rfl, by first | exact hB.out | (rw [hgb]; exact hB.out)⟩
  case true =>
    have t1' : decide (0 < (s : Int)) = true := by have := of_decide_eq_true t1; simp; omega
    simp only [Bool.true_and]
    cases t2 : decide (b + s ≤ m)
    case false =>
      have t2' : decide ((b : Int) + (s : Int) ≤ (m : Int)) = false := by have := of_decide_eq_false t2; simp; omega
      have t2'' : decide (((b + s : Nat) : Int) ≤ (m : Int)) = false := by have := of_decide_eq_false t2; simp; omega
      simp only [Bool.false_and]
      go_enter Try.func9, Try.ntmps9
      go_upto_region 1 with fail
      rw [← HWA.out]
      generalize hgb : w.heap.size = gb at *
      go_wp2_with fail
      refine (HE.out wa).mono ?_
      rintro e w1 ⟨rfl, hb⟩
      have B1 : Hid (Below gb w w1) := hB.out.trans (hb.mono (Nat.le_of_lt z4))
      have K1 := kept K0.out hb
      have y0 := cell_row (j := 0) K1 rfl
      have y1 := cell_row (j := 1) K1 rfl
      have y2 := cell_row (j := 2) K1 rfl
      have y4 := heap_lt K1
      clear hb K1
      go_wp2_with fail
      go_ret
      exact ⟨rfl, by first | exact B1.out | (rw [hgb]; exact B1.out)⟩
    case true =>
      have t2' : decide ((b : Int) + (s : Int) ≤ (m : Int)) = true := by have := of_decide_eq_true t2; simp; omega
      have t2'' : decide (((b + s : Nat) : Int) ≤ (m : Int)) = true := by have := of_decide_eq_true t2; simp; omega
      simp only [Bool.true_and]
      cases t3 : decide (1 ≤ t)
      case false =>
        have t3' : decide (1 ≤ (t : Int)) = false := by have := of_decide_eq_false t3; simp; omega
        simp only [Bool.false_and]
        go_enter Try.func9, Try.ntmps9
        go_upto_region 1 with fail
        rw [← HWA.out]
        generalize hgb : w.heap.size = gb at *
        go_wp2_with fail
        refine (HE.out wa).mono ?_
        rintro e w1 ⟨rfl, hb⟩
        have B1 : Hid (Below gb w w1) := hB.out.trans (hb.mono (Nat.le_of_lt z4))
        have K1 := kept K0.out hb
        have y0 := cell_row (j := 0) K1 rfl
        have y1 := cell_row (j := 1) K1 rfl
        have y2 := cell_row (j := 2) K1 rfl
        have y4 := heap_lt K1
        clear hb K1
        go_wp2_with fail
        go_ret
        exact ⟨rfl, by first | exact B1.out | (rw [hgb]; exact B1.out)⟩
      case true =>
        have t3' : decide (1 ≤ (t : Int)) = true := by have := of_decide_eq_true t3; simp; omega
        simp only [Bool.true_and]
        cases t4 : decide (t ≤ 7)
        case false =>
          have t4' : decide ((t : Int) ≤ 7) = false := by have := of_decide_eq_false t4; simp; omega
          go_enter Try.func9, Try.ntmps9
          go_upto_region 1 with fail
          rw [← HWA.out]
          generalize hgb : w.heap.size = gb at *
          go_wp2_with fail
          refine (HE.out wa).mono ?_
          rintro e w1 ⟨rfl, hb⟩
          have B1 : Hid (Below gb w w1) := hB.out.trans (hb.mono (Nat.le_of_lt z4))
          have K1 := kept K0.out hb
          have y0 := cell_row (j := 0) K1 rfl
          have y1 := cell_row (j := 1) K1 rfl
          have y2 := cell_row (j := 2) K1 rfl
          have y4 := heap_lt K1
          clear hb K1
          go_wp2_with fail
          go_ret
          exact ⟨rfl, by first | exact B1.out | (rw [hgb]; exact B1.out)⟩
        case true =>
          have t4' : decide ((t : Int) ≤ 7) = true := by have := of_decide_eq_true t4; simp; omega
          go_enter Try.func9, Try.ntmps9
          go_upto_region 1 with fail
          rw [← HWA.out]
          generalize hgb : w.heap.size = gb at *
          go_wp2_with fail
          refine (HE.out wa).mono ?_
          rintro e w1 ⟨rfl, hb⟩
          have B1 : Hid (Below gb w w1) := hB.out.trans (hb.mono (Nat.le_of_lt z4))
          have K1 := kept K0.out hb
          have y0 := cell_row (j := 0) K1 rfl
          have y1 := cell_row (j := 1) K1 rfl
          have y2 := cell_row (j := 2) K1 rfl
          have y4 := heap_lt K1
          clear hb K1
          go_wp2_with fail
          go_ret
          exact ⟨rfl, by first | exact B1.out | (rw [hgb]; exact B1.out)⟩
end Go.Proofs.Yteekneicahfkpaa
