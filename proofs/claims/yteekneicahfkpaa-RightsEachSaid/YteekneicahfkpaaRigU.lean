/- The document's Overlap. -/
import Derived.Test.YteekneicahfkpaaRigT
namespace Go.Proofs.Yteekneicahfkpaa
open Go.RowKit
set_option linter.unusedVariables false
set_option linter.unusedSimpArgs false
theorem rover_eq (a b : Reg) : a.over b = (decide (0 < a.size) && (decide (0 < b.size) && (a.has b.base || b.has a.base))) := by
  unfold Reg.over Reg.has
  rw [← Bool.decide_and, ← Bool.decide_and, ← Bool.decide_and, ← Bool.decide_and, ← Bool.decide_and, ← Bool.decide_or, ← Bool.decide_and, ← Bool.decide_and]
  exact decide_eq_decide.2 (by omega)
set_option maxHeartbeats 4000000 in
theorem roverlap_any (a b : Reg) (w : World) (ha : a.ok) (hb : b.ok) : Calls Try.prog 12 #[a.val, b.val] w fun e w' => e = .returned (.bool (a.over b)) ∧ Below w.heap.size w w' := by
  have HE := Lib.hid (fun W => has_any a b.base W ha (by have := hb.base; omega))
  have HE2 := Lib.hid (fun W => has_any b a.base W hb (by have := ha.base; omega))
  have HO := Lib.hid (rover_eq a b)
  rw [HO.out]
  have ha1 := ha.base; have hb1 := hb.base
  clear HO ha hb
  generalize a.has b.base = x1 at *
  generalize b.has a.base = x2 at *
  obtain ⟨ab, az, at_⟩ := a
  obtain ⟨bb, bs, bt⟩ := b
  unfold Reg.val at *
  simp only at HE HE2 ha1 hb1 ⊢
  obtain ⟨wa, hwa⟩ : ∃ x, x = (w.alloc (.cells #[.int .u32 (ab : Int), .int .u32 (az : Int), .int .u8 (at_ : Int)] 24)).alloc (.cells #[.int .u32 (bb : Int), .int .u32 (bs : Int), .int .u8 (bt : Int)] 24) := ⟨_, rfl⟩
  have K0 : Hid (wa.heap[w.heap.size]? = some (.cells #[.int .u32 (ab : Int), .int .u32 (az : Int), .int .u8 (at_ : Int)] 24 (0, 0))) := by rw [hwa]; exact kept (heap_alloc_new _ _) (alloc_below _ _)
  have K1 : Hid (wa.heap[w.heap.size + 1]? = some (.cells #[.int .u32 (bb : Int), .int .u32 (bs : Int), .int .u8 (bt : Int)] 24 (0, 0))) := by
    rw [hwa, ← show (w.alloc (.cells #[.int .u32 (ab : Int), .int .u32 (az : Int), .int .u8 (at_ : Int)] 24)).heap.size = w.heap.size + 1 from Array.size_push _]
    exact heap_alloc_new _ _
  have hB : Hid (Below w.heap.size w wa) := by rw [hwa]; exact ((alloc_below _ _).alloc (alloc_below w (.cells #[.int .u32 (ab : Int), .int .u32 (az : Int), .int .u8 (at_ : Int)] 24)).size _)
  have HWA := Lib.hid hwa
  clear hwa
  cases t1 : decide (0 < az)
  case false =>
    have q1 : ¬ 0 < az := of_decide_eq_false t1
    have q1' : decide (0 < (az : Int)) = false := by simp; omega
    simp only [Bool.false_and]
    have z0 := cell_row (j := 0) K0.out rfl
    have z1 := cell_row (j := 1) K0.out rfl
    have z2 := cell_row (j := 2) K0.out rfl
    have v0 := cell_row (j := 0) K1.out rfl
    have v1 := cell_row (j := 1) K1.out rfl
    have v2 := cell_row (j := 2) K1.out rfl
    have z4 := heap_lt K0.out
    have z5 := heap_lt K1.out
    go_enter Try.func12, Try.ntmps12
    go_upto_region 1 with fail
    rw [← HWA.out]
    generalize hgb : w.heap.size = gb at *
    go_wp2_with fail
    go_ret
    exact ⟨rfl, by first | exact hB.out | (rw [hgb]; exact hB.out)⟩
  case true =>
    have q1 : 0 < az := of_decide_eq_true t1
    have q1' : decide (0 < (az : Int)) = true := by simp; omega
    simp only [Bool.true_and]
    cases t2 : decide (0 < bs)
    case false =>
      have q2 : ¬ 0 < bs := of_decide_eq_false t2
      have q2' : decide (0 < (bs : Int)) = false := by simp; omega
      simp only [Bool.false_and]
      have z0 := cell_row (j := 0) K0.out rfl
      have z1 := cell_row (j := 1) K0.out rfl
      have z2 := cell_row (j := 2) K0.out rfl
      have v0 := cell_row (j := 0) K1.out rfl
      have v1 := cell_row (j := 1) K1.out rfl
      have v2 := cell_row (j := 2) K1.out rfl
      have z4 := heap_lt K0.out
      have z5 := heap_lt K1.out
      go_enter Try.func12, Try.ntmps12
      go_upto_region 1 with fail
      rw [← HWA.out]
      generalize hgb : w.heap.size = gb at *
      go_wp2_with fail
      go_ret
      exact ⟨rfl, by first | exact hB.out | (rw [hgb]; exact hB.out)⟩
    case true =>
      have q2 : 0 < bs := of_decide_eq_true t2
      have q2' : decide (0 < (bs : Int)) = true := by simp; omega
      simp only [Bool.true_and]
      cases x1
      case true =>
        simp only [Bool.true_or]
        have z0 := cell_row (j := 0) K0.out rfl
        have z1 := cell_row (j := 1) K0.out rfl
        have z2 := cell_row (j := 2) K0.out rfl
        have v0 := cell_row (j := 0) K1.out rfl
        have v1 := cell_row (j := 1) K1.out rfl
        have v2 := cell_row (j := 2) K1.out rfl
        have z4 := heap_lt K0.out
        have z5 := heap_lt K1.out
        go_enter Try.func12, Try.ntmps12
        go_upto_region 1 with fail
        rw [← HWA.out]
        generalize hgb : w.heap.size = gb at *
        go_wp2_with fail
        (with_reducible refine (HE.out wa).mono ?_)
        rintro e w1 ⟨rfl, hb⟩
        have B1 : Hid (Below gb w w1) := hB.out.trans (hb.mono (Nat.le_of_lt z4))
        clear hb
        go_wp2_with fail
        go_ret
        exact ⟨rfl, by first | exact B1.out | (rw [hgb]; exact B1.out)⟩
      case false =>
        simp only [Bool.false_or]
        have z0 := cell_row (j := 0) K0.out rfl
        have z1 := cell_row (j := 1) K0.out rfl
        have z2 := cell_row (j := 2) K0.out rfl
        have v0 := cell_row (j := 0) K1.out rfl
        have v1 := cell_row (j := 1) K1.out rfl
        have v2 := cell_row (j := 2) K1.out rfl
        have z4 := heap_lt K0.out
        have z5 := heap_lt K1.out
        go_enter Try.func12, Try.ntmps12
        go_upto_region 1 with fail
        rw [← HWA.out]
        generalize hgb : w.heap.size = gb at *
        go_wp2_with fail
        (with_reducible refine (HE.out wa).mono ?_)
        rintro e w1 ⟨rfl, hb⟩
        have B1 : Hid (Below gb w w1) := hB.out.trans (hb.mono (Nat.le_of_lt z4))
        have K01 := Lib.hid (kept K0.out hb)
        have K11 := Lib.hid (kept K1.out hb)
        clear hb z0 z1 z2 v0 v1 v2 z4 z5
        have z0 := cell_row (j := 0) K01.out rfl
        have v0 := cell_row (j := 0) K11.out rfl
        have v1 := cell_row (j := 1) K11.out rfl
        have v2 := cell_row (j := 2) K11.out rfl
        have z4 := heap_lt K01.out
        go_wp2_with fail
        (with_reducible refine (HE2.out w1).mono ?_)
        rintro e w2 ⟨rfl, hb⟩
        have B2 : Hid (Below gb w w2) := B1.out.trans (hb.mono (Nat.le_of_lt z4))
        clear hb
        go_wp2_with fail
        go_ret
        exact ⟨rfl, by first | exact B2.out | (rw [hgb]; exact B2.out)⟩
end Go.Proofs.Yteekneicahfkpaa
