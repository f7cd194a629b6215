/- The document's Fits; Overlap. -/
import Derived.Test.YteekneicahfkpaaRigS
namespace Go.Proofs.Yteekneicahfkpaa
open Go.RowKit
set_option linter.unusedVariables false
set_option linter.unusedSimpArgs false
set_option maxHeartbeats 2000000 in
theorem rfits_any (r : Reg) (m : Nat) (w : World) (h : r.ok) (hm : m < 4294967296) : Calls Try.prog 10 #[r.val, .int .u32 (m : Int)] w fun e w' => e = .returned (.bool (r.fits m)) ∧ Below w.heap.size w w' := by
  have h1 := h.base; have h2 := h.size
  have HR : Hid (r.fits m = (decide (0 < r.size) && decide (r.base + r.size ≤ m) && decide (1 ≤ r.rt) && decide (r.rt ≤ 7))) := rfl
  obtain ⟨b, s, t⟩ := r
  simp only at h1 h2 HR
  unfold Reg.val at *
  rw [HR.out]
  clear HR h
  obtain ⟨wa, hwa⟩ : ∃ x, x = w.alloc (.cells #[.int .u32 (b : Int), .int .u32 (s : Int), .int .u8 (t : Int)] 24) := ⟨_, rfl⟩
  have K0 : Hid (wa.heap[w.heap.size]? = some (.cells #[.int .u32 (b : Int), .int .u32 (s : Int), .int .u8 (t : Int)] 24 (0, 0))) := by rw [hwa]; exact heap_alloc_new _ _
  have hB : Hid (Below w.heap.size w wa) := by rw [hwa]; exact alloc_below _ _
  have HWA := Lib.hid hwa
  clear hwa
  have z0 := cell_row (j := 0) K0.out rfl
  have z1 := cell_row (j := 1) K0.out rfl
  have z2 := cell_row (j := 2) K0.out rfl
  have z4 := heap_lt K0.out
  cases t1 : decide (0 < s)
  case false =>
    have t1' : ((s : Int) != 0) = false := by have := of_decide_eq_false t1; simp; omega
    have t1'' : ((s : Int) == 0) = true := by have := of_decide_eq_false t1; simp; omega
    simp only [Bool.false_and]
    go_enter Try.func10, Try.ntmps10
    go_upto_region 1 with fail
    rw [← HWA.out]
    generalize hgb : w.heap.size = gb at *
    go_wp2_with fail
    go_ret
    exact ⟨rfl, by first | exact hB.out | (rw [hgb]; exact hB.out)⟩
  case true =>
    have hs := of_decide_eq_true t1
    have t1' : ((s : Int) != 0) = true := by simp; omega
    have t1'' : ((s : Int) == 0) = false := by simp; omega
    have hw1 : IntKind.u64.wrap ((b : Int) + (s : Int) - 1) = (b : Int) + (s : Int) - 1 := by rw [IntKind.wrap_u64]; omega
    have hw2 : ((b : Int) + (s : Int) - 1) % 18446744073709551616 = (b : Int) + (s : Int) - 1 := by omega
    simp only [Bool.true_and]
    cases t2 : decide (b + s ≤ m)
    case false =>
      have t2' : decide ((b : Int) + (s : Int) - 1 < (m : Int)) = false := by have := of_decide_eq_false t2; simp; omega
      simp only [Bool.false_and]
      go_enter Try.func10, Try.ntmps10
      go_upto_region 1 with fail
      rw [← HWA.out]
      generalize hgb : w.heap.size = gb at *
      go_wp2_with fail
      go_ret
      exact ⟨rfl, by first | exact hB.out | (rw [hgb]; exact hB.out)⟩
    case true =>
      have t2' : decide ((b : Int) + (s : Int) - 1 < (m : Int)) = true := by have := of_decide_eq_true t2; simp; omega
      simp only [Bool.true_and]
      cases t3 : decide (1 ≤ t)
      case false =>
        have t3n : ¬ 0 < t := by have := of_decide_eq_false t3; omega
        have t3' : decide (0 < (t : Int)) = false := by have := of_decide_eq_false t3; simp; omega
        simp only [Bool.false_and]
        go_enter Try.func10, Try.ntmps10
        go_upto_region 1 with fail
        rw [← HWA.out]
        generalize hgb : w.heap.size = gb at *
        go_wp2_with fail
        go_ret
        exact ⟨rfl, by first | exact hB.out | (rw [hgb]; exact hB.out)⟩
      case true =>
        have t3n : 0 < t := by have := of_decide_eq_true t3; omega
        have t3' : decide (0 < (t : Int)) = true := by have := of_decide_eq_true t3; simp; omega
        simp only [Bool.true_and]
        cases t4 : decide (t ≤ 7)
        case false =>
          have t4' : decide ((t : Int) < 8) = false := by have := of_decide_eq_false t4; simp; omega
          go_enter Try.func10, Try.ntmps10
          go_upto_region 1 with fail
          rw [← HWA.out]
          generalize hgb : w.heap.size = gb at *
          go_wp2_with fail
          go_ret
          exact ⟨rfl, by first | exact hB.out | (rw [hgb]; exact hB.out)⟩
        case true =>
          have t4' : decide ((t : Int) < 8) = true := by have := of_decide_eq_true t4; simp; omega
          go_enter Try.func10, Try.ntmps10
          go_upto_region 1 with fail
          rw [← HWA.out]
          generalize hgb : w.heap.size = gb at *
          go_wp2_with fail
          go_ret
          exact ⟨rfl, by first | exact hB.out | (rw [hgb]; exact hB.out)⟩
theorem over_eq (a b : Reg) : a.over b = decide (max a.base b.base < min (a.base + a.size) (b.base + b.size)) := by
  unfold Reg.over
  rw [← Bool.decide_and, ← Bool.decide_and, ← Bool.decide_and]
  exact decide_eq_decide.2 (by omega)
set_option maxHeartbeats 4000000 in
theorem overlap_any (a b : Reg) (w : World) (ha : a.ok) (hb : b.ok) : Calls Try.prog 11 #[a.val, b.val] w fun e w' => e = .returned (.bool (a.over b)) ∧ Below w.heap.size w w' := by
  have HE := Lib.hid (fun W => end_any a W ha)
  have HE2 := Lib.hid (fun W => end_any b W hb)
  have h1 := ha.base; have h2 := ha.size; have h3 := hb.base; have h4 := hb.size
  have HO := Lib.hid (over_eq a b)
  rw [HO.out]
  clear HO ha hb
  obtain ⟨ab, az, at_⟩ := a
  obtain ⟨bb, bs, bt⟩ := b
  simp only at h1 h2 h3 h4
  unfold Reg.val at *
  obtain ⟨wa, hwa⟩ : ∃ x, x = (w.alloc (.cells #[.int .u32 (ab : Int), .int .u32 (az : Int), .int .u8 (at_ : Int)] 24)).alloc (.cells #[.int .u32 (bb : Int), .int .u32 (bs : Int), .int .u8 (bt : Int)] 24) := ⟨_, rfl⟩
  have K0 : Hid (wa.heap[w.heap.size]? = some (.cells #[.int .u32 (ab : Int), .int .u32 (az : Int), .int .u8 (at_ : Int)] 24 (0, 0))) := by rw [hwa]; exact kept (heap_alloc_new _ _) (alloc_below _ _)
  have K1 : Hid (wa.heap[w.heap.size + 1]? = some (.cells #[.int .u32 (bb : Int), .int .u32 (bs : Int), .int .u8 (bt : Int)] 24 (0, 0))) := by
    rw [hwa, ← show (w.alloc (.cells #[.int .u32 (ab : Int), .int .u32 (az : Int), .int .u8 (at_ : Int)] 24)).heap.size = w.heap.size + 1 from Array.size_push _]
    exact heap_alloc_new _ _
  have hB : Hid (Below w.heap.size w wa) := by rw [hwa]; exact ((alloc_below _ _).alloc (alloc_below w (.cells #[.int .u32 (ab : Int), .int .u32 (az : Int), .int .u8 (at_ : Int)] 24)).size _)
  have HWA := Lib.hid hwa
  clear hwa
  go_enter Try.func11, Try.ntmps11
  go_upto_region 1 with fail
  rw [← HWA.out]
  generalize hgb : w.heap.size = gb at *
  obtain ⟨U, f, hUn, hU1, hU2⟩ := class_of (fun V => Below wa.heap.size wa V) (W := wa.drew) ⟨rfl, rfl, rfl, Nat.le_refl _, fun _ _ => rfl⟩
  have y0 : ∀ u, (f u).cell? ⟨gb, 0, none⟩ = some (.int .u32 (ab : Int)) := fun u => cell_row (j := 0) (kept K0.out (hU1 u)) rfl
  have y1 : ∀ u, (f u).cell? ⟨gb, 1, none⟩ = some (.int .u32 (az : Int)) := fun u => cell_row (j := 1) (kept K0.out (hU1 u)) rfl
  have y2 : ∀ u, (f u).cell? ⟨gb, 2, none⟩ = some (.int .u8 (at_ : Int)) := fun u => cell_row (j := 2) (kept K0.out (hU1 u)) rfl
  have y3 : ∀ u, (f u).cell? ⟨gb + 1, 0, none⟩ = some (.int .u32 (bb : Int)) := fun u => cell_row (j := 0) (kept K1.out (hU1 u)) rfl
  have y4 : ∀ u, (f u).cell? ⟨gb + 1, 1, none⟩ = some (.int .u32 (bs : Int)) := fun u => cell_row (j := 1) (kept K1.out (hU1 u)) rfl
  have y5 : ∀ u, (f u).cell? ⟨gb + 1, 2, none⟩ = some (.int .u8 (bt : Int)) := fun u => cell_row (j := 2) (kept K1.out (hU1 u)) rfl
  have HU1 := Lib.hid hU1; have HU2 := Lib.hid hU2
  clear hU1 hU2
  have hfm : (Try.prog).follows .mixedOrders = true := by kernel_rfl
  obtain ⟨m, hd1⟩ : ∃ m : Nat, 1 ≤ m := ⟨1, Nat.le_refl _⟩
  have HR0 : Hid (∀ u, CallsIn Fence.wide (m - 1) Try.prog 21 #[.agg #[.int .u32 (ab : Int), .int .u32 (az : Int), .int .u8 (at_ : Int)]] (f u) fun e w' => e = .returned (.int .u64 ((ab + az : Nat) : Int)) ∧ ∃ u', w' = f u') := fun u => (callsIn_wide.2 (HE.out (f u))).mono (fun e w' ⟨he, hb⟩ => ⟨he, HU2.out w' ((HU1.out u).trans (hb.mono (HU1.out u).size))⟩)
  have HR1 : Hid (∀ u, CallsIn Fence.wide (m - 1) Try.prog 21 #[.agg #[.int .u32 (bb : Int), .int .u32 (bs : Int), .int .u8 (bt : Int)]] (f u) fun e w' => e = .returned (.int .u64 ((bb + bs : Nat) : Int)) ∧ ∃ u', w' = f u') := fun u => (callsIn_wide.2 (HE2.out (f u))).mono (fun e w' ⟨he, hb⟩ => ⟨he, HU2.out w' ((HU1.out u).trans (hb.mono (HU1.out u).size))⟩)
  have hf0 : Fence.wide.fn 21 := trivial
  refine (wpIn_wide (n := m)).1 ?_
  refine wpIn_region_cls f (by kernel_rfl) hfm (by kernel_rfl) (HU2.out _ ⟨rfl, rfl, rfl, Nat.le_refl _, fun _ _ => rfl⟩) ?_
  repeat (gi_big_quiet_step (first | (gi_at_call 21; first | exact HR0.out _ | exact HR1.out _)))
  all_goals
    refine wpQuietIn_nil ?_
    rintro w5 ⟨u, rfl⟩
    have B5 : Hid (Below gb w (f u)) := hB.out.trans ((HU1.out u).mono (Nat.le_of_lt (heap_lt K0.out)))
    generalize f u = w5 at *
    clear HR0 HR1 hf0 HU1 HU2 y0 y1 y2 y3 y4 y5
    go_wp2_with fail
  all_goals go_ret
  all_goals exact ⟨by first | rfl | (simp; omega) | (simp; done), by first | exact B5.out | (rw [hgb]; exact B5.out)⟩
end Go.Proofs.Yteekneicahfkpaa
