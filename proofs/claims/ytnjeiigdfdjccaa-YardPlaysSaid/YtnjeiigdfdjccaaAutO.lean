/- A point is seen as it is needed; the order. -/
import Derived.Test.YtnjeiigdfdjccaaAutR
namespace Go.Proofs.Ytnjeiigdfdjccaa
open Go.RowKit
set_option linter.unusedVariables false
set_option linter.unusedSimpArgs false
set_option maxRecDepth 100000 in
set_option maxHeartbeats 4000000 in
theorem seen_any (u : Au) (f : FD) (p : Int × Bool) (w : World) (hF : f.Ok) (hp : 0 ≤ p.1) :
    Calls Try.prog 70 #[.agg #[.pointer (some ⟨u.g, 0, none⟩), .int .u32 (f.cl : Int), .int .u32 (f.no : Int), .int .u32 (f.re : Int), .int .u32 (f.ak : Int), .int .u32 (f.ca : Int), .int .u32 (f.rq : Int)], .agg #[.int .i64 p.1, .bool p.2]] w fun e w' => e = .returned (.bool (seenB f p)) ∧ Below w.heap.size w w' := by
  obtain ⟨y, b⟩ := p
  simp only at hp ⊢
  obtain ⟨k, rfl⟩ := Int.eq_ofNat_of_zero_le hp
  have HSB : Hid (seenB f ((k : Int), b) = ((f.no.testBit k == !b) && (f.re.testBit k == b))) := rfl
  rw [HSB.out]
  obtain ⟨w1, hw1⟩ : ∃ w1, w1 = (w.alloc (.cells #[.pointer (some ⟨u.g, 0, none⟩), .int .u32 (f.cl : Int), .int .u32 (f.no : Int), .int .u32 (f.re : Int), .int .u32 (f.ak : Int), .int .u32 (f.ca : Int), .int .u32 (f.rq : Int)] 116)).alloc (.cells #[.int .i64 (k : Int), .bool b] 107) := ⟨_, rfl⟩
  have z1 : (w.alloc (.cells #[.pointer (some ⟨u.g, 0, none⟩), .int .u32 (f.cl : Int), .int .u32 (f.no : Int), .int .u32 (f.re : Int), .int .u32 (f.ak : Int), .int .u32 (f.ca : Int), .int .u32 (f.rq : Int)] 116)).heap.size = w.heap.size + 1 := Array.size_push _
  have B1 : Hid (Below w.heap.size w w1) := by rw [hw1]; exact (tb_alloc_below w _).alloc (tb_alloc_below w _).size _
  have K0 : Hid (w1.heap[w.heap.size]? = some (.cells #[.pointer (some ⟨u.g, 0, none⟩), .int .u32 (f.cl : Int), .int .u32 (f.no : Int), .int .u32 (f.re : Int), .int .u32 (f.ak : Int), .int .u32 (f.ca : Int), .int .u32 (f.rq : Int)] 116 (0, 0))) := by rw [hw1]; exact tb_kept (heap_alloc_new _ _) (tb_alloc_below _ _)
  have K1 : Hid (w1.heap[w.heap.size + 1]? = some (.cells #[.int .i64 (k : Int), .bool b] 107 (0, 0))) := by rw [hw1, ← z1]; exact heap_alloc_new _ _
  have HW1 := Lib.hid hw1
  have c2 := cell_row (j := 2) K0.out rfl
  have c3 := cell_row (j := 3) K0.out rfl
  have p0 := cell_row (j := 0) K1.out rfl
  have p1 := cell_row (j := 1) K1.out rfl
  have l0 := heap_lt K0.out; have l1 := heap_lt K1.out
  have HN := Lib.hid (fun W => bit_any f.no k W hF.no)
  have HR0 := Lib.hid (fun W => bit_any f.re k W hF.re)
  clear hw1 z1 HSB hp
  generalize f.no.testBit k = e1 at *
  generalize f.re.testBit k = e2 at *
  cases b
  case true =>
    cases e1
    case true =>
      go_enter Try.func70, Try.ntmps70
      go_upto_region 1 with fail
      rw [← HW1.out]
      obtain ⟨U, fU, hUn, hU1, hU2⟩ := class_of (fun V => Below w1.heap.size w1 V) (W := w1.drew) ⟨rfl, rfl, rfl, Nat.le_refl _, fun _ _ => rfl⟩
      have HU1 := Lib.hid hU1; have HU2 := Lib.hid hU2
      clear hU1 hU2
      have hfm : (Try.prog).follows .mixedOrders = true := by kernel_rfl
      obtain ⟨q, hd1⟩ : ∃ q : Nat, 1 ≤ q := ⟨1, Nat.le_refl _⟩
      have y2 := fun uu => ((HU1.out uu).cell l0).trans c2
      have y3 := fun uu => ((HU1.out uu).cell l0).trans c3
      have yp0 := fun uu => ((HU1.out uu).cell l1).trans p0
      have yp1 := fun uu => ((HU1.out uu).cell l1).trans p1
      have h0_HR : ∀ uu, Calls Try.prog 63 #[.int .u32 (f.no : Int), .int .i64 (k : Int)] (fU uu) fun e w' => e = .returned (.bool true) ∧ Below (fU uu).heap.size (fU uu) w' := fun uu => (HN.out (fU uu)).mono (fun e w' ⟨he, hw⟩ => ⟨he, by rw [hw]; exact Below.refl _ _⟩)
      have HR : Hid (∀ uu, CallsIn Fence.wide (q - 1) Try.prog 63 #[.int .u32 (f.no : Int), .int .i64 (k : Int)] (fU uu) fun e w' => e = .returned (.bool true) ∧ ∃ uu', w' = fU uu') := fun uu => (callsIn_wide.2 (h0_HR uu)).mono (fun e w' ⟨he, hb⟩ => ⟨he, HU2.out _ ((HU1.out uu).trans (hb.mono (HU1.out uu).size))⟩)
      have hf_HR : Fence.wide.fn 63 := trivial
      clear h0_HR
      have h0_HR2 : ∀ uu, Calls Try.prog 63 #[.int .u32 (f.re : Int), .int .i64 (k : Int)] (fU uu) fun e w' => e = .returned (.bool e2) ∧ Below (fU uu).heap.size (fU uu) w' := fun uu => (HR0.out (fU uu)).mono (fun e w' ⟨he, hw⟩ => ⟨he, by rw [hw]; exact Below.refl _ _⟩)
      have HR2 : Hid (∀ uu, CallsIn Fence.wide (q - 1) Try.prog 63 #[.int .u32 (f.re : Int), .int .i64 (k : Int)] (fU uu) fun e w' => e = .returned (.bool e2) ∧ ∃ uu', w' = fU uu') := fun uu => (callsIn_wide.2 (h0_HR2 uu)).mono (fun e w' ⟨he, hb⟩ => ⟨he, HU2.out _ ((HU1.out uu).trans (hb.mono (HU1.out uu).size))⟩)
      have hf_HR2 : Fence.wide.fn 63 := trivial
      clear h0_HR2
      clear c2 c3 p0 p1
      refine (wpIn_wide (n := q)).1 ?_
      refine wpIn_region_cls fU (by kernel_rfl) hfm (by kernel_rfl) (HU2.out _ ⟨rfl, rfl, rfl, Nat.le_refl _, fun _ _ => rfl⟩) ?_
      repeat (gi_big_quiet_step (first | (gi_at_call 63; (with_reducible exact HR.out _)) | (gi_at_call 63; (with_reducible exact HR2.out _))))
      refine wpQuietIn_nil ?_
      rintro w5 ⟨uu, rfl⟩
      have B5 := Lib.hid ((B1.out).trans ((HU1.out uu).mono (B1.out).size))
      generalize fU uu = w5 at *
      clear HU1 HU2
      clear y2 y3 yp0 yp1 HR HR2
      go_wp2_with fail
      go_ret
      exact ⟨by first | rfl | simp, B5.out⟩
    case false =>
      go_enter Try.func70, Try.ntmps70
      go_upto_region 1 with fail
      rw [← HW1.out]
      obtain ⟨U, fU, hUn, hU1, hU2⟩ := class_of (fun V => Below w1.heap.size w1 V) (W := w1.drew) ⟨rfl, rfl, rfl, Nat.le_refl _, fun _ _ => rfl⟩
      have HU1 := Lib.hid hU1; have HU2 := Lib.hid hU2
      clear hU1 hU2
      have hfm : (Try.prog).follows .mixedOrders = true := by kernel_rfl
      obtain ⟨q, hd1⟩ : ∃ q : Nat, 1 ≤ q := ⟨1, Nat.le_refl _⟩
      have y2 := fun uu => ((HU1.out uu).cell l0).trans c2
      have y3 := fun uu => ((HU1.out uu).cell l0).trans c3
      have yp0 := fun uu => ((HU1.out uu).cell l1).trans p0
      have yp1 := fun uu => ((HU1.out uu).cell l1).trans p1
      have h0_HR : ∀ uu, Calls Try.prog 63 #[.int .u32 (f.no : Int), .int .i64 (k : Int)] (fU uu) fun e w' => e = .returned (.bool false) ∧ Below (fU uu).heap.size (fU uu) w' := fun uu => (HN.out (fU uu)).mono (fun e w' ⟨he, hw⟩ => ⟨he, by rw [hw]; exact Below.refl _ _⟩)
      have HR : Hid (∀ uu, CallsIn Fence.wide (q - 1) Try.prog 63 #[.int .u32 (f.no : Int), .int .i64 (k : Int)] (fU uu) fun e w' => e = .returned (.bool false) ∧ ∃ uu', w' = fU uu') := fun uu => (callsIn_wide.2 (h0_HR uu)).mono (fun e w' ⟨he, hb⟩ => ⟨he, HU2.out _ ((HU1.out uu).trans (hb.mono (HU1.out uu).size))⟩)
      have hf_HR : Fence.wide.fn 63 := trivial
      clear h0_HR
      have h0_HR2 : ∀ uu, Calls Try.prog 63 #[.int .u32 (f.re : Int), .int .i64 (k : Int)] (fU uu) fun e w' => e = .returned (.bool e2) ∧ Below (fU uu).heap.size (fU uu) w' := fun uu => (HR0.out (fU uu)).mono (fun e w' ⟨he, hw⟩ => ⟨he, by rw [hw]; exact Below.refl _ _⟩)
      have HR2 : Hid (∀ uu, CallsIn Fence.wide (q - 1) Try.prog 63 #[.int .u32 (f.re : Int), .int .i64 (k : Int)] (fU uu) fun e w' => e = .returned (.bool e2) ∧ ∃ uu', w' = fU uu') := fun uu => (callsIn_wide.2 (h0_HR2 uu)).mono (fun e w' ⟨he, hb⟩ => ⟨he, HU2.out _ ((HU1.out uu).trans (hb.mono (HU1.out uu).size))⟩)
      have hf_HR2 : Fence.wide.fn 63 := trivial
      clear h0_HR2
      clear c2 c3 p0 p1
      refine (wpIn_wide (n := q)).1 ?_
      refine wpIn_region_cls fU (by kernel_rfl) hfm (by kernel_rfl) (HU2.out _ ⟨rfl, rfl, rfl, Nat.le_refl _, fun _ _ => rfl⟩) ?_
      repeat (gi_big_quiet_step (first | (gi_at_call 63; (with_reducible exact HR.out _)) | (gi_at_call 63; (with_reducible exact HR2.out _))))
      refine wpQuietIn_nil ?_
      rintro w5 ⟨uu, rfl⟩
      have B5 := Lib.hid ((B1.out).trans ((HU1.out uu).mono (B1.out).size))
      generalize fU uu = w5 at *
      clear HU1 HU2
      clear y2 y3 yp0 yp1 HR HR2
      go_wp2_with fail
      go_ret
      exact ⟨by first | rfl | simp, B5.out⟩
  case false =>
    cases e1
    case true =>
      go_enter Try.func70, Try.ntmps70
      go_upto_region 1 with fail
      rw [← HW1.out]
      obtain ⟨U, fU, hUn, hU1, hU2⟩ := class_of (fun V => Below w1.heap.size w1 V) (W := w1.drew) ⟨rfl, rfl, rfl, Nat.le_refl _, fun _ _ => rfl⟩
      have HU1 := Lib.hid hU1; have HU2 := Lib.hid hU2
      clear hU1 hU2
      have hfm : (Try.prog).follows .mixedOrders = true := by kernel_rfl
      obtain ⟨q, hd1⟩ : ∃ q : Nat, 1 ≤ q := ⟨1, Nat.le_refl _⟩
      have y2 := fun uu => ((HU1.out uu).cell l0).trans c2
      have y3 := fun uu => ((HU1.out uu).cell l0).trans c3
      have yp0 := fun uu => ((HU1.out uu).cell l1).trans p0
      have yp1 := fun uu => ((HU1.out uu).cell l1).trans p1
      have h0_HR : ∀ uu, Calls Try.prog 63 #[.int .u32 (f.no : Int), .int .i64 (k : Int)] (fU uu) fun e w' => e = .returned (.bool true) ∧ Below (fU uu).heap.size (fU uu) w' := fun uu => (HN.out (fU uu)).mono (fun e w' ⟨he, hw⟩ => ⟨he, by rw [hw]; exact Below.refl _ _⟩)
      have HR : Hid (∀ uu, CallsIn Fence.wide (q - 1) Try.prog 63 #[.int .u32 (f.no : Int), .int .i64 (k : Int)] (fU uu) fun e w' => e = .returned (.bool true) ∧ ∃ uu', w' = fU uu') := fun uu => (callsIn_wide.2 (h0_HR uu)).mono (fun e w' ⟨he, hb⟩ => ⟨he, HU2.out _ ((HU1.out uu).trans (hb.mono (HU1.out uu).size))⟩)
      have hf_HR : Fence.wide.fn 63 := trivial
      clear h0_HR
      have h0_HR2 : ∀ uu, Calls Try.prog 63 #[.int .u32 (f.re : Int), .int .i64 (k : Int)] (fU uu) fun e w' => e = .returned (.bool e2) ∧ Below (fU uu).heap.size (fU uu) w' := fun uu => (HR0.out (fU uu)).mono (fun e w' ⟨he, hw⟩ => ⟨he, by rw [hw]; exact Below.refl _ _⟩)
      have HR2 : Hid (∀ uu, CallsIn Fence.wide (q - 1) Try.prog 63 #[.int .u32 (f.re : Int), .int .i64 (k : Int)] (fU uu) fun e w' => e = .returned (.bool e2) ∧ ∃ uu', w' = fU uu') := fun uu => (callsIn_wide.2 (h0_HR2 uu)).mono (fun e w' ⟨he, hb⟩ => ⟨he, HU2.out _ ((HU1.out uu).trans (hb.mono (HU1.out uu).size))⟩)
      have hf_HR2 : Fence.wide.fn 63 := trivial
      clear h0_HR2
      clear c2 c3 p0 p1
      refine (wpIn_wide (n := q)).1 ?_
      refine wpIn_region_cls fU (by kernel_rfl) hfm (by kernel_rfl) (HU2.out _ ⟨rfl, rfl, rfl, Nat.le_refl _, fun _ _ => rfl⟩) ?_
      repeat (gi_big_quiet_step (first | (gi_at_call 63; (with_reducible exact HR.out _)) | (gi_at_call 63; (with_reducible exact HR2.out _))))
      refine wpQuietIn_nil ?_
      rintro w5 ⟨uu, rfl⟩
      have B5 := Lib.hid ((B1.out).trans ((HU1.out uu).mono (B1.out).size))
      generalize fU uu = w5 at *
      clear HU1 HU2
      clear y2 y3 yp0 yp1 HR HR2
      go_wp2_with fail
      go_ret
      exact ⟨by first | rfl | simp, B5.out⟩
    case false =>
      go_enter Try.func70, Try.ntmps70
      go_upto_region 1 with fail
      rw [← HW1.out]
      obtain ⟨U, fU, hUn, hU1, hU2⟩ := class_of (fun V => Below w1.heap.size w1 V) (W := w1.drew) ⟨rfl, rfl, rfl, Nat.le_refl _, fun _ _ => rfl⟩
      have HU1 := Lib.hid hU1; have HU2 := Lib.hid hU2
      clear hU1 hU2
      have hfm : (Try.prog).follows .mixedOrders = true := by kernel_rfl
      obtain ⟨q, hd1⟩ : ∃ q : Nat, 1 ≤ q := ⟨1, Nat.le_refl _⟩
      have y2 := fun uu => ((HU1.out uu).cell l0).trans c2
      have y3 := fun uu => ((HU1.out uu).cell l0).trans c3
      have yp0 := fun uu => ((HU1.out uu).cell l1).trans p0
      have yp1 := fun uu => ((HU1.out uu).cell l1).trans p1
      have h0_HR : ∀ uu, Calls Try.prog 63 #[.int .u32 (f.no : Int), .int .i64 (k : Int)] (fU uu) fun e w' => e = .returned (.bool false) ∧ Below (fU uu).heap.size (fU uu) w' := fun uu => (HN.out (fU uu)).mono (fun e w' ⟨he, hw⟩ => ⟨he, by rw [hw]; exact Below.refl _ _⟩)
      have HR : Hid (∀ uu, CallsIn Fence.wide (q - 1) Try.prog 63 #[.int .u32 (f.no : Int), .int .i64 (k : Int)] (fU uu) fun e w' => e = .returned (.bool false) ∧ ∃ uu', w' = fU uu') := fun uu => (callsIn_wide.2 (h0_HR uu)).mono (fun e w' ⟨he, hb⟩ => ⟨he, HU2.out _ ((HU1.out uu).trans (hb.mono (HU1.out uu).size))⟩)
      have hf_HR : Fence.wide.fn 63 := trivial
      clear h0_HR
      have h0_HR2 : ∀ uu, Calls Try.prog 63 #[.int .u32 (f.re : Int), .int .i64 (k : Int)] (fU uu) fun e w' => e = .returned (.bool e2) ∧ Below (fU uu).heap.size (fU uu) w' := fun uu => (HR0.out (fU uu)).mono (fun e w' ⟨he, hw⟩ => ⟨he, by rw [hw]; exact Below.refl _ _⟩)
      have HR2 : Hid (∀ uu, CallsIn Fence.wide (q - 1) Try.prog 63 #[.int .u32 (f.re : Int), .int .i64 (k : Int)] (fU uu) fun e w' => e = .returned (.bool e2) ∧ ∃ uu', w' = fU uu') := fun uu => (callsIn_wide.2 (h0_HR2 uu)).mono (fun e w' ⟨he, hb⟩ => ⟨he, HU2.out _ ((HU1.out uu).trans (hb.mono (HU1.out uu).size))⟩)
      have hf_HR2 : Fence.wide.fn 63 := trivial
      clear h0_HR2
      clear c2 c3 p0 p1
      refine (wpIn_wide (n := q)).1 ?_
      refine wpIn_region_cls fU (by kernel_rfl) hfm (by kernel_rfl) (HU2.out _ ⟨rfl, rfl, rfl, Nat.le_refl _, fun _ _ => rfl⟩) ?_
      repeat (gi_big_quiet_step (first | (gi_at_call 63; (with_reducible exact HR.out _)) | (gi_at_call 63; (with_reducible exact HR2.out _))))
      refine wpQuietIn_nil ?_
      rintro w5 ⟨uu, rfl⟩
      have B5 := Lib.hid ((B1.out).trans ((HU1.out uu).mono (B1.out).size))
      generalize fU uu = w5 at *
      clear HU1 HU2
      clear y2 y3 yp0 yp1 HR HR2
      go_wp2_with fail
      go_ret
      exact ⟨by first | rfl | simp, B5.out⟩
theorem loN_lt (R : Nat → RS) : ∀ k, k ≤ 16 → loN R k < 4294967296
  | 0, _ => show 0 < 4294967296 by decide
  | k + 1, hk => by
    unfold loN
    have ih := loN_lt R k (by omega)
    split
    · exact ih
    · exact Nat.or_lt_two_pow (n := 32) ih (Nat.lt_of_lt_of_le (Nat.pow_lt_pow_right (by omega) (show k < 16 by omega)) (by decide))
theorem prN_lt (T : Tab) (f : FD) (R : Nat → RS) (h : ∀ n, n < T.rts.length → (T.rts.getD n rt0).sig.toNat < 12) : ∀ k, k ≤ T.rts.length → prN T f R k < 4294967296
  | 0, _ => show 0 < 4294967296 by decide
  | k + 1, hk => by
    unfold prN
    have ih := prN_lt T f R h k (by omega)
    split
    · exact Nat.or_lt_two_pow (n := 32) ih (Nat.lt_of_lt_of_le (Nat.pow_lt_pow_right (by omega) (h k (by omega))) (by decide))
    · exact ih
theorem noN_lt (C : Nat → Nat) (h : ∀ p, C p < 3) : ∀ k, k ≤ 12 → noN C k < 4294967296
  | 0, _ => show 0 < 4294967296 by decide
  | k + 1, hk => by
    unfold noN
    have ih := noN_lt C h k (by omega)
    refine Nat.or_lt_two_pow (n := 32) ih ?_
    have h1 : C k &&& 1 ≤ 1 := Nat.and_le_right
    have h2 : 2 ^ k < 2 ^ 12 := Nat.pow_lt_pow_right (by omega) (by omega)
    calc (C k &&& 1) * 2 ^ k ≤ 1 * 2 ^ k := Nat.mul_le_mul_right _ h1
      _ < 2 ^ 32 := by rw [Nat.one_mul]; exact Nat.lt_of_lt_of_le h2 (by decide)
theorem reN_lt (C : Nat → Nat) (h : ∀ p, C p < 3) : ∀ k, k ≤ 12 → reN C k < 4294967296
  | 0, _ => show 0 < 4294967296 by decide
  | k + 1, hk => by
    unfold reN
    have ih := reN_lt C h k (by omega)
    refine Nat.or_lt_two_pow (n := 32) ih ?_
    have h1 : C k / 2 ≤ 1 := by have := h k; omega
    have h2 : 2 ^ k < 2 ^ 12 := Nat.pow_lt_pow_right (by omega) (by omega)
    calc (C k / 2) * 2 ^ k ≤ 1 * 2 ^ k := Nat.mul_le_mul_right _ h1
      _ < 2 ^ 32 := by rw [Nat.one_mul]; exact Nat.lt_of_lt_of_le h2 (by decide)
end Go.Proofs.Ytnjeiigdfdjccaa
