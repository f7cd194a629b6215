/- RightsPairs. -/
import Derived.Test.YteekneicahfkpaaRigN
import Derived.Test.YteekneicahfkpaaRigU
import Derived.Test.YteekneicahfkpaaRigRd
namespace Go.Proofs.Yteekneicahfkpaa
open Go.RowKit
set_option linter.unusedVariables false
theorem over_comm (a b : Reg) : b.over a = a.over b := by
  unfold Reg.over
  rw [← Bool.decide_and, ← Bool.decide_and, ← Bool.decide_and, ← Bool.decide_and, ← Bool.decide_and, ← Bool.decide_and]
  exact decide_eq_decide.2 (by omega)
set_option maxHeartbeats 8000000 in
theorem pairs_any (a b : Reg) (m : Nat) (w : World) (ha : a.ok) (hb : b.ok) (hm : m < 4294967296) : Calls Try.prog 3 #[a.val, b.val, .int .u32 (m : Int)] w fun e w' => e = .returned (.bool true) ∧ Below w.heap.size w w' := by
  have HF := Lib.hid (fun W => fits_any a m W ha hm)
  have HG := Lib.hid (fun W => rfits_any a m W ha hm)
  have HO := Lib.hid (fun W => overlap_any a b W ha hb)
  have HP := Lib.hid (fun W => roverlap_any a b W ha hb)
  have HQ := Lib.hid (fun W => (show Calls Try.prog 11 #[b.val, a.val] W fun e w' => e = .returned (.bool (a.over b)) ∧ Below W.heap.size W w' from by rw [← over_comm]; exact overlap_any b a W hb ha))
  generalize a.fits m = fb at *
  generalize a.over b = ob at *
  clear ha hb
  obtain ⟨ab, az, at_⟩ := a
  obtain ⟨bb, bs, bt⟩ := b
  unfold Reg.val at *
  simp only at HF HG HO HP HQ ⊢
  obtain ⟨wa, hwa⟩ : ∃ x, x = (w.alloc (.cells #[.int .u32 (ab : Int), .int .u32 (az : Int), .int .u8 (at_ : Int)] 24)).alloc (.cells #[.int .u32 (bb : Int), .int .u32 (bs : Int), .int .u8 (bt : Int)] 24) := ⟨_, rfl⟩
  have K0 : Hid (wa.heap[w.heap.size]? = some (.cells #[.int .u32 (ab : Int), .int .u32 (az : Int), .int .u8 (at_ : Int)] 24 (0, 0))) := by rw [hwa]; exact kept (heap_alloc_new _ _) (alloc_below _ _)
  have K1 : Hid (wa.heap[w.heap.size + 1]? = some (.cells #[.int .u32 (bb : Int), .int .u32 (bs : Int), .int .u8 (bt : Int)] 24 (0, 0))) := by
    rw [hwa, ← show (w.alloc (.cells #[.int .u32 (ab : Int), .int .u32 (az : Int), .int .u8 (at_ : Int)] 24)).heap.size = w.heap.size + 1 from Array.size_push _]
    exact heap_alloc_new _ _
  have hB : Hid (Below w.heap.size w wa) := by rw [hwa]; exact ((alloc_below _ _).alloc (alloc_below w (.cells #[.int .u32 (ab : Int), .int .u32 (az : Int), .int .u8 (at_ : Int)] 24)).size _)
  have HWA := Lib.hid hwa
  clear hwa
  go_enter Try.func3, Try.ntmps3
  go_upto_region 1 with fail
  rw [← HWA.out]
  generalize hgb : w.heap.size = gb at *
  have KN := Lib.hid (fun W => known_any W)
  go_upto_region 3 with ((with_reducible refine (KN.out wa).mono ?_); rintro e w1 ⟨rfl, hb1⟩; have B1 := Lib.hid hb1; clear hb1)
  have K2 := Lib.hid (kept K0.out B1.out)
  have K3 := Lib.hid (kept K1.out B1.out)
  have BB : Hid (Below gb w w1) := hB.out.trans (B1.out.mono (Nat.le_of_lt (heap_lt K0.out)))
  obtain ⟨U, f, hUn, hU1, hU2⟩ := class_of (fun V => Below w1.heap.size w1 V) (W := w1.drew) ⟨rfl, rfl, rfl, Nat.le_refl _, fun _ _ => rfl⟩
  have y0 : ∀ u, (f u).cell? ⟨gb, 0, none⟩ = some (.int .u32 (ab : Int)) := fun u => cell_row (j := 0) (kept K2.out (hU1 u)) rfl
  have y1 : ∀ u, (f u).cell? ⟨gb, 1, none⟩ = some (.int .u32 (az : Int)) := fun u => cell_row (j := 1) (kept K2.out (hU1 u)) rfl
  have y2 : ∀ u, (f u).cell? ⟨gb, 2, none⟩ = some (.int .u8 (at_ : Int)) := fun u => cell_row (j := 2) (kept K2.out (hU1 u)) rfl
  have y3 : ∀ u, (f u).cell? ⟨gb + 1, 0, none⟩ = some (.int .u32 (bb : Int)) := fun u => cell_row (j := 0) (kept K3.out (hU1 u)) rfl
  have y4 : ∀ u, (f u).cell? ⟨gb + 1, 1, none⟩ = some (.int .u32 (bs : Int)) := fun u => cell_row (j := 1) (kept K3.out (hU1 u)) rfl
  have y5 : ∀ u, (f u).cell? ⟨gb + 1, 2, none⟩ = some (.int .u8 (bt : Int)) := fun u => cell_row (j := 2) (kept K3.out (hU1 u)) rfl
  have HU1 := Lib.hid hU1; have HU2 := Lib.hid hU2
  clear hU1 hU2
  have hfm : (Try.prog).follows .mixedOrders = true := by kernel_rfl
  obtain ⟨q, hd1⟩ : ∃ q : Nat, 1 ≤ q := ⟨1, Nat.le_refl _⟩
  have HR0 : Hid (∀ u, CallsIn Fence.wide (q - 1) Try.prog 9 #[.agg #[.int .u32 (ab : Int), .int .u32 (az : Int), .int .u8 (at_ : Int)], .int .u32 (m : Int)] (f u) fun e w' => e = .returned (.bool fb) ∧ ∃ u', w' = f u') := fun u => (callsIn_wide.2 (HF.out (f u))).mono (fun e w' ⟨he, hb⟩ => ⟨he, HU2.out w' ((HU1.out u).trans (hb.mono (HU1.out u).size))⟩)
  have HR1 : Hid (∀ u, CallsIn Fence.wide (q - 1) Try.prog 10 #[.agg #[.int .u32 (ab : Int), .int .u32 (az : Int), .int .u8 (at_ : Int)], .int .u32 (m : Int)] (f u) fun e w' => e = .returned (.bool fb) ∧ ∃ u', w' = f u') := fun u => (callsIn_wide.2 (HG.out (f u))).mono (fun e w' ⟨he, hb⟩ => ⟨he, HU2.out w' ((HU1.out u).trans (hb.mono (HU1.out u).size))⟩)
  have HR2 : Hid (∀ u, CallsIn Fence.wide (q - 1) Try.prog 11 #[.agg #[.int .u32 (ab : Int), .int .u32 (az : Int), .int .u8 (at_ : Int)], .agg #[.int .u32 (bb : Int), .int .u32 (bs : Int), .int .u8 (bt : Int)]] (f u) fun e w' => e = .returned (.bool ob) ∧ ∃ u', w' = f u') := fun u => (callsIn_wide.2 (HO.out (f u))).mono (fun e w' ⟨he, hb⟩ => ⟨he, HU2.out w' ((HU1.out u).trans (hb.mono (HU1.out u).size))⟩)
  have HR3 : Hid (∀ u, CallsIn Fence.wide (q - 1) Try.prog 12 #[.agg #[.int .u32 (ab : Int), .int .u32 (az : Int), .int .u8 (at_ : Int)], .agg #[.int .u32 (bb : Int), .int .u32 (bs : Int), .int .u8 (bt : Int)]] (f u) fun e w' => e = .returned (.bool ob) ∧ ∃ u', w' = f u') := fun u => (callsIn_wide.2 (HP.out (f u))).mono (fun e w' ⟨he, hb⟩ => ⟨he, HU2.out w' ((HU1.out u).trans (hb.mono (HU1.out u).size))⟩)
  have HR4 : Hid (∀ u, CallsIn Fence.wide (q - 1) Try.prog 11 #[.agg #[.int .u32 (bb : Int), .int .u32 (bs : Int), .int .u8 (bt : Int)], .agg #[.int .u32 (ab : Int), .int .u32 (az : Int), .int .u8 (at_ : Int)]] (f u) fun e w' => e = .returned (.bool ob) ∧ ∃ u', w' = f u') := fun u => (callsIn_wide.2 (HQ.out (f u))).mono (fun e w' ⟨he, hb⟩ => ⟨he, HU2.out w' ((HU1.out u).trans (hb.mono (HU1.out u).size))⟩)
  have hf0 : Fence.wide.fn 9 := trivial
  have hf1 : Fence.wide.fn 10 := trivial
  have hf2 : Fence.wide.fn 11 := trivial
  have hf3 : Fence.wide.fn 12 := trivial
  clear HF HG HO HP HQ KN K0 K1 B1 hB HWA
  refine (wpIn_wide (n := q)).1 ?_
  refine wpIn_region_cls f (by kernel_rfl) hfm (by kernel_rfl) (HU2.out _ ⟨rfl, rfl, rfl, Nat.le_refl _, fun _ _ => rfl⟩) ?_
  repeat (gi_big_quiet_step (first | (gi_at_call 9; exact HR0.out _) | (gi_at_call 10; exact HR1.out _) | (gi_at_call 12; exact HR3.out _) | (gi_at_call 11; first | (with_reducible exact HR2.out _) | (with_reducible exact HR4.out _))))
  refine wpQuietIn_nil ?_
  rintro w5 ⟨u, rfl⟩
  have B5 : Hid (Below gb w (f u)) := BB.out.trans ((HU1.out u).mono (by rw [← hgb]; exact BB.out.size))
  generalize f u = w5 at *
  clear HR0 HR1 HR2 HR3 HR4 hf0 hf1 hf2 hf3 HU1 HU2 y0 y1 y2 y3 y4 y5
  go_wp2_with fail
  go_ret
  exact ⟨by first | rfl | simp, by first | exact B5.out | (rw [hgb]; exact B5.out)⟩
theorem pairs_walk (v x : Value) (m : Int) (w : World) (w0 : ReadsC w 24 v.cells.toList ∧ Value.okWide Try.prog w .any 0 24 v) (w1 : ReadsC w 24 x.cells.toList ∧ Value.okWide Try.prog w .any 0 24 x) (w2 : (Lit.int .u32 m).wf = true) :
    Calls Try.prog 3 #[v, x, .int .u32 m] w fun e w' => e = .returned (.bool true) ∧ Below w.heap.size w w' := by
  obtain ⟨a, ha, rfl⟩ := reg_value w0
  obtain ⟨b, hb, rfl⟩ := reg_value w1
  obtain ⟨n, rfl, hn⟩ := u32_nat w2
  exact pairs_any a b n w ha hb hn
end Go.Proofs.Yteekneicahfkpaa
