/- The walk of IsaInstrs. -/
import Derived.Test.YtobagnabkphegaaDoorIsaRefB
import Derived.Test.YtobagnabkphegaaDoorIsaRefC
import Derived.Test.YtobagnabkphegaaDoorIsaRefD
namespace Go.Proofs.YtobagnabkphegaaDoor
open Go.RowKit
set_option linter.unusedVariables false
set_option linter.unusedSimpArgs false
set_option maxHeartbeats 8000000 in
set_option maxRecDepth 100000 in
theorem instrs_any (i : Ins) (w : World) (hi : i.ok) (ht : TabW w) :
    Calls Tryd.prog 5 #[i.val] w fun e w' => e = .returned (.bool true) ∧ Below w.heap.size w w' := by
  have HOI := Lib.hid hi
  obtain ⟨wa, hwa⟩ : ∃ x, x = w.alloc (.cells (insA i) 27) := ⟨_, rfl⟩
  have I0 : Hid (wa.heap[w.heap.size]? = some (.cells (insA i) 27 (0, 0))) := by rw [hwa]; exact heap_alloc_new _ _
  have BA : Hid (Below w.heap.size w wa) := by rw [hwa]; exact alloc_below _ _
  have TA : Hid (TabW wa) := ht.below BA.out
  have HWA : Hid (wa = w.alloc (.cells #[.int .u8 (i.op : Int), .int .u8 (i.a : Int), .int .u16 (i.b : Int), .int .u32 (i.c : Int)] 27)) := hwa
  unfold insA at I0
  unfold Ins.val
  clear hi ht hwa
  go_enter Tryd.func5, Tryd.ntmps5
  go_upto_region 1 with fail
  rw [← HWA.out]
  generalize hgb : w.heap.size = gb at *
  go_wp2_with fail
  refine (known_any wa).mono ?_
  rintro e w1 ⟨rfl, hb⟩
  have I1 := Lib.hid (kept I0.out hb)
  have B1 : Hid (Below gb w w1) := BA.out.trans (hb.mono (Nat.le_of_lt (heap_lt I0.out)))
  have T1 : Hid (TabW w1) := TA.out.below hb
  clear hb I0 BA TA HWA
  have z0 := cell_row (j := 0) I1.out rfl
  have z1 := cell_row (j := 1) I1.out rfl
  have z2 := cell_row (j := 2) I1.out rfl
  have z3 := cell_row (j := 3) I1.out rfl
  have z4 := heap_lt I1.out
  go_wp2_with fail
  refine (show Calls Tryd.prog 11 #[.agg #[.int .u8 (i.op : Int), .int .u8 (i.a : Int), .int .u16 (i.b : Int), .int .u32 (i.c : Int)]] w1 _ from bytes_any i w1 HOI.out).mono ?_
  rintro e w2 ⟨rfl, hb⟩
  have I2 := Lib.hid (kept I1.out hb)
  have B2 : Hid (Below gb w w2) := B1.out.trans (hb.mono (Nat.le_of_lt z4))
  have T2 : Hid (TabW w2) := T1.out.below hb
  clear hb z0 z1 z2 z3 z4 I1 B1 T1
  rw [show i.bytL.toArray = #[bV i.byt 0, bV i.byt 1, bV i.byt 2, bV i.byt 3, bV i.byt 4, bV i.byt 5, bV i.byt 6, bV i.byt 7] from rfl]
  unfold bV
  obtain ⟨w3, hw3⟩ : ∃ y, y = w2.alloc (.cells #[.int .u8 ((i.byt 0 : Nat) : Int), .int .u8 ((i.byt 1 : Nat) : Int), .int .u8 ((i.byt 2 : Nat) : Int), .int .u8 ((i.byt 3 : Nat) : Int), .int .u8 ((i.byt 4 : Nat) : Int), .int .u8 ((i.byt 5 : Nat) : Int), .int .u8 ((i.byt 6 : Nat) : Int), .int .u8 ((i.byt 7 : Nat) : Int)] 32) := ⟨_, rfl⟩
  have hl2 := heap_lt I2.out
  have B3 : Hid (Below gb w w3) := by rw [hw3]; exact B2.out.alloc (Nat.le_of_lt hl2) _
  have I3 : Hid (w3.heap[gb]? = some (.cells #[.int .u8 (i.op : Int), .int .u8 (i.a : Int), .int .u16 (i.b : Int), .int .u32 (i.c : Int)] 27 (0, 0))) := by rw [hw3]; exact kept I2.out (alloc_below _ _)
  have K3 : Hid (w3.heap[w2.heap.size]? = some (.cells ((List.range 8).map (bV i.byt)).toArray 32 (0, 0))) := by rw [hw3]; exact heap_alloc_new _ _
  have T3 : Hid (TabW w3) := T2.out.below (by rw [hw3]; exact alloc_below _ _)
  have hz := zero32
  unfold Z8 at hz
  go_upto_region 4 with fail
  rw [← hw3]
  generalize w2.heap.size = gk at *
  clear hw3 hz hl2 I2 B2 T2
  have z0 := cell_row (j := 0) I3.out rfl
  have z1 := cell_row (j := 1) I3.out rfl
  have z2 := cell_row (j := 2) I3.out rfl
  have z3 := cell_row (j := 3) I3.out rfl
  have z4 := heap_lt I3.out
  go_wp2_with fail
  refine (show Calls Tryd.prog 13 #[.agg #[.int .u8 (i.op : Int), .int .u8 (i.a : Int), .int .u16 (i.b : Int), .int .u32 (i.c : Int)]] w3 _ from rbytes_any i w3 HOI.out).mono ?_
  rintro e w4 ⟨⟨g, rfl, hg⟩, hb⟩
  have I4 := Lib.hid (kept I3.out hb)
  have K4 := Lib.hid (kept K3.out hb)
  have G4 : Hid (w4.heap[g]? = some (.cells ((List.range 8).map (bV i.byt)).toArray 5 (0, 0))) := hg
  have B4 : Hid (Below gb w w4) := B3.out.trans (hb.mono (Nat.le_of_lt z4))
  have T4 : Hid (TabW w4) := T3.out.below hb
  clear hb hg z0 z1 z2 z3 z4 I3 K3 B3 T3
  go_wp2_with fail
  go_loop [15] (fun x => ∃ k : Nat, k ≤ 8 ∧ x = .int .i64 (k : Int)) (fun x => 8 - (intOf x).toNat)
  case atStart => exact ⟨0, by omega, rfl⟩
  case round =>
    obtain ⟨k, hk, rfl⟩ := hrel
    rcases Nat.lt_or_ge k 8 with hlt | hge
    · have c1 : w4.cell? ⟨gk, k, none⟩ = some (.int .u8 ((i.byt k : Nat) : Int)) := cell_row K4.out (by simp [hlt, bV])
      have c2 : w4.cell? ⟨g, k, none⟩ = some (.int .u8 ((i.byt k : Nat) : Int)) := cell_row G4.out (by simp [hlt, bV])
      have l1 := heap_lt K4.out
      have l2 := heap_lt G4.out
      have hki : (k : Int) < 8 := by omega
      generalize i.byt k = bk at *
      go_wp2_with fail
      go_round
      case rel => exact ⟨k + 1, by omega, by go_num⟩
      case measure => simp [intOf]; omega
    · obtain rfl : k = 8 := by omega
      by_cases h19 : i.op = 19
      · have q19 : ((i.op : Int) == 19) = true := by simp; omega
        have HJV : Hid (jumpB i.op = true) := by show _ = _; unfold jumpB; rw [h19]; rfl
        clear h19
        go_upto_region 11 with fail
        obtain ⟨U, f, hUn, hU1, hU2⟩ := class_of (fun V => Below w4.heap.size w4 V) (W := w4.drew) ⟨rfl, rfl, rfl, Nat.le_refl _, fun _ _ => rfl⟩
        have y0 : ∀ u, (f u).cell? ⟨gb, 0, none⟩ = some (.int .u8 (i.op : Int)) := fun u => cell_row (j := 0) (kept I4.out (hU1 u)) rfl
        have y1 : ∀ u, (f u).cell? ⟨gb, 1, none⟩ = some (.int .u8 (i.a : Int)) := fun u => cell_row (j := 1) (kept I4.out (hU1 u)) rfl
        have y2 : ∀ u, (f u).cell? ⟨gb, 2, none⟩ = some (.int .u16 (i.b : Int)) := fun u => cell_row (j := 2) (kept I4.out (hU1 u)) rfl
        have y3 : ∀ u, (f u).cell? ⟨gb, 3, none⟩ = some (.int .u32 (i.c : Int)) := fun u => cell_row (j := 3) (kept I4.out (hU1 u)) rfl
        have HU1 := Lib.hid hU1; have HU2 := Lib.hid hU2
        clear hU1 hU2
        have hfm : (Tryd.prog).follows .mixedOrders = true := by kernel_rfl
        obtain ⟨m, hd1⟩ : ∃ m : Nat, 1 ≤ m := ⟨1, Nat.le_refl _⟩
        have HR0 : Hid (∀ u, CallsIn Fence.wide (m - 1) Tryd.prog 12 #[.agg #[.int .u8 (i.op : Int), .int .u8 (i.a : Int), .int .u16 (i.b : Int), .int .u32 (i.c : Int)]] (f u) fun e w' => e = .returned (.bool i.may) ∧ ∃ u', w' = f u') := fun u =>
          (callsIn_wide.2 (show Calls Tryd.prog 12 #[.agg #[.int .u8 (i.op : Int), .int .u8 (i.a : Int), .int .u16 (i.b : Int), .int .u32 (i.c : Int)]] (f u) _ from may_any i (f u) HOI.out)).mono (fun e w' ⟨he, hb⟩ => ⟨he, HU2.out w' ((HU1.out u).trans (hb.mono (HU1.out u).size))⟩)
        have hf0 : Fence.wide.fn 12 := trivial
        have HR1 : Hid (∀ u, CallsIn Fence.wide (m - 1) Tryd.prog 14 #[.agg #[.int .u8 (i.op : Int), .int .u8 (i.a : Int), .int .u16 (i.b : Int), .int .u32 (i.c : Int)]] (f u) fun e w' => e = .returned (.bool i.may) ∧ ∃ u', w' = f u') := fun u =>
          (callsIn_wide.2 (show Calls Tryd.prog 14 #[.agg #[.int .u8 (i.op : Int), .int .u8 (i.a : Int), .int .u16 (i.b : Int), .int .u32 (i.c : Int)]] (f u) _ from rmay_any i (f u) HOI.out)).mono (fun e w' ⟨he, hb⟩ => ⟨he, HU2.out w' ((HU1.out u).trans (hb.mono (HU1.out u).size))⟩)
        have hf1 : Fence.wide.fn 14 := trivial
        have HR2 : Hid (∀ u, CallsIn Fence.wide (m - 1) Tryd.prog 15 #[.agg #[.int .u8 (i.op : Int), .int .u8 (i.a : Int), .int .u16 (i.b : Int), .int .u32 (i.c : Int)]] (f u) fun e w' => e = .returned (.string i.text) ∧ ∃ u', w' = f u') := fun u =>
          (callsIn_wide.2 (show Calls Tryd.prog 15 #[.agg #[.int .u8 (i.op : Int), .int .u8 (i.a : Int), .int .u16 (i.b : Int), .int .u32 (i.c : Int)]] (f u) _ from text_tab i (f u) HOI.out (T4.out.below (HU1.out u)))).mono (fun e w' ⟨he, hb⟩ => ⟨he, HU2.out w' ((HU1.out u).trans (hb.mono (HU1.out u).size))⟩)
        have hf2 : Fence.wide.fn 15 := trivial
        have HR3 : Hid (∀ u, CallsIn Fence.wide (m - 1) Tryd.prog 16 #[.agg #[.int .u8 (i.op : Int), .int .u8 (i.a : Int), .int .u16 (i.b : Int), .int .u32 (i.c : Int)]] (f u) fun e w' => e = .returned (.string i.text) ∧ ∃ u', w' = f u') := fun u =>
          (callsIn_wide.2 (show Calls Tryd.prog 16 #[.agg #[.int .u8 (i.op : Int), .int .u8 (i.a : Int), .int .u16 (i.b : Int), .int .u32 (i.c : Int)]] (f u) _ from rtext_any i (f u) HOI.out)).mono (fun e w' ⟨he, hb⟩ => ⟨he, HU2.out w' ((HU1.out u).trans (hb.mono (HU1.out u).size))⟩)
        have hf3 : Fence.wide.fn 16 := trivial
        have HR4 : Hid (∀ u, CallsIn Fence.wide (m - 1) Tryd.prog 17 #[.int .u8 (i.op : Int)] (f u) fun e w' => e = .returned (.int .i64 (((rowAt i.op).takes : Nat) : Int)) ∧ ∃ u', w' = f u') := fun u =>
          (callsIn_wide.2 (show Calls Tryd.prog 17 #[.int .u8 (i.op : Int)] (f u) _ from takes_any i.op HOI.out.op (f u))).mono (fun e w' ⟨he, hb⟩ => ⟨he, HU2.out w' ((HU1.out u).trans (hb.mono (HU1.out u).size))⟩)
        have hf4 : Fence.wide.fn 17 := trivial
        have HR5 : Hid (∀ u, CallsIn Fence.wide (m - 1) Tryd.prog 18 #[.int .u8 (i.op : Int)] (f u) fun e w' => e = .returned (.int .i64 (((rowAt i.op).takes : Nat) : Int)) ∧ ∃ u', w' = f u') := fun u =>
          (callsIn_wide.2 (show Calls Tryd.prog 18 #[.int .u8 (i.op : Int)] (f u) _ from rtakes_any i.op HOI.out.op (f u))).mono (fun e w' ⟨he, hb⟩ => ⟨he, HU2.out w' ((HU1.out u).trans (hb.mono (HU1.out u).size))⟩)
        have hf5 : Fence.wide.fn 18 := trivial
        have HR6 : Hid (∀ u, CallsIn Fence.wide (m - 1) Tryd.prog 19 #[.int .u8 (i.op : Int)] (f u) fun e w' => e = .returned (.int .i64 (((rowAt i.op).gives : Nat) : Int)) ∧ ∃ u', w' = f u') := fun u =>
          (callsIn_wide.2 (show Calls Tryd.prog 19 #[.int .u8 (i.op : Int)] (f u) _ from gives_any i.op HOI.out.op (f u))).mono (fun e w' ⟨he, hb⟩ => ⟨he, HU2.out w' ((HU1.out u).trans (hb.mono (HU1.out u).size))⟩)
        have hf6 : Fence.wide.fn 19 := trivial
        have HR7 : Hid (∀ u, CallsIn Fence.wide (m - 1) Tryd.prog 20 #[.int .u8 (i.op : Int)] (f u) fun e w' => e = .returned (.int .i64 (((rowAt i.op).gives : Nat) : Int)) ∧ ∃ u', w' = f u') := fun u =>
          (callsIn_wide.2 (show Calls Tryd.prog 20 #[.int .u8 (i.op : Int)] (f u) _ from rgives_any i.op HOI.out.op (f u))).mono (fun e w' ⟨he, hb⟩ => ⟨he, HU2.out w' ((HU1.out u).trans (hb.mono (HU1.out u).size))⟩)
        have hf7 : Fence.wide.fn 20 := trivial
        have HR8 : Hid (∀ u, CallsIn Fence.wide (m - 1) Tryd.prog 21 #[.int .u8 (i.op : Int)] (f u) fun e w' => e = .returned (.bool true) ∧ ∃ u', w' = f u') := fun u =>
          (callsIn_wide.2 (jumps_any i.op (f u))).mono (fun e w' ⟨he, hb⟩ => ⟨by rw [he, HJV.out], u, hb⟩)
        have hf8 : Fence.wide.fn 21 := trivial
        generalize i.may = mb at *
        generalize i.text = si at *
        generalize (rowAt i.op).takes = tk at *
        generalize (rowAt i.op).gives = gv at *
        refine (wpIn_wide (n := m)).1 ?_
        refine wpIn_region_cls f (by kernel_rfl) hfm (by kernel_rfl) (HU2.out _ ⟨rfl, rfl, rfl, Nat.le_refl _, fun _ _ => rfl⟩) ?_
        repeat (gi_big_quiet_step (first | (gi_at_call 12; exact HR0.out _) | (gi_at_call 14; exact HR1.out _) | (gi_at_call 15; exact HR2.out _) | (gi_at_call 16; exact HR3.out _) | (gi_at_call 17; exact HR4.out _) | (gi_at_call 18; exact HR5.out _) | (gi_at_call 19; exact HR6.out _) | (gi_at_call 20; exact HR7.out _) | (gi_at_call 21; exact HR8.out _)))
        refine wpQuietIn_nil ?_
        rintro w5 ⟨u, rfl⟩
        have B5 : Hid (Below gb w (f u)) := B4.out.trans ((HU1.out u).mono (Nat.le_of_lt (heap_lt I4.out)))
        generalize f u = w5 at *
        clear HR0 hf0 HR1 hf1 HR2 hf2 HR3 hf3 HR4 hf4 HR5 hf5 HR6 hf6 HR7 hf7 HR8 hf8 HU1 HU2 y0 y1 y2 y3
        go_wp2_with fail
        go_ret
        exact ⟨by first | rfl | simp, by first | exact B5.out | (rw [hgb]; exact B5.out)⟩
      · have q19 : ((i.op : Int) == 19) = false := by simp; omega
        have HJV : Hid (jumpB i.op = ((i.op : Int) == 20)) := by show _ = _; unfold jumpB; rw [beq_eq_false_iff_ne.2 h19, Bool.false_or]; exact Bool.eq_iff_iff.2 (by simp; omega)
        clear h19
        go_upto_region 11 with fail
        generalize hq20 : ((i.op : Int) == 20) = b20 at *
        obtain ⟨U, f, hUn, hU1, hU2⟩ := class_of (fun V => Below w4.heap.size w4 V) (W := w4.drew) ⟨rfl, rfl, rfl, Nat.le_refl _, fun _ _ => rfl⟩
        have y0 : ∀ u, (f u).cell? ⟨gb, 0, none⟩ = some (.int .u8 (i.op : Int)) := fun u => cell_row (j := 0) (kept I4.out (hU1 u)) rfl
        have y1 : ∀ u, (f u).cell? ⟨gb, 1, none⟩ = some (.int .u8 (i.a : Int)) := fun u => cell_row (j := 1) (kept I4.out (hU1 u)) rfl
        have y2 : ∀ u, (f u).cell? ⟨gb, 2, none⟩ = some (.int .u16 (i.b : Int)) := fun u => cell_row (j := 2) (kept I4.out (hU1 u)) rfl
        have y3 : ∀ u, (f u).cell? ⟨gb, 3, none⟩ = some (.int .u32 (i.c : Int)) := fun u => cell_row (j := 3) (kept I4.out (hU1 u)) rfl
        have HU1 := Lib.hid hU1; have HU2 := Lib.hid hU2
        clear hU1 hU2
        have hfm : (Tryd.prog).follows .mixedOrders = true := by kernel_rfl
        obtain ⟨m, hd1⟩ : ∃ m : Nat, 1 ≤ m := ⟨1, Nat.le_refl _⟩
        have HR0 : Hid (∀ u, CallsIn Fence.wide (m - 1) Tryd.prog 12 #[.agg #[.int .u8 (i.op : Int), .int .u8 (i.a : Int), .int .u16 (i.b : Int), .int .u32 (i.c : Int)]] (f u) fun e w' => e = .returned (.bool i.may) ∧ ∃ u', w' = f u') := fun u =>
          (callsIn_wide.2 (show Calls Tryd.prog 12 #[.agg #[.int .u8 (i.op : Int), .int .u8 (i.a : Int), .int .u16 (i.b : Int), .int .u32 (i.c : Int)]] (f u) _ from may_any i (f u) HOI.out)).mono (fun e w' ⟨he, hb⟩ => ⟨he, HU2.out w' ((HU1.out u).trans (hb.mono (HU1.out u).size))⟩)
        have hf0 : Fence.wide.fn 12 := trivial
        have HR1 : Hid (∀ u, CallsIn Fence.wide (m - 1) Tryd.prog 14 #[.agg #[.int .u8 (i.op : Int), .int .u8 (i.a : Int), .int .u16 (i.b : Int), .int .u32 (i.c : Int)]] (f u) fun e w' => e = .returned (.bool i.may) ∧ ∃ u', w' = f u') := fun u =>
          (callsIn_wide.2 (show Calls Tryd.prog 14 #[.agg #[.int .u8 (i.op : Int), .int .u8 (i.a : Int), .int .u16 (i.b : Int), .int .u32 (i.c : Int)]] (f u) _ from rmay_any i (f u) HOI.out)).mono (fun e w' ⟨he, hb⟩ => ⟨he, HU2.out w' ((HU1.out u).trans (hb.mono (HU1.out u).size))⟩)
        have hf1 : Fence.wide.fn 14 := trivial
        have HR2 : Hid (∀ u, CallsIn Fence.wide (m - 1) Tryd.prog 15 #[.agg #[.int .u8 (i.op : Int), .int .u8 (i.a : Int), .int .u16 (i.b : Int), .int .u32 (i.c : Int)]] (f u) fun e w' => e = .returned (.string i.text) ∧ ∃ u', w' = f u') := fun u =>
          (callsIn_wide.2 (show Calls Tryd.prog 15 #[.agg #[.int .u8 (i.op : Int), .int .u8 (i.a : Int), .int .u16 (i.b : Int), .int .u32 (i.c : Int)]] (f u) _ from text_tab i (f u) HOI.out (T4.out.below (HU1.out u)))).mono (fun e w' ⟨he, hb⟩ => ⟨he, HU2.out w' ((HU1.out u).trans (hb.mono (HU1.out u).size))⟩)
        have hf2 : Fence.wide.fn 15 := trivial
        have HR3 : Hid (∀ u, CallsIn Fence.wide (m - 1) Tryd.prog 16 #[.agg #[.int .u8 (i.op : Int), .int .u8 (i.a : Int), .int .u16 (i.b : Int), .int .u32 (i.c : Int)]] (f u) fun e w' => e = .returned (.string i.text) ∧ ∃ u', w' = f u') := fun u =>
          (callsIn_wide.2 (show Calls Tryd.prog 16 #[.agg #[.int .u8 (i.op : Int), .int .u8 (i.a : Int), .int .u16 (i.b : Int), .int .u32 (i.c : Int)]] (f u) _ from rtext_any i (f u) HOI.out)).mono (fun e w' ⟨he, hb⟩ => ⟨he, HU2.out w' ((HU1.out u).trans (hb.mono (HU1.out u).size))⟩)
        have hf3 : Fence.wide.fn 16 := trivial
        have HR4 : Hid (∀ u, CallsIn Fence.wide (m - 1) Tryd.prog 17 #[.int .u8 (i.op : Int)] (f u) fun e w' => e = .returned (.int .i64 (((rowAt i.op).takes : Nat) : Int)) ∧ ∃ u', w' = f u') := fun u =>
          (callsIn_wide.2 (show Calls Tryd.prog 17 #[.int .u8 (i.op : Int)] (f u) _ from takes_any i.op HOI.out.op (f u))).mono (fun e w' ⟨he, hb⟩ => ⟨he, HU2.out w' ((HU1.out u).trans (hb.mono (HU1.out u).size))⟩)
        have hf4 : Fence.wide.fn 17 := trivial
        have HR5 : Hid (∀ u, CallsIn Fence.wide (m - 1) Tryd.prog 18 #[.int .u8 (i.op : Int)] (f u) fun e w' => e = .returned (.int .i64 (((rowAt i.op).takes : Nat) : Int)) ∧ ∃ u', w' = f u') := fun u =>
          (callsIn_wide.2 (show Calls Tryd.prog 18 #[.int .u8 (i.op : Int)] (f u) _ from rtakes_any i.op HOI.out.op (f u))).mono (fun e w' ⟨he, hb⟩ => ⟨he, HU2.out w' ((HU1.out u).trans (hb.mono (HU1.out u).size))⟩)
        have hf5 : Fence.wide.fn 18 := trivial
        have HR6 : Hid (∀ u, CallsIn Fence.wide (m - 1) Tryd.prog 19 #[.int .u8 (i.op : Int)] (f u) fun e w' => e = .returned (.int .i64 (((rowAt i.op).gives : Nat) : Int)) ∧ ∃ u', w' = f u') := fun u =>
          (callsIn_wide.2 (show Calls Tryd.prog 19 #[.int .u8 (i.op : Int)] (f u) _ from gives_any i.op HOI.out.op (f u))).mono (fun e w' ⟨he, hb⟩ => ⟨he, HU2.out w' ((HU1.out u).trans (hb.mono (HU1.out u).size))⟩)
        have hf6 : Fence.wide.fn 19 := trivial
        have HR7 : Hid (∀ u, CallsIn Fence.wide (m - 1) Tryd.prog 20 #[.int .u8 (i.op : Int)] (f u) fun e w' => e = .returned (.int .i64 (((rowAt i.op).gives : Nat) : Int)) ∧ ∃ u', w' = f u') := fun u =>
          (callsIn_wide.2 (show Calls Tryd.prog 20 #[.int .u8 (i.op : Int)] (f u) _ from rgives_any i.op HOI.out.op (f u))).mono (fun e w' ⟨he, hb⟩ => ⟨he, HU2.out w' ((HU1.out u).trans (hb.mono (HU1.out u).size))⟩)
        have hf7 : Fence.wide.fn 20 := trivial
        have HR8 : Hid (∀ u, CallsIn Fence.wide (m - 1) Tryd.prog 21 #[.int .u8 (i.op : Int)] (f u) fun e w' => e = .returned (.bool b20) ∧ ∃ u', w' = f u') := fun u =>
          (callsIn_wide.2 (jumps_any i.op (f u))).mono (fun e w' ⟨he, hb⟩ => ⟨by rw [he, HJV.out], u, hb⟩)
        have hf8 : Fence.wide.fn 21 := trivial
        generalize i.may = mb at *
        generalize i.text = si at *
        generalize (rowAt i.op).takes = tk at *
        generalize (rowAt i.op).gives = gv at *
        refine (wpIn_wide (n := m)).1 ?_
        refine wpIn_region_cls f (by kernel_rfl) hfm (by kernel_rfl) (HU2.out _ ⟨rfl, rfl, rfl, Nat.le_refl _, fun _ _ => rfl⟩) ?_
        repeat (gi_big_quiet_step (first | (gi_at_call 12; exact HR0.out _) | (gi_at_call 14; exact HR1.out _) | (gi_at_call 15; exact HR2.out _) | (gi_at_call 16; exact HR3.out _) | (gi_at_call 17; exact HR4.out _) | (gi_at_call 18; exact HR5.out _) | (gi_at_call 19; exact HR6.out _) | (gi_at_call 20; exact HR7.out _) | (gi_at_call 21; exact HR8.out _)))
        refine wpQuietIn_nil ?_
        rintro w5 ⟨u, rfl⟩
        have B5 : Hid (Below gb w (f u)) := B4.out.trans ((HU1.out u).mono (Nat.le_of_lt (heap_lt I4.out)))
        generalize f u = w5 at *
        clear HR0 hf0 HR1 hf1 HR2 hf2 HR3 hf3 HR4 hf4 HR5 hf5 HR6 hf6 HR7 hf7 HR8 hf8 HU1 HU2 y0 y1 y2 y3
        go_wp2_with fail
        go_ret
        exact ⟨by first | rfl | simp, by first | exact B5.out | (rw [hgb]; exact B5.out)⟩
end Go.Proofs.YtobagnabkphegaaDoor
