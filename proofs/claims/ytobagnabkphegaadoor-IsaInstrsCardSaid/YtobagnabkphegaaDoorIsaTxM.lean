/- The walk of IsaTexts. -/
import Derived.Test.YtobagnabkphegaaDoorIsaTx
import Derived.Test.YtobagnabkphegaaDoorIsaBackM
namespace Go.Proofs.YtobagnabkphegaaDoor
open Go.RowKit
set_option linter.unusedVariables false
set_option linter.unusedSimpArgs false
set_option maxHeartbeats 4000000 in
set_option maxRecDepth 100000 in
theorem texts_any (i j : Ins) (w : World) (hi : i.ok) (hj : j.ok) (ht : TabW w) :
    Calls Tryd.prog 7 #[i.val, j.val] w fun e w' => e = .returned (.bool true) ∧ Below w.heap.size w w' := by
  have HOI := Lib.hid hi; have HOJ := Lib.hid hj
  have hi' := hi
  obtain ⟨wa, hwa⟩ : ∃ x, x = (w.alloc (.cells (insA i) 27)).alloc (.cells (insA j) 27) := ⟨_, rfl⟩
  have I0 : Hid (wa.heap[w.heap.size]? = some (.cells (insA i) 27 (0, 0))) := by rw [hwa]; exact kept (heap_alloc_new _ _) (alloc_below _ _)
  have J0 : Hid (wa.heap[(w.alloc (.cells (insA i) 27)).heap.size]? = some (.cells (insA j) 27 (0, 0))) := by rw [hwa]; exact heap_alloc_new _ _
  have BA : Hid (Below w.heap.size w wa) := by rw [hwa]; exact ((alloc_below _ _).alloc (alloc_below w (.cells (insA i) 27)).size _)
  have TA : Hid (TabW wa) := ht.below BA.out
  rw [show (w.alloc (.cells (insA i) 27)).heap.size = w.heap.size + 1 from Array.size_push _] at J0
  have HWA : Hid (wa = (w.alloc (.cells #[.int .u8 (i.op : Int), .int .u8 (i.a : Int), .int .u16 (i.b : Int), .int .u32 (i.c : Int)] 27)).alloc (.cells #[.int .u8 (j.op : Int), .int .u8 (j.a : Int), .int .u16 (j.b : Int), .int .u32 (j.c : Int)] 27)) := hwa
  unfold insA at I0 J0
  unfold Ins.val
  clear hi hj ht hwa
  cases hmi : i.may
  case false =>
    have HE := Lib.hid (text_no hmi)
    have hee := empty_eq
    cases hmj : j.may
    all_goals
      have HMI := Lib.hid hmi; have HMJ := Lib.hid hmj
      clear hmi hmj
      go_enter Tryd.func7, Tryd.ntmps7
      go_upto_region 1 with fail
      rw [← HWA.out]
      go_wp2_with fail
      refine (known_any wa).mono ?_
      rintro e w1 ⟨rfl, hb⟩
      have I1 := Lib.hid (kept I0.out hb)
      have J1 := Lib.hid (kept J0.out hb)
      have B1 : Hid (Below w.heap.size w w1) := BA.out.trans (hb.mono (Nat.le_of_lt (heap_lt I0.out)))
      have T1 : Hid (TabW w1) := TA.out.below hb
      clear hb I0 J0 BA TA HWA
      have z0 := cell_row (j := 0) I1.out rfl
      have z1 := cell_row (j := 1) I1.out rfl
      have z2 := cell_row (j := 2) I1.out rfl
      have z3 := cell_row (j := 3) I1.out rfl
      have z4 := heap_lt I1.out
      go_wp2_with fail
      refine (show Calls Tryd.prog 12 #[.agg #[.int .u8 (i.op : Int), .int .u8 (i.a : Int), .int .u16 (i.b : Int), .int .u32 (i.c : Int)]] w1 _ from may_any i w1 HOI.out).mono ?_
      rintro e w2 ⟨rfl, hb⟩
      rw [HMI.out]
      have I2 := Lib.hid (kept I1.out hb)
      have J2 := Lib.hid (kept J1.out hb)
      have B2 : Hid (Below w.heap.size w w2) := B1.out.trans (hb.mono (Nat.le_of_lt (heap_lt I1.out)))
      have T2 : Hid (TabW w2) := T1.out.below hb
      clear hb I1 J1 B1 T1 z0 z1 z2 z3 z4
      have z0 := cell_row (j := 0) I2.out rfl
      have z1 := cell_row (j := 1) I2.out rfl
      have z2 := cell_row (j := 2) I2.out rfl
      have z3 := cell_row (j := 3) I2.out rfl
      have z4 := heap_lt I2.out
      go_wp2_with fail
      refine (show Calls Tryd.prog 12 #[.agg #[.int .u8 (i.op : Int), .int .u8 (i.a : Int), .int .u16 (i.b : Int), .int .u32 (i.c : Int)]] w2 _ from may_any i w2 HOI.out).mono ?_
      rintro e w3 ⟨rfl, hb⟩
      rw [HMI.out]
      have I3 := Lib.hid (kept I2.out hb)
      have J3 := Lib.hid (kept J2.out hb)
      have B3 : Hid (Below w.heap.size w w3) := B2.out.trans (hb.mono (Nat.le_of_lt (heap_lt I2.out)))
      have T3 : Hid (TabW w3) := T2.out.below hb
      clear hb I2 J2 B2 T2 z0 z1 z2 z3 z4
      have z0 := cell_row (j := 0) I3.out rfl
      have z1 := cell_row (j := 1) I3.out rfl
      have z2 := cell_row (j := 2) I3.out rfl
      have z3 := cell_row (j := 3) I3.out rfl
      have z4 := heap_lt I3.out
      go_wp2_with fail
      refine (show Calls Tryd.prog 15 #[.agg #[.int .u8 (i.op : Int), .int .u8 (i.a : Int), .int .u16 (i.b : Int), .int .u32 (i.c : Int)]] w3 _ from text_tab i w3 HOI.out T3.out).mono ?_
      rintro e w4 ⟨rfl, hb⟩
      have I4 := Lib.hid (kept I3.out hb)
      have J4 := Lib.hid (kept J3.out hb)
      have B4 : Hid (Below w.heap.size w w4) := B3.out.trans (hb.mono (Nat.le_of_lt (heap_lt I3.out)))
      have T4 : Hid (TabW w4) := T3.out.below hb
      clear hb I3 J3 B3 T3 z0 z1 z2 z3 z4
      rw [HE.out]
      go_wp2_with fail
      go_ret
      exact ⟨rfl, B4.out⟩
  case true =>
    cases hmj : j.may
    case false =>
      have HMI := Lib.hid hmi; have HMJ := Lib.hid hmj
      clear hmi hmj
      go_enter Tryd.func7, Tryd.ntmps7
      go_upto_region 1 with fail
      rw [← HWA.out]
      go_wp2_with fail
      refine (known_any wa).mono ?_
      rintro e w1 ⟨rfl, hb⟩
      have I1 := Lib.hid (kept I0.out hb)
      have J1 := Lib.hid (kept J0.out hb)
      have B1 : Hid (Below w.heap.size w w1) := BA.out.trans (hb.mono (Nat.le_of_lt (heap_lt I0.out)))
      have T1 : Hid (TabW w1) := TA.out.below hb
      clear hb I0 J0 BA TA HWA
      have z0 := cell_row (j := 0) I1.out rfl
      have z1 := cell_row (j := 1) I1.out rfl
      have z2 := cell_row (j := 2) I1.out rfl
      have z3 := cell_row (j := 3) I1.out rfl
      have z4 := heap_lt I1.out
      go_wp2_with fail
      refine (show Calls Tryd.prog 12 #[.agg #[.int .u8 (i.op : Int), .int .u8 (i.a : Int), .int .u16 (i.b : Int), .int .u32 (i.c : Int)]] w1 _ from may_any i w1 HOI.out).mono ?_
      rintro e w2 ⟨rfl, hb⟩
      rw [HMI.out]
      have I2 := Lib.hid (kept I1.out hb)
      have J2 := Lib.hid (kept J1.out hb)
      have B2 : Hid (Below w.heap.size w w2) := B1.out.trans (hb.mono (Nat.le_of_lt (heap_lt I1.out)))
      have T2 : Hid (TabW w2) := T1.out.below hb
      clear hb I1 J1 B1 T1 z0 z1 z2 z3 z4
      have z0 := cell_row (j := 0) J2.out rfl
      have z1 := cell_row (j := 1) J2.out rfl
      have z2 := cell_row (j := 2) J2.out rfl
      have z3 := cell_row (j := 3) J2.out rfl
      have z4 := heap_lt J2.out
      go_wp2_with fail
      refine (show Calls Tryd.prog 12 #[.agg #[.int .u8 (j.op : Int), .int .u8 (j.a : Int), .int .u16 (j.b : Int), .int .u32 (j.c : Int)]] w2 _ from may_any j w2 HOJ.out).mono ?_
      rintro e w3 ⟨rfl, hb⟩
      rw [HMJ.out]
      have I3 := Lib.hid (kept I2.out hb)
      have J3 := Lib.hid (kept J2.out hb)
      have B3 : Hid (Below w.heap.size w w3) := B2.out.trans (hb.mono (Nat.le_of_lt (heap_lt I2.out)))
      have T3 : Hid (TabW w3) := T2.out.below hb
      clear hb I2 J2 B2 T2 z0 z1 z2 z3 z4
      have z0 := cell_row (j := 0) I3.out rfl
      have z1 := cell_row (j := 1) I3.out rfl
      have z2 := cell_row (j := 2) I3.out rfl
      have z3 := cell_row (j := 3) I3.out rfl
      have z4 := heap_lt I3.out
      go_wp2_with fail
      refine (show Calls Tryd.prog 12 #[.agg #[.int .u8 (i.op : Int), .int .u8 (i.a : Int), .int .u16 (i.b : Int), .int .u32 (i.c : Int)]] w3 _ from may_any i w3 HOI.out).mono ?_
      rintro e w4 ⟨rfl, hb⟩
      rw [HMI.out]
      have I4 := Lib.hid (kept I3.out hb)
      have J4 := Lib.hid (kept J3.out hb)
      have B4 : Hid (Below w.heap.size w w4) := B3.out.trans (hb.mono (Nat.le_of_lt (heap_lt I3.out)))
      have T4 : Hid (TabW w4) := T3.out.below hb
      clear hb I3 J3 B3 T3 z0 z1 z2 z3 z4
      go_wp2_with fail
      go_ret
      exact ⟨rfl, B4.out⟩
    case true =>
      have HEQ := Lib.hid (text_eq hmi hmj)
      have HNM := Lib.hid (may_row hmi)
      have HLE := Lib.hid (name_le hmi)
      have HSZ := Lib.hid (text_size i hi')
      have HBY := Lib.hid (fun k (hk : k < (rowAt i.op).name.length) => byteN_let hmi hk)
      have HEN := Lib.hid (fun hk => byteN_end hmi hk)
      have HOP := Lib.hid (opOf_name HNM.out.2.1 HNM.out.1 _ (cut_name hmi))
      have HMI := Lib.hid hmi; have HMJ := Lib.hid hmj
      clear hmi hmj
      go_enter Tryd.func7, Tryd.ntmps7
      go_upto_region 1 with fail
      rw [← HWA.out]
      go_wp2_with fail
      refine (known_any wa).mono ?_
      rintro e w1 ⟨rfl, hb⟩
      have I1 := Lib.hid (kept I0.out hb)
      have J1 := Lib.hid (kept J0.out hb)
      have B1 : Hid (Below w.heap.size w w1) := BA.out.trans (hb.mono (Nat.le_of_lt (heap_lt I0.out)))
      have T1 : Hid (TabW w1) := TA.out.below hb
      clear hb I0 J0 BA TA HWA
      have z0 := cell_row (j := 0) I1.out rfl
      have z1 := cell_row (j := 1) I1.out rfl
      have z2 := cell_row (j := 2) I1.out rfl
      have z3 := cell_row (j := 3) I1.out rfl
      have z4 := heap_lt I1.out
      go_wp2_with fail
      refine (show Calls Tryd.prog 12 #[.agg #[.int .u8 (i.op : Int), .int .u8 (i.a : Int), .int .u16 (i.b : Int), .int .u32 (i.c : Int)]] w1 _ from may_any i w1 HOI.out).mono ?_
      rintro e w2 ⟨rfl, hb⟩
      rw [HMI.out]
      have I2 := Lib.hid (kept I1.out hb)
      have J2 := Lib.hid (kept J1.out hb)
      have B2 : Hid (Below w.heap.size w w2) := B1.out.trans (hb.mono (Nat.le_of_lt (heap_lt I1.out)))
      have T2 : Hid (TabW w2) := T1.out.below hb
      clear hb I1 J1 B1 T1 z0 z1 z2 z3 z4
      have z0 := cell_row (j := 0) J2.out rfl
      have z1 := cell_row (j := 1) J2.out rfl
      have z2 := cell_row (j := 2) J2.out rfl
      have z3 := cell_row (j := 3) J2.out rfl
      have z4 := heap_lt J2.out
      go_wp2_with fail
      refine (show Calls Tryd.prog 12 #[.agg #[.int .u8 (j.op : Int), .int .u8 (j.a : Int), .int .u16 (j.b : Int), .int .u32 (j.c : Int)]] w2 _ from may_any j w2 HOJ.out).mono ?_
      rintro e w3 ⟨rfl, hb⟩
      rw [HMJ.out]
      have I3 := Lib.hid (kept I2.out hb)
      have J3 := Lib.hid (kept J2.out hb)
      have B3 : Hid (Below w.heap.size w w3) := B2.out.trans (hb.mono (Nat.le_of_lt (heap_lt I2.out)))
      have T3 : Hid (TabW w3) := T2.out.below hb
      clear hb I2 J2 B2 T2 z0 z1 z2 z3 z4
      have z0 := cell_row (j := 0) I3.out rfl
      have z1 := cell_row (j := 1) I3.out rfl
      have z2 := cell_row (j := 2) I3.out rfl
      have z3 := cell_row (j := 3) I3.out rfl
      have z4 := heap_lt I3.out
      go_wp2_with fail
      refine (show Calls Tryd.prog 15 #[.agg #[.int .u8 (i.op : Int), .int .u8 (i.a : Int), .int .u16 (i.b : Int), .int .u32 (i.c : Int)]] w3 _ from text_tab i w3 HOI.out T3.out).mono ?_
      rintro e w4 ⟨rfl, hb⟩
      have I4 := Lib.hid (kept I3.out hb)
      have J4 := Lib.hid (kept J3.out hb)
      have B4 : Hid (Below w.heap.size w w4) := B3.out.trans (hb.mono (Nat.le_of_lt (heap_lt I3.out)))
      have T4 : Hid (TabW w4) := T3.out.below hb
      clear hb I3 J3 B3 T3 z0 z1 z2 z3 z4
      have HCU := Lib.hid (fun W => cut_run i.text (rowAt i.op).name.length HLE.out 9 Tryd.underlying9 W)
      generalize cutS i.text (rowAt i.op).name.length = nmS at *
      generalize (rowAt i.op).name.length = P at *
      generalize i.text = si at *
      clear HNM HMI HMJ
      go_wp2_with fail
      go_loop [6] (fun x => ∃ k : Nat, k ≤ P ∧ x = .int .i64 (k : Int)) (fun x => 64 - (intOf x).toNat)
      case atStart => exact ⟨0, by omega, rfl⟩
      case round =>
        obtain ⟨k, hk, rfl⟩ := hrel
        have hle := HLE.out
        have hsz := HSZ.out
        rcases Nat.lt_or_ge k P with hlt | hge
        · have hix := fun W => index_str si k (by omega) 9 Tryd.underlying9 W
          have hby := HBY.out k hlt
          have hks : k < si.size := hby.2.2
          have tt2 : 97 ≤ byteN si k := hby.1
          have tt3 : byteN si k ≤ 122 := hby.2.1
          generalize byteN si k = bk at *
          clear hby hle
          go_wp2_with fail
          go_round
          case rel => exact ⟨k + 1, by omega, by go_num⟩
          case measure => simp [intOf]; omega
        · obtain rfl : k = P := by omega
          clear hk hge
          rcases Nat.lt_or_ge k si.size with hlt | hge
          · have hix := fun W => index_str si k hlt 9 Tryd.underlying9 W
            have hby := HEN.out hlt
            have tt2 : ¬ 97 ≤ byteN si k := by omega
            generalize byteN si k = bk at *
            clear hby hle
            go_upto_region 9 with fail
            clear hsz
            generalize hgb : w.heap.size = gb at *
            have HSS : Hid (∀ V, Below w4.heap.size w4 V → ((V.cell? ⟨gb, 0, none⟩ = some (.int .u8 (i.op : Int)) ∧ V.cell? ⟨gb, 1, none⟩ = some (.int .u8 (i.a : Int)) ∧ V.cell? ⟨gb, 2, none⟩ = some (.int .u16 (i.b : Int)) ∧ V.cell? ⟨gb, 3, none⟩ = some (.int .u32 (i.c : Int))) ∧ (V.cell? ⟨gb + 1, 0, none⟩ = some (.int .u8 (j.op : Int)) ∧ V.cell? ⟨gb + 1, 1, none⟩ = some (.int .u8 (j.a : Int)) ∧ V.cell? ⟨gb + 1, 2, none⟩ = some (.int .u16 (j.b : Int)) ∧ V.cell? ⟨gb + 1, 3, none⟩ = some (.int .u32 (j.c : Int)))) ∧ gb + 1 < V.heap.size) := fun V hV => ⟨⟨⟨cell_row (j := 0) (kept I4.out hV) rfl, cell_row (j := 1) (kept I4.out hV) rfl, cell_row (j := 2) (kept I4.out hV) rfl, cell_row (j := 3) (kept I4.out hV) rfl⟩, cell_row (j := 0) (kept J4.out hV) rfl, cell_row (j := 1) (kept J4.out hV) rfl, cell_row (j := 2) (kept J4.out hV) rfl, cell_row (j := 3) (kept J4.out hV) rfl⟩, heap_lt (kept J4.out hV)⟩
            have HTX : Hid (∀ V, Below w4.heap.size w4 V → Calls Tryd.prog 15 #[.agg #[.int .u8 (j.op : Int), .int .u8 (j.a : Int), .int .u16 (j.b : Int), .int .u32 (j.c : Int)]] V fun e w' => e = .returned (.string j.text) ∧ Below w4.heap.size w4 w') := fun V hV => by
              refine (show Calls Tryd.prog 15 #[.agg #[.int .u8 (j.op : Int), .int .u8 (j.a : Int), .int .u16 (j.b : Int), .int .u32 (j.c : Int)]] V _ from text_tab j V HOJ.out (T4.out.below hV)).mono ?_
              rintro e w' ⟨he, hb⟩
              exact ⟨he, hV.trans (hb.mono hV.size)⟩
            have HOC : Hid (∀ V, Below w4.heap.size w4 V → Calls Tryd.prog 22 #[.string nmS] V fun e w' => e = .returned (.int .u8 (i.op : Int)) ∧ Below w4.heap.size w4 w') := fun V hV => by
              refine (op_any nmS V).mono ?_
              rintro e w' ⟨he, hb⟩
              exact ⟨by rw [he, HOP.out], hV.trans (hb.mono hV.size)⟩
            have HFIN : Hid (∀ V, Below w4.heap.size w4 V → Below gb w V) := fun V hV => B4.out.trans (hV.mono (by have := heap_lt I4.out; omega))
            have heq := fun W => equal_ins i j W
            unfold Ins.val at heq
            have teq := HEQ.out
            have hcu := HCU.out
            have ZB : Hid (Below w4.heap.size w4 w4.drew) := ⟨rfl, rfl, rfl, Nat.le_refl _, fun _ _ => rfl⟩
            have ZK := Lib.hid (HSS.out _ ZB.out)
            generalize hsj : j.text = sj at *
            generalize hbe : i.eq j = be at *
            clear HEQ HCU HOP HOI HOJ I4 J4 T4 B4 HSZ HLE HBY HEN hsj hbe
            go_region_held3 (fun V => ((V.cell? ⟨gb, 0, none⟩ = some (.int .u8 (i.op : Int)) ∧ V.cell? ⟨gb, 1, none⟩ = some (.int .u8 (i.a : Int)) ∧ V.cell? ⟨gb, 2, none⟩ = some (.int .u16 (i.b : Int)) ∧ V.cell? ⟨gb, 3, none⟩ = some (.int .u32 (i.c : Int))) ∧ (V.cell? ⟨gb + 1, 0, none⟩ = some (.int .u8 (j.op : Int)) ∧ V.cell? ⟨gb + 1, 1, none⟩ = some (.int .u8 (j.a : Int)) ∧ V.cell? ⟨gb + 1, 2, none⟩ = some (.int .u16 (j.b : Int)) ∧ V.cell? ⟨gb + 1, 3, none⟩ = some (.int .u32 (j.c : Int)))) ∧ gb + 1 < V.heap.size)
              (first | exact YK.out | exact XK.out | exact ZK.out)
              (first
                | (go_at_call 15; (first | (with_reducible refine (HTX.out _ XB.out).mono ?_) | (with_reducible refine (HTX.out _ ZB.out).mono ?_)); rintro e we ⟨rfl, hbe⟩; have YB := Lib.hid hbe; have YK := Lib.hid (HSS.out _ hbe); clear hbe)
                | (go_at_call 22; (first | (with_reducible refine (HOC.out _ YB.out).mono ?_) | (with_reducible refine (HOC.out _ ZB.out).mono ?_)); rintro e wo ⟨rfl, hbe⟩; have XB := Lib.hid hbe; have XK := Lib.hid (HSS.out _ hbe); clear hbe))
            all_goals (go_wp2_with fail)
            all_goals go_ret
            all_goals exact ⟨by first | rfl | (simp), by first | exact HFIN.out _ YB.out | exact HFIN.out _ XB.out | (rw [hgb]; first | exact HFIN.out _ YB.out | exact HFIN.out _ XB.out)⟩
          · have tt1 : ¬ k < si.size := by omega
            clear hle
            go_upto_region 9 with fail
            clear hsz
            generalize hgb : w.heap.size = gb at *
            have HSS : Hid (∀ V, Below w4.heap.size w4 V → ((V.cell? ⟨gb, 0, none⟩ = some (.int .u8 (i.op : Int)) ∧ V.cell? ⟨gb, 1, none⟩ = some (.int .u8 (i.a : Int)) ∧ V.cell? ⟨gb, 2, none⟩ = some (.int .u16 (i.b : Int)) ∧ V.cell? ⟨gb, 3, none⟩ = some (.int .u32 (i.c : Int))) ∧ (V.cell? ⟨gb + 1, 0, none⟩ = some (.int .u8 (j.op : Int)) ∧ V.cell? ⟨gb + 1, 1, none⟩ = some (.int .u8 (j.a : Int)) ∧ V.cell? ⟨gb + 1, 2, none⟩ = some (.int .u16 (j.b : Int)) ∧ V.cell? ⟨gb + 1, 3, none⟩ = some (.int .u32 (j.c : Int)))) ∧ gb + 1 < V.heap.size) := fun V hV => ⟨⟨⟨cell_row (j := 0) (kept I4.out hV) rfl, cell_row (j := 1) (kept I4.out hV) rfl, cell_row (j := 2) (kept I4.out hV) rfl, cell_row (j := 3) (kept I4.out hV) rfl⟩, cell_row (j := 0) (kept J4.out hV) rfl, cell_row (j := 1) (kept J4.out hV) rfl, cell_row (j := 2) (kept J4.out hV) rfl, cell_row (j := 3) (kept J4.out hV) rfl⟩, heap_lt (kept J4.out hV)⟩
            have HTX : Hid (∀ V, Below w4.heap.size w4 V → Calls Tryd.prog 15 #[.agg #[.int .u8 (j.op : Int), .int .u8 (j.a : Int), .int .u16 (j.b : Int), .int .u32 (j.c : Int)]] V fun e w' => e = .returned (.string j.text) ∧ Below w4.heap.size w4 w') := fun V hV => by
              refine (show Calls Tryd.prog 15 #[.agg #[.int .u8 (j.op : Int), .int .u8 (j.a : Int), .int .u16 (j.b : Int), .int .u32 (j.c : Int)]] V _ from text_tab j V HOJ.out (T4.out.below hV)).mono ?_
              rintro e w' ⟨he, hb⟩
              exact ⟨he, hV.trans (hb.mono hV.size)⟩
            have HOC : Hid (∀ V, Below w4.heap.size w4 V → Calls Tryd.prog 22 #[.string nmS] V fun e w' => e = .returned (.int .u8 (i.op : Int)) ∧ Below w4.heap.size w4 w') := fun V hV => by
              refine (op_any nmS V).mono ?_
              rintro e w' ⟨he, hb⟩
              exact ⟨by rw [he, HOP.out], hV.trans (hb.mono hV.size)⟩
            have HFIN : Hid (∀ V, Below w4.heap.size w4 V → Below gb w V) := fun V hV => B4.out.trans (hV.mono (by have := heap_lt I4.out; omega))
            have heq := fun W => equal_ins i j W
            unfold Ins.val at heq
            have teq := HEQ.out
            have hcu := HCU.out
            have ZB : Hid (Below w4.heap.size w4 w4.drew) := ⟨rfl, rfl, rfl, Nat.le_refl _, fun _ _ => rfl⟩
            have ZK := Lib.hid (HSS.out _ ZB.out)
            generalize hsj : j.text = sj at *
            generalize hbe : i.eq j = be at *
            clear HEQ HCU HOP HOI HOJ I4 J4 T4 B4 HSZ HLE HBY HEN hsj hbe
            go_region_held3 (fun V => ((V.cell? ⟨gb, 0, none⟩ = some (.int .u8 (i.op : Int)) ∧ V.cell? ⟨gb, 1, none⟩ = some (.int .u8 (i.a : Int)) ∧ V.cell? ⟨gb, 2, none⟩ = some (.int .u16 (i.b : Int)) ∧ V.cell? ⟨gb, 3, none⟩ = some (.int .u32 (i.c : Int))) ∧ (V.cell? ⟨gb + 1, 0, none⟩ = some (.int .u8 (j.op : Int)) ∧ V.cell? ⟨gb + 1, 1, none⟩ = some (.int .u8 (j.a : Int)) ∧ V.cell? ⟨gb + 1, 2, none⟩ = some (.int .u16 (j.b : Int)) ∧ V.cell? ⟨gb + 1, 3, none⟩ = some (.int .u32 (j.c : Int)))) ∧ gb + 1 < V.heap.size)
              (first | exact YK.out | exact XK.out | exact ZK.out)
              (first
                | (go_at_call 15; (first | (with_reducible refine (HTX.out _ XB.out).mono ?_) | (with_reducible refine (HTX.out _ ZB.out).mono ?_)); rintro e we ⟨rfl, hbe⟩; have YB := Lib.hid hbe; have YK := Lib.hid (HSS.out _ hbe); clear hbe)
                | (go_at_call 22; (first | (with_reducible refine (HOC.out _ YB.out).mono ?_) | (with_reducible refine (HOC.out _ ZB.out).mono ?_)); rintro e wo ⟨rfl, hbe⟩; have XB := Lib.hid hbe; have XK := Lib.hid (HSS.out _ hbe); clear hbe))
            all_goals (go_wp2_with fail)
            all_goals go_ret
            all_goals exact ⟨by first | rfl | (simp), by first | exact HFIN.out _ YB.out | exact HFIN.out _ XB.out | (rw [hgb]; first | exact HFIN.out _ YB.out | exact HFIN.out _ XB.out)⟩
end Go.Proofs.YtobagnabkphegaaDoor
