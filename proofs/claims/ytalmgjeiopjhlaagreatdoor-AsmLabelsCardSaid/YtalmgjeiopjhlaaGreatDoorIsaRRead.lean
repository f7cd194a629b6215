/- The document's Read. -/
import Derived.Test.YtalmgjeiopjhlaaGreatDoorIsaRMay
import Derived.Deep.RegionHeld3
import Derived.BigQuiet
import Derived.Sort.BigQuietIn
namespace Go.Proofs.YtalmgjeiopjhlaaGreatDoor
open Go.RowKit
set_option linter.unusedVariables false
theorem setCell_cell_other (w : World) (g o b i : Nat) {v : Value} (h : g ≠ b) : (w.setCell ⟨g, o, none⟩ v).cell? ⟨b, i, none⟩ = w.cell? ⟨b, i, none⟩ := by
  have e : (w.setCell ⟨g, o, none⟩ v).heap[b]? = w.heap[b]? := heap_setCell_other _ _ _ _ (fun e => h (Eq.symm e))
  simp only [World.cell?, e]
theorem le2 (X : Nat → Nat) : leN (fun i => X (2 + i)) 0 2 = X 2 + X 3 * 256 := by show 0 + X 2 * 1 + X 3 * 256 = _; omega
theorem le4 (X : Nat → Nat) : leN (fun i => X (4 + i)) 0 4 = X 4 + X 5 * 256 + X 6 * 65536 + X 7 * 16777216 := by show 0 + X 4 * 1 + X 5 * 256 + X 6 * 65536 + X 7 * 16777216 = _; omega
set_option maxHeartbeats 4000000 in
set_option maxRecDepth 100000 in
theorem rread_any (a : Option Addr) (len c : Nat) (X : Nat → Nat) (w : World) (hX : SliceAt w a len (bV X)) (hl : ∀ i, X i < 256) (hm : len ≤ 9223372036854775807) (hcap : len ≤ c) :
    Calls Tryz.prog 45 #[.slice a len c] w (ReadPost len X w) := by
  by_cases h8 : len < 8
  · have HR : Hid (∀ V, Below w.heap.size w V → ReadPost len X w (.returned (.tuple #[noIns.val, .int .i64 40])) V) := fun V hV => ⟨by unfold readI readE; rw [if_pos h8, if_pos h8], hV⟩
    have t1 : decide ((len : Int) < 8) = true := by simp; omega
    clear hX h8
    go_enter Tryz.func45, Tryz.ntmps45
    go_wp2_with fail
    try simp only [Exit.inBlock, Exit.then]
    refine bodyPost_ret (results_cell_tmp rfl _ _ w.heap.size 32 #[.int .u8 0, .int .u8 0, .int .u16 0, .int .u32 0] (0, 0) _ _ rfl rfl (heap_alloc_new _ _) Tryz.underlying32 rfl info27) rfl ?_
    exact HR.out _ (alloc_below _ _)
  · have t1 : decide ((len : Int) < 8) = false := by simp; omega
    obtain ⟨b, off, rfl, hlt, hc⟩ := hX.at (by omega)
    obtain ⟨wa, hwa⟩ : ∃ x, x = w.alloc (.cells #[.int .u8 0, .int .u8 0, .int .u16 0, .int .u32 0] 32) := ⟨_, rfl⟩
    have ba := alloc_below w (.cells #[.int .u8 0, .int .u8 0, .int .u16 0, .int .u32 0] 32)
    rw [← hwa] at ba
    have g0 : wa.heap[w.heap.size]? = some (.cells #[.int .u8 0, .int .u8 0, .int .u16 0, .int .u32 0] 32 (0, 0)) := by rw [hwa]; exact heap_alloc_new _ _
    have hlt2 : b < wa.heap.size := Nat.lt_of_lt_of_le hlt ba.size
    have hc2 : ∀ i, i < len → wa.cell? ⟨b, off + i, none⟩ = some (bV X i) := fun i hi => by rw [ba.cell hlt]; exact hc i hi
    have y0 : wa.cell? ⟨b, off, none⟩ = some (.int .u8 ((X 0 : Nat) : Int)) := hc2 0 (by omega)
    have y1 : wa.cell? ⟨b, off + 1, none⟩ = some (.int .u8 ((X 1 : Nat) : Int)) := hc2 1 (by omega)
    have HY : Hid ((wa.drew.cell? ⟨b, off, none⟩ = some (.int .u8 ((X 0 : Nat) : Int)) ∧ wa.drew.cell? ⟨b, off + 1, none⟩ = some (.int .u8 ((X 1 : Nat) : Int))) ∧ b < wa.drew.heap.size) := ⟨⟨y0, y1⟩, hlt2⟩
    have HY2 : Hid (∀ o : Obj, ((wa.alloc o).drew.cell? ⟨b, off, none⟩ = some (.int .u8 ((X 0 : Nat) : Int)) ∧ (wa.alloc o).drew.cell? ⟨b, off + 1, none⟩ = some (.int .u8 ((X 1 : Nat) : Int))) ∧ b < (wa.alloc o).drew.heap.size) := fun o => by
      have hb2 := (alloc_below wa o).drew
      exact ⟨⟨(hb2.cell hlt2).trans y0, (hb2.cell hlt2).trans y1⟩, Nat.lt_of_lt_of_le hlt2 hb2.size⟩
    have HC2 : Hid (∀ o : Obj, ∀ i, i < len → (wa.alloc o).drew.cell? ⟨b, off + i, none⟩ = some (bV X i)) := fun o i hi => ((alloc_below wa o).drew.cell hlt2).trans (hc2 i hi)
    have HBL := Lib.hid hlt2
    have E2 : Hid (((X 2 : Nat) : Int) + 256 * ((X 3 : Nat) : Int) = ((leN (fun i => X (2 + i)) 0 2 : Nat) : Int)) := by rw [le2]; show _ = _; omega
    have E4 : Hid (((X 4 : Nat) : Int) + 256 * ((X 5 : Nat) : Int) + 65536 * ((X 6 : Nat) : Int) + 16777216 * ((X 7 : Nat) : Int) = ((leN (fun i => X (4 + i)) 0 4 : Nat) : Int)) := by rw [le4]; show _ = _; omega
    have G0 := Lib.hid g0
    have BA := Lib.hid ba
    have HL := Lib.hid hl
    have HOK := Lib.hid (insOf_ok hl)
    have HR : Hid (∀ V, Below w.heap.size w V → ReadPost len X w (.returned (.tuple #[(if (insOf X).may then insOf X else noIns).val, .int .i64 (if (insOf X).may then 0 else 90)])) V) := fun V hV => ⟨by unfold readI readE; rw [if_neg h8, if_neg h8], hV⟩
    have q0 : 0 < len := by omega
    have q1 : (1 : Int) < (len : Int) := by omega
    have q2 : (2 : Int) < (len : Int) := by omega
    have q3 : (3 : Int) < (len : Int) := by omega
    have q4 : (4 : Int) < (len : Int) := by omega
    have q5 : (5 : Int) < (len : Int) := by omega
    have q6 : (6 : Int) < (len : Int) := by omega
    have q7 : (7 : Int) < (len : Int) := by omega
    clear hX hlt hc hc2 hl h8 ba g0
    go_enter Tryz.func45, Tryz.ntmps45
    go_wp2_with fail
    rw [← hwa]
    generalize hgb : w.heap.size = gb at *
    clear hwa
    go_region_held3 (fun V => (V.cell? ⟨b, off, none⟩ = some (.int .u8 ((X 0 : Nat) : Int)) ∧ V.cell? ⟨b, off + 1, none⟩ = some (.int .u8 ((X 1 : Nat) : Int))) ∧ b < V.heap.size)
      (first | exact HY.out | exact HY2.out _)
      (first | fail)
    all_goals
      have IC : Hid (((wa.alloc (.cells #[.int .u8 ((X 0 : Nat) : Int), .int .u8 ((X 1 : Nat) : Int), .int .u16 0, .int .u32 0] 32)).drew).heap[wa.heap.size]? = some (.cells #[.int .u8 ((X 0 : Nat) : Int), .int .u8 ((X 1 : Nat) : Int), .int .u16 0, .int .u32 0] 32 (0, 0))) := heap_alloc_new _ _
      have GC : Hid (((wa.alloc (.cells #[.int .u8 ((X 0 : Nat) : Int), .int .u8 ((X 1 : Nat) : Int), .int .u16 0, .int .u32 0] 32)).drew).heap[gb]? = some (.cells #[.int .u8 0, .int .u8 0, .int .u16 0, .int .u32 0] 32 (0, 0))) := (heap_alloc_old _ _ (heap_lt G0.out)).trans G0.out
      have BC : Hid (Below gb w ((wa.alloc (.cells #[.int .u8 ((X 0 : Nat) : Int), .int .u8 ((X 1 : Nat) : Int), .int .u16 0, .int .u32 0] 32)).drew)) := (BA.out.alloc (Nat.le_of_lt (heap_lt G0.out)) _).drew
      have HCC := Lib.hid (HC2.out (.cells #[.int .u8 ((X 0 : Nat) : Int), .int .u8 ((X 1 : Nat) : Int), .int .u16 0, .int .u32 0] 32))
      have hgi : Hid (wa.heap.size ≠ b ∧ gb < wa.heap.size) := ⟨by have := HBL.out; omega, heap_lt G0.out⟩
      generalize hwc : (wa.alloc _).drew = wc at IC GC BC HCC ⊢
      generalize wa.heap.size = gi at *
      clear hwc HY HY2 HC2 G0 BA y0 y1
      go_wp2_with fail
      obtain ⟨mm, hmm⟩ : ∃ m : Nat, 4 ≤ m := ⟨4, Nat.le_refl _⟩
      have hfm : (Tryz.prog).follows .mixedOrders = true := by kernel_rfl
      obtain ⟨U4, F4, hUn4, hU14, hU24⟩ := class_of (fun V => V = wc.drew) (W := wc.drew) rfl
      have y2 : ∀ u, (F4 u).cell? ⟨b, off + 2, none⟩ = some (.int .u8 ((X 2 : Nat) : Int)) := fun u => by rw [hU14 u]; exact HCC.out 2 (by omega)
      have b2 : X 2 < 256 := HL.out 2
      have y3 : ∀ u, (F4 u).cell? ⟨b, off + 3, none⟩ = some (.int .u8 ((X 3 : Nat) : Int)) := fun u => by rw [hU14 u]; exact HCC.out 3 (by omega)
      have b3 : X 3 < 256 := HL.out 3
      have HU14 := Lib.hid hU14
      have HU24 := Lib.hid hU24
      clear hU14 hU24
      refine (wpIn_wide (n := mm)).1 ?_
      refine wpIn_region_tail_at 11 F4 hfm rfl (by kernel_rfl) (HU24.out _ rfl) ?_
      simp only [List.take_succ_cons, List.take_zero, List.getD_cons_succ, List.getD_cons_zero]
      repeat (gi_big_quiet_step (fail))
      refine wpQuietIn_nil ?_
      intro u
      have z1 := HU14.out u
      rw [z1]
      clear z1 HU14 HU24 y2 y3
      clear F4 hUn4
      have e6 : wc.drew.cell? ⟨gi, 2, none⟩ = some (.int .u16 0) := cell_row (j := 2) IC.out rfl
      have f6 : wc.drew.frozen? ⟨gi, 2, none⟩ = false := frozen_of_row _ _ _ _ _ (show wc.drew.heap[gi]? = _ from IC.out)
      unfold Oper.wpIn
      go_simp
      clear e6 f6
      rw [E2.out]
      have ID : Hid ((wc.setCell ⟨gi, 2, none⟩ (.int .u16 ((leN (fun i => X (2 + i)) 0 2 : Nat) : Int))).drew.heap[gi]? = some (.cells #[.int .u8 ((X 0 : Nat) : Int), .int .u8 ((X 1 : Nat) : Int), .int .u16 ((leN (fun i => X (2 + i)) 0 2 : Nat) : Int), .int .u32 0] 32 (0, 0))) := heap_setCell_same _ _ _ _ _ _ IC.out
      have GD : Hid ((wc.setCell ⟨gi, 2, none⟩ (.int .u16 ((leN (fun i => X (2 + i)) 0 2 : Nat) : Int))).drew.heap[gb]? = some (.cells #[.int .u8 0, .int .u8 0, .int .u16 0, .int .u32 0] 32 (0, 0))) := (heap_setCell_other _ _ _ _ (by show gb ≠ gi; have := hgi.out.2; omega)).trans GC.out
      have BD : Hid (Below gb w (wc.setCell ⟨gi, 2, none⟩ (.int .u16 ((leN (fun i => X (2 + i)) 0 2 : Nat) : Int))).drew) := (setCells_below BC.out (Nat.le_of_lt hgi.out.2) 2 [.int .u16 ((leN (fun i => X (2 + i)) 0 2 : Nat) : Int)]).drew
      have HCD : Hid (∀ i, i < len → (wc.setCell ⟨gi, 2, none⟩ (.int .u16 ((leN (fun i => X (2 + i)) 0 2 : Nat) : Int))).drew.cell? ⟨b, off + i, none⟩ = some (bV X i)) := fun i hi => (setCell_cell_other _ gi _ b _ hgi.out.1).trans (HCC.out i hi)
      generalize (wc.setCell ⟨gi, 2, none⟩ (.int .u16 ((leN (fun i => X (2 + i)) 0 2 : Nat) : Int))).drew = wd at ID GD BD HCD ⊢
      clear IC GC BC HCC
      go_wp2_with fail
      obtain ⟨U5, F5, hUn5, hU15, hU25⟩ := class_of (fun V => V = wd.drew) (W := wd.drew) rfl
      have y4 : ∀ u, (F5 u).cell? ⟨b, off + 4, none⟩ = some (.int .u8 ((X 4 : Nat) : Int)) := fun u => by rw [hU15 u]; exact HCD.out 4 (by omega)
      have b4 : X 4 < 256 := HL.out 4
      have y5 : ∀ u, (F5 u).cell? ⟨b, off + 5, none⟩ = some (.int .u8 ((X 5 : Nat) : Int)) := fun u => by rw [hU15 u]; exact HCD.out 5 (by omega)
      have b5 : X 5 < 256 := HL.out 5
      have y6 : ∀ u, (F5 u).cell? ⟨b, off + 6, none⟩ = some (.int .u8 ((X 6 : Nat) : Int)) := fun u => by rw [hU15 u]; exact HCD.out 6 (by omega)
      have b6 : X 6 < 256 := HL.out 6
      have y7 : ∀ u, (F5 u).cell? ⟨b, off + 7, none⟩ = some (.int .u8 ((X 7 : Nat) : Int)) := fun u => by rw [hU15 u]; exact HCD.out 7 (by omega)
      have b7 : X 7 < 256 := HL.out 7
      have HU15 := Lib.hid hU15
      have HU25 := Lib.hid hU25
      clear hU15 hU25
      refine (wpIn_wide (n := mm)).1 ?_
      refine wpIn_region_tail_at 23 F5 hfm rfl (by kernel_rfl) (HU25.out _ rfl) ?_
      simp only [List.take_succ_cons, List.take_zero, List.getD_cons_succ, List.getD_cons_zero]
      repeat (gi_big_quiet_step (fail))
      refine wpQuietIn_nil ?_
      intro u
      have z1 := HU15.out u
      rw [z1]
      clear z1 HU15 HU25 y4 y5 y6 y7
      clear F5 hUn5
      have e6 : wd.drew.cell? ⟨gi, 3, none⟩ = some (.int .u32 0) := cell_row (j := 3) ID.out rfl
      have f6 : wd.drew.frozen? ⟨gi, 3, none⟩ = false := frozen_of_row _ _ _ _ _ (show wd.drew.heap[gi]? = _ from ID.out)
      unfold Oper.wpIn
      go_simp
      clear e6 f6
      rw [E4.out]
      have IE : Hid ((wd.setCell ⟨gi, 3, none⟩ (.int .u32 ((leN (fun i => X (4 + i)) 0 4 : Nat) : Int))).drew.heap[gi]? = some (.cells #[.int .u8 ((X 0 : Nat) : Int), .int .u8 ((X 1 : Nat) : Int), .int .u16 ((leN (fun i => X (2 + i)) 0 2 : Nat) : Int), .int .u32 ((leN (fun i => X (4 + i)) 0 4 : Nat) : Int)] 32 (0, 0))) := heap_setCell_same _ _ _ _ _ _ ID.out
      have GE : Hid ((wd.setCell ⟨gi, 3, none⟩ (.int .u32 ((leN (fun i => X (4 + i)) 0 4 : Nat) : Int))).drew.heap[gb]? = some (.cells #[.int .u8 0, .int .u8 0, .int .u16 0, .int .u32 0] 32 (0, 0))) := (heap_setCell_other _ _ _ _ (by show gb ≠ gi; have := hgi.out.2; omega)).trans GD.out
      have BE : Hid (Below gb w (wd.setCell ⟨gi, 3, none⟩ (.int .u32 ((leN (fun i => X (4 + i)) 0 4 : Nat) : Int))).drew) := (setCells_below BD.out (Nat.le_of_lt hgi.out.2) 3 [.int .u32 ((leN (fun i => X (4 + i)) 0 4 : Nat) : Int)]).drew
      have HCE : Hid (∀ i, i < len → (wd.setCell ⟨gi, 3, none⟩ (.int .u32 ((leN (fun i => X (4 + i)) 0 4 : Nat) : Int))).drew.cell? ⟨b, off + i, none⟩ = some (bV X i)) := fun i hi => (setCell_cell_other _ gi _ b _ hgi.out.1).trans (HCD.out i hi)
      generalize (wd.setCell ⟨gi, 3, none⟩ (.int .u32 ((leN (fun i => X (4 + i)) 0 4 : Nat) : Int))).drew = we at IE GE BE HCE ⊢
      clear ID GD BD HCD
      clear HCE hfm q0 q1 q2 q3 q4 q5 q6 q7 E2 E4
      have z0 := cell_row (j := 0) IE.out rfl
      have z1 := cell_row (j := 1) IE.out rfl
      have z2 := cell_row (j := 2) IE.out rfl
      have z3 := cell_row (j := 3) IE.out rfl
      have z4 := heap_lt IE.out
      have hgw := heap_lt GE.out
      go_wp2_with fail
      refine (show Calls Tryz.prog 30 #[.agg #[.int .u8 ((X 0 : Nat) : Int), .int .u8 ((X 1 : Nat) : Int), .int .u16 ((leN (fun i => X (2 + i)) 0 2 : Nat) : Int), .int .u32 ((leN (fun i => X (4 + i)) 0 4 : Nat) : Int)]] we _ from rmay_any (insOf X) we HOK.out).mono ?_
      rintro e w5 ⟨rfl, hb⟩
      have B5 : Hid (Below gb w w5) := BE.out.trans (hb.mono (Nat.le_of_lt hgw))
      have I5 : w5.heap[gi]? = some (.cells #[.int .u8 ((X 0 : Nat) : Int), .int .u8 ((X 1 : Nat) : Int), .int .u16 ((leN (fun i => X (2 + i)) 0 2 : Nat) : Int), .int .u32 ((leN (fun i => X (4 + i)) 0 4 : Nat) : Int)] 32 (0, 0)) := (hb.block gi z4).trans IE.out
      have G5 : w5.heap[gb]? = some (.cells #[.int .u8 0, .int .u8 0, .int .u16 0, .int .u32 0] 32 (0, 0)) := (hb.block gb hgw).trans GE.out
      clear hb z0 z1 z2 z3 z4 hgw
      have c0 := cell_row (j := 0) G5 rfl
      have c1 := cell_row (j := 1) G5 rfl
      have c2 := cell_row (j := 2) G5 rfl
      have c3 := cell_row (j := 3) G5 rfl
      have f0 : w5.frozen? ⟨gb, 0, none⟩ = false := frozen_of_row _ _ _ _ _ G5
      have f1 : w5.frozen? ⟨gb, 1, none⟩ = false := frozen_of_row _ _ _ _ _ G5
      have f2 : w5.frozen? ⟨gb, 2, none⟩ = false := frozen_of_row _ _ _ _ _ G5
      have f3 : w5.frozen? ⟨gb, 3, none⟩ = false := frozen_of_row _ _ _ _ _ G5
      have hl5 := heap_lt G5
      have HGA : Hid (∀ vs : List Value, vs.length = 4 → (w5.setCells gb 0 vs).heap[gb]? = some (.cells vs.toArray 32 (0, 0))) := fun vs hv => setCells_all vs G5 hv
      have HBA : Hid (∀ vs : List Value, Below gb w (w5.setCells gb 0 vs)) := fun vs => setCells_below B5.out (Nat.le_refl _) _ _
      cases hmay : (insOf X).may
      case false =>
        rw [hmay] at HR
        clear hmay I5 G5
        go_wp2_with fail
        try simp only [Exit.inBlock, Exit.then]
        refine bodyPost_ret (results_cell_tmp rfl _ _ gb 32 #[.int .u8 0, .int .u8 0, .int .u16 0, .int .u32 0] (0, 0) _ _ rfl rfl (HGA.out [.int .u8 0, .int .u8 0, .int .u16 0, .int .u32 0] rfl) Tryz.underlying32 rfl info27) rfl ?_
        exact HR.out _ (HBA.out [_, _, _, _])
      case true =>
        rw [hmay] at HR
        have z0 := cell_row (j := 0) I5 rfl
        have z1 := cell_row (j := 1) I5 rfl
        have z2 := cell_row (j := 2) I5 rfl
        have z3 := cell_row (j := 3) I5 rfl
        have z4 := heap_lt I5
        clear hmay I5 G5
        go_wp2_with fail
        try simp only [Exit.inBlock, Exit.then]
        refine bodyPost_ret (results_cell_tmp rfl _ _ gb 32 #[.int .u8 ((X 0 : Nat) : Int), .int .u8 ((X 1 : Nat) : Int), .int .u16 ((leN (fun i => X (2 + i)) 0 2 : Nat) : Int), .int .u32 ((leN (fun i => X (4 + i)) 0 4 : Nat) : Int)] (0, 0) _ _ rfl rfl (HGA.out [.int .u8 ((X 0 : Nat) : Int), .int .u8 ((X 1 : Nat) : Int), .int .u16 ((leN (fun i => X (2 + i)) 0 2 : Nat) : Int), .int .u32 ((leN (fun i => X (4 + i)) 0 4 : Nat) : Int)] rfl) Tryz.underlying32 rfl info27) rfl ?_
        exact HR.out _ (HBA.out [_, _, _, _])
end Go.Proofs.YtalmgjeiopjhlaaGreatDoor
