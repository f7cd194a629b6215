/- Read. -/
import Derived.Test.YtalmgjeiopjhlaaGreatDoorIsaByt
import Derived.Test.YtalmgjeiopjhlaaGreatDoorRes
import Derived.Deep.RegionHeld3
namespace Go.Proofs.YtalmgjeiopjhlaaGreatDoor
open Go.RowKit
set_option linter.unusedVariables false
def insOf (X : Nat → Nat) : Ins := ⟨X 0, X 1, leN (fun i => X (2 + i)) 0 2, leN (fun i => X (4 + i)) 0 4⟩
def noIns : Ins := ⟨0, 0, 0, 0⟩
theorem insOf_ok {X : Nat → Nat} (h : ∀ i, X i < 256) : (insOf X).ok := ⟨h 0, h 1, leN_lt (fun i => h (2 + i)) 0 2, leN_lt (fun i => h (4 + i)) 0 4⟩
def readI (len : Nat) (X : Nat → Nat) : Ins := if len < 8 then noIns else if (insOf X).may then insOf X else noIns
def readE (len : Nat) (X : Nat → Nat) : Int := if len < 8 then 40 else if (insOf X).may then 0 else 90
def ReadPost (len : Nat) (X : Nat → Nat) (w : World) (e : Ending) (w' : World) : Prop := e = .returned (.tuple #[(readI len X).val, .int .i64 (readE len X)]) ∧ Below w.heap.size w w'
theorem info27 : (Tryz.prog.info? 32).map (·.size) = some 4 := by kernel_rfl
set_option maxHeartbeats 4000000 in
set_option maxRecDepth 100000 in
theorem read_any (a : Option Addr) (len c : Nat) (X : Nat → Nat) (w : World) (hX : SliceAt w a len (bV X)) (hl : ∀ i, X i < 256) (hm : len ≤ 9223372036854775807) (hcap : len ≤ c) :
    Calls Tryz.prog 44 #[.slice a len c] w (ReadPost len X w) := by
  by_cases h8 : len < 8
  · have HR : Hid (∀ V, Below w.heap.size w V → ReadPost len X w (.returned (.tuple #[noIns.val, .int .i64 40])) V) := fun V hV => ⟨by unfold readI readE; rw [if_pos h8, if_pos h8], hV⟩
    have t1 : decide ((len : Int) < 8) = true := by simp; omega
    clear hX h8
    go_enter Tryz.func44, Tryz.ntmps44
    go_wp2_with fail
    try simp only [Exit.inBlock, Exit.then]
    refine bodyPost_ret (results_cell_tmp rfl _ _ w.heap.size 32 #[.int .u8 0, .int .u8 0, .int .u16 0, .int .u32 0] (0, 0) _ _ rfl rfl (heap_alloc_new _ _) Tryz.underlying32 rfl info27) rfl ?_
    exact HR.out _ (alloc_below _ _)
  · have t1 : decide ((len : Int) < 8) = false := by simp; omega
    obtain ⟨b, off, rfl, hlt, hc⟩ := hX.at (by omega)
    have q1 : (4 : Int) ≤ (c : Int) := by omega
    have q2 : (8 : Int) ≤ (c : Int) := by omega
    have q3 : (1 : Int) < (len : Int) := by omega
    have q4 : (0 : Int) < (len : Int) := by omega
    obtain ⟨wa, hwa⟩ : ∃ x, x = w.alloc (.cells #[.int .u8 0, .int .u8 0, .int .u16 0, .int .u32 0] 32) := ⟨_, rfl⟩
    have ba := alloc_below w (.cells #[.int .u8 0, .int .u8 0, .int .u16 0, .int .u32 0] 32)
    rw [← hwa] at ba
    have g0 : wa.heap[w.heap.size]? = some (.cells #[.int .u8 0, .int .u8 0, .int .u16 0, .int .u32 0] 32 (0, 0)) := by rw [hwa]; exact heap_alloc_new _ _
    have G0 := Lib.hid g0
    have BA := Lib.hid ba
    have B0 := Lib.hid ba.drew
    have hlt2 : b < wa.heap.size := Nat.lt_of_lt_of_le hlt ba.size
    have hc2 : ∀ i, i < len → wa.cell? ⟨b, off + i, none⟩ = some (bV X i) := fun i hi => by rw [ba.cell hlt]; exact hc i hi
    have y0 : wa.drew.cell? ⟨b, off, none⟩ = some (.int .u8 ((X 0 : Nat) : Int)) := hc2 0 (by omega)
    have y1 : wa.drew.cell? ⟨b, off + 1, none⟩ = some (.int .u8 ((X 1 : Nat) : Int)) := hc2 1 (by omega)
    have HY : Hid ((wa.drew.cell? ⟨b, off, none⟩ = some (.int .u8 ((X 0 : Nat) : Int)) ∧ wa.drew.cell? ⟨b, off + 1, none⟩ = some (.int .u8 ((X 1 : Nat) : Int))) ∧ b < wa.drew.heap.size) := ⟨⟨y0, y1⟩, hlt2⟩
    have HY2 : Hid (∀ o : Obj, ((wa.alloc o).drew.cell? ⟨b, off, none⟩ = some (.int .u8 ((X 0 : Nat) : Int)) ∧ (wa.alloc o).drew.cell? ⟨b, off + 1, none⟩ = some (.int .u8 ((X 1 : Nat) : Int))) ∧ b < (wa.alloc o).drew.heap.size) := fun o => by
      have hb2 := (alloc_below wa o).drew
      exact ⟨⟨(hb2.cell hlt2).trans y0, (hb2.cell hlt2).trans y1⟩, Nat.lt_of_lt_of_le hlt2 hb2.size⟩
    have q5 : 0 < len := by omega
    have n2 : ¬ c = 2 := by omega
    have n4 : ¬ c = 4 := by omega
    have n8 : ¬ c = 8 ∨ True := .inr True.intro
    clear n8
    have HS2 : Hid (SliceAt wa.drew (some ⟨b, off + 2, none⟩) 2 (bV fun i => X (2 + i))) := .inr ⟨b, off + 2, rfl, hlt2, fun i hi => by rw [Nat.add_assoc]; exact hc2 (2 + i) (by omega)⟩
    have HS4 : Hid (SliceAt wa.drew (some ⟨b, off + 4, none⟩) 4 (bV fun i => X (4 + i))) := .inr ⟨b, off + 4, rfl, hlt2, fun i hi => by rw [Nat.add_assoc]; exact hc2 (4 + i) (by omega)⟩
    have HT2 : Hid (∀ o : Obj, SliceAt (wa.alloc o).drew (some ⟨b, off + 2, none⟩) 2 (bV fun i => X (2 + i))) := fun o => HS2.out.below ⟨rfl, rfl, rfl, ((alloc_below wa o).drew).size, fun i hi => (alloc_below wa o).block i hi⟩
    have HT4 : Hid (∀ o : Obj, SliceAt (wa.alloc o).drew (some ⟨b, off + 4, none⟩) 4 (bV fun i => X (4 + i))) := fun o => HS4.out.below ⟨rfl, rfl, rfl, ((alloc_below wa o).drew).size, fun i hi => (alloc_below wa o).block i hi⟩
    have HL := Lib.hid hl
    have HOK := Lib.hid (insOf_ok hl)
    have HR : Hid (∀ V, Below w.heap.size w V → ReadPost len X w (.returned (.tuple #[(if (insOf X).may then insOf X else noIns).val, .int .i64 (if (insOf X).may then 0 else 90)])) V) := fun V hV => ⟨by unfold readI readE; rw [if_neg h8, if_neg h8], hV⟩
    have hx2 := leN_lt (fun i => hl (2 + i)) 0 2
    have hw2 : ((leN (fun i => X (2 + i)) 0 2 : Nat) : Int) % 65536 = ((leN (fun i => X (2 + i)) 0 2 : Nat) : Int) := by omega
    have hw3 : IntKind.u16.wrap ((leN (fun i => X (2 + i)) 0 2 : Nat) : Int) = ((leN (fun i => X (2 + i)) 0 2 : Nat) : Int) := by rw [IntKind.wrap_u16]; omega
    have e2 : off + 4 - (off + 2) = 2 := by omega
    clear hX hlt hc hlt2 hc2 y0 y1 hl h8 ba g0 hx2
    go_enter Tryz.func44, Tryz.ntmps44
    go_wp2_with fail
    rw [← hwa]
    generalize hgb : w.heap.size = gb at *
    clear hwa
    go_region_held3 (fun V => (V.cell? ⟨b, off, none⟩ = some (.int .u8 ((X 0 : Nat) : Int)) ∧ V.cell? ⟨b, off + 1, none⟩ = some (.int .u8 ((X 1 : Nat) : Int))) ∧ b < V.heap.size)
      (first | exact HY.out | exact HY2.out _)
      (first
        | (go_at_call 66; (with_reducible refine (low_any _ 4 _ (fun i => X (4 + i)) wa.drew HS4.out (fun i => HL.out (4 + i)) (by omega)).mono ?_); rintro e w' ⟨rfl, rfl⟩)
        | (go_at_call 66; (with_reducible refine (low_any _ 2 _ (fun i => X (2 + i)) wa.drew HS2.out (fun i => HL.out (2 + i)) (by omega)).mono ?_); rintro e w' ⟨rfl, rfl⟩)
        | (go_at_call 66; (with_reducible refine (low_any _ 4 _ (fun i => X (4 + i)) (wa.alloc (.cells #[.int .u8 0, .int .u8 0, .int .u16 0, .int .u32 0] 32)).drew (HT4.out _) (fun i => HL.out (4 + i)) (by omega)).mono ?_); rintro e w' ⟨rfl, rfl⟩)
        | (go_at_call 66; (with_reducible refine (low_any _ 2 _ (fun i => X (2 + i)) (wa.alloc (.cells #[.int .u8 0, .int .u8 0, .int .u16 0, .int .u32 0] 32)).drew (HT2.out _) (fun i => HL.out (2 + i)) (by omega)).mono ?_); rintro e w' ⟨rfl, rfl⟩))
    all_goals
      have IC : Hid (((wa.alloc (.cells (insOf X).val.cells 32)).drew).heap[wa.heap.size]? = some (.cells (insOf X).val.cells 32 (0, 0))) := heap_alloc_new _ _
      have GC : Hid (((wa.alloc (.cells (insOf X).val.cells 32)).drew).heap[gb]? = some (.cells #[.int .u8 0, .int .u8 0, .int .u16 0, .int .u32 0] 32 (0, 0))) := (heap_alloc_old _ _ (heap_lt G0.out)).trans G0.out
      have BC : Hid (Below gb w ((wa.alloc (.cells (insOf X).val.cells 32)).drew)) := (BA.out.alloc (Nat.le_of_lt (heap_lt G0.out)) _).drew
      simp only [insOf, Ins.val, Value.cells] at IC GC BC
      generalize hwc : (wa.alloc _).drew = wc at IC GC BC ⊢
      generalize wa.heap.size = gi at *
      clear hwc HY HY2 HS2 HS4 HT2 HT4 G0 BA q1 q2 q3 q4 q5 n2 n4 hw2 hw3 e2 B0
      have z0 := cell_row (j := 0) IC.out rfl
      have z1 := cell_row (j := 1) IC.out rfl
      have z2 := cell_row (j := 2) IC.out rfl
      have z3 := cell_row (j := 3) IC.out rfl
      have z4 := heap_lt IC.out
      have hgw := heap_lt GC.out
      go_wp2_with fail
      refine (show Calls Tryz.prog 27 #[.agg #[.int .u8 ((X 0 : Nat) : Int), .int .u8 ((X 1 : Nat) : Int), .int .u16 ((leN (fun i => X (2 + i)) 0 2 : Nat) : Int), .int .u32 ((leN (fun i => X (4 + i)) 0 4 : Nat) : Int)]] wc _ from may_any (insOf X) wc HOK.out).mono ?_
      rintro e w5 ⟨rfl, hb⟩
      have B5 : Hid (Below gb w w5) := BC.out.trans (hb.mono (Nat.le_of_lt hgw))
      have I5 : w5.heap[gi]? = some (.cells #[.int .u8 ((X 0 : Nat) : Int), .int .u8 ((X 1 : Nat) : Int), .int .u16 ((leN (fun i => X (2 + i)) 0 2 : Nat) : Int), .int .u32 ((leN (fun i => X (4 + i)) 0 4 : Nat) : Int)] 32 (0, 0)) := (hb.block gi z4).trans IC.out
      have G5 : w5.heap[gb]? = some (.cells #[.int .u8 0, .int .u8 0, .int .u16 0, .int .u32 0] 32 (0, 0)) := (hb.block gb hgw).trans GC.out
      clear hb z0 z1 z2 z3 z4 hgw
      have c0 := cell_row (j := 0) G5 rfl
      have c1 := cell_row (j := 1) G5 rfl
      have c2 := cell_row (j := 2) G5 rfl
      have c3 := cell_row (j := 3) G5 rfl
      have f0 : w5.frozen? ⟨gb, 0, none⟩ = false := frozen_of_row _ _ _ _ _ G5
      have f1 : w5.frozen? ⟨gb, 1, none⟩ = false := frozen_of_row _ _ _ _ _ G5
      have f2 : w5.frozen? ⟨gb, 2, none⟩ = false := frozen_of_row _ _ _ _ _ G5
      have f3 : w5.frozen? ⟨gb, 3, none⟩ = false := frozen_of_row _ _ _ _ _ G5
      have hl5 := heap_lt G5
      have HGA : Hid (∀ vs : List Value, vs.length = 4 → (w5.setCells gb 0 vs).heap[gb]? = some (.cells vs.toArray 32 (0, 0))) := fun vs hv => setCells_all vs G5 hv
      have HBA : Hid (∀ vs : List Value, Below gb w (w5.setCells gb 0 vs)) := fun vs => setCells_below B5.out (Nat.le_refl _) _ _
      cases hmay : (insOf X).may
      case false =>
        rw [hmay] at HR
        clear hmay I5 G5
        go_wp2_with fail
        try simp only [Exit.inBlock, Exit.then]
        refine bodyPost_ret (results_cell_tmp rfl _ _ gb 32 #[.int .u8 0, .int .u8 0, .int .u16 0, .int .u32 0] (0, 0) _ _ rfl rfl (HGA.out [.int .u8 0, .int .u8 0, .int .u16 0, .int .u32 0] rfl) Tryz.underlying32 rfl info27) rfl ?_
        exact HR.out _ (HBA.out [_, _, _, _])
      case true =>
        rw [hmay] at HR
        have z0 := cell_row (j := 0) I5 rfl
        have z1 := cell_row (j := 1) I5 rfl
        have z2 := cell_row (j := 2) I5 rfl
        have z3 := cell_row (j := 3) I5 rfl
        have z4 := heap_lt I5
        clear hmay I5 G5
        go_wp2_with fail
        try simp only [Exit.inBlock, Exit.then]
        refine bodyPost_ret (results_cell_tmp rfl _ _ gb 32 #[.int .u8 ((X 0 : Nat) : Int), .int .u8 ((X 1 : Nat) : Int), .int .u16 ((leN (fun i => X (2 + i)) 0 2 : Nat) : Int), .int .u32 ((leN (fun i => X (4 + i)) 0 4 : Nat) : Int)] (0, 0) _ _ rfl rfl (HGA.out [.int .u8 ((X 0 : Nat) : Int), .int .u8 ((X 1 : Nat) : Int), .int .u16 ((leN (fun i => X (2 + i)) 0 2 : Nat) : Int), .int .u32 ((leN (fun i => X (4 + i)) 0 4 : Nat) : Int)] rfl) Tryz.underlying32 rfl info27) rfl ?_
        exact HR.out _ (HBA.out [_, _, _, _])
end Go.Proofs.YtalmgjeiopjhlaaGreatDoor
