/- Bytes, low. -/
import Derived.Test.YtalmgjeiopjhlaaGreatDoorIsaMay
import Derived.Test.YtalmgjeiopjhlaaGreatDoorLe
namespace Go.Proofs.YtalmgjeiopjhlaaGreatDoor
open Go.RowKit
set_option linter.unusedVariables false
set_option maxHeartbeats 2000000 in
theorem low_any (a : Option Addr) (k c : Nat) (X : Nat → Nat) (w : World) (hX : SliceAt w a k (bV X)) (hl : ∀ i, X i < 256) (hk : k ≤ 4) :
    Calls Tryz.prog 66 #[.slice a k c] w fun e w' => e = .returned (.int .u32 ((leN X 0 k : Nat) : Int)) ∧ w = w' := by
  have HS := Lib.hid hX; have HL := Lib.hid hl
  clear hX hl
  go_enter Tryz.func66, Tryz.ntmps66
  go_wp2_with fail
  go_loop [3, 8] (fun x i => ∃ j : Nat, j ≤ k ∧ i = .int .i64 j ∧ x = .int .u32 ((leN X 0 j : Nat) : Int)) (fun _ i => k - (intOf i).toNat)
  case atStart => exact ⟨0, Nat.zero_le _, rfl, rfl⟩
  case round =>
    obtain ⟨j, hj, rfl, rfl⟩ := hrel
    by_cases hlt : j < k
    · have hj4 : j < 4 := by omega
      have hx := leN_lt HL.out 0 j
      have hc := HL.out (0 + j)
      obtain ⟨sb, so, rfl, hsl, hcells⟩ := HS.out.at (by omega)
      have cx : w.cell? ⟨sb, so + j, none⟩ = some (.int .u8 ((X (0 + j) : Nat) : Int)) := by rw [Nat.zero_add]; exact hcells j hlt
      have HLE : Hid (leN X 0 (j + 1) = leN X 0 j + X (0 + j) * 256 ^ j) := rfl
      have hji : (j : Int) < (k : Int) := by omega
      clear hcells
      generalize leN X 0 j = x at *
      generalize X (0 + j) = cc at *
      have HO := Lib.hid (or_shl x cc j hx hc hj4)
      clear hx
      go_wp2_with fail
      rw [HO.out]
      refine ⟨⟨j + 1, by omega, by go_num, by rw [HLE.out]⟩, ?_⟩
      simp [intOf]; omega
    · obtain rfl : j = k := by omega
      go_wp2_with fail
      go_ret
      exact ⟨rfl, rfl⟩
def Ins.cellK (i : Ins) (k1 k2 j : Nat) : Value := if j = 0 then .int .u8 (i.op : Int) else if j = 1 then .int .u8 (i.a : Int) else if 2 ≤ j ∧ j < 2 + k1 then .int .u8 ((stB i.b (j - 2) : Nat) : Int) else if 4 ≤ j ∧ j < 4 + k2 then .int .u8 ((stB i.c (j - 4) : Nat) : Int) else .int .u8 0
def Ins.byt (i : Ins) (j : Nat) : Nat := if j = 0 then i.op else if j = 1 then i.a else if j < 4 then stB i.b (j - 2) else stB i.c (j - 4)
def Ins.bytL (i : Ins) : List Value := (List.range 8).map (bV i.byt)
def BytAt (w : World) (g : Nat) (i : Ins) (k1 k2 : Nat) : Prop := ∃ cur, w.heap[g]? = some (.cells cur 76 (0, 0)) ∧ cur.size = 8 ∧ ∀ j, j < 8 → cur[j]? = some (i.cellK k1 k2 j)
theorem cellK_done (i : Ins) (j : Nat) (hj : j < 8) : i.cellK 2 4 j = bV i.byt j := by
  unfold Ins.cellK bV Ins.byt
  by_cases h0 : j = 0
  · simp [h0]
  · by_cases h1 : j = 1
    · simp [h1]
    · rw [if_neg h0, if_neg h1, if_neg h0, if_neg h1]
      by_cases h2 : j < 4
      · rw [if_pos (by omega), if_pos h2]
      · rw [if_neg (by omega), if_pos (by omega), if_neg h2]
theorem BytAt.arr {w : World} {g : Nat} {i : Ins} (h : BytAt w g i 2 4) : w.heap[g]? = some (.cells i.bytL.toArray 76 (0, 0)) := by
  obtain ⟨cur, h1, h2, h3⟩ := h
  rw [h1]
  have e : cur = i.bytL.toArray := by
    apply Array.ext_getElem?
    intro j
    by_cases hj : j < 8
    · rw [h3 j hj, cellK_done i j hj]; unfold Ins.bytL; simp [hj]
    · rw [Array.getElem?_eq_none (by omega), Array.getElem?_eq_none (by unfold Ins.bytL; simp; omega)]
  rw [e]
theorem BytAt.set {w : World} {g : Nat} {i : Ins} {k1 k2 k1' k2' o : Nat} {v : Value} (h : BytAt w g i k1 k2) (hv : ∀ j, j < 8 → i.cellK k1' k2' j = if j = o then v else i.cellK k1 k2 j) : BytAt (w.setCell ⟨g, o, none⟩ v) g i k1' k2' := by
  obtain ⟨cur, h1, h2, h3⟩ := h
  refine ⟨_, heap_setCell_same _ _ _ _ _ _ h1, by simpa using h2, fun j hj => ?_⟩
  rw [Array.getElem?_setIfInBounds, hv j hj]
  by_cases e : o = j
  · subst e; rw [if_pos rfl, if_pos (by omega), if_pos rfl]
  · rw [if_neg e, if_neg (fun e' => e e'.symm)]; exact h3 j hj
theorem step1 (i : Ins) (k : Nat) (hk : k < 2) (j : Nat) (hj : j < 8) : i.cellK (k + 1) 0 j = if j = 2 + k then .int .u8 ((stB i.b k : Nat) : Int) else i.cellK k 0 j := by
  unfold Ins.cellK
  by_cases e : j = 2 + k
  · subst e; rw [if_neg (by omega), if_neg (by omega), if_pos (by omega), if_pos rfl, show 2 + k - 2 = k by omega]
  · rw [if_neg e]
    by_cases h : 2 ≤ j ∧ j < 2 + k
    · rw [if_pos (show 2 ≤ j ∧ j < 2 + (k + 1) by omega), if_pos h]
    · rw [if_neg (show ¬ (2 ≤ j ∧ j < 2 + (k + 1)) by omega), if_neg h]
theorem step2 (i : Ins) (k : Nat) (hk : k < 4) (j : Nat) (hj : j < 8) : i.cellK 2 (k + 1) j = if j = 4 + k then .int .u8 ((stB i.c k : Nat) : Int) else i.cellK 2 k j := by
  unfold Ins.cellK
  by_cases e : j = 4 + k
  · subst e; rw [if_neg (by omega), if_neg (by omega), if_neg (by omega), if_pos (by omega), if_pos rfl, show 4 + k - 4 = k by omega]
  · rw [if_neg e]
    by_cases h : 4 ≤ j ∧ j < 4 + k
    · rw [if_pos (show 4 ≤ j ∧ j < 4 + (k + 1) by omega), if_pos h]
    · rw [if_neg (show ¬ (4 ≤ j ∧ j < 4 + (k + 1)) by omega), if_neg h]
def Z8 : Array Value := #[.int .u8 0, .int .u8 0, .int .u8 0, .int .u8 0, .int .u8 0, .int .u8 0, .int .u8 0, .int .u8 0]
theorem info32 : (Tryz.prog.info? 76).map (·.size) = some 8 := by kernel_rfl
theorem zero32 (w : World) : (zeroValue 76).run Tryz.prog w = .ok (.agg Z8) w := by kernel_rfl
theorem Ins.bytL_one (i : Ins) : ∀ v ∈ i.bytL, v.oneCell' = true := fun v hv => by
  unfold Ins.bytL at hv
  obtain ⟨j, _, rfl⟩ := List.mem_map.1 hv
  rfl
set_option maxHeartbeats 4000000 in
set_option maxRecDepth 100000 in
theorem bytes_any (i : Ins) (w : World) (h : i.ok) :
    Calls Tryz.prog 46 #[i.val] w fun e w' => e = .returned (.agg i.bytL.toArray) ∧ Below w.heap.size w w' := by
  unfold Ins.val
  have hb16 := h.b
  have hc32 := h.c
  obtain ⟨W1, hW1⟩ : ∃ x, x = w.alloc (.cells #[.int .u8 (i.op : Int), .int .u8 (i.a : Int), .int .u16 (i.b : Int), .int .u32 (i.c : Int)] 32) := ⟨_, rfl⟩
  have s1 : W1.heap.size = w.heap.size + 1 := by rw [hW1]; simp
  have i1 : W1.heap[w.heap.size]? = some (.cells #[.int .u8 (i.op : Int), .int .u8 (i.a : Int), .int .u16 (i.b : Int), .int .u32 (i.c : Int)] 32 (0, 0)) := by rw [hW1]; exact heap_alloc_new _ _
  obtain ⟨W2, hW2⟩ : ∃ x, x = W1.alloc (.cells Z8 76) := ⟨_, rfl⟩
  have s2 : W2.heap.size = w.heap.size + 2 := by rw [hW2]; simp [s1]
  have i2 : W2.heap[w.heap.size]? = some (.cells #[.int .u8 (i.op : Int), .int .u8 (i.a : Int), .int .u16 (i.b : Int), .int .u32 (i.c : Int)] 32 (0, 0)) := by rw [hW2]; exact (heap_alloc_old _ _ (by omega)).trans i1
  have a2 : W2.heap[w.heap.size + 1]? = some (.cells Z8 76 (0, 0)) := by rw [hW2, ← s1]; exact heap_alloc_new _ _
  obtain ⟨W3, hW3⟩ : ∃ x, x = W2.alloc (.cells #[.int .u8 (i.op : Int), .int .u8 (i.a : Int), .int .u8 0, .int .u8 0, .int .u8 0, .int .u8 0, .int .u8 0, .int .u8 0] 76) := ⟨_, rfl⟩
  have I3 : Hid (W3.heap[w.heap.size]? = some (.cells #[.int .u8 (i.op : Int), .int .u8 (i.a : Int), .int .u16 (i.b : Int), .int .u32 (i.c : Int)] 32 (0, 0))) := by rw [hW3]; exact (heap_alloc_old _ _ (by omega)).trans i2
  have A3 : Hid (W3.heap[w.heap.size + 1]? = some (.cells Z8 76 (0, 0))) := by rw [hW3]; exact (heap_alloc_old _ _ (by omega)).trans a2
  have R3 : Hid (BytAt W3 (w.heap.size + 2) i 0 0) := ⟨_, by rw [hW3, ← s2]; exact heap_alloc_new _ _, rfl, fun j hj => by
    match j, hj with
    | 0, _ => rfl
    | 1, _ => rfl
    | 2, _ => rfl
    | 3, _ => rfl
    | 4, _ => rfl
    | 5, _ => rfl
    | 6, _ => rfl
    | 7, _ => rfl⟩
  have B3 : Hid (Below w.heap.size w W3) := by rw [hW3, hW2, hW1]; exact (((Below.refl _ w).alloc (Nat.le_refl _) _).alloc (by simp) _).alloc (by simp; omega) _
  have hz := zero32
  unfold Z8 at hz
  clear i1 i2 a2
  go_enter Tryz.func46, Tryz.ntmps46
  go_wp2_with fail
  unfold Z8 at hW2
  rw [hW1] at hW2
  rw [hW2] at hW3
  rw [← hW3]
  generalize hgb : w.heap.size = gb at *
  clear hW1 hW2 hW3 hz s1 s2
  go_loopw [11] (fun v wr => ∃ k : Nat, k ≤ 2 ∧ v = .int .i64 (k : Int) ∧ BytAt wr (gb + 2) i k 0 ∧ wr.heap[gb + 1]? = some (.cells Z8 76 (0, 0)) ∧ Below gb w wr ∧ wr.heap[gb]? = some (.cells #[.int .u8 (i.op : Int), .int .u8 (i.a : Int), .int .u16 (i.b : Int), .int .u32 (i.c : Int)] 32 (0, 0))) (fun v _ => 2 - (intOf v).toNat)
  case atStart => exact ⟨0, by omega, rfl, R3.out, A3.out, B3.out, I3.out⟩
  case round =>
    obtain ⟨k, hk, rfl, r1, r2, r3, r4⟩ := hrel
    have RK := Lib.hid r1; have AK := Lib.hid r2; have BK := Lib.hid r3; have IK := Lib.hid r4
    clear r1 r2 r3 r4
    by_cases hlt : k < 2
    · have hki : (k : Int) < 2 := by omega
      have x0 := cell_row (j := 2) IK.out rfl
      have x1 := heap_lt IK.out
      obtain ⟨cur, e1, e2, e3⟩ := RK.out
      have x2 : wr.cell? ⟨gb + 2, 2 + k, none⟩ = some _ := cell_row e1 (e3 (2 + k) (by omega))
      have x3 : wr.frozen? ⟨gb + 2, 2 + k, none⟩ = false := frozen_of_row _ _ _ _ _ e1
      have x4 : gb + 2 < wr.heap.size := heap_lt e1
      have hst := stB_cast i.b k
      clear e1 e2 e3
      generalize (Ins.cellK i _ _ (2 + k)) = old at *
      go_wp2_with fail
      go_roundw
      case rel => exact ⟨k + 1, by omega, by go_num, RK.out.set (step1 i k hlt), (heap_setCell_other _ _ _ _ (by show gb + 1 ≠ gb + 2; omega)).trans AK.out, setCells_below BK.out (by omega) (2 + k) [_], (heap_setCell_other _ _ _ _ (by show gb ≠ gb + 2; omega)).trans IK.out⟩
      case measure => simp [intOf]; omega
    · obtain rfl : k = 2 := by omega
      clear R3 A3 B3 I3
      go_wp2_with fail
      go_loopw [24] (fun v wr => ∃ k : Nat, k ≤ 4 ∧ v = .int .i64 (k : Int) ∧ BytAt wr (gb + 2) i 2 k ∧ wr.heap[gb + 1]? = some (.cells Z8 76 (0, 0)) ∧ Below gb w wr ∧ wr.heap[gb]? = some (.cells #[.int .u8 (i.op : Int), .int .u8 (i.a : Int), .int .u16 (i.b : Int), .int .u32 (i.c : Int)] 32 (0, 0))) (fun v _ => 4 - (intOf v).toNat)
      case atStart => exact ⟨0, by omega, rfl, RK.out, AK.out, BK.out, IK.out⟩
      case round =>
        clear RK AK BK IK
        obtain ⟨k, hk, rfl, r1, r2, r3, r4⟩ := hrel
        have RK := Lib.hid r1; have AK := Lib.hid r2; have BK := Lib.hid r3; have IK := Lib.hid r4
        clear r1 r2 r3 r4
        by_cases hlt : k < 4
        · have hki : (k : Int) < 4 := by omega
          have x0 := cell_row (j := 3) IK.out rfl
          have x1 := heap_lt IK.out
          obtain ⟨cur, e1, e2, e3⟩ := RK.out
          have x2 : wr.cell? ⟨gb + 2, 4 + k, none⟩ = some _ := cell_row e1 (e3 (4 + k) (by omega))
          have x3 : wr.frozen? ⟨gb + 2, 4 + k, none⟩ = false := frozen_of_row _ _ _ _ _ e1
          have x4 : gb + 2 < wr.heap.size := heap_lt e1
          have hst := stB_cast i.c k
          clear e1 e2 e3
          generalize (Ins.cellK i _ _ (4 + k)) = old at *
          go_wp2_with fail
          go_roundw
          case rel => exact ⟨k + 1, by omega, by go_num, RK.out.set (step2 i k hlt), (heap_setCell_other _ _ _ _ (by show gb + 1 ≠ gb + 2; omega)).trans AK.out, setCells_below BK.out (by omega) (4 + k) [_], (heap_setCell_other _ _ _ _ (by show gb ≠ gb + 2; omega)).trans IK.out⟩
          case measure => simp [intOf]; omega
        · obtain rfl : k = 4 := by omega
          have hi32 : (Tryz.prog.info? 76).map (·.size) = some i.bytL.toArray.size := by unfold Ins.bytL; rw [info32]; simp
          have h1' : i.bytL.toArray.all (·.oneCell') = true := Go.all_oneCell_toArray i.bytL_one
          have hz : Z8.size = i.bytL.toArray.size := by unfold Ins.bytL; simp [Z8]
          have HR : Hid ((wr.setRow (gb + 1) i.bytL.toArray).heap[gb + 1]? = some (.cells i.bytL.toArray 76 (0, 0))) := setRow_heap _ _ _ _ _ _ AK.out
          have BN : Hid (Below gb w (wr.setRow (gb + 1) i.bytL.toArray)) := setRow_below BK.out (by omega) _
          have HI := Lib.hid hi32
          go_upto_region 12 with fail
          go_step
          refine Go.wpList_load_row rfl 76 _ rfl (gb + 2) rfl 76 i.bytL.toArray (0, 0) _ RK.out.arr Tryz.underlying76 rfl hi32 ?_
          refine Go.wpList_store_row rfl 76 _ _ rfl (gb + 1) i.bytL.toArray rfl rfl 76 Z8 AK.out hi32 hz h1' ?_
          generalize wr.setRow (gb + 1) i.bytL.toArray = wn at *
          clear hi32 h1' hz
          go_wp2_with fail
          try simp only [Exit.inBlock, Exit.then]
          refine bodyPost_ret (Go.results_cell_row rfl _ _ (gb + 1) 76 i.bytL.toArray (0, 0) _ rfl HR.out Tryz.underlying76 rfl HI.out) rfl ?_
          exact ⟨rfl, by rw [hgb]; exact BN.out⟩
end Go.Proofs.YtalmgjeiopjhlaaGreatDoor
