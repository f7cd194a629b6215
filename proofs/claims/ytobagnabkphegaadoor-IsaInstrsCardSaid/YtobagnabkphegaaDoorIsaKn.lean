/- known. -/
import Derived.Test.YtobagnabkphegaaDoorIsaText
import Derived.Laws.StructEq
import Derived.Deep.CutRange
import Derived.Deep.OwnRows
namespace Go.Proofs.YtobagnabkphegaaDoor
open Go.RowKit
set_option linter.unusedVariables false
def Ins.eq (i j : Ins) : Bool := i.op == j.op && i.a == j.a && i.b == j.b && i.c == j.c
theorem equal_ins (i j : Ins) (w : World) : (Op.equalIn 10000 27 i.val j.val).run Tryd.prog w = .ok (i.eq j) w := by
  have hS : Tryd.prog.underlying 27 = some (.struct (Tryd.prog.fieldsOf 27)) := by kernel_rfl
  have hp : Tryd.prog.stoodInHeld 27 = false := by kernel_rfl
  have c1 : ∀ x y : Nat, ((x : Int) == (y : Int)) = (x == y) := fun x y => by
    by_cases h : x = y
    · simp [h]
    · have : ¬ (x : Int) = (y : Int) := by omega
      rw [beq_eq_false_iff_ne.2 h, beq_eq_false_iff_ne.2 this]
  unfold Ins.val
  rw [show (10000 : Nat) = 9999 + 1 from rfl, run_equalIn_agg w 9999 27 _ _ hS hp]
  simp only [Program.fieldsOf, Tryd.underlying27]
  go_simp
  unfold Ins.eq
  repeat' split
  all_goals simp_all
def lX (l : List Nat) (i : Nat) : Nat := l.getD i 0
theorem lX_lt (l : List Nat) (h : l.all (· < 256) = true) (i : Nat) : lX l i < 256 := by
  unfold lX
  rw [List.getD_eq_getElem?_getD]
  by_cases hi : i < l.length
  · rw [List.getElem?_eq_getElem hi]
    have := List.all_eq_true.1 h l[i] (List.getElem_mem hi)
    simpa using this
  · rw [List.getElem?_eq_none (by omega)]; decide
theorem slice_new (w : World) (l : List Nat) (c : Nat) : SliceAt (w.alloc (.cells (l.map fun n : Nat => Value.int .u8 ((n : Nat) : Int)).toArray 5)) (some ⟨w.heap.size, 0, none⟩) l.length (bV (lX l)) :=
  .inr ⟨w.heap.size, 0, rfl, by simp, fun i hi => by
    rw [Nat.zero_add]
    refine cell_row (heap_alloc_new _ _) ?_
    unfold bV lX
    simp [List.getD_eq_getElem?_getD, hi]⟩
theorem dec1 (n : Nat) (h : n < 10) : decS n = ⟨#[UInt8.ofNat (48 + n)]⟩ := by unfold decS; rw [Lib.decDigits_one h]
theorem dec2 (n : Nat) (h1 : ¬ n < 10) (h2 : n < 100) : decS n = ⟨#[UInt8.ofNat (48 + n / 10), UInt8.ofNat (48 + n % 10)]⟩ := by unfold decS; rw [Lib.decDigits_two h1 h2]
theorem text1 : (Ins.mk 23 1 2 0).text = ⟨#[114, 101, 97, 100, 32, 49, 32, 50]⟩ := by
  show nameS 23 ++ (blank ++ decS 1) ++ (blank ++ decS 2) = _
  rw [dec1 1 (by omega), dec1 2 (by omega)]; kernel_rfl
theorem text2 : (Ins.mk 17 2 0 16).text = ⟨#[108, 111, 97, 100, 50, 32, 49, 54]⟩ := by
  show nameS 17 ++ decS 2 ++ (blank ++ decS 16) = _
  rw [dec1 2 (by omega), dec2 16 (by omega) (by omega)]; kernel_rfl
theorem infoU8 : (Tryd.prog.info? 5).map (fun i => (i.zero, i.size, i.bytes)) = some (some (.int .u8 0), 1, 1) := by kernel_rfl
theorem byt1 : (Ins.mk 1 0 0 258).bytL.toArray = #[.int .u8 1, .int .u8 0, .int .u8 0, .int .u8 0, .int .u8 2, .int .u8 1, .int .u8 0, .int .u8 0] := by kernel_rfl
theorem rd (l : List Nat) : readI l.length (lX l) = readI l.length (lX l) := rfl
def bytes8 : Array Value := #[.int .u8 1, .int .u8 0, .int .u8 0, .int .u8 0, .int .u8 2, .int .u8 1, .int .u8 0, .int .u8 0]
theorem eq8 (w : World) : (Op.equalIn 10000 32 (.agg #[.int .u8 1, .int .u8 0, .int .u8 0, .int .u8 0, .int .u8 2, .int .u8 1, .int .u8 0, .int .u8 0]) (.agg #[.int .u8 1, .int .u8 0, .int .u8 0, .int .u8 0, .int .u8 2, .int .u8 1, .int .u8 0, .int .u8 0])).run Tryd.prog w = .ok true w := by kernel_rfl
theorem eqr (w : World) : (Op.equalIn 10000 27 (.agg #[.int .u8 23, .int .u8 1, .int .u16 2, .int .u32 0]) (.agg #[.int .u8 23, .int .u8 1, .int .u16 2, .int .u32 0])).run Tryd.prog w = .ok true w := by kernel_rfl
/-- Read at bytes that have just been laid. -/
theorem read_new (l : List Nat) (w : World) (h : l.all (· < 256) = true) (hl : l.length ≤ 8) (i : Ins) (E : Int) (hi : readI l.length (lX l) = i) (hE : readE l.length (lX l) = E) :
    Calls Tryd.prog 9 #[.slice (some ⟨w.heap.size, 0, none⟩) l.length l.length] (w.alloc (.cells (l.map fun n : Nat => Value.int .u8 ((n : Nat) : Int)).toArray 5)) fun e w' => e = .returned (.tuple #[i.val, .int .i64 E]) ∧ Below w.heap.size w w' := by
  subst hi; subst hE
  refine (read_any _ l.length l.length (lX l) _ (slice_new w l 0) (lX_lt l h) (by omega) (Nat.le_refl _)).mono ?_
  rintro e w' ⟨he, hb⟩
  exact ⟨he, (alloc_below w _).trans (hb.mono (by simp))⟩
theorem kept {w w' : World} {g : Nat} {o : Obj} (h : w.heap[g]? = some o) (hb : Below w.heap.size w w') : w'.heap[g]? = some o := (hb.block g (heap_lt h)).trans h
set_option maxHeartbeats 4000000 in
set_option maxRecDepth 100000 in
theorem known_any (w : World) : Calls Tryd.prog 8 #[] w fun e w' => e = .returned (.bool true) ∧ Below w.heap.size w w' := by
  have hz := zero32
  have he8 := eq8
  have her := eqr
  unfold Z8 at hz
  go_enter Tryd.func8, Tryd.ntmps8
  go_wp2_with fail
  refine (show Calls Tryd.prog 11 #[.agg #[.int .u8 1, .int .u8 0, .int .u16 0, .int .u32 258]] w _ from bytes_any ⟨1, 0, 0, 258⟩ w (by constructor <;> decide)).mono ?_
  rintro e w1 ⟨rfl, hb⟩
  have B1 := Lib.hid hb
  clear hb
  rw [byt1]
  obtain ⟨wb, hwb⟩ : ∃ x, x = w1.alloc (.cells #[.int .u8 1, .int .u8 0, .int .u8 0, .int .u8 0, .int .u8 2, .int .u8 1, .int .u8 0, .int .u8 0] 32) := ⟨_, rfl⟩
  have sz : wb.heap.size = w1.heap.size + 1 := by rw [hwb]; simp
  have HK1 : Hid (wb.heap[w1.heap.size]? = some (.cells #[.int .u8 1, .int .u8 0, .int .u8 0, .int .u8 0, .int .u8 2, .int .u8 1, .int .u8 0, .int .u8 0] 32 (0, 0))) := by rw [hwb]; exact heap_alloc_new _ _
  have BB : Hid (Below w.heap.size w wb) := by rw [hwb]; exact B1.out.alloc B1.out.size _
  go_wp2_with fail
  rw [← hwb, ← sz]
  generalize w1.heap.size = gB at *
  clear hwb sz
  refine (show Calls Tryd.prog 9 #[.slice (some ⟨wb.heap.size, 0, none⟩) 8 8] (wb.alloc (.cells #[.int .u8 23, .int .u8 1, .int .u8 2, .int .u8 0, .int .u8 0, .int .u8 0, .int .u8 0, .int .u8 0] 5)) _ from read_new [23, 1, 2, 0, 0, 0, 0, 0] wb (by decide) (by decide) ⟨23, 1, 2, 0⟩ 0 (by kernel_rfl) (by kernel_rfl)).mono ?_
  rintro e w3 ⟨rfl, hb⟩
  have B3 : Hid (Below w.heap.size w w3) := BB.out.trans (hb.mono BB.out.size)
  have HK3 := kept HK1.out hb
  clear hb HK1 BB B1
  unfold Ins.val
  have z0 := cell_row (j := 0) HK3 rfl
  have z1 := cell_row (j := 1) HK3 rfl
  have z2 := cell_row (j := 2) HK3 rfl
  have z3 := cell_row (j := 3) HK3 rfl
  have z4 := cell_row (j := 4) HK3 rfl
  have z5 := cell_row (j := 5) HK3 rfl
  have z6 := cell_row (j := 6) HK3 rfl
  have z7 := cell_row (j := 7) HK3 rfl
  have gk := heap_lt HK3
  clear HK3
  have BR : Hid (Below w.heap.size w (w3.alloc (.cells #[.int .u8 23, .int .u8 1, .int .u16 2, .int .u32 0] 27))) := B3.out.alloc B3.out.size _
  go_wp2_with fail
  refine (show Calls Tryd.prog 15 #[.agg #[.int .u8 23, .int .u8 1, .int .u16 2, .int .u32 0]] (w3.alloc (.cells #[.int .u8 23, .int .u8 1, .int .u16 2, .int .u32 0] 27)) _ from text_any ⟨23, 1, 2, 0⟩ _ (by constructor <;> decide) (fun W _ => fmt_small 0 (by omega) W)).mono ?_
  rintro e w4 ⟨rfl, hb⟩
  have B4 : Hid (Below w.heap.size w w4) := BR.out.trans (hb.mono BR.out.size)
  clear hb BR B3 gk z0 z1 z2 z3 z4 z5 z6 z7
  rw [text1]
  go_wp2_with fail
  refine (show Calls Tryd.prog 15 #[.agg #[.int .u8 17, .int .u8 2, .int .u16 0, .int .u32 16]] w4 _ from text_any ⟨17, 2, 0, 16⟩ _ (by constructor <;> decide) (fun W _ => fmt_small 16 (by omega) W)).mono ?_
  rintro e w5 ⟨rfl, hb⟩
  have B5 : Hid (Below w.heap.size w w5) := B4.out.trans (hb.mono B4.out.size)
  clear hb B4
  rw [text2]
  go_wp2_with fail
  refine (show Calls Tryd.prog 9 #[.slice (some ⟨w5.heap.size, 0, none⟩) 8 8] (w5.alloc (.cells #[.int .u8 17, .int .u8 3, .int .u8 0, .int .u8 0, .int .u8 0, .int .u8 0, .int .u8 0, .int .u8 0] 5)) _ from read_new [17, 3, 0, 0, 0, 0, 0, 0] w5 (by decide) (by decide) noIns 90 (by kernel_rfl) (by kernel_rfl)).mono ?_
  rintro e w6 ⟨rfl, hb⟩
  have B6 : Hid (Below w.heap.size w w6) := B5.out.trans (hb.mono B5.out.size)
  clear hb B5
  unfold Ins.val noIns
  obtain ⟨w7, hw7⟩ : ∃ x, x = w6.alloc (.cells #[.int .u8 0, .int .u8 0, .int .u16 0, .int .u32 0] 27) := ⟨_, rfl⟩
  have B7 : Hid (Below w.heap.size w w7) := by rw [hw7]; exact B6.out.alloc B6.out.size _
  have s7 : w7.heap.size = w6.heap.size + 1 := by rw [hw7]; simp
  have hmk : ∀ w : World, (Instr.makeSlice 22 (.int .i64 8) (.int .i64 8)).run Tryd.prog w = .ok (.slice (some ⟨w.heap.size, 0, none⟩) 8 8) (w.alloc (.cells #[.int .u8 0, .int .u8 0, .int .u8 0, .int .u8 0, .int .u8 0, .int .u8 0, .int .u8 0, .int .u8 0] 5)) := fun w => by
    have h := run_make_row' (P := Tryd.prog) 22 5 (.int .u8 0) 1 Tryd.underlying22 infoU8 rfl .i64 .i64 8 (by omega) (by omega) w
    have hmd : madeCells #[.int .u8 0] 8 = #[.int .u8 0, .int .u8 0, .int .u8 0, .int .u8 0, .int .u8 0, .int .u8 0, .int .u8 0, .int .u8 0] := by kernel_rfl
    rw [hmd] at h
    exact h
  go_wp2_with fail
  rw [← hw7, ← s7]
  clear hw7 s7 hmk B6
  refine (show Calls Tryd.prog 9 #[.slice (some ⟨w7.heap.size, 0, none⟩) 8 8] (w7.alloc (.cells #[.int .u8 0, .int .u8 0, .int .u8 0, .int .u8 0, .int .u8 0, .int .u8 0, .int .u8 0, .int .u8 0] 5)) _ from read_new [0, 0, 0, 0, 0, 0, 0, 0] w7 (by decide) (by decide) noIns 90 (by kernel_rfl) (by kernel_rfl)).mono ?_
  rintro e w8 ⟨rfl, hb⟩
  have B8 : Hid (Below w.heap.size w w8) := B7.out.trans (hb.mono B7.out.size)
  clear hb B7
  unfold Ins.val noIns
  obtain ⟨w9, hw9⟩ : ∃ x, x = w8.alloc (.cells #[.int .u8 0, .int .u8 0, .int .u16 0, .int .u32 0] 27) := ⟨_, rfl⟩
  have B9 : Hid (Below w.heap.size w w9) := by rw [hw9]; exact B8.out.alloc B8.out.size _
  have s9 : w9.heap.size = w8.heap.size + 1 := by rw [hw9]; simp
  go_wp2_with fail
  rw [← hw9, ← s9]
  clear hw9 s9 B8
  refine (show Calls Tryd.prog 9 #[.slice (some ⟨w9.heap.size, 0, none⟩) 8 8] (w9.alloc (.cells #[.int .u8 2, .int .u8 0, .int .u8 0, .int .u8 0, .int .u8 1, .int .u8 0, .int .u8 0, .int .u8 0] 5)) _ from read_new [2, 0, 0, 0, 1, 0, 0, 0] w9 (by decide) (by decide) noIns 90 (by kernel_rfl) (by kernel_rfl)).mono ?_
  rintro e wx ⟨rfl, hb⟩
  have BX : Hid (Below w.heap.size w wx) := B9.out.trans (hb.mono B9.out.size)
  clear hb B9
  unfold Ins.val noIns
  obtain ⟨wy, hwy⟩ : ∃ x, x = wx.alloc (.cells #[.int .u8 0, .int .u8 0, .int .u16 0, .int .u32 0] 27) := ⟨_, rfl⟩
  have BY : Hid (Below w.heap.size w wy) := by rw [hwy]; exact BX.out.alloc BX.out.size _
  have sy : wy.heap.size = wx.heap.size + 1 := by rw [hwy]; simp
  have hmk : ∀ w : World, (Instr.makeSlice 22 (.int .i64 7) (.int .i64 7)).run Tryd.prog w = .ok (.slice (some ⟨w.heap.size, 0, none⟩) 7 7) (w.alloc (.cells #[.int .u8 0, .int .u8 0, .int .u8 0, .int .u8 0, .int .u8 0, .int .u8 0, .int .u8 0] 5)) := fun w => by
    have h := run_make_row' (P := Tryd.prog) 22 5 (.int .u8 0) 1 Tryd.underlying22 infoU8 rfl .i64 .i64 7 (by omega) (by omega) w
    have hmd : madeCells #[.int .u8 0] 7 = #[.int .u8 0, .int .u8 0, .int .u8 0, .int .u8 0, .int .u8 0, .int .u8 0, .int .u8 0] := by kernel_rfl
    rw [hmd] at h
    exact h
  go_wp2_with fail
  rw [← hwy, ← sy]
  clear hwy sy hmk BX
  refine (show Calls Tryd.prog 9 #[.slice (some ⟨wy.heap.size, 0, none⟩) 7 7] (wy.alloc (.cells #[.int .u8 0, .int .u8 0, .int .u8 0, .int .u8 0, .int .u8 0, .int .u8 0, .int .u8 0] 5)) _ from read_new [0, 0, 0, 0, 0, 0, 0] wy (by decide) (by decide) noIns 40 (by kernel_rfl) (by kernel_rfl)).mono ?_
  rintro e wz ⟨rfl, hb⟩
  have BZ : Hid (Below w.heap.size w wz) := BY.out.trans (hb.mono BY.out.size)
  clear hb BY
  unfold Ins.val noIns
  go_wp2_with fail
  go_ret
  exact ⟨rfl, BZ.out.alloc BZ.out.size _⟩
end Go.Proofs.YtobagnabkphegaaDoor
