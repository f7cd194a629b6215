/- The reader: a point, a word, a number. -/
import Derived.Test.YtpodedhnlicckaaGreatDoorTbSp
import Derived.Test.YtpodedhnlicckaaGreatDoorTabF
import Derived.BigRegion
namespace Go.Proofs.YtpodedhnlicckaaGreatDoor
open Go.Shelf Go.RowKit Go.Sort
set_option linter.unusedVariables false
set_option linter.unusedSimpArgs false
/-- What point tells. -/
def lastN (l : List UInt8) : Nat := (l.getLastD 0).toNat
def ptS (l : List UInt8) : (Int × Bool) × Bool := if l = [] ∨ (lastN l ≠ 43 ∧ lastN l ≠ 45) then ((0, false), false) else ((((digS l.dropLast).1 : Nat), decide (lastN l = 45)), (digS l.dropLast).2)
def PtP (s : ByteArray) (w : World) (e : Ending) (w' : World) : Prop := e = .returned (.tuple #[.agg #[.int .i64 (ptS s.data.toList).1.1, .bool (ptS s.data.toList).1.2], .bool (ptS s.data.toList).2]) ∧ Below w.heap.size w w'
theorem lastN_byte {s : ByteArray} (h : 0 < s.size) : lastN s.data.toList = byteN s (s.size - 1) := by
  unfold lastN byteN
  rw [← size_list] at h ⊢
  have hne : s.data.toList ≠ [] := by intro e; rw [e] at h; simp at h
  rw [List.getLastD_eq_getLast?, List.getLast?_eq_getElem?, List.getD_eq_getElem?_getD]
theorem empty_is {s : ByteArray} (h : s.size = 0) : s.toList.isEmpty = true := by
  rw [ByteArray.toList_eq]
  rw [← size_list] at h
  rw [List.length_eq_zero_iff.1 h]; rfl
theorem ext_drop (s : ByteArray) (h : 0 < s.size) : (s.extract 0 (s.size - 1)).data.toList = s.data.toList.dropLast := by
  rw [← size_list] at h ⊢
  rw [ByteArray.data_extract, Array.toList_extract, List.dropLast_eq_take]
  simp
set_option maxHeartbeats 2000000 in
set_option maxRecDepth 100000 in
theorem point_any (s : ByteArray) (w : World) (hs : s.size ≤ 9223372036854775807) : Calls Tryz.prog 69 #[.string s] w (PtP s w) := by
  by_cases h0 : s.size = 0
  · have HD : Hid (ptS s.data.toList = ((0, false), false)) := by
      show _ = _
      rw [← size_list] at h0
      unfold ptS; rw [if_pos (.inl (List.length_eq_zero_iff.1 h0))]
    have te := empty_is h0
    have HB : Hid (Below w.heap.size w ((w.alloc (.cells #[.int .i64 0, .bool false] 57)))) := (Below.refl _ _).alloc (Nat.le_refl _) _
    clear h0
    go_enter Tryz.func69, Tryz.ntmps69
    go_wp2_with fail
    exact bodyPost_ret (v := .tuple #[.agg #[.int .i64 0, .bool false], .bool false]) (by simp [results, Tryz.results69, go_sem]) rfl ⟨by rw [HD.out], HB.out⟩
  have te := empty_no (Nat.pos_of_ne_zero h0)
  have HLB : Hid (lastN s.data.toList = byteN s (s.size - 1)) := lastN_byte (Nat.pos_of_ne_zero h0)
  have hi : ∀ W, (Instr.index 9 (.string s) (.int .i64 ((s.size : Int) - 1))).run Tryz.prog W = .ok (.int .u8 ((byteN s (s.size - 1) : Nat) : Int)) W := fun W => by
    have h := index_str s (s.size - 1) (by omega) 9 Tryz.underlying9 W
    rw [show ((s.size - 1 : Nat) : Int) = (s.size : Int) - 1 by omega] at h
    exact h
  have HNE : Hid (s.data.toList ≠ []) := by
    show _ ≠ _
    intro e
    rw [← size_list, e] at h0; exact h0 rfl
  have hz : 1 ≤ s.size := by omega
  have HB : Hid (Below w.heap.size w (w.alloc (.cells #[.int .i64 0, .bool false] 57))) := (Below.refl _ _).alloc (Nat.le_refl _) _
  have HED : Hid ((s.extract 0 (s.size - 1)).data.toList = s.data.toList.dropLast) := ext_drop s (by omega)
  have hez : (s.extract 0 (s.size - 1)).size ≤ 9223372036854775807 := by rw [ByteArray.size_extract]; omega
  have HDG := Lib.hid (fun W => digits_any (s.extract 0 (s.size - 1)) W hez)
  rw [← HLB.out] at hi
  generalize hlb : lastN s.data.toList = lb at *
  have HLL := Lib.hid hlb
  clear h0 hlb HLB hez
  by_cases h43 : lb = 43
  · have HD : Hid (ptS s.data.toList = (((((digS s.data.toList.dropLast).1 : Nat) : Int), false), (digS s.data.toList.dropLast).2)) := by
      show _ = _
      unfold ptS
      rw [HLL.out, if_neg (by rintro (h | h); exact HNE.out h; exact h.1 h43), decide_eq_false (show ¬ lb = 45 by omega)]
    subst h43
    go_enter Tryz.func69, Tryz.ntmps69
    go_wp2_with fail
    refine (HDG.out _).mono ?_
    rintro e w1 ⟨rfl, hb⟩
    have HK : Hid (w1.heap[w.heap.size]? = some (.cells #[.int .i64 0, .bool false] 57 (0, 0))) := tb_kept (heap_alloc_new _ _) hb
    have HB1 := Lib.hid (HB.out.trans (hb.mono HB.out.size))
    rw [HED.out] at *
    generalize digS s.data.toList.dropLast = d at *
    obtain ⟨dn, db⟩ := d
    have c0 : w1.cell? ⟨w.heap.size, 0, none⟩ = some (.int .i64 0) := cell_row HK.out rfl
    have c1 : w1.cell? ⟨w.heap.size, 1, none⟩ = some (.bool false) := cell_row HK.out rfl
    have f0 : w1.frozen? ⟨w.heap.size, 0, none⟩ = false := frozen_of_row _ _ _ _ _ HK.out
    have f1 : w1.frozen? ⟨w.heap.size, 1, none⟩ = false := frozen_of_row _ _ _ _ _ HK.out
    clear hb HDG HED HB
    obtain ⟨b, hbe⟩ : ∃ b, b = w.heap.size := ⟨_, rfl⟩
    have HBB : Hid (w.heap.size ≤ b) := Nat.le_of_eq hbe.symm
    rw [← hbe] at HK c0 c1 f0 f1 ⊢
    clear hbe
    have HK2 : Hid (((w1.setCell ⟨b, 0, none⟩ (.int .i64 (dn : Int))).setCell ⟨b, 1, none⟩ (.bool false)).heap[b]? = some (.cells #[.int .i64 (dn : Int), .bool false] 57 (0, 0))) := heap_setCell_same _ _ _ _ _ _ (heap_setCell_same _ _ _ _ _ _ HK.out)
    have HB2 : Hid (Below w.heap.size w ((w1.setCell ⟨b, 0, none⟩ (.int .i64 (dn : Int))).setCell ⟨b, 1, none⟩ (.bool false))) := (HB1.out.setCell (p := ⟨b, 0, none⟩) HBB.out _).setCell (p := ⟨b, 1, none⟩) HBB.out _
    go_wp2_with fail
    generalize (w1.setCell ⟨b, 0, none⟩ (.int .i64 (dn : Int))).setCell ⟨b, 1, none⟩ (.bool false) = w2 at *
    have d0 : w2.cell? ⟨b, 0, none⟩ = some (.int .i64 (dn : Int)) := cell_row HK2.out rfl
    have d1 : w2.cell? ⟨b, 1, none⟩ = some (.bool false) := cell_row HK2.out rfl
    clear c0 c1 f0 f1
    exact bodyPost_ret (v := .tuple #[.agg #[.int .i64 (dn : Int), .bool false], .bool db]) (by simp [results, Tryz.results69, go_sem, d0, d1]) rfl ⟨by rw [HD.out], HB2.out⟩
  have t1 : (((lb : Nat) : Int) != 43) = true := bne_iff_ne.2 (by omega)
  by_cases h45 : lb = 45
  · have HD : Hid (ptS s.data.toList = (((((digS s.data.toList.dropLast).1 : Nat) : Int), true), (digS s.data.toList.dropLast).2)) := by
      show _ = _
      unfold ptS
      rw [HLL.out, if_neg (by rintro (h | h); exact HNE.out h; exact h.2 h45), decide_eq_true h45]
    subst h45
    clear t1 h43
    go_enter Tryz.func69, Tryz.ntmps69
    go_wp2_with fail
    refine (HDG.out _).mono ?_
    rintro e w1 ⟨rfl, hb⟩
    have HK : Hid (w1.heap[w.heap.size]? = some (.cells #[.int .i64 0, .bool false] 57 (0, 0))) := tb_kept (heap_alloc_new _ _) hb
    have HB1 := Lib.hid (HB.out.trans (hb.mono HB.out.size))
    rw [HED.out] at *
    generalize digS s.data.toList.dropLast = d at *
    obtain ⟨dn, db⟩ := d
    have c0 : w1.cell? ⟨w.heap.size, 0, none⟩ = some (.int .i64 0) := cell_row HK.out rfl
    have c1 : w1.cell? ⟨w.heap.size, 1, none⟩ = some (.bool false) := cell_row HK.out rfl
    have f0 : w1.frozen? ⟨w.heap.size, 0, none⟩ = false := frozen_of_row _ _ _ _ _ HK.out
    have f1 : w1.frozen? ⟨w.heap.size, 1, none⟩ = false := frozen_of_row _ _ _ _ _ HK.out
    clear hb HDG HED HB
    obtain ⟨b, hbe⟩ : ∃ b, b = w.heap.size := ⟨_, rfl⟩
    have HBB : Hid (w.heap.size ≤ b) := Nat.le_of_eq hbe.symm
    rw [← hbe] at HK c0 c1 f0 f1 ⊢
    clear hbe
    have HK2 : Hid (((w1.setCell ⟨b, 0, none⟩ (.int .i64 (dn : Int))).setCell ⟨b, 1, none⟩ (.bool true)).heap[b]? = some (.cells #[.int .i64 (dn : Int), .bool true] 57 (0, 0))) := heap_setCell_same _ _ _ _ _ _ (heap_setCell_same _ _ _ _ _ _ HK.out)
    have HB2 : Hid (Below w.heap.size w ((w1.setCell ⟨b, 0, none⟩ (.int .i64 (dn : Int))).setCell ⟨b, 1, none⟩ (.bool true))) := (HB1.out.setCell (p := ⟨b, 0, none⟩) HBB.out _).setCell (p := ⟨b, 1, none⟩) HBB.out _
    go_wp2_with fail
    generalize (w1.setCell ⟨b, 0, none⟩ (.int .i64 (dn : Int))).setCell ⟨b, 1, none⟩ (.bool true) = w2 at *
    have d0 : w2.cell? ⟨b, 0, none⟩ = some (.int .i64 (dn : Int)) := cell_row HK2.out rfl
    have d1 : w2.cell? ⟨b, 1, none⟩ = some (.bool true) := cell_row HK2.out rfl
    clear c0 c1 f0 f1
    exact bodyPost_ret (v := .tuple #[.agg #[.int .i64 (dn : Int), .bool true], .bool db]) (by simp [results, Tryz.results69, go_sem, d0, d1]) rfl ⟨by rw [HD.out], HB2.out⟩
  · have HD : Hid (ptS s.data.toList = ((0, false), false)) := by
      show _ = _
      unfold ptS
      rw [HLL.out, if_pos (.inr ⟨h43, h45⟩)]
    have t2 : (((lb : Nat) : Int) != 45) = true := bne_iff_ne.2 (by omega)
    clear h43 h45 HDG HED
    go_enter Tryz.func69, Tryz.ntmps69
    go_wp2_with fail
    exact bodyPost_ret (v := .tuple #[.agg #[.int .i64 0, .bool false], .bool false]) (by simp [results, Tryz.results69, go_sem]) rfl ⟨by rw [HD.out], HB.out⟩
end Go.Proofs.YtpodedhnlicckaaGreatDoor
