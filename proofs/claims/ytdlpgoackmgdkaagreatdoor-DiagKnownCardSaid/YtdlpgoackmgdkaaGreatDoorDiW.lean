/- The log's writer puts lines; word, the closure that writes a word's place. -/
import Derived.Test.YtdlpgoackmgdkaaGreatDoorDiBl
import Derived.Test.YtdlpgoackmgdkaaGreatDoorDiA
namespace Go.Proofs.YtdlpgoackmgdkaaGreatDoor
open Go.RowKit Go.Shelf
set_option linter.unusedVariables false
set_option linter.unusedSimpArgs false
def lnB (s : ByteArray) : List UInt8 := s.data.toList ++ [10]
def linesT (ss : List ByteArray) : List UInt8 := ss.flatMap lnB
def s0 : ByteArray := ⟨#[]⟩
def StrsAt (w : World) (g : Nat) (ss : List ByteArray) : Prop := RowAt w g 9 ss.length (fun i => .string (ss.getD i s0))
theorem rowAt_others {w w' : World} {g b n : Nat} {t : TypeId} {V : Nat → Value} (h : RowAt w g t n V) (ho : Lib.OthersKept 5 (some b) w w') (hne : g ≠ b) (ht : t ≠ 5) : RowAt w' g t n V := by
  obtain ⟨cur, h1, h2⟩ := h
  exact ⟨cur, ho g _ h1 (fun e => hne (Option.some.inj e)) (fun c fz e => ht (by cases e; rfl)), h2⟩
theorem StrsAt.others {w w' : World} {g b : Nat} {ss : List ByteArray} (h : StrsAt w g ss) (ho : Lib.OthersKept 5 (some b) w w') (hne : g ≠ b) : StrsAt w' g ss := rowAt_others h ho hne (by decide)
theorem linesT_step (ss : List ByteArray) {k : Nat} (h : k < ss.length) : linesT (ss.take (k + 1)) = linesT (ss.take k) ++ lnB (ss.getD k s0) := by
  unfold linesT
  rw [List.take_succ_eq_append_getElem h, List.flatMap_append, List.getD_eq_getElem?_getD, List.getElem?_eq_getElem h]
  simp
theorem linesT_mono (ss : List ByteArray) (k : Nat) : (linesT (ss.take k)).length ≤ (linesT ss).length := by
  conv => rhs; rw [← List.take_append_drop k ss]
  unfold linesT
  rw [List.flatMap_append, List.length_append]; omega
set_option maxRecDepth 100000 in
set_option maxHeartbeats 4000000 in
theorem put_any (B b : Nat) (l : List UInt8) (g c : Nat) (ss : List ByteArray) (w : World) (h : WrAt B b l w) (hS : StrsAt w g ss) (hgb : g ≠ b) (hB : B ≤ w.heap.size) (hm : l.length + (linesT ss).length ≤ 1000000) (hn : ss.length ≤ 1000) :
    Calls Tryz.prog 59 #[.pointer (some ⟨b, 0, none⟩), .slice (some ⟨g, 0, none⟩) ss.length c] w fun e w' => e = .returned (.tuple #[]) ∧ WrAt B b (l ++ linesT ss) w' ∧ Below B w w' ∧ Lib.OthersKept 5 (some b) w w' := by
  have HW := Lib.hid h
  have HS := Lib.hid hS
  obtain ⟨n, hnn⟩ : ∃ n, n = ss.length := ⟨_, rfl⟩
  rw [← hnn] at hn ⊢
  have HN := Lib.hid hnn
  have HF : Hid (linesT (ss.take n) = linesT ss) := by show _ = _; rw [hnn, List.take_length]
  have HMO := Lib.hid (linesT_mono ss)
  clear h hS hnn
  obtain ⟨T, hT⟩ : ∃ T, T = linesT ss := ⟨_, rfl⟩
  rw [← hT] at HF HMO hm ⊢
  clear hT
  go_enter Tryz.func59, Tryz.ntmps59
  go_wp2_with fail
  go_loopw [8] (fun i wr => ∃ k : Nat, k ≤ n ∧ i = .int .i64 (k : Int) ∧ Hid (WrAt B b (l ++ linesT (ss.take k)) wr) ∧ Hid (Below B w wr) ∧ Hid (Lib.OthersKept 5 (some b) w wr)) (fun i _ => n - (intOf i).toNat)
  case atStart => exact ⟨0, Nat.zero_le _, rfl, by (show WrAt _ _ _ _; rw [List.take_zero, show linesT [] = [] from rfl, List.append_nil]; exact HW.out), Below.refl _ _, Lib.OthersKept.refl _ _ _⟩
  case round =>
    clear HW
    obtain ⟨k, hk, rfl, HW, BB, OK⟩ := hrel
    rcases Nat.lt_or_ge k n with hk2 | hk2
    case inr =>
      obtain rfl : k = n := by omega
      have t2 : decide ((k : Int) < (k : Int)) = false := by simp
      rw [HF.out] at HW
      go_wp2_with fail
      go_end0
      exact ⟨rfl, HW.out, BB.out, OK.out⟩
    have t2 : decide ((k : Int) < (n : Int)) = true := decide_eq_true (by omega)
    have i1 : (k : Int) < (n : Int) := by omega
    have SS := HS.out.others OK.out hgb
    have x0 : wr.cell? ⟨g, k, none⟩ = some (.string (ss.getD k s0)) := SS.cell (by rw [← HN.out]; exact hk2)
    have hgl := SS.lt
    have HST := Lib.hid (linesT_step ss (k := k) (by rw [← HN.out]; exact hk2))
    have hl1 := HMO.out (k + 1)
    rw [HST.out, List.length_append] at hl1
    generalize ss.getD k s0 = x at *
    have hxl : (lnB x).length = x.size + 1 := by unfold lnB; rw [List.length_append, size_list]; rfl
    have z1 : ¬ 9223372036854775807 < x.size + 1 := by omega
    have HC := Lib.hid (ws_any B b (l ++ linesT (ss.take k)) (x ++ (⟨#[10]⟩ : ByteArray)) wr HW.out (by rw [List.length_append, show (x ++ (⟨#[10]⟩ : ByteArray)).size = x.size + 1 from ByteArray.size_append]; omega) (Nat.le_trans hB BB.out.size))
    have HD : Hid (l ++ linesT (ss.take k) ++ (x ++ (⟨#[10]⟩ : ByteArray)).data.toList = l ++ linesT (ss.take (k + 1))) := by
      show _ = _
      rw [HST.out, data_app, List.append_assoc]; rfl
    clear SS hl1 hxl HW
    go_wp2_with fail
    refine HC.out.mono ?_
    rintro e w2 ⟨rfl, hw, hb, ho⟩
    rw [HD.out] at hw
    have HW2 := Lib.hid hw.wr
    have B2 : Hid (Below B w w2) := BB.out.trans hb
    have O2 : Hid (Lib.OthersKept 5 (some b) w w2) := OK.out.trans ho
    clear HC hw hb ho x0 hgl
    go_wp2_with fail
    refine ⟨⟨k + 1, by omega, by go_num, HW2, B2, O2⟩, ?_⟩
    simp [intOf]; omega
theorem WrAt.below {B b : Nat} {l : List UInt8} {w w' : World} (h : WrAt B b l w) (hb : Below w.heap.size w w') : WrAt B b l w' := by
  obtain ⟨h0, p, v, hp, hk, ho, hn⟩ := h
  refine ⟨h0, p, v, hp, (hb.block _ (heap_lt hk)).trans hk, ⟨ho.1, ?_⟩, hn⟩
  rcases ho.2 with h1 | ⟨g, cap, cur, fz, e, h1, h2, h3⟩
  · exact .inl h1
  · exact .inr ⟨g, cap, cur, fz, e, h1, (hb.block _ (heap_lt h2)).trans h2, h3⟩
theorem WrAt.blt {B b : Nat} {l : List UInt8} {w : World} (h : WrAt B b l w) : b < w.heap.size := by
  obtain ⟨h0, p, v, hp, hk, _⟩ := h
  exact heap_lt hk
theorem WrAt.fresh (w : World) : WrAt w.heap.size w.heap.size [] (w.alloc (.cells #[.pointer none, .slice none 0 0] 111)) :=
  ⟨Nat.le_refl _, .pointer none, .slice none 0 0, .inl rfl, heap_alloc_new _ _, ⟨rfl, .inl ⟨rfl, rfl⟩⟩, by simp [Value.ownBlock]⟩
def strRow (ss : List ByteArray) : Array Value := (ss.map Value.string).toArray
theorem strRow_new (w : World) (ss : List ByteArray) : StrsAt (w.alloc (.cells (strRow ss) 9)) w.heap.size ss := by
  refine ⟨strRow ss, heap_alloc_new _ _, by unfold strRow; simp, fun i hi => ?_⟩
  unfold strRow
  rw [List.getElem?_toArray, List.getElem?_map, List.getElem?_eq_getElem hi]
  show some (Value.string ss[i]) = some (Value.string (ss.getD i s0))
  rw [List.getD_eq_getElem?_getD, List.getElem?_eq_getElem hi]; rfl
/-- Lines that were just made. -/
theorem put_new (B b : Nat) (l : List UInt8) (ss : List ByteArray) (n : Nat) (hn0 : n = ss.length) (w : World) (h : WrAt B b l w) (hB : B ≤ w.heap.size) (hm : l.length + (linesT ss).length ≤ 1000000) (hn : ss.length ≤ 1000) :
    Calls Tryz.prog 59 #[.pointer (some ⟨b, 0, none⟩), .slice (some ⟨w.heap.size, 0, none⟩) n n] (w.alloc (.cells (strRow ss) 9)) fun e w' => e = .returned (.tuple #[]) ∧ WrAt B b (l ++ linesT ss) w' ∧ Below B w w' ∧ Lib.OthersKept 5 (some b) w w' := by
  subst hn0
  have hb := alloc_below w (.cells (strRow ss) 9)
  refine (put_any B b l w.heap.size ss.length ss _ (h.below hb) (strRow_new w ss) (by have := h.blt; omega) (Nat.le_trans hB hb.size) hm hn).mono ?_
  rintro e w' ⟨rfl, h1, h2, h3⟩
  exact ⟨rfl, h1, (hb.mono hB).trans h2, ((Lib.OthersKept.refl _ _ w).alloc _).trans h3⟩
set_option maxRecDepth 100000 in
theorem word_any (g base j : Nat) (w : World) (hb : w.cell? ⟨g, 1, none⟩ = some (.int .u32 (base : Int))) (hb0 : base < 4294967296) (hj : j ≤ 10000) (hT : TabW w) :
    Calls Tryz.prog 56 #[.int .i64 (j : Int), .pointer (some ⟨g, 0, none⟩)] w fun e w' => e = .returned (.string (decS (base + 4 * j))) ∧ Below w.heap.size w w' := by
  have HF := Lib.hid (fmt_any (base + 4 * j) (by omega) w hT)
  rw [show ((base + 4 * j : Nat) : Int) = (base : Int) + 4 * (j : Int) by omega] at HF
  have e0 : (4 * (j : Int)) % 18446744073709551616 = 4 * (j : Int) := by omega
  have e1 : ((base : Int) + 4 * (j : Int)) % 18446744073709551616 = (base : Int) + 4 * (j : Int) := by omega
  generalize decS (base + 4 * j) = R at *
  go_enter Tryz.func56, Tryz.ntmps56
  go_wp2_with fail
  refine HF.out.mono ?_
  rintro e w2 ⟨rfl, hb2⟩
  have HB := Lib.hid hb2
  clear HF hb2
  go_wp2_with fail
  go_ret
  exact ⟨rfl, HB.out⟩
end Go.Proofs.YtdlpgoackmgdkaaGreatDoor
