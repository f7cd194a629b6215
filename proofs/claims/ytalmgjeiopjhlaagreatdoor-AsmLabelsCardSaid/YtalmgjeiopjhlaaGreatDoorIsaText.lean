/- Text. -/
import Derived.Test.YtalmgjeiopjhlaaGreatDoorIsaLay
import Derived.Test.YtalmgjeiopjhlaaGreatDoorIsaRRead
import Derived.Lib.ItoaLen
namespace Go.Proofs.YtalmgjeiopjhlaaGreatDoor
open Go.RowKit
set_option linter.unusedVariables false
set_option linter.unusedSimpArgs false
def nameS (op : Nat) : ByteArray := ⟨(rowAt op).name.toArray⟩
def blank : ByteArray := ⟨#[32]⟩
def textN (nm : Nat) (s : ByteArray) (a b c : Nat) : ByteArray := if nm = 0 then s else if nm = 1 then s ++ (blank ++ decS a) else if nm = 3 then s ++ (blank ++ decS a) ++ (blank ++ decS b) else if nm = 4 then s ++ (blank ++ decS c) else s ++ decS a ++ (blank ++ decS c)
def Ins.text (i : Ins) : ByteArray := if i.may then textN (rowAt i.op).nm (nameS i.op) i.a i.b i.c else ⟨#[]⟩
theorem mayN_small {nm a b c : Nat} (h : mayN nm a b c = true) (h2 : nm = 1 ∨ nm = 3 ∨ nm = 12) : a < 100 ∧ b < 100 := by
  unfold mayN at h
  simp only [Bool.and_eq_true, decide_eq_true_eq] at h
  refine ⟨?_, by omega⟩
  rcases h2 with rfl | rfl | rfl
  · simp at h; omega
  · simp at h; omega
  · simp at h; omega
def FmtOf (c : Nat) (w : World) : Prop := ∀ W, Below w.heap.size w W → Calls Tryz.prog 53 #[.int .u64 (c : Int), .int .i64 10] W fun e w' => e = .returned (.string (decS c)) ∧ Below W.heap.size W w'
theorem decS_size (n : Nat) (h : n < 18446744073709551616) : (decS n).size ≤ 20 := by
  show (Lib.decDigits n).toArray.size ≤ 20
  rw [List.size_toArray, Lib.decDigits_length]
  exact Lib.nDigits_le20 n h
theorem name_size0 : ∀ op, op < 28 → (rowAt op).name.length ≤ 5 := by decide
theorem nameS_size (op : Nat) : (nameS op).size ≤ 5 := by
  show (rowAt op).name.toArray.size ≤ 5
  rw [List.size_toArray]
  by_cases h : op < 28
  · exact name_size0 op h
  · rw [rowAt_none (by omega)]; decide

set_option maxHeartbeats 4000000 in
set_option maxRecDepth 100000 in
theorem text_any (i : Ins) (w : World) (h : i.ok) (hF : FmtOf i.c w) :
    Calls Tryz.prog 33 #[i.val] w fun e w' => e = .returned (.string i.text) ∧ Below w.heap.size w w' := by
  obtain ⟨wa, hwa⟩ : ∃ x, x = w.alloc (.cells #[.int .u8 (i.op : Int), .int .u8 (i.a : Int), .int .u16 (i.b : Int), .int .u32 (i.c : Int)] 32) := ⟨_, rfl⟩
  have HM : Hid (Calls Tryz.prog 27 #[.agg #[.int .u8 (i.op : Int), .int .u8 (i.a : Int), .int .u16 (i.b : Int), .int .u32 (i.c : Int)]] wa fun e w' => e = .returned (.bool i.may) ∧ Below wa.heap.size wa w') := may_any i wa h
  have hw0 : Hid (wa.heap[w.heap.size]? = some (.cells #[.int .u8 (i.op : Int), .int .u8 (i.a : Int), .int .u16 (i.b : Int), .int .u32 (i.c : Int)] 32 (0, 0))) := by rw [hwa]; exact heap_alloc_new _ _
  have BA : Hid (Below w.heap.size w wa) := by rw [hwa]; exact alloc_below _ _
  have hlt := heap_lt hw0.out
  have HWA := Lib.hid hwa
  have HF : Hid (∀ W, Below w.heap.size w W → Calls Tryz.prog 53 #[.int .u64 (i.c : Int), .int .i64 10] W fun e w' => e = .returned (.string (decS i.c)) ∧ Below W.heap.size W w') := hF
  have HOP := Lib.hid h.op
  have ha8 := h.a
  have hb16 := h.b
  have hc32 := h.c
  clear hwa hF
  unfold Ins.val
  cases hm : i.may
  case false =>
    have E : i.text = ⟨#[]⟩ := by unfold Ins.text; rw [hm]; rfl
    rw [E]
    rw [hm] at HM
    clear E hm
    go_enter Tryz.func33, Tryz.ntmps33
    have z0 := cell_row (j := 0) hw0.out rfl
    have z1 := cell_row (j := 1) hw0.out rfl
    have z2 := cell_row (j := 2) hw0.out rfl
    have z3 := cell_row (j := 3) hw0.out rfl
    go_wp2_with fail
    rw [← HWA.out]
    generalize hgb : w.heap.size = gb at *
    refine HM.out.mono ?_
    rintro e w1 ⟨rfl, hb⟩
    have B1 : Hid (Below gb w w1) := BA.out.trans (hb.mono (Nat.le_of_lt hlt))
    have I1 : w1.heap[gb]? = some (.cells #[.int .u8 (i.op : Int), .int .u8 (i.a : Int), .int .u16 (i.b : Int), .int .u32 (i.c : Int)] 32 (0, 0)) := (hb.block gb hlt).trans hw0.out
    clear hb z0 z1 z2 z3
    clear I1
    go_wp2_with fail
    go_ret
    exact ⟨rfl, by first | exact B1.out | (rw [hgb]; exact B1.out)⟩
  case true =>
    rw [hm] at HM
    have E : i.text = textN (rowAt i.op).nm (nameS i.op) i.a i.b i.c := by unfold Ins.text; rw [hm]; rfl
    rcases row_class i.op with ⟨hn, hr⟩ | ⟨hn, ho, hr⟩
    · exact absurd hm (by rw [may_no hr]; decide)
    have hM : mayN (rowAt i.op).nm i.a i.b i.c = true := by rw [← may_of hn rfl]; exact hm
    rw [E]
    have HN : Hid (nameS i.op = ⟨(rowAt i.op).name.toArray⟩) := rfl
    clear E hm ho hn
    rcases hr with hr | ⟨hr, hmo⟩ | ⟨hr, hmo⟩ | hr | hr

    · rw [hr]
      have HR := Lib.hid hr
      have HT : Hid (textN 0 (nameS i.op) i.a i.b i.c = nameS i.op) := rfl
      rw [HT.out]
      clear hr hM HT
      have hb8 : (bits BinOp.and IntKind.u8 0 8 != 0) = false := by decide
      have hb1 : (bits BinOp.and IntKind.u8 0 1 != 0) = false := by decide
      have hb4 : (bits BinOp.and IntKind.u8 0 4 != 0) = false := by decide
      have hb2 : (bits BinOp.and IntKind.u8 0 2 != 0) = false := by decide
      have wA : wrap64 (i.a : Int) = (i.a : Int) := by unfold wrap64; omega
      have wB : wrap64 (i.b : Int) = (i.b : Int) := by unfold wrap64; omega
      go_enter Tryz.func33, Tryz.ntmps33
      have z0 := cell_row (j := 0) hw0.out rfl
      have z1 := cell_row (j := 1) hw0.out rfl
      have z2 := cell_row (j := 2) hw0.out rfl
      have z3 := cell_row (j := 3) hw0.out rfl
      go_wp2_with fail
      rw [← HWA.out]
      generalize hgb : w.heap.size = gb at *
      refine HM.out.mono ?_
      rintro e w1 ⟨rfl, hb⟩
      have B1 : Hid (Below gb w w1) := BA.out.trans (hb.mono (Nat.le_of_lt hlt))
      have I1 : w1.heap[gb]? = some (.cells #[.int .u8 (i.op : Int), .int .u8 (i.a : Int), .int .u16 (i.b : Int), .int .u32 (i.c : Int)] 32 (0, 0)) := (hb.block gb hlt).trans hw0.out
      clear hb z0 z1 z2 z3
      have z0 := cell_row (j := 0) I1 rfl
      have z4 := heap_lt I1
      go_wp2_with fail
      refine (of_any i.op w1 HOP.out).mono ?_
      rintro e w2 ⟨rfl, hb⟩
      have B2 : Hid (Below gb w w2) := B1.out.trans (hb.mono (Nat.le_of_lt z4))
      have I2 : w2.heap[gb]? = some (.cells #[.int .u8 (i.op : Int), .int .u8 (i.a : Int), .int .u16 (i.b : Int), .int .u32 (i.c : Int)] 32 (0, 0)) := (hb.block gb z4).trans I1
      clear hb z0 z4
      unfold RowI.arr
      rw [HR.out]
      rw [← HN.out]
      have sN := nameS_size i.op
      generalize hns : nameS i.op = ns at *
      have HNS := Lib.hid hns
      clear hns HN
      generalize (rowAt i.op).most = mo at *
      generalize (rowAt i.op).takes = ta at *
      generalize (rowAt i.op).gives = gi at *
      clear HR HOP HM
      have sA := decS_size i.a (by omega)
      have sB := decS_size i.b (by omega)
      have sC := decS_size i.c (by omega)
      have gx := heap_lt I2
      have z0 := cell_row (j := 0) I2 rfl
      have z1 := cell_row (j := 1) I2 rfl
      have z2 := cell_row (j := 2) I2 rfl
      have z3 := cell_row (j := 3) I2 rfl
      skip
      skip
      have H2 : Hid (∀ o : Obj, Below gb w (w2.alloc o)) := fun o => B2.out.alloc (Nat.le_of_lt gx) o
      go_wp2_with fail
      go_ret
      exact ⟨by rw [HNS.out]; first | done | rfl, by first | exact H2.out _ | (rw [hgb]; exact H2.out _)⟩
    · have hs := mayN_small hM (by rw [hr]; simp)
      rw [hr]
      have HR := Lib.hid hr
      have HT : Hid (textN 1 (nameS i.op) i.a i.b i.c = nameS i.op ++ (blank ++ decS i.a)) := rfl
      rw [HT.out]
      clear hr hM HT hmo
      have hb8 : (bits BinOp.and IntKind.u8 1 8 != 0) = false := by decide
      have hb1 : (bits BinOp.and IntKind.u8 1 1 != 0) = true := by decide
      have hb4 : (bits BinOp.and IntKind.u8 1 4 != 0) = false := by decide
      have hb2 : (bits BinOp.and IntKind.u8 1 2 != 0) = false := by decide
      have wA : wrap64 (i.a : Int) = (i.a : Int) := by unfold wrap64; omega
      have wB : wrap64 (i.b : Int) = (i.b : Int) := by unfold wrap64; omega
      go_enter Tryz.func33, Tryz.ntmps33
      have z0 := cell_row (j := 0) hw0.out rfl
      have z1 := cell_row (j := 1) hw0.out rfl
      have z2 := cell_row (j := 2) hw0.out rfl
      have z3 := cell_row (j := 3) hw0.out rfl
      go_wp2_with fail
      rw [← HWA.out]
      generalize hgb : w.heap.size = gb at *
      refine HM.out.mono ?_
      rintro e w1 ⟨rfl, hb⟩
      have B1 : Hid (Below gb w w1) := BA.out.trans (hb.mono (Nat.le_of_lt hlt))
      have I1 : w1.heap[gb]? = some (.cells #[.int .u8 (i.op : Int), .int .u8 (i.a : Int), .int .u16 (i.b : Int), .int .u32 (i.c : Int)] 32 (0, 0)) := (hb.block gb hlt).trans hw0.out
      clear hb z0 z1 z2 z3
      have z0 := cell_row (j := 0) I1 rfl
      have z4 := heap_lt I1
      go_wp2_with fail
      refine (of_any i.op w1 HOP.out).mono ?_
      rintro e w2 ⟨rfl, hb⟩
      have B2 : Hid (Below gb w w2) := B1.out.trans (hb.mono (Nat.le_of_lt z4))
      have I2 : w2.heap[gb]? = some (.cells #[.int .u8 (i.op : Int), .int .u8 (i.a : Int), .int .u16 (i.b : Int), .int .u32 (i.c : Int)] 32 (0, 0)) := (hb.block gb z4).trans I1
      clear hb z0 z4
      unfold RowI.arr
      rw [HR.out]
      rw [← HN.out]
      have sN := nameS_size i.op
      generalize hns : nameS i.op = ns at *
      have HNS := Lib.hid hns
      clear hns HN
      generalize (rowAt i.op).most = mo at *
      generalize (rowAt i.op).takes = ta at *
      generalize (rowAt i.op).gives = gi at *
      clear HR HOP HM
      have sA := decS_size i.a (by omega)
      have sB := decS_size i.b (by omega)
      have sC := decS_size i.c (by omega)
      have gx := heap_lt I2
      have z0 := cell_row (j := 0) I2 rfl
      have z1 := cell_row (j := 1) I2 rfl
      have z2 := cell_row (j := 2) I2 rfl
      have z3 := cell_row (j := 3) I2 rfl
      have HSA : Hid (∀ W, Calls Tryz.prog 52 #[.int .i64 (i.a : Int)] W fun e w' => e = .returned (.string (decS i.a)) ∧ w' = W) := fun W => itoa_small i.a (by omega) W
      skip
      have H2 : Hid (∀ o : Obj, Below gb w (w2.alloc o)) := fun o => B2.out.alloc (Nat.le_of_lt gx) o
      go_wp2_with fail
      refine (HSA.out _).mono ?_
      rintro e w' ⟨rfl, rfl⟩
      go_wp2_with fail
      go_ret
      exact ⟨by rw [HNS.out]; first | done | rfl, by first | exact H2.out _ | (rw [hgb]; exact H2.out _)⟩
    · have hs := mayN_small hM (by rw [hr]; simp)
      rw [hr]
      have HR := Lib.hid hr
      have HT : Hid (textN 3 (nameS i.op) i.a i.b i.c = nameS i.op ++ (blank ++ decS i.a) ++ (blank ++ decS i.b)) := rfl
      rw [HT.out]
      clear hr hM HT hmo
      have hb8 : (bits BinOp.and IntKind.u8 3 8 != 0) = false := by decide
      have hb1 : (bits BinOp.and IntKind.u8 3 1 != 0) = true := by decide
      have hb4 : (bits BinOp.and IntKind.u8 3 4 != 0) = false := by decide
      have hb2 : (bits BinOp.and IntKind.u8 3 2 != 0) = true := by decide
      have wA : wrap64 (i.a : Int) = (i.a : Int) := by unfold wrap64; omega
      have wB : wrap64 (i.b : Int) = (i.b : Int) := by unfold wrap64; omega
      go_enter Tryz.func33, Tryz.ntmps33
      have z0 := cell_row (j := 0) hw0.out rfl
      have z1 := cell_row (j := 1) hw0.out rfl
      have z2 := cell_row (j := 2) hw0.out rfl
      have z3 := cell_row (j := 3) hw0.out rfl
      go_wp2_with fail
      rw [← HWA.out]
      generalize hgb : w.heap.size = gb at *
      refine HM.out.mono ?_
      rintro e w1 ⟨rfl, hb⟩
      have B1 : Hid (Below gb w w1) := BA.out.trans (hb.mono (Nat.le_of_lt hlt))
      have I1 : w1.heap[gb]? = some (.cells #[.int .u8 (i.op : Int), .int .u8 (i.a : Int), .int .u16 (i.b : Int), .int .u32 (i.c : Int)] 32 (0, 0)) := (hb.block gb hlt).trans hw0.out
      clear hb z0 z1 z2 z3
      have z0 := cell_row (j := 0) I1 rfl
      have z4 := heap_lt I1
      go_wp2_with fail
      refine (of_any i.op w1 HOP.out).mono ?_
      rintro e w2 ⟨rfl, hb⟩
      have B2 : Hid (Below gb w w2) := B1.out.trans (hb.mono (Nat.le_of_lt z4))
      have I2 : w2.heap[gb]? = some (.cells #[.int .u8 (i.op : Int), .int .u8 (i.a : Int), .int .u16 (i.b : Int), .int .u32 (i.c : Int)] 32 (0, 0)) := (hb.block gb z4).trans I1
      clear hb z0 z4
      unfold RowI.arr
      rw [HR.out]
      rw [← HN.out]
      have sN := nameS_size i.op
      generalize hns : nameS i.op = ns at *
      have HNS := Lib.hid hns
      clear hns HN
      generalize (rowAt i.op).most = mo at *
      generalize (rowAt i.op).takes = ta at *
      generalize (rowAt i.op).gives = gi at *
      clear HR HOP HM
      have sA := decS_size i.a (by omega)
      have sB := decS_size i.b (by omega)
      have sC := decS_size i.c (by omega)
      have gx := heap_lt I2
      have z0 := cell_row (j := 0) I2 rfl
      have z1 := cell_row (j := 1) I2 rfl
      have z2 := cell_row (j := 2) I2 rfl
      have z3 := cell_row (j := 3) I2 rfl
      have HSA : Hid (∀ W, Calls Tryz.prog 52 #[.int .i64 (i.a : Int)] W fun e w' => e = .returned (.string (decS i.a)) ∧ w' = W) := fun W => itoa_small i.a (by omega) W
      have HSB : Hid (∀ W, Calls Tryz.prog 52 #[.int .i64 (i.b : Int)] W fun e w' => e = .returned (.string (decS i.b)) ∧ w' = W) := fun W => itoa_small i.b (by omega) W
      have H2 : Hid (∀ o : Obj, Below gb w (w2.alloc o)) := fun o => B2.out.alloc (Nat.le_of_lt gx) o
      go_wp2_with fail
      refine (HSA.out _).mono ?_
      rintro e w' ⟨rfl, rfl⟩
      go_wp2_with fail
      refine (HSB.out _).mono ?_
      rintro e w' ⟨rfl, rfl⟩
      go_wp2_with fail
      go_ret
      exact ⟨by rw [HNS.out]; first | done | rfl, by first | exact H2.out _ | (rw [hgb]; exact H2.out _)⟩
    · rw [hr]
      have HR := Lib.hid hr
      have HT : Hid (textN 4 (nameS i.op) i.a i.b i.c = nameS i.op ++ (blank ++ decS i.c)) := rfl
      rw [HT.out]
      clear hr hM HT
      have hb8 : (bits BinOp.and IntKind.u8 4 8 != 0) = false := by decide
      have hb1 : (bits BinOp.and IntKind.u8 4 1 != 0) = false := by decide
      have hb4 : (bits BinOp.and IntKind.u8 4 4 != 0) = true := by decide
      have hb2 : (bits BinOp.and IntKind.u8 4 2 != 0) = false := by decide
      have wA : wrap64 (i.a : Int) = (i.a : Int) := by unfold wrap64; omega
      have wB : wrap64 (i.b : Int) = (i.b : Int) := by unfold wrap64; omega
      go_enter Tryz.func33, Tryz.ntmps33
      have z0 := cell_row (j := 0) hw0.out rfl
      have z1 := cell_row (j := 1) hw0.out rfl
      have z2 := cell_row (j := 2) hw0.out rfl
      have z3 := cell_row (j := 3) hw0.out rfl
      go_wp2_with fail
      rw [← HWA.out]
      generalize hgb : w.heap.size = gb at *
      refine HM.out.mono ?_
      rintro e w1 ⟨rfl, hb⟩
      have B1 : Hid (Below gb w w1) := BA.out.trans (hb.mono (Nat.le_of_lt hlt))
      have I1 : w1.heap[gb]? = some (.cells #[.int .u8 (i.op : Int), .int .u8 (i.a : Int), .int .u16 (i.b : Int), .int .u32 (i.c : Int)] 32 (0, 0)) := (hb.block gb hlt).trans hw0.out
      clear hb z0 z1 z2 z3
      have z0 := cell_row (j := 0) I1 rfl
      have z4 := heap_lt I1
      go_wp2_with fail
      refine (of_any i.op w1 HOP.out).mono ?_
      rintro e w2 ⟨rfl, hb⟩
      have B2 : Hid (Below gb w w2) := B1.out.trans (hb.mono (Nat.le_of_lt z4))
      have I2 : w2.heap[gb]? = some (.cells #[.int .u8 (i.op : Int), .int .u8 (i.a : Int), .int .u16 (i.b : Int), .int .u32 (i.c : Int)] 32 (0, 0)) := (hb.block gb z4).trans I1
      clear hb z0 z4
      unfold RowI.arr
      rw [HR.out]
      rw [← HN.out]
      have sN := nameS_size i.op
      generalize hns : nameS i.op = ns at *
      have HNS := Lib.hid hns
      clear hns HN
      generalize (rowAt i.op).most = mo at *
      generalize (rowAt i.op).takes = ta at *
      generalize (rowAt i.op).gives = gi at *
      clear HR HOP HM
      have sA := decS_size i.a (by omega)
      have sB := decS_size i.b (by omega)
      have sC := decS_size i.c (by omega)
      have gx := heap_lt I2
      have z0 := cell_row (j := 0) I2 rfl
      have z1 := cell_row (j := 1) I2 rfl
      have z2 := cell_row (j := 2) I2 rfl
      have z3 := cell_row (j := 3) I2 rfl
      skip
      skip
      have H2 : Hid (∀ o : Obj, Below gb w (w2.alloc o)) := fun o => B2.out.alloc (Nat.le_of_lt gx) o
      go_wp2_with fail
      refine (HF.out _ (by first | exact H2.out _ | (rw [hgb]; exact H2.out _))).mono ?_
      rintro e w5 ⟨rfl, hb5⟩
      have B5 : Hid (Below gb w w5) := (H2.out _).trans (hb5.mono (by first | omega | (simp; omega)))
      clear hb5
      go_wp2_with fail
      go_ret
      exact ⟨by rw [HNS.out]; first | done | rfl, by first | exact B5.out | (rw [hgb]; exact B5.out)⟩
    · have hs := mayN_small hM (by rw [hr]; simp)
      rw [hr]
      have HR := Lib.hid hr
      have HT : Hid (textN 12 (nameS i.op) i.a i.b i.c = nameS i.op ++ decS i.a ++ (blank ++ decS i.c)) := rfl
      rw [HT.out]
      clear hr hM HT
      have hb8 : (bits BinOp.and IntKind.u8 12 8 != 0) = true := by decide
      have hb1 : (bits BinOp.and IntKind.u8 12 1 != 0) = false := by decide
      have hb4 : (bits BinOp.and IntKind.u8 12 4 != 0) = true := by decide
      have hb2 : (bits BinOp.and IntKind.u8 12 2 != 0) = false := by decide
      have wA : wrap64 (i.a : Int) = (i.a : Int) := by unfold wrap64; omega
      have wB : wrap64 (i.b : Int) = (i.b : Int) := by unfold wrap64; omega
      go_enter Tryz.func33, Tryz.ntmps33
      have z0 := cell_row (j := 0) hw0.out rfl
      have z1 := cell_row (j := 1) hw0.out rfl
      have z2 := cell_row (j := 2) hw0.out rfl
      have z3 := cell_row (j := 3) hw0.out rfl
      go_wp2_with fail
      rw [← HWA.out]
      generalize hgb : w.heap.size = gb at *
      refine HM.out.mono ?_
      rintro e w1 ⟨rfl, hb⟩
      have B1 : Hid (Below gb w w1) := BA.out.trans (hb.mono (Nat.le_of_lt hlt))
      have I1 : w1.heap[gb]? = some (.cells #[.int .u8 (i.op : Int), .int .u8 (i.a : Int), .int .u16 (i.b : Int), .int .u32 (i.c : Int)] 32 (0, 0)) := (hb.block gb hlt).trans hw0.out
      clear hb z0 z1 z2 z3
      have z0 := cell_row (j := 0) I1 rfl
      have z4 := heap_lt I1
      go_wp2_with fail
      refine (of_any i.op w1 HOP.out).mono ?_
      rintro e w2 ⟨rfl, hb⟩
      have B2 : Hid (Below gb w w2) := B1.out.trans (hb.mono (Nat.le_of_lt z4))
      have I2 : w2.heap[gb]? = some (.cells #[.int .u8 (i.op : Int), .int .u8 (i.a : Int), .int .u16 (i.b : Int), .int .u32 (i.c : Int)] 32 (0, 0)) := (hb.block gb z4).trans I1
      clear hb z0 z4
      unfold RowI.arr
      rw [HR.out]
      rw [← HN.out]
      have sN := nameS_size i.op
      generalize hns : nameS i.op = ns at *
      have HNS := Lib.hid hns
      clear hns HN
      generalize (rowAt i.op).most = mo at *
      generalize (rowAt i.op).takes = ta at *
      generalize (rowAt i.op).gives = gi at *
      clear HR HOP HM
      have sA := decS_size i.a (by omega)
      have sB := decS_size i.b (by omega)
      have sC := decS_size i.c (by omega)
      have gx := heap_lt I2
      have z0 := cell_row (j := 0) I2 rfl
      have z1 := cell_row (j := 1) I2 rfl
      have z2 := cell_row (j := 2) I2 rfl
      have z3 := cell_row (j := 3) I2 rfl
      have HSA : Hid (∀ W, Calls Tryz.prog 52 #[.int .i64 (i.a : Int)] W fun e w' => e = .returned (.string (decS i.a)) ∧ w' = W) := fun W => itoa_small i.a (by omega) W
      skip
      have H2 : Hid (∀ o : Obj, Below gb w (w2.alloc o)) := fun o => B2.out.alloc (Nat.le_of_lt gx) o
      go_wp2_with fail
      refine (HSA.out _).mono ?_
      rintro e w' ⟨rfl, rfl⟩
      go_wp2_with fail
      refine (HF.out _ (by first | exact H2.out _ | (rw [hgb]; exact H2.out _))).mono ?_
      rintro e w5 ⟨rfl, hb5⟩
      have B5 : Hid (Below gb w w5) := (H2.out _).trans (hb5.mono (by first | omega | (simp; omega)))
      clear hb5
      go_wp2_with fail
      go_ret
      exact ⟨by rw [HNS.out]; first | done | rfl, by first | exact B5.out | (rw [hgb]; exact B5.out)⟩
end Go.Proofs.YtalmgjeiopjhlaaGreatDoor
