/- May. -/
import Derived.Test.YtalmgjeiopjhlaaGreatDoorIsaOf
namespace Go.Proofs.YtalmgjeiopjhlaaGreatDoor
open Go.RowKit
set_option linter.unusedVariables false
set_option linter.unusedSimpArgs false
def mayN (nm a b c : Nat) : Bool := !(nm &&& 4 == 0 && c != 0) && !(nm &&& 2 == 0 && b != 0) && decide (b < 16) && (if nm &&& 8 ≠ 0 then a == 1 || a == 2 || a == 4 else if nm &&& 1 ≠ 0 then decide (a < 16) else a == 0)
def mayI (op a b c : Nat) : Bool := if (rowAt op).name = [] then false else mayN (rowAt op).nm a b c
structure Ins where
  (op a b c : Nat)
structure Ins.ok (i : Ins) : Prop where
  op : i.op < 256
  a : i.a < 256
  b : i.b < 65536
  c : i.c < 4294967296
def Ins.val (i : Ins) : Value := .agg #[.int .u8 (i.op : Int), .int .u8 (i.a : Int), .int .u16 (i.b : Int), .int .u32 (i.c : Int)]
def Ins.may (i : Ins) : Bool := mayI i.op i.a i.b i.c
theorem row_class (op : Nat) : (rowAt op).name = [] ∧ rowAt op = noRow ∨ (rowAt op).name ≠ [] ∧ op < 28 ∧ ((rowAt op).nm = 0 ∨ ((rowAt op).nm = 1 ∧ (rowAt op).most = 16) ∨ ((rowAt op).nm = 3 ∧ (rowAt op).most = 16) ∨ (rowAt op).nm = 4 ∨ (rowAt op).nm = 12) := by
  by_cases h : op < 28
  · match op, h with
    | 0, _ => exact .inl ⟨rfl, rfl⟩
    | n + 1, h =>
      right
      have : ∀ n, n < 27 → (rowAt (n + 1)).name ≠ [] ∧ n + 1 < 28 ∧ ((rowAt (n + 1)).nm = 0 ∨ ((rowAt (n + 1)).nm = 1 ∧ (rowAt (n + 1)).most = 16) ∨ ((rowAt (n + 1)).nm = 3 ∧ (rowAt (n + 1)).most = 16) ∨ (rowAt (n + 1)).nm = 4 ∨ (rowAt (n + 1)).nm = 12) := by decide
      exact this n (by omega)
  · left
    have e := rowAt_none (op := op) (by omega)
    rw [e]; exact ⟨rfl, rfl⟩
set_option maxHeartbeats 4000000 in
set_option maxRecDepth 100000 in
theorem may_any (i : Ins) (w : World) (h : i.ok) :
    Calls Tryz.prog 27 #[i.val] w fun e w' => e = .returned (.bool i.may) ∧ Below w.heap.size w w' := by
  unfold Ins.val
  have HOF := Lib.hid (of_any i.op (w.alloc (.cells #[.int .u8 (i.op : Int), .int .u8 (i.a : Int), .int .u16 (i.b : Int), .int .u32 (i.c : Int)] 32)) h.op)
  have hw0 : Hid ((w.alloc (.cells #[.int .u8 (i.op : Int), .int .u8 (i.a : Int), .int .u16 (i.b : Int), .int .u32 (i.c : Int)] 32)).heap[w.heap.size]? = some (.cells #[.int .u8 (i.op : Int), .int .u8 (i.a : Int), .int .u16 (i.b : Int), .int .u32 (i.c : Int)] 32 (0, 0))) := heap_alloc_new _ _
  have h0 : Hid (Below w.heap.size w (w.alloc (.cells #[.int .u8 (i.op : Int), .int .u8 (i.a : Int), .int .u16 (i.b : Int), .int .u32 (i.c : Int)] 32))) := alloc_below _ _
  have hlt := heap_lt hw0.out
  unfold RowI.arr at HOF
  have ha8 := h.a
  have hw8 : wrap64 (i.a : Int) = (i.a : Int) := by unfold wrap64; omega
  rcases row_class i.op with ⟨hn, hr⟩ | ⟨hn, ho, hr⟩
  · have e1 : i.may = false := by unfold Ins.may mayI; rw [if_pos hn]
    rw [e1]
    rw [hr] at HOF
    unfold noRow at HOF
    clear e1 hn hr
    go_enter Tryz.func27, Tryz.ntmps27
    go_wp2_with fail
    refine HOF.out.mono ?_
    rintro e w1 ⟨rfl, hb⟩
    have HB := Lib.hid (h0.out.trans (hb.mono h0.out.size))
    have z0 : w1.cell? ⟨w.heap.size, 0, none⟩ = some (.int .u8 (i.op : Int)) := by rw [hb.cell hlt]; exact cell_row hw0.out rfl
    have z1 : w1.cell? ⟨w.heap.size, 1, none⟩ = some (.int .u8 (i.a : Int)) := by rw [hb.cell hlt]; exact cell_row hw0.out rfl
    have z2 : w1.cell? ⟨w.heap.size, 2, none⟩ = some (.int .u16 (i.b : Int)) := by rw [hb.cell hlt]; exact cell_row hw0.out rfl
    have z3 : w1.cell? ⟨w.heap.size, 3, none⟩ = some (.int .u32 (i.c : Int)) := by rw [hb.cell hlt]; exact cell_row hw0.out rfl
    have hl1 : w.heap.size < w1.heap.size := Nat.lt_of_lt_of_le hlt hb.size
    clear hb
    go_wp2_with fail
    go_ret
    exact ⟨rfl, HB.out.alloc HB.out.size _⟩
  · have e1 : i.may = mayN (rowAt i.op).nm i.a i.b i.c := by unfold Ins.may mayI; rw [if_neg hn]
    rw [e1]
    have hne : (rowAt i.op).name.isEmpty = false := by cases hx : (rowAt i.op).name with | nil => exact absurd hx hn | cons x l => rfl
    clear hn ho
    rcases hr with hr | ⟨hr, hm⟩ | ⟨hr, hm⟩ | hr | hr
    · rw [hr] at HOF ⊢
      clear e1 hr
      have hb8 : (bits BinOp.and IntKind.u8 0 8 != 0) = false := by decide
      have hb1 : (bits BinOp.and IntKind.u8 0 1 != 0) = false := by decide
      have hb4 : (bits BinOp.and IntKind.u8 0 4 == 0) = true := by decide
      have hb2 : (bits BinOp.and IntKind.u8 0 2 == 0) = true := by decide
      generalize (rowAt i.op).name = nm at *
      generalize (rowAt i.op).most = mo at *
      generalize (rowAt i.op).takes = ta at *
      generalize (rowAt i.op).gives = gi at *
      by_cases hc : i.c = 0
      case neg =>
        have tc : ((i.c : Int) != 0) = true := by simp; omega
        have HV : Hid (mayN 0 i.a i.b i.c = false) := by show _ = _; unfold mayN; simp [hc]
        rw [HV.out]
        clear HV hc
        go_enter Tryz.func27, Tryz.ntmps27
        go_wp2_with fail
        refine HOF.out.mono ?_
        rintro e w1 ⟨rfl, hb⟩
        have HB := Lib.hid (h0.out.trans (hb.mono h0.out.size))
        have z0 : w1.cell? ⟨w.heap.size, 0, none⟩ = some (.int .u8 (i.op : Int)) := by rw [hb.cell hlt]; exact cell_row hw0.out rfl
        have z1 : w1.cell? ⟨w.heap.size, 1, none⟩ = some (.int .u8 (i.a : Int)) := by rw [hb.cell hlt]; exact cell_row hw0.out rfl
        have z2 : w1.cell? ⟨w.heap.size, 2, none⟩ = some (.int .u16 (i.b : Int)) := by rw [hb.cell hlt]; exact cell_row hw0.out rfl
        have z3 : w1.cell? ⟨w.heap.size, 3, none⟩ = some (.int .u32 (i.c : Int)) := by rw [hb.cell hlt]; exact cell_row hw0.out rfl
        have hl1 : w.heap.size < w1.heap.size := Nat.lt_of_lt_of_le hlt hb.size
        clear hb
        go_wp2_with fail
        go_ret
        exact ⟨rfl, HB.out.alloc HB.out.size _⟩
      have tc : ((i.c : Int) != 0) = false := by simp; omega
      by_cases hb : i.b = 0
      case neg =>
        have tb : ((i.b : Int) != 0) = true := by simp; omega
        skip
        have HV : Hid (mayN 0 i.a i.b i.c = false) := by show _ = _; unfold mayN; simp [hb, hc]
        rw [HV.out]
        clear HV hb hc
        go_enter Tryz.func27, Tryz.ntmps27
        go_wp2_with fail
        refine HOF.out.mono ?_
        rintro e w1 ⟨rfl, hb⟩
        have HB := Lib.hid (h0.out.trans (hb.mono h0.out.size))
        have z0 : w1.cell? ⟨w.heap.size, 0, none⟩ = some (.int .u8 (i.op : Int)) := by rw [hb.cell hlt]; exact cell_row hw0.out rfl
        have z1 : w1.cell? ⟨w.heap.size, 1, none⟩ = some (.int .u8 (i.a : Int)) := by rw [hb.cell hlt]; exact cell_row hw0.out rfl
        have z2 : w1.cell? ⟨w.heap.size, 2, none⟩ = some (.int .u16 (i.b : Int)) := by rw [hb.cell hlt]; exact cell_row hw0.out rfl
        have z3 : w1.cell? ⟨w.heap.size, 3, none⟩ = some (.int .u32 (i.c : Int)) := by rw [hb.cell hlt]; exact cell_row hw0.out rfl
        have hl1 : w.heap.size < w1.heap.size := Nat.lt_of_lt_of_le hlt hb.size
        clear hb
        go_wp2_with fail
        go_ret
        exact ⟨rfl, HB.out.alloc HB.out.size _⟩
      have tb : ((i.b : Int) != 0) = false := by simp; omega
      have tb2 : decide ((16 : Int) ≤ (i.b : Int)) = false := by simp; omega
      by_cases ha : i.a = 0
      case pos =>
        have t1 : ((i.a : Int) == 0) = true := by simp; omega
        have HV : Hid (mayN 0 i.a i.b i.c = true) := by show _ = _; unfold mayN; simp [ha, hc, hb]
        rw [HV.out]
        clear HV ha hc hb
        go_enter Tryz.func27, Tryz.ntmps27
        go_wp2_with fail
        refine HOF.out.mono ?_
        rintro e w1 ⟨rfl, hb⟩
        have HB := Lib.hid (h0.out.trans (hb.mono h0.out.size))
        have z0 : w1.cell? ⟨w.heap.size, 0, none⟩ = some (.int .u8 (i.op : Int)) := by rw [hb.cell hlt]; exact cell_row hw0.out rfl
        have z1 : w1.cell? ⟨w.heap.size, 1, none⟩ = some (.int .u8 (i.a : Int)) := by rw [hb.cell hlt]; exact cell_row hw0.out rfl
        have z2 : w1.cell? ⟨w.heap.size, 2, none⟩ = some (.int .u16 (i.b : Int)) := by rw [hb.cell hlt]; exact cell_row hw0.out rfl
        have z3 : w1.cell? ⟨w.heap.size, 3, none⟩ = some (.int .u32 (i.c : Int)) := by rw [hb.cell hlt]; exact cell_row hw0.out rfl
        have hl1 : w.heap.size < w1.heap.size := Nat.lt_of_lt_of_le hlt hb.size
        clear hb
        go_wp2_with fail
        go_ret
        exact ⟨rfl, HB.out.alloc HB.out.size _⟩
      have t1 : ((i.a : Int) == 0) = false := by simp; omega
      have HV : Hid (mayN 0 i.a i.b i.c = false) := by show _ = _; unfold mayN; simp [ha, hc, hb]
      rw [HV.out]
      clear HV ha hc hb
      go_enter Tryz.func27, Tryz.ntmps27
      go_wp2_with fail
      refine HOF.out.mono ?_
      rintro e w1 ⟨rfl, hb⟩
      have HB := Lib.hid (h0.out.trans (hb.mono h0.out.size))
      have z0 : w1.cell? ⟨w.heap.size, 0, none⟩ = some (.int .u8 (i.op : Int)) := by rw [hb.cell hlt]; exact cell_row hw0.out rfl
      have z1 : w1.cell? ⟨w.heap.size, 1, none⟩ = some (.int .u8 (i.a : Int)) := by rw [hb.cell hlt]; exact cell_row hw0.out rfl
      have z2 : w1.cell? ⟨w.heap.size, 2, none⟩ = some (.int .u16 (i.b : Int)) := by rw [hb.cell hlt]; exact cell_row hw0.out rfl
      have z3 : w1.cell? ⟨w.heap.size, 3, none⟩ = some (.int .u32 (i.c : Int)) := by rw [hb.cell hlt]; exact cell_row hw0.out rfl
      have hl1 : w.heap.size < w1.heap.size := Nat.lt_of_lt_of_le hlt hb.size
      clear hb
      go_wp2_with fail
      go_ret
      exact ⟨rfl, HB.out.alloc HB.out.size _⟩
    · rw [hr] at HOF ⊢
      rw [hm] at HOF
      clear e1 hr hm
      have hb8 : (bits BinOp.and IntKind.u8 1 8 != 0) = false := by decide
      have hb1 : (bits BinOp.and IntKind.u8 1 1 != 0) = true := by decide
      have hb4 : (bits BinOp.and IntKind.u8 1 4 == 0) = true := by decide
      have hb2 : (bits BinOp.and IntKind.u8 1 2 == 0) = true := by decide
      generalize (rowAt i.op).name = nm at *
      generalize (rowAt i.op).takes = ta at *
      generalize (rowAt i.op).gives = gi at *
      by_cases hc : i.c = 0
      case neg =>
        have tc : ((i.c : Int) != 0) = true := by simp; omega
        have HV : Hid (mayN 1 i.a i.b i.c = false) := by show _ = _; unfold mayN; simp [hc]
        rw [HV.out]
        clear HV hc
        go_enter Tryz.func27, Tryz.ntmps27
        go_wp2_with fail
        refine HOF.out.mono ?_
        rintro e w1 ⟨rfl, hb⟩
        have HB := Lib.hid (h0.out.trans (hb.mono h0.out.size))
        have z0 : w1.cell? ⟨w.heap.size, 0, none⟩ = some (.int .u8 (i.op : Int)) := by rw [hb.cell hlt]; exact cell_row hw0.out rfl
        have z1 : w1.cell? ⟨w.heap.size, 1, none⟩ = some (.int .u8 (i.a : Int)) := by rw [hb.cell hlt]; exact cell_row hw0.out rfl
        have z2 : w1.cell? ⟨w.heap.size, 2, none⟩ = some (.int .u16 (i.b : Int)) := by rw [hb.cell hlt]; exact cell_row hw0.out rfl
        have z3 : w1.cell? ⟨w.heap.size, 3, none⟩ = some (.int .u32 (i.c : Int)) := by rw [hb.cell hlt]; exact cell_row hw0.out rfl
        have hl1 : w.heap.size < w1.heap.size := Nat.lt_of_lt_of_le hlt hb.size
        clear hb
        go_wp2_with fail
        go_ret
        exact ⟨rfl, HB.out.alloc HB.out.size _⟩
      have tc : ((i.c : Int) != 0) = false := by simp; omega
      by_cases hb : i.b = 0
      case neg =>
        have tb : ((i.b : Int) != 0) = true := by simp; omega
        skip
        have HV : Hid (mayN 1 i.a i.b i.c = false) := by show _ = _; unfold mayN; simp [hb, hc]
        rw [HV.out]
        clear HV hb hc
        go_enter Tryz.func27, Tryz.ntmps27
        go_wp2_with fail
        refine HOF.out.mono ?_
        rintro e w1 ⟨rfl, hb⟩
        have HB := Lib.hid (h0.out.trans (hb.mono h0.out.size))
        have z0 : w1.cell? ⟨w.heap.size, 0, none⟩ = some (.int .u8 (i.op : Int)) := by rw [hb.cell hlt]; exact cell_row hw0.out rfl
        have z1 : w1.cell? ⟨w.heap.size, 1, none⟩ = some (.int .u8 (i.a : Int)) := by rw [hb.cell hlt]; exact cell_row hw0.out rfl
        have z2 : w1.cell? ⟨w.heap.size, 2, none⟩ = some (.int .u16 (i.b : Int)) := by rw [hb.cell hlt]; exact cell_row hw0.out rfl
        have z3 : w1.cell? ⟨w.heap.size, 3, none⟩ = some (.int .u32 (i.c : Int)) := by rw [hb.cell hlt]; exact cell_row hw0.out rfl
        have hl1 : w.heap.size < w1.heap.size := Nat.lt_of_lt_of_le hlt hb.size
        clear hb
        go_wp2_with fail
        go_ret
        exact ⟨rfl, HB.out.alloc HB.out.size _⟩
      have tb : ((i.b : Int) != 0) = false := by simp; omega
      have tb2 : decide ((16 : Int) ≤ (i.b : Int)) = false := by simp; omega
      by_cases ha : i.a < 16
      case pos =>
        have t1 : decide ((i.a : Int) < 16) = true := by simp; omega
        have HV : Hid (mayN 1 i.a i.b i.c = true) := by show _ = _; unfold mayN; simp [ha, hc, hb]
        rw [HV.out]
        clear HV ha hc hb
        go_enter Tryz.func27, Tryz.ntmps27
        go_wp2_with fail
        refine HOF.out.mono ?_
        rintro e w1 ⟨rfl, hb⟩
        have HB := Lib.hid (h0.out.trans (hb.mono h0.out.size))
        have z0 : w1.cell? ⟨w.heap.size, 0, none⟩ = some (.int .u8 (i.op : Int)) := by rw [hb.cell hlt]; exact cell_row hw0.out rfl
        have z1 : w1.cell? ⟨w.heap.size, 1, none⟩ = some (.int .u8 (i.a : Int)) := by rw [hb.cell hlt]; exact cell_row hw0.out rfl
        have z2 : w1.cell? ⟨w.heap.size, 2, none⟩ = some (.int .u16 (i.b : Int)) := by rw [hb.cell hlt]; exact cell_row hw0.out rfl
        have z3 : w1.cell? ⟨w.heap.size, 3, none⟩ = some (.int .u32 (i.c : Int)) := by rw [hb.cell hlt]; exact cell_row hw0.out rfl
        have hl1 : w.heap.size < w1.heap.size := Nat.lt_of_lt_of_le hlt hb.size
        clear hb
        go_wp2_with fail
        go_ret
        exact ⟨rfl, HB.out.alloc HB.out.size _⟩
      have t1 : decide ((i.a : Int) < 16) = false := by simp; omega
      have HV : Hid (mayN 1 i.a i.b i.c = false) := by show _ = _; unfold mayN; simp [ha, hc, hb]
      rw [HV.out]
      clear HV ha hc hb
      go_enter Tryz.func27, Tryz.ntmps27
      go_wp2_with fail
      refine HOF.out.mono ?_
      rintro e w1 ⟨rfl, hb⟩
      have HB := Lib.hid (h0.out.trans (hb.mono h0.out.size))
      have z0 : w1.cell? ⟨w.heap.size, 0, none⟩ = some (.int .u8 (i.op : Int)) := by rw [hb.cell hlt]; exact cell_row hw0.out rfl
      have z1 : w1.cell? ⟨w.heap.size, 1, none⟩ = some (.int .u8 (i.a : Int)) := by rw [hb.cell hlt]; exact cell_row hw0.out rfl
      have z2 : w1.cell? ⟨w.heap.size, 2, none⟩ = some (.int .u16 (i.b : Int)) := by rw [hb.cell hlt]; exact cell_row hw0.out rfl
      have z3 : w1.cell? ⟨w.heap.size, 3, none⟩ = some (.int .u32 (i.c : Int)) := by rw [hb.cell hlt]; exact cell_row hw0.out rfl
      have hl1 : w.heap.size < w1.heap.size := Nat.lt_of_lt_of_le hlt hb.size
      clear hb
      go_wp2_with fail
      go_ret
      exact ⟨rfl, HB.out.alloc HB.out.size _⟩
    · rw [hr] at HOF ⊢
      rw [hm] at HOF
      clear e1 hr hm
      have hb8 : (bits BinOp.and IntKind.u8 3 8 != 0) = false := by decide
      have hb1 : (bits BinOp.and IntKind.u8 3 1 != 0) = true := by decide
      have hb4 : (bits BinOp.and IntKind.u8 3 4 == 0) = true := by decide
      have hb2 : (bits BinOp.and IntKind.u8 3 2 == 0) = false := by decide
      generalize (rowAt i.op).name = nm at *
      generalize (rowAt i.op).takes = ta at *
      generalize (rowAt i.op).gives = gi at *
      by_cases hc : i.c = 0
      case neg =>
        have tc : ((i.c : Int) != 0) = true := by simp; omega
        have HV : Hid (mayN 3 i.a i.b i.c = false) := by show _ = _; unfold mayN; simp [hc]
        rw [HV.out]
        clear HV hc
        go_enter Tryz.func27, Tryz.ntmps27
        go_wp2_with fail
        refine HOF.out.mono ?_
        rintro e w1 ⟨rfl, hb⟩
        have HB := Lib.hid (h0.out.trans (hb.mono h0.out.size))
        have z0 : w1.cell? ⟨w.heap.size, 0, none⟩ = some (.int .u8 (i.op : Int)) := by rw [hb.cell hlt]; exact cell_row hw0.out rfl
        have z1 : w1.cell? ⟨w.heap.size, 1, none⟩ = some (.int .u8 (i.a : Int)) := by rw [hb.cell hlt]; exact cell_row hw0.out rfl
        have z2 : w1.cell? ⟨w.heap.size, 2, none⟩ = some (.int .u16 (i.b : Int)) := by rw [hb.cell hlt]; exact cell_row hw0.out rfl
        have z3 : w1.cell? ⟨w.heap.size, 3, none⟩ = some (.int .u32 (i.c : Int)) := by rw [hb.cell hlt]; exact cell_row hw0.out rfl
        have hl1 : w.heap.size < w1.heap.size := Nat.lt_of_lt_of_le hlt hb.size
        clear hb
        go_wp2_with fail
        go_ret
        exact ⟨rfl, HB.out.alloc HB.out.size _⟩
      have tc : ((i.c : Int) != 0) = false := by simp; omega
      by_cases hb : i.b < 16
      case neg =>
        have tb2 : decide ((16 : Int) ≤ (i.b : Int)) = true := by simp; omega
        have HV : Hid (mayN 3 i.a i.b i.c = false) := by show _ = _; unfold mayN; simp [hb, hc]
        rw [HV.out]
        clear HV hb hc
        go_enter Tryz.func27, Tryz.ntmps27
        go_wp2_with fail
        refine HOF.out.mono ?_
        rintro e w1 ⟨rfl, hb⟩
        have HB := Lib.hid (h0.out.trans (hb.mono h0.out.size))
        have z0 : w1.cell? ⟨w.heap.size, 0, none⟩ = some (.int .u8 (i.op : Int)) := by rw [hb.cell hlt]; exact cell_row hw0.out rfl
        have z1 : w1.cell? ⟨w.heap.size, 1, none⟩ = some (.int .u8 (i.a : Int)) := by rw [hb.cell hlt]; exact cell_row hw0.out rfl
        have z2 : w1.cell? ⟨w.heap.size, 2, none⟩ = some (.int .u16 (i.b : Int)) := by rw [hb.cell hlt]; exact cell_row hw0.out rfl
        have z3 : w1.cell? ⟨w.heap.size, 3, none⟩ = some (.int .u32 (i.c : Int)) := by rw [hb.cell hlt]; exact cell_row hw0.out rfl
        have hl1 : w.heap.size < w1.heap.size := Nat.lt_of_lt_of_le hlt hb.size
        clear hb
        go_wp2_with fail
        go_ret
        exact ⟨rfl, HB.out.alloc HB.out.size _⟩
      have tb2 : decide ((16 : Int) ≤ (i.b : Int)) = false := by simp; omega
      by_cases ha : i.a < 16
      case pos =>
        have t1 : decide ((i.a : Int) < 16) = true := by simp; omega
        have HV : Hid (mayN 3 i.a i.b i.c = true) := by show _ = _; unfold mayN; simp [ha, hc, hb]
        rw [HV.out]
        clear HV ha hc hb
        go_enter Tryz.func27, Tryz.ntmps27
        go_wp2_with fail
        refine HOF.out.mono ?_
        rintro e w1 ⟨rfl, hb⟩
        have HB := Lib.hid (h0.out.trans (hb.mono h0.out.size))
        have z0 : w1.cell? ⟨w.heap.size, 0, none⟩ = some (.int .u8 (i.op : Int)) := by rw [hb.cell hlt]; exact cell_row hw0.out rfl
        have z1 : w1.cell? ⟨w.heap.size, 1, none⟩ = some (.int .u8 (i.a : Int)) := by rw [hb.cell hlt]; exact cell_row hw0.out rfl
        have z2 : w1.cell? ⟨w.heap.size, 2, none⟩ = some (.int .u16 (i.b : Int)) := by rw [hb.cell hlt]; exact cell_row hw0.out rfl
        have z3 : w1.cell? ⟨w.heap.size, 3, none⟩ = some (.int .u32 (i.c : Int)) := by rw [hb.cell hlt]; exact cell_row hw0.out rfl
        have hl1 : w.heap.size < w1.heap.size := Nat.lt_of_lt_of_le hlt hb.size
        clear hb
        go_wp2_with fail
        go_ret
        exact ⟨rfl, HB.out.alloc HB.out.size _⟩
      have t1 : decide ((i.a : Int) < 16) = false := by simp; omega
      have HV : Hid (mayN 3 i.a i.b i.c = false) := by show _ = _; unfold mayN; simp [ha, hc, hb]
      rw [HV.out]
      clear HV ha hc hb
      go_enter Tryz.func27, Tryz.ntmps27
      go_wp2_with fail
      refine HOF.out.mono ?_
      rintro e w1 ⟨rfl, hb⟩
      have HB := Lib.hid (h0.out.trans (hb.mono h0.out.size))
      have z0 : w1.cell? ⟨w.heap.size, 0, none⟩ = some (.int .u8 (i.op : Int)) := by rw [hb.cell hlt]; exact cell_row hw0.out rfl
      have z1 : w1.cell? ⟨w.heap.size, 1, none⟩ = some (.int .u8 (i.a : Int)) := by rw [hb.cell hlt]; exact cell_row hw0.out rfl
      have z2 : w1.cell? ⟨w.heap.size, 2, none⟩ = some (.int .u16 (i.b : Int)) := by rw [hb.cell hlt]; exact cell_row hw0.out rfl
      have z3 : w1.cell? ⟨w.heap.size, 3, none⟩ = some (.int .u32 (i.c : Int)) := by rw [hb.cell hlt]; exact cell_row hw0.out rfl
      have hl1 : w.heap.size < w1.heap.size := Nat.lt_of_lt_of_le hlt hb.size
      clear hb
      go_wp2_with fail
      go_ret
      exact ⟨rfl, HB.out.alloc HB.out.size _⟩
    · rw [hr] at HOF ⊢
      clear e1 hr
      have hb8 : (bits BinOp.and IntKind.u8 4 8 != 0) = false := by decide
      have hb1 : (bits BinOp.and IntKind.u8 4 1 != 0) = false := by decide
      have hb4 : (bits BinOp.and IntKind.u8 4 4 == 0) = false := by decide
      have hb2 : (bits BinOp.and IntKind.u8 4 2 == 0) = true := by decide
      generalize (rowAt i.op).name = nm at *
      generalize (rowAt i.op).most = mo at *
      generalize (rowAt i.op).takes = ta at *
      generalize (rowAt i.op).gives = gi at *
      by_cases hb : i.b = 0
      case neg =>
        have tb : ((i.b : Int) != 0) = true := by simp; omega
        skip
        have HV : Hid (mayN 4 i.a i.b i.c = false) := by show _ = _; unfold mayN; simp [hb]
        rw [HV.out]
        clear HV hb
        go_enter Tryz.func27, Tryz.ntmps27
        go_wp2_with fail
        refine HOF.out.mono ?_
        rintro e w1 ⟨rfl, hb⟩
        have HB := Lib.hid (h0.out.trans (hb.mono h0.out.size))
        have z0 : w1.cell? ⟨w.heap.size, 0, none⟩ = some (.int .u8 (i.op : Int)) := by rw [hb.cell hlt]; exact cell_row hw0.out rfl
        have z1 : w1.cell? ⟨w.heap.size, 1, none⟩ = some (.int .u8 (i.a : Int)) := by rw [hb.cell hlt]; exact cell_row hw0.out rfl
        have z2 : w1.cell? ⟨w.heap.size, 2, none⟩ = some (.int .u16 (i.b : Int)) := by rw [hb.cell hlt]; exact cell_row hw0.out rfl
        have z3 : w1.cell? ⟨w.heap.size, 3, none⟩ = some (.int .u32 (i.c : Int)) := by rw [hb.cell hlt]; exact cell_row hw0.out rfl
        have hl1 : w.heap.size < w1.heap.size := Nat.lt_of_lt_of_le hlt hb.size
        clear hb
        go_wp2_with fail
        go_ret
        exact ⟨rfl, HB.out.alloc HB.out.size _⟩
      have tb : ((i.b : Int) != 0) = false := by simp; omega
      have tb2 : decide ((16 : Int) ≤ (i.b : Int)) = false := by simp; omega
      by_cases ha : i.a = 0
      case pos =>
        have t1 : ((i.a : Int) == 0) = true := by simp; omega
        have HV : Hid (mayN 4 i.a i.b i.c = true) := by show _ = _; unfold mayN; simp [ha, hb]
        rw [HV.out]
        clear HV ha hb
        go_enter Tryz.func27, Tryz.ntmps27
        go_wp2_with fail
        refine HOF.out.mono ?_
        rintro e w1 ⟨rfl, hb⟩
        have HB := Lib.hid (h0.out.trans (hb.mono h0.out.size))
        have z0 : w1.cell? ⟨w.heap.size, 0, none⟩ = some (.int .u8 (i.op : Int)) := by rw [hb.cell hlt]; exact cell_row hw0.out rfl
        have z1 : w1.cell? ⟨w.heap.size, 1, none⟩ = some (.int .u8 (i.a : Int)) := by rw [hb.cell hlt]; exact cell_row hw0.out rfl
        have z2 : w1.cell? ⟨w.heap.size, 2, none⟩ = some (.int .u16 (i.b : Int)) := by rw [hb.cell hlt]; exact cell_row hw0.out rfl
        have z3 : w1.cell? ⟨w.heap.size, 3, none⟩ = some (.int .u32 (i.c : Int)) := by rw [hb.cell hlt]; exact cell_row hw0.out rfl
        have hl1 : w.heap.size < w1.heap.size := Nat.lt_of_lt_of_le hlt hb.size
        clear hb
        go_wp2_with fail
        go_ret
        exact ⟨rfl, HB.out.alloc HB.out.size _⟩
      have t1 : ((i.a : Int) == 0) = false := by simp; omega
      have HV : Hid (mayN 4 i.a i.b i.c = false) := by show _ = _; unfold mayN; simp [ha, hb]
      rw [HV.out]
      clear HV ha hb
      go_enter Tryz.func27, Tryz.ntmps27
      go_wp2_with fail
      refine HOF.out.mono ?_
      rintro e w1 ⟨rfl, hb⟩
      have HB := Lib.hid (h0.out.trans (hb.mono h0.out.size))
      have z0 : w1.cell? ⟨w.heap.size, 0, none⟩ = some (.int .u8 (i.op : Int)) := by rw [hb.cell hlt]; exact cell_row hw0.out rfl
      have z1 : w1.cell? ⟨w.heap.size, 1, none⟩ = some (.int .u8 (i.a : Int)) := by rw [hb.cell hlt]; exact cell_row hw0.out rfl
      have z2 : w1.cell? ⟨w.heap.size, 2, none⟩ = some (.int .u16 (i.b : Int)) := by rw [hb.cell hlt]; exact cell_row hw0.out rfl
      have z3 : w1.cell? ⟨w.heap.size, 3, none⟩ = some (.int .u32 (i.c : Int)) := by rw [hb.cell hlt]; exact cell_row hw0.out rfl
      have hl1 : w.heap.size < w1.heap.size := Nat.lt_of_lt_of_le hlt hb.size
      clear hb
      go_wp2_with fail
      go_ret
      exact ⟨rfl, HB.out.alloc HB.out.size _⟩
    · rw [hr] at HOF ⊢
      clear e1 hr
      have hb8 : (bits BinOp.and IntKind.u8 12 8 != 0) = true := by decide
      have hb1 : (bits BinOp.and IntKind.u8 12 1 != 0) = false := by decide
      have hb4 : (bits BinOp.and IntKind.u8 12 4 == 0) = false := by decide
      have hb2 : (bits BinOp.and IntKind.u8 12 2 == 0) = true := by decide
      generalize (rowAt i.op).name = nm at *
      generalize (rowAt i.op).most = mo at *
      generalize (rowAt i.op).takes = ta at *
      generalize (rowAt i.op).gives = gi at *
      by_cases hb : i.b = 0
      case neg =>
        have tb : ((i.b : Int) != 0) = true := by simp; omega
        skip
        have HV : Hid (mayN 12 i.a i.b i.c = false) := by show _ = _; unfold mayN; simp [hb]
        rw [HV.out]
        clear HV hb
        go_enter Tryz.func27, Tryz.ntmps27
        go_wp2_with fail
        refine HOF.out.mono ?_
        rintro e w1 ⟨rfl, hb⟩
        have HB := Lib.hid (h0.out.trans (hb.mono h0.out.size))
        have z0 : w1.cell? ⟨w.heap.size, 0, none⟩ = some (.int .u8 (i.op : Int)) := by rw [hb.cell hlt]; exact cell_row hw0.out rfl
        have z1 : w1.cell? ⟨w.heap.size, 1, none⟩ = some (.int .u8 (i.a : Int)) := by rw [hb.cell hlt]; exact cell_row hw0.out rfl
        have z2 : w1.cell? ⟨w.heap.size, 2, none⟩ = some (.int .u16 (i.b : Int)) := by rw [hb.cell hlt]; exact cell_row hw0.out rfl
        have z3 : w1.cell? ⟨w.heap.size, 3, none⟩ = some (.int .u32 (i.c : Int)) := by rw [hb.cell hlt]; exact cell_row hw0.out rfl
        have hl1 : w.heap.size < w1.heap.size := Nat.lt_of_lt_of_le hlt hb.size
        clear hb
        go_wp2_with fail
        go_ret
        exact ⟨rfl, HB.out.alloc HB.out.size _⟩
      have tb : ((i.b : Int) != 0) = false := by simp; omega
      have tb2 : decide ((16 : Int) ≤ (i.b : Int)) = false := by simp; omega
      by_cases h1 : i.a = 1
      case pos =>
        have ta1 : ((i.a : Int) == 1) = true := by simp; omega
        have HV : Hid (mayN 12 i.a i.b i.c = true) := by show _ = _; unfold mayN; simp [h1, hb]
        rw [HV.out]
        clear HV h1 hb
        go_enter Tryz.func27, Tryz.ntmps27
        go_wp2_with fail
        refine HOF.out.mono ?_
        rintro e w1 ⟨rfl, hb⟩
        have HB := Lib.hid (h0.out.trans (hb.mono h0.out.size))
        have z0 : w1.cell? ⟨w.heap.size, 0, none⟩ = some (.int .u8 (i.op : Int)) := by rw [hb.cell hlt]; exact cell_row hw0.out rfl
        have z1 : w1.cell? ⟨w.heap.size, 1, none⟩ = some (.int .u8 (i.a : Int)) := by rw [hb.cell hlt]; exact cell_row hw0.out rfl
        have z2 : w1.cell? ⟨w.heap.size, 2, none⟩ = some (.int .u16 (i.b : Int)) := by rw [hb.cell hlt]; exact cell_row hw0.out rfl
        have z3 : w1.cell? ⟨w.heap.size, 3, none⟩ = some (.int .u32 (i.c : Int)) := by rw [hb.cell hlt]; exact cell_row hw0.out rfl
        have hl1 : w.heap.size < w1.heap.size := Nat.lt_of_lt_of_le hlt hb.size
        clear hb
        go_wp2_with fail
        go_ret
        exact ⟨rfl, HB.out.alloc HB.out.size _⟩
      have ta1 : ((i.a : Int) == 1) = false := by simp; omega
      by_cases h2 : i.a = 2
      case pos =>
        have ta2 : ((i.a : Int) == 2) = true := by simp; omega
        have HV : Hid (mayN 12 i.a i.b i.c = true) := by show _ = _; unfold mayN; simp [h2, hb, h1]
        rw [HV.out]
        clear HV h2 hb h1
        go_enter Tryz.func27, Tryz.ntmps27
        go_wp2_with fail
        refine HOF.out.mono ?_
        rintro e w1 ⟨rfl, hb⟩
        have HB := Lib.hid (h0.out.trans (hb.mono h0.out.size))
        have z0 : w1.cell? ⟨w.heap.size, 0, none⟩ = some (.int .u8 (i.op : Int)) := by rw [hb.cell hlt]; exact cell_row hw0.out rfl
        have z1 : w1.cell? ⟨w.heap.size, 1, none⟩ = some (.int .u8 (i.a : Int)) := by rw [hb.cell hlt]; exact cell_row hw0.out rfl
        have z2 : w1.cell? ⟨w.heap.size, 2, none⟩ = some (.int .u16 (i.b : Int)) := by rw [hb.cell hlt]; exact cell_row hw0.out rfl
        have z3 : w1.cell? ⟨w.heap.size, 3, none⟩ = some (.int .u32 (i.c : Int)) := by rw [hb.cell hlt]; exact cell_row hw0.out rfl
        have hl1 : w.heap.size < w1.heap.size := Nat.lt_of_lt_of_le hlt hb.size
        clear hb
        go_wp2_with fail
        go_ret
        exact ⟨rfl, HB.out.alloc HB.out.size _⟩
      have ta2 : ((i.a : Int) == 2) = false := by simp; omega
      by_cases h4 : i.a = 4
      case pos =>
        have ta4 : ((i.a : Int) == 4) = true := by simp; omega
        have HV : Hid (mayN 12 i.a i.b i.c = true) := by show _ = _; unfold mayN; simp [h4, hb, h1, h2]
        rw [HV.out]
        clear HV h4 hb h1 h2
        go_enter Tryz.func27, Tryz.ntmps27
        go_wp2_with fail
        refine HOF.out.mono ?_
        rintro e w1 ⟨rfl, hb⟩
        have HB := Lib.hid (h0.out.trans (hb.mono h0.out.size))
        have z0 : w1.cell? ⟨w.heap.size, 0, none⟩ = some (.int .u8 (i.op : Int)) := by rw [hb.cell hlt]; exact cell_row hw0.out rfl
        have z1 : w1.cell? ⟨w.heap.size, 1, none⟩ = some (.int .u8 (i.a : Int)) := by rw [hb.cell hlt]; exact cell_row hw0.out rfl
        have z2 : w1.cell? ⟨w.heap.size, 2, none⟩ = some (.int .u16 (i.b : Int)) := by rw [hb.cell hlt]; exact cell_row hw0.out rfl
        have z3 : w1.cell? ⟨w.heap.size, 3, none⟩ = some (.int .u32 (i.c : Int)) := by rw [hb.cell hlt]; exact cell_row hw0.out rfl
        have hl1 : w.heap.size < w1.heap.size := Nat.lt_of_lt_of_le hlt hb.size
        clear hb
        go_wp2_with fail
        go_ret
        exact ⟨rfl, HB.out.alloc HB.out.size _⟩
      have ta4 : ((i.a : Int) == 4) = false := by simp; omega
      have HV : Hid (mayN 12 i.a i.b i.c = false) := by show _ = _; unfold mayN; simp [hb, h1, h2, h4]
      rw [HV.out]
      clear HV hb h1 h2 h4
      go_enter Tryz.func27, Tryz.ntmps27
      go_wp2_with fail
      refine HOF.out.mono ?_
      rintro e w1 ⟨rfl, hb⟩
      have HB := Lib.hid (h0.out.trans (hb.mono h0.out.size))
      have z0 : w1.cell? ⟨w.heap.size, 0, none⟩ = some (.int .u8 (i.op : Int)) := by rw [hb.cell hlt]; exact cell_row hw0.out rfl
      have z1 : w1.cell? ⟨w.heap.size, 1, none⟩ = some (.int .u8 (i.a : Int)) := by rw [hb.cell hlt]; exact cell_row hw0.out rfl
      have z2 : w1.cell? ⟨w.heap.size, 2, none⟩ = some (.int .u16 (i.b : Int)) := by rw [hb.cell hlt]; exact cell_row hw0.out rfl
      have z3 : w1.cell? ⟨w.heap.size, 3, none⟩ = some (.int .u32 (i.c : Int)) := by rw [hb.cell hlt]; exact cell_row hw0.out rfl
      have hl1 : w.heap.size < w1.heap.size := Nat.lt_of_lt_of_le hlt hb.size
      clear hb
      go_wp2_with fail
      go_ret
      exact ⟨rfl, HB.out.alloc HB.out.size _⟩
end Go.Proofs.YtalmgjeiopjhlaaGreatDoor
