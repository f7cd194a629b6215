/- The document's Bytes. -/
import Derived.Test.YtalmgjeiopjhlaaGreatDoorIsaRefA
namespace Go.Proofs.YtalmgjeiopjhlaaGreatDoor
open Go.RowKit
set_option linter.unusedVariables false
set_option linter.unusedSimpArgs false
def refB (i : Ins) : Array Value := #[.int .u8 (i.op : Int), .int .u8 (i.a : Int), .int .u8 ((i.b : Int) % 256), .int .u8 ((i.b : Int) / 256), .int .u8 ((i.c : Int) % 256), .int .u8 ((i.c : Int) / 256 % 256), .int .u8 ((i.c : Int) / 65536 % 256), .int .u8 ((i.c : Int) / 16777216)]
theorem refB_eq (i : Ins) (h : i.ok) : refB i = i.bytL.toArray := by
  have hb := h.b; have hc := h.c
  rw [show i.bytL.toArray = #[bV i.byt 0, bV i.byt 1, bV i.byt 2, bV i.byt 3, bV i.byt 4, bV i.byt 5, bV i.byt 6, bV i.byt 7] from rfl]
  unfold refB
  have e : ∀ {x : Int} {n : Nat}, x = (n : Int) → Value.int .u8 x = Value.int .u8 ((n : Nat) : Int) := fun h => by rw [h]
  rw [show bV i.byt 0 = .int .u8 (i.op : Int) from rfl, show bV i.byt 1 = .int .u8 (i.a : Int) from rfl,
    show bV i.byt 2 = .int .u8 ((i.b / 256 ^ 0 % 256 : Nat) : Int) from rfl, show bV i.byt 3 = .int .u8 ((i.b / 256 ^ 1 % 256 : Nat) : Int) from rfl,
    show bV i.byt 4 = .int .u8 ((i.c / 256 ^ 0 % 256 : Nat) : Int) from rfl, show bV i.byt 5 = .int .u8 ((i.c / 256 ^ 1 % 256 : Nat) : Int) from rfl,
    show bV i.byt 6 = .int .u8 ((i.c / 256 ^ 2 % 256 : Nat) : Int) from rfl, show bV i.byt 7 = .int .u8 ((i.c / 256 ^ 3 % 256 : Nat) : Int) from rfl]
  congr 1
  rw [e (x := (i.b : Int) % 256) (n := i.b / 256 ^ 0 % 256) (by omega), e (x := (i.b : Int) / 256) (n := i.b / 256 ^ 1 % 256) (by omega),
    e (x := (i.c : Int) % 256) (n := i.c / 256 ^ 0 % 256) (by omega), e (x := (i.c : Int) / 256 % 256) (n := i.c / 256 ^ 1 % 256) (by omega),
    e (x := (i.c : Int) / 65536 % 256) (n := i.c / 256 ^ 2 % 256) (by omega), e (x := (i.c : Int) / 16777216) (n := i.c / 256 ^ 3 % 256) (by omega)]
set_option maxHeartbeats 1000000 in
set_option maxRecDepth 100000 in
theorem rbytes_any (i : Ins) (w : World) (h : i.ok) : Calls Tryz.prog 47 #[i.val] w fun e w' => (∃ g, e = .returned (.slice (some ⟨g, 0, none⟩) 8 8) ∧ w'.heap[g]? = some (.cells i.bytL.toArray 5 (0, 0))) ∧ Below w.heap.size w w' := by
  rw [← refB_eq i h]
  obtain ⟨wa, hwa⟩ : ∃ x, x = w.alloc (.cells #[.int .u8 (i.op : Int), .int .u8 (i.a : Int), .int .u16 (i.b : Int), .int .u32 (i.c : Int)] 32) := ⟨_, rfl⟩
  have hw0 : Hid (wa.heap[w.heap.size]? = some (.cells #[.int .u8 (i.op : Int), .int .u8 (i.a : Int), .int .u16 (i.b : Int), .int .u32 (i.c : Int)] 32 (0, 0))) := by rw [hwa]; exact heap_alloc_new _ _
  have BA : Hid (Below w.heap.size w wa) := by rw [hwa]; exact alloc_below _ _
  have HWA := Lib.hid hwa
  have hb16 := h.b
  have hc32 := h.c
  have w1 : ((i.b : Int) / 256) % 256 = (i.b : Int) / 256 := by omega
  have w2 : ((i.c : Int) / 16777216) % 256 = (i.c : Int) / 16777216 := by omega
  have w3 : IntKind.u8.wrap ((i.b : Int) / 256) = (i.b : Int) / 256 := by rw [IntKind.wrap_u8]; exact w1
  have w4 : IntKind.u8.wrap ((i.c : Int) / 16777216) = (i.c : Int) / 16777216 := by rw [IntKind.wrap_u8]; exact w2
  clear hwa
  have z0 := cell_row (j := 0) hw0.out rfl
  have z1 := cell_row (j := 1) hw0.out rfl
  have z2 := cell_row (j := 2) hw0.out rfl
  have z3 := cell_row (j := 3) hw0.out rfl
  have z4 := heap_lt hw0.out
  unfold Ins.val
  go_enter Tryz.func47, Tryz.ntmps47
  go_upto_region 1 with fail
  rw [← HWA.out]
  generalize hgb : w.heap.size = gb at *
  go_wp2_with fail
  go_ret
  exact ⟨⟨_, rfl, heap_alloc_new _ _⟩, by first | exact BA.out.alloc (Nat.le_of_lt z4) _ | (rw [hgb]; exact BA.out.alloc (Nat.le_of_lt z4) _)⟩
end Go.Proofs.YtalmgjeiopjhlaaGreatDoor
