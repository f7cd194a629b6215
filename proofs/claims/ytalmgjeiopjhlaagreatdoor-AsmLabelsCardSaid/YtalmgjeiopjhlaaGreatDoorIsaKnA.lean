/- What known and others use: equality of instructions, short texts, new slices. -/
import Derived.Test.YtalmgjeiopjhlaaGreatDoorIsaText
import Derived.Laws.StructEq
import Derived.Deep.CutRange
import Derived.Deep.OwnRows
namespace Go.Proofs.YtalmgjeiopjhlaaGreatDoor
open Go.RowKit
set_option linter.unusedVariables false
def Ins.eq (i j : Ins) : Bool := i.op == j.op && i.a == j.a && i.b == j.b && i.c == j.c
theorem equal_ins (i j : Ins) (w : World) : (Op.equalIn 10000 32 i.val j.val).run Tryz.prog w = .ok (i.eq j) w := by
  have hS : Tryz.prog.underlying 32 = some (.struct (Tryz.prog.fieldsOf 32)) := by kernel_rfl
  have hp : Tryz.prog.stoodInHeld 32 = false := by kernel_rfl
  have c1 : ∀ x y : Nat, ((x : Int) == (y : Int)) = (x == y) := fun x y => by
    by_cases h : x = y
    · simp [h]
    · have : ¬ (x : Int) = (y : Int) := by omega
      rw [beq_eq_false_iff_ne.2 h, beq_eq_false_iff_ne.2 this]
  unfold Ins.val
  rw [show (10000 : Nat) = 9999 + 1 from rfl, run_equalIn_agg w 9999 32 _ _ hS hp]
  simp only [Program.fieldsOf, Tryz.underlying32]
  go_simp
  unfold Ins.eq
  repeat' split
  all_goals simp_all
def lX (l : List Nat) (i : Nat) : Nat := l.getD i 0
theorem lX_lt (l : List Nat) (h : l.all (· < 256) = true) (i : Nat) : lX l i < 256 := by
  unfold lX
  rw [List.getD_eq_getElem?_getD]
  by_cases hi : i < l.length
  · rw [List.getElem?_eq_getElem hi]
    have := List.all_eq_true.1 h l[i] (List.getElem_mem hi)
    simpa using this
  · rw [List.getElem?_eq_none (by omega)]; decide
theorem slice_new (w : World) (l : List Nat) (c : Nat) : SliceAt (w.alloc (.cells (l.map fun n : Nat => Value.int .u8 ((n : Nat) : Int)).toArray 5)) (some ⟨w.heap.size, 0, none⟩) l.length (bV (lX l)) :=
  .inr ⟨w.heap.size, 0, rfl, by simp, fun i hi => by
    rw [Nat.zero_add]
    refine cell_row (heap_alloc_new _ _) ?_
    unfold bV lX
    simp [List.getD_eq_getElem?_getD, hi]⟩
theorem dec1 (n : Nat) (h : n < 10) : decS n = ⟨#[UInt8.ofNat (48 + n)]⟩ := by unfold decS; rw [Lib.decDigits_one h]
theorem dec2 (n : Nat) (h1 : ¬ n < 10) (h2 : n < 100) : decS n = ⟨#[UInt8.ofNat (48 + n / 10), UInt8.ofNat (48 + n % 10)]⟩ := by unfold decS; rw [Lib.decDigits_two h1 h2]
theorem text1 : (Ins.mk 23 1 2 0).text = ⟨#[114, 101, 97, 100, 32, 49, 32, 50]⟩ := by
  show nameS 23 ++ (blank ++ decS 1) ++ (blank ++ decS 2) = _
  rw [dec1 1 (by omega), dec1 2 (by omega)]; kernel_rfl
theorem text2 : (Ins.mk 17 2 0 16).text = ⟨#[108, 111, 97, 100, 50, 32, 49, 54]⟩ := by
  show nameS 17 ++ decS 2 ++ (blank ++ decS 16) = _
  rw [dec1 2 (by omega), dec2 16 (by omega) (by omega)]; kernel_rfl
theorem infoU8 : (Tryz.prog.info? 5).map (fun i => (i.zero, i.size, i.bytes)) = some (some (.int .u8 0), 1, 1) := by kernel_rfl
theorem byt1 : (Ins.mk 1 0 0 258).bytL.toArray = #[.int .u8 1, .int .u8 0, .int .u8 0, .int .u8 0, .int .u8 2, .int .u8 1, .int .u8 0, .int .u8 0] := by kernel_rfl
theorem rd (l : List Nat) : readI l.length (lX l) = readI l.length (lX l) := rfl
def bytes8 : Array Value := #[.int .u8 1, .int .u8 0, .int .u8 0, .int .u8 0, .int .u8 2, .int .u8 1, .int .u8 0, .int .u8 0]
theorem eq8 (w : World) : (Op.equalIn 10000 76 (.agg #[.int .u8 1, .int .u8 0, .int .u8 0, .int .u8 0, .int .u8 2, .int .u8 1, .int .u8 0, .int .u8 0]) (.agg #[.int .u8 1, .int .u8 0, .int .u8 0, .int .u8 0, .int .u8 2, .int .u8 1, .int .u8 0, .int .u8 0])).run Tryz.prog w = .ok true w := by kernel_rfl
theorem eqr (w : World) : (Op.equalIn 10000 32 (.agg #[.int .u8 23, .int .u8 1, .int .u16 2, .int .u32 0]) (.agg #[.int .u8 23, .int .u8 1, .int .u16 2, .int .u32 0])).run Tryz.prog w = .ok true w := by kernel_rfl
/-- Read at bytes that have just been laid. -/
theorem read_new (l : List Nat) (w : World) (h : l.all (· < 256) = true) (hl : l.length ≤ 8) (i : Ins) (E : Int) (hi : readI l.length (lX l) = i) (hE : readE l.length (lX l) = E) :
    Calls Tryz.prog 44 #[.slice (some ⟨w.heap.size, 0, none⟩) l.length l.length] (w.alloc (.cells (l.map fun n : Nat => Value.int .u8 ((n : Nat) : Int)).toArray 5)) fun e w' => e = .returned (.tuple #[i.val, .int .i64 E]) ∧ Below w.heap.size w w' := by
  subst hi; subst hE
  refine (read_any _ l.length l.length (lX l) _ (slice_new w l 0) (lX_lt l h) (by omega) (Nat.le_refl _)).mono ?_
  rintro e w' ⟨he, hb⟩
  exact ⟨he, (alloc_below w _).trans (hb.mono (by simp))⟩
theorem kept {w w' : World} {g : Nat} {o : Obj} (h : w.heap[g]? = some o) (hb : Below w.heap.size w w') : w'.heap[g]? = some o := (hb.block g (heap_lt h)).trans h
end Go.Proofs.YtalmgjeiopjhlaaGreatDoor
