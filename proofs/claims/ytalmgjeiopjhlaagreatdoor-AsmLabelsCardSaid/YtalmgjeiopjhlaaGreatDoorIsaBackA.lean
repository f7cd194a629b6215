/- What IsaBack and others use. -/
import Derived.Test.YtalmgjeiopjhlaaGreatDoorIsaBack
import Derived.Deep.RegionHeld3
import Derived.BigQuiet
namespace Go.Proofs.YtalmgjeiopjhlaaGreatDoor
open Go.RowKit
set_option linter.unusedVariables false
theorem read_cases (len : Nat) (X : Nat → Nat) : (readE len X ≠ 0 ∧ readI len X = noIns) ∨ (readE len X = 0 ∧ readI len X = insOf X ∧ 8 ≤ len ∧ (insOf X).may = true) := by
  unfold readE readI
  by_cases h : len < 8
  · left; rw [if_pos h, if_pos h]; exact ⟨by omega, rfl⟩
  · rw [if_neg h, if_neg h]
    cases hm : (insOf X).may
    · left; exact ⟨by simp, by simp⟩
    · right; exact ⟨by simp, by simp, by omega, rfl⟩
theorem read_cat {i : Ins} (h : i.ok) (len : Nat) (X : Nat → Nat) : readI (8 + len) (catX i.byt X) = (if i.may then i else noIns) ∧ readE (8 + len) (catX i.byt X) = (if i.may then 0 else 90) := by
  unfold readI readE
  have h8 : ¬ 8 + len < 8 := by omega
  rw [if_neg h8, if_neg h8, insOf_byt h]
  exact ⟨rfl, rfl⟩
theorem eqz (w : World) : (Op.equalIn 10000 32 (.agg #[.int .u8 0, .int .u8 0, .int .u16 0, .int .u32 0]) (.agg #[.int .u8 0, .int .u8 0, .int .u16 0, .int .u32 0])).run Tryz.prog w = .ok true w := by kernel_rfl
theorem wpList_append_run {P : Program} {ops : Array Oper} {rest : List Oper} {o : Oper} {a : Act} {w : World} {Q : Exit → Act → World → Prop} (hgd : o.guard = none) (s x : Operand) (t : TypeId) (ho : o.op = .call { callee := .builtin .append, args := #[s, x], argTypes := #[t, t] })
    (v : Value) (w' : World) (y z : Value) (hs : a.eval s = y) (hx : a.eval x = z) (hr : ∀ ty, (Builtin.append_ #[t, t] ty #[y, z]).run P w = .ok v w') (h : wpList P ops Q rest (a.put o.dst v) w') : wpList P ops Q (o :: rest) a w := by
  refine wpList_plain hgd fun K hK => ?_
  unfold Oper.wp execOp
  simp only [ho, resolve, invoke, builtin, Sem.run_bind, Sem.run_pure, Result.andThen_ok, List.map_toArray, List.map_cons, List.map_nil, hs, hx, hr]
  exact hK _ _ h
def insA (i : Ins) : Array Value := #[.int .u8 (i.op : Int), .int .u8 (i.a : Int), .int .u16 (i.b : Int), .int .u32 (i.c : Int)]
end Go.Proofs.YtalmgjeiopjhlaaGreatDoor
