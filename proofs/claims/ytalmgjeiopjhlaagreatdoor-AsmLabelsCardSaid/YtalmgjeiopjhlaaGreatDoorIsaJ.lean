/- Jumps. -/
import Derived.Test.YtalmgjeiopjhlaaGreatDoorIsaOf
namespace Go.Proofs.YtalmgjeiopjhlaaGreatDoor
open Go.RowKit
set_option linter.unusedVariables false
set_option linter.unusedSimpArgs false
def jumpB (op : Nat) : Bool := op == 19 || op == 20
theorem jumps_any (op : Nat) (w : World) : Calls Tryz.prog 28 #[.int .u8 (op : Int)] w fun e w' => e = .returned (.bool (jumpB op)) ∧ w' = w := by
  by_cases h19 : op = 19
  · subst h19
    rw [show jumpB 19 = true from rfl]
    go_enter Tryz.func28, Tryz.ntmps28
    go_wp2_with fail
    go_ret
    exact ⟨rfl, rfl⟩
  · have q19 : ((op : Int) == 19) = false := by simp; omega
    have e : jumpB op = ((op : Int) == 20) := by unfold jumpB; rw [beq_eq_false_iff_ne.2 h19, Bool.false_or]; exact Bool.eq_iff_iff.2 (by simp; omega)
    rw [e]
    clear e h19
    go_enter Tryz.func28, Tryz.ntmps28
    go_wp2_with fail
    go_ret
    exact ⟨by first | rfl | simp, rfl⟩
end Go.Proofs.YtalmgjeiopjhlaaGreatDoor
