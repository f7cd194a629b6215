/- IsaInstrs, whole. -/
import Derived.Test.YtobagnabkphegaaDoorIsaIM
namespace Go.Proofs.YtobagnabkphegaaDoor
open Go.RowKit
set_option linter.unusedVariables false
theorem instrs_walk (v : Value) (w : World) (w0 : ReadsC w 27 v.cells.toList ∧ Value.okWide Tryd.prog w .any 0 27 v) (htab : Lib.TabIs Tryd.prog w "internal/strconv.uint64pow10" .u64 Lib.pow10Tab) :
    Calls Tryd.prog 5 #[v] w fun e w' => e = .returned (.bool true) ∧ Below w.heap.size w w' := by
  obtain ⟨i, hi, rfl⟩ := ins_value w0
  exact instrs_any i w hi htab
end Go.Proofs.YtobagnabkphegaaDoor
