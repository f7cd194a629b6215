/- IsaTexts, whole. -/
import Derived.Test.YtobagnabkphegaaDoorIsaTxM
namespace Go.Proofs.YtobagnabkphegaaDoor
open Go.RowKit
set_option linter.unusedVariables false
theorem texts_walk (v x : Value) (w : World) (w0 : ReadsC w 27 v.cells.toList ∧ Value.okWide Tryd.prog w .any 0 27 v) (w1 : ReadsC w 27 x.cells.toList ∧ Value.okWide Tryd.prog w .any 0 27 x) (htab : Lib.TabIs Tryd.prog w "internal/strconv.uint64pow10" .u64 Lib.pow10Tab) :
    Calls Tryd.prog 7 #[v, x] w fun e w' => e = .returned (.bool true) ∧ Below w.heap.size w w' := by
  obtain ⟨i, hi, rfl⟩ := ins_value w0
  obtain ⟨j, hj, rfl⟩ := ins_value w1
  exact texts_any i j w hi hj htab
end Go.Proofs.YtobagnabkphegaaDoor
