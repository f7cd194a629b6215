/- IsaBack, whole. -/
import Derived.Test.YtobagnabkphegaaDoorIsaBackM
namespace Go.Proofs.YtobagnabkphegaaDoor
open Go.RowKit
set_option linter.unusedVariables false
theorem back_walk (v : Value) (a : Option Addr) (len cap : Nat) (w : World) (w0 : ReadsC w 27 v.cells.toList ∧ Value.okWide Tryd.prog w .any 0 27 v) (w1 : ReadsC w 22 [.slice a len cap]) (z1 : len ≤ 140737488351232) :
    Calls Tryd.prog 4 #[v, .slice a len cap] w fun e w' => e = .returned (.bool true) ∧ Below w.heap.size w w' := by
  obtain ⟨i, hi, rfl⟩ := ins_value w0
  obtain ⟨b1, b2, X, hX, hl⟩ := reads_bytes w1
  exact back_any i hi a len cap X w hX hl z1 b1
end Go.Proofs.YtobagnabkphegaaDoor
