/- MemPlays, whole. -/
import Derived.Test.YtfochgpjpngnlaaMemPlM
namespace Go.Proofs.Ytfochgpjpngnlaa
open Go.RowKit
set_option linter.unusedVariables false
theorem plays_walk (n : Int) (la : Option Addr) (ll lc : Nat) (ba : Option Addr) (bl bc : Nat) (w : World)
    (w0 : (Lit.int .u32 n).wf = true) (w1 : ReadsC w 23 [.slice la ll lc]) (w2 : ReadsC w 24 [.slice ba bl bc]) :
    Calls Try.prog 3 #[.int .u32 n, .slice la ll lc, .slice ba bl bc] w fun e w' => e = .returned (.bool true) ∧ Below w.heap.size w w' := by
  obtain ⟨l1, l2, L, hL⟩ := reads_regs w1
  obtain ⟨b1, b2, B, hB⟩ := reads_dos w2
  obtain ⟨m, rfl, hm⟩ := u32_nat w0
  unfold maxLen at b2 l2
  exact plays_any m la ll lc L ba bl bc B w hm hL (by omega) hB (by omega)
end Go.Proofs.Ytfochgpjpngnlaa
