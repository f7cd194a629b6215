/- MemWords, whole. -/
import Derived.Test.YtfochgpjpngnlaaMemWords
import Derived.Test.YtfochgpjpngnlaaMemRead
namespace Go.Proofs.Ytfochgpjpngnlaa
open Go.RowKit
set_option linter.unusedVariables false
theorem words_walk (ba : Option Addr) (bl bc : Nat) (la : Option Addr) (ll lc : Nat) (at_ : Int) (w : World)
    (w0 : ReadsC w 35 [.slice ba bl bc]) (w1 : ReadsC w 23 [.slice la ll lc]) (w2 : (Lit.int .u32 at_).wf = true) :
    Calls Try.prog 5 #[.slice ba bl bc, .slice la ll lc, .int .u32 at_] w fun e w' => e = .returned (.bool true) ∧ Below w.heap.size w w' := by
  obtain ⟨b1, b2, X, hX, hXl⟩ := reads_bytes w0
  obtain ⟨l1, l2, L, hL⟩ := reads_regs w1
  obtain ⟨n, rfl, hn⟩ := u32_nat w2
  unfold maxLen at b2 l2
  by_cases h : 3000 < bl ∨ 50 < ll
  · exact words_big ba bl bc la ll lc _ w (by omega) (by omega) h
  · exact words_any ba bl bc X la ll lc L n w (by omega) b1 (by omega) hX hXl hL hn
end Go.Proofs.Ytfochgpjpngnlaa
