/- MemOwn, whole. -/
import Derived.Test.YtfochgpjpngnlaaMemOwn
import Derived.Test.YtfochgpjpngnlaaMemRead
namespace Go.Proofs.Ytfochgpjpngnlaa
open Go.RowKit
set_option linter.unusedVariables false
theorem own_walk (ba : Option Addr) (bl bc : Nat) (la : Option Addr) (ll lc : Nat) (at_ k x : Int) (w : World)
    (w0 : ReadsC w 35 [.slice ba bl bc]) (w1 : ReadsC w 23 [.slice la ll lc]) (w2 : (Lit.int .u32 at_).wf = true) (w3 : (Lit.int .u8 k).wf = true) (w4 : (Lit.int .u32 x).wf = true) :
    Calls Try.prog 4 #[.slice ba bl bc, .slice la ll lc, .int .u32 at_, .int .u8 k, .int .u32 x] w fun e w' => e = .returned (.bool true) ∧ Below w.heap.size w w' := by
  obtain ⟨b1, b2, X, hX, hXl⟩ := reads_bytes w0
  obtain ⟨l1, l2, L, hL⟩ := reads_regs w1
  obtain ⟨n, rfl, hn⟩ := u32_nat w2
  obtain ⟨m, rfl, hm⟩ := u8_nat w3
  obtain ⟨y, rfl, hy⟩ := u32_nat w4
  unfold maxLen at b2 l2
  by_cases h : 3000 < bl ∨ 50 < ll
  · exact own_big ba bl bc la ll lc _ _ _ w (by omega) (by omega) h
  · exact own_any ba bl bc X la ll lc L n m y w (by omega) (by omega) hX hXl hL hn hm hy
end Go.Proofs.Ytfochgpjpngnlaa
