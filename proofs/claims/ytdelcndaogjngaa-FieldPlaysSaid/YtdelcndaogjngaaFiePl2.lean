/- The two side by side: what else the walk needs. -/
import Derived.Test.YtdelcndaogjngaaFiePl1
namespace Go.Proofs.Ytdelcndaogjngaa
open Go.RowKit
set_option linter.unusedVariables false
theorem Like.latch_all (f : FS) (n nI : Nat) (X : Nat → Nat) : Like f (if n = nI then f.latch X else f) := by
  split
  · exact Like.latch _ _
  · exact Like.refl _
theorem Like.M {f f' : FS} (h : Like f f') : f'.M = f.M := by funext b; unfold FS.M; rw [h.lo, h.hi]
section
variable {w0 w w' : World} {f : FS} {R R' : RS} {nI len rd k : Nat} {wt : Int} {a : Option Addr} {S : Nat → Nat}
theorem Ag.latch_all (h : Ag len S f R k) {n m : Nat} {X : Nat → Nat} (hx : if n = m then R'.ins = X ∧ R'.outs = R.outs ∧ R'.puts = [] else R' = R) (hS : f.safe = S) : Ag len S (if n = m then f.latch X else f) R' (k + 1) := by
  by_cases e : n = m
  · rw [if_pos e] at hx
    rw [if_pos e]
    exact h.latch hx.1 hx.2.1 hx.2.2 hS
  · rw [if_neg e] at hx
    rw [if_neg e, hx]
    exact h.up
theorem Ag.out_all (h : Ag len S f R k) {p n : Int} {x : Nat} (hs : Sp w0 w f R nI len rd wt a S) (hx : if oE R p n = 0 then R'.ins = R.ins ∧ R'.outs = R.outs ∧ R'.puts = R.puts ++ [(n.toNat, x)] else R' = R) : Ag len S (if outE f p n = 0 then f.outP n.toNat x else f) R' (k + 1) := by
  rw [← outE_eq hs] at hx
  by_cases e : outE f p n = 0
  · rw [if_pos e] at hx
    rw [if_pos e]
    exact h.outP hx.1 hx.2.1 hx.2.2 hs.fsafe
  · rw [if_neg e] at hx
    rw [if_neg e, hx]
    exact h.up
theorem Ag.to (h : Ag len S f R k) (lo hi g bi bo bp bh : Nat) (vi vo vp vh : Value) : Ag len S (f.to lo hi g bi bo bp bh vi vo vp vh) R (k + 1) := ⟨h.ins, h.outs, h.done, by have := h.n; omega⟩
end
theorem made_at (V : World) (n : Nat) (hn : n ≤ maxLen) : SliceAt (V.alloc (.cells (madeCells #[.int .u32 0] n) 23)) (some ⟨V.heap.size, 0, none⟩) n (uV fun _ => 0) := by
  obtain ⟨a, c, e, -, -, h⟩ := (made_row V (.int .u32 0) 23 n hn).slice
  cases e
  exact h
end Go.Proofs.Ytdelcndaogjngaa
