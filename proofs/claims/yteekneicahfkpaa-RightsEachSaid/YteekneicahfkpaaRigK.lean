/- The comparison of regions. -/
import Derived.Test.YteekneicahfkpaaRigL
namespace Go.Proofs.Yteekneicahfkpaa
open Go.Shelf Go.RowKit Go.Lib Go.Sort
set_option linter.unusedVariables false
/-- A region as it is held: with its bounds. -/
abbrev RegK := { r : Reg // r.ok }
instance : Inhabited RegK := ⟨⟨⟨0, 0, 0⟩, ⟨by decide, by decide, by decide⟩⟩⟩
theorem cmp_any (x y : Reg) (hx : x.ok) (hy : y.ok) (W : World) : Calls Try.prog 26 #[x.val, y.val] W fun e w' => e = .returned (.int .i64 (cmpR x y)) ∧ ∃ q os', w' = grow (W.drewN q) os' := by
  have h1 := hx.base; have h2 := hy.base
  obtain ⟨xb, xs, xt⟩ := x
  obtain ⟨yb, ys, yt⟩ := y
  simp only at h1 h2
  unfold Reg.val cmpR
  clear hx hy
  have hw : wrap64 ((xb : Int) - (yb : Int)) = (xb : Int) - (yb : Int) := by unfold wrap64; omega
  have hw2 : IntKind.i64.wrap ((xb : Int) - (yb : Int)) = (xb : Int) - (yb : Int) := by simp [IntKind.wrap, IntKind.bits, IntKind.signed]; omega
  go_enter Try.func26, Try.ntmps26
  go_wp2_with fail
  go_ret
  exact ⟨rfl, 0, _, by rw [alloc_eq_grow, alloc_eq_grow, grow_grow]; rfl⟩
end Go.Proofs.Yteekneicahfkpaa
