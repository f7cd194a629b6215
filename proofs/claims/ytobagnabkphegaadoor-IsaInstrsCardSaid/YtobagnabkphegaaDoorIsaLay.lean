/- The library's contracts. -/
import Derived.Shelf.Strconv.Itoa3
import Derived.Shelf.Lay
import Derived.Ground.NamesProg
import Derived.Test.YtobagnabkphegaaDoorIsaRead
namespace Go.Proofs.YtobagnabkphegaaDoor
open Go.Shelf Go.RowKit
set_option linter.unusedVariables false
shelf_lay LaysM.n171 Nm 171 at Tryd as Tryd.laysItoa
shelf_lay Lays.n283 Nm 283 at Tryd as Tryd.laysSmall
def decS (n : Nat) : ByteArray := ⟨(Lib.decDigits n).toArray⟩
theorem itoa_small (n : Nat) (h : n < 100) (w : World) : Calls Tryd.prog 26 #[.int .i64 (n : Int)] w fun e w' => e = .returned (.string (decS n)) ∧ w' = w := Any.strconv_Itoa_small { Tryd.laysItoa with } n h w
theorem small_any (n : Nat) (h : n < 100) (w : World) : Calls Tryd.prog 34 #[.int .i64 (n : Int)] w fun e w' => e = .returned (.string (decS n)) ∧ w' = w := Any.internal_strconv_small Tryd.laysSmall n h w
set_option maxRecDepth 100000 in
theorem fmt_small (n : Nat) (h : n < 100) (w : World) : Calls Tryd.prog 27 #[.int .u64 (n : Int), .int .i64 10] w fun e w' => e = .returned (.string (decS n)) ∧ Below w.heap.size w w' := by
  have t1 : decide ((n : Int) < 100) = true := by simp; omega
  have hw : wrap64 (n : Int) = (n : Int) := by unfold wrap64; omega
  have HS := Lib.hid (small_any n h w)
  go_enter Tryd.func27, Tryd.ntmps27
  go_wp2_with fail
  have HC : Calls Tryd.prog 32 #[.int .u64 (n : Int), .int .i64 10] w fun e w' => e = .returned (.string (decS n)) ∧ w' = w := by
    go_enter Tryd.func32, Tryd.ntmps32
    go_wp2_with fail
    refine HS.out.mono ?_
    rintro e w' ⟨rfl, rfl⟩
    go_wp2_with fail
    go_ret
    exact ⟨rfl, rfl⟩
  refine HC.mono ?_
  rintro e w' ⟨rfl, rfl⟩
  clear HC HS
  go_wp2_with fail
  go_ret
  exact ⟨rfl, Below.refl _ _⟩
end Go.Proofs.YtobagnabkphegaaDoor
