/- The world of the witness (the door's own heap, the pinned table laid); what the row's condition and the world's shape give the library's calls. -/
import Derived.Test.YtdlpgoackmgdkaaGreatDoorZAsmB
import Derived.LaidMore
import Derived.LaidLaws
import Derived.LaidSub
import Derived.LaidHandle
import Derived.MakeChecks
import Derived.Lib.LaidTab
import Derived.Shelf.Vars
import Derived.Stop.LaidErr
import GoSem.PinnedTables
namespace Go.Proofs.YtdlpgoackmgdkaaGreatDoor
open Go.Shelf Go.RowKit
set_option linter.unusedVariables false
set_option linter.unusedSimpArgs false
set_option maxRecDepth 100000
def laidL : List (String × DataW Unit) := Rows.arsSendsRow.laid
def litV : DataW Unit → Value
  | .lit (.int k n) => .int k n
  | _ => undef
def firstC : Array Value := match Go.Pinned.utf8First with
  | .agg l => (l.map litV).toArray
  | _ => #[]
noncomputable def laidW (os : Os) : World :=
  { World.doorLaid Tryz.prog 64 os with heap := (World.doorLaid Tryz.prog 64 os).heap.modify 6 fun | .cells _ t frozen => .cells firstC t frozen | o => o }
theorem laidW_met (os : Os) (args : Array Value) : laidMetH Tryz.prog laidL ((laidW os).forCall (fun _ _ => 0) ⟨#[], args, []⟩).memory :=
  laidMetH_of_parts3 (fuel := 8) (laidMet_of_run' 8 (by kernel_rfl) (by kernel_rfl)) (by kernel_rfl) (by kernel_rfl)
theorem laidW_shaped (os : Os) (args : Array Value) : ((laidW os).forCall (fun _ _ => 0) ⟨#[], args, []⟩).Shaped Tryz.prog := World.shaped_of_RefB (by kernel_rfl) (by kernel_rfl)
theorem star_ : "*" ++ "errors.errorString" = "*errors.errorString" := by decide
/-- The one row of that name. -/
theorem rowErr (u : TypeId) (h : Tryz.prog.typeName? 3 u = some "*errors.errorString") : u = 240 :=
  typeName_ptr_named (nm := "errors.errorString") (by rw [star_]; kernel_rfl) (by kernel_rfl) (by decide) u (by rw [star_]; exact h)
theorem errSyntax_of {W : World} (h : laidMetH Tryz.prog laidL W) : ∃ ev, W.cell? ⟨2, 0, none⟩ = some ev ∧ ErrV ev := by
  have h1 := h.filter (fun x => x.1 == "strconv.ErrSyntax")
  rw [show (laidL.filter fun x => x.1 == "strconv.ErrSyntax") = [("strconv.ErrSyntax", Rows.laid_strconv_ErrSyntax)] by kernel_rfl, Go.MakeChecks.laidMetH_plain _ _ _ rfl] at h1
  obtain ⟨a, s, hv, _, _, _⟩ := laid_sentinel h1 (g := 2) (by kernel_rfl) (by kernel_rfl) Tryz.underlying118 rowErr Tryz.underlying240 Tryz.underlying242 rfl rfl Tryz.underlying9 (by kernel_rfl) (by kernel_rfl)
  exact ⟨_, by simpa using World.var?_cell (by kernel_rfl) hv 0, .inr ⟨_, _, rfl⟩⟩
theorem errRange_of {W : World} (h : laidMetH Tryz.prog laidL W) : ∃ ev, W.cell? ⟨3, 0, none⟩ = some ev ∧ ErrV ev := by
  have h1 := h.filter (fun x => x.1 == "strconv.ErrRange")
  rw [show (laidL.filter fun x => x.1 == "strconv.ErrRange") = [("strconv.ErrRange", Rows.laid_strconv_ErrRange)] by kernel_rfl, Go.MakeChecks.laidMetH_plain _ _ _ rfl] at h1
  obtain ⟨a, s, hv, _, _, _⟩ := laid_sentinel h1 (g := 3) (by kernel_rfl) (by kernel_rfl) Tryz.underlying118 rowErr Tryz.underlying240 Tryz.underlying242 rfl rfl Tryz.underlying9 (by kernel_rfl) (by kernel_rfl)
  exact ⟨_, by simpa using World.var?_cell (by kernel_rfl) hv 0, .inr ⟨_, _, rfl⟩⟩
theorem tab_of {W : World} (h : laidMetH Tryz.prog laidL W) : TabW W := by
  have h1 := h.filter (fun x => x.1 == "internal/strconv.uint64pow10")
  rw [show (laidL.filter fun x => x.1 == "internal/strconv.uint64pow10") = [("internal/strconv.uint64pow10", Lib.tabData .u64 Lib.pow10Tab)] by kernel_rfl, Go.MakeChecks.laidMetH_plain _ _ _ rfl] at h1
  exact Lib.tabIs_of_head (g := 0) (by kernel_rfl) (by kernel_rfl) Tryz.underlying204 Tryz.underlying113 (by kernel_rfl) (by kernel_rfl) h1
theorem lib_of {W : World} (h : laidMetH Tryz.prog laidL W) (hs : W.ShapedOpen Tryz.prog) : LibW W :=
  ⟨⟨errSyntax_of h, errRange_of h⟩, tab_of h,
   cell_of_shapedOpen_int (t := 3) (zero := #[.int .i64 0]) hs (of_decide_eq_true (by kernel_rfl)) (by kernel_rfl) rfl (by kernel_rfl) (by kernel_rfl) Tryz.underlying3⟩
end Go.Proofs.YtdlpgoackmgdkaaGreatDoor
