/- Itoa; the writer's number. -/
import Derived.Test.YtpodedhnlicckaaGreatDoorTbPu
namespace Go.Proofs.YtpodedhnlicckaaGreatDoor
open Go.Shelf Go.RowKit Go.Sort
set_option linter.unusedVariables false
set_option linter.unusedSimpArgs false
def TabW (w : World) : Prop := Lib.TabIs Tryz.prog w "internal/strconv.uint64pow10" .u64 Lib.pow10Tab
theorem TabW.below {w w' : World} (h : TabW w) (hb : Below w.heap.size w w') : TabW w' := by
  obtain ⟨gn, hg⟩ : ∃ gn, Tryz.prog.globalNamed "internal/strconv.uint64pow10" = some gn := Option.isSome_iff_exists.1 (by kernel_rfl)
  have hc := h.cell hg 0 (by decide)
  unfold TabW Lib.TabIs World.var? at *
  rw [hg] at h ⊢
  simp only [Option.bind_some] at h ⊢
  have hlt : gn < w.heap.size := by
    rcases Nat.lt_or_ge gn w.heap.size with e | e
    · exact e
    · exfalso
      have hn : w.heap[gn]? = none := Array.getElem?_eq_none e
      simp [World.cell?, hn] at hc
  rw [hb.block gn hlt]
  exact h
def itoaB (n : Int) : ByteArray := ⟨(Lib.itoa n).toArray⟩
theorem itoa_any (n : Int) (h0 : -9223372036854775808 ≤ n) (h1 : n ≤ 9223372036854775807) (w : World) (hT : TabW w) :
    Calls Tryz.prog 84 #[.int .i64 n] w fun e w' => e = .returned (.string (itoaB n)) ∧ Below w.heap.size w w' := by
  refine (Any.strconv_Itoa Tryz.laysItoa n h0 h1 w hT).mono ?_
  rintro e w' ⟨rfl, k, os, rfl⟩
  refine ⟨rfl, rfl, rfl, rfl, ?_, fun i hi => ?_⟩
  · show w.heap.size ≤ (w.heap ++ os).size
    simp
  · show (w.heap ++ os)[i]? = w.heap[i]?
    exact Array.getElem?_append_left hi
end Go.Proofs.YtpodedhnlicckaaGreatDoor
