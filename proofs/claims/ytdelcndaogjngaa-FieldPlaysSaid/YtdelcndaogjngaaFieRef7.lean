/- The document's Commit: the new output words are laid. -/
import Derived.Test.YtdelcndaogjngaaFieRef6
namespace Go.Proofs.Ytdelcndaogjngaa
open Go.RowKit
set_option linter.unusedVariables false
theorem RefAt.newOuts {w w7 : World} {R : RS} {av : Option Addr} {cv bw : Nat} {X : Nat → Nat} (h : RefAt w R) (hB : Below w.heap.size w w7) (hs : SlAt w7 (.slice av R.nS cv) bw 23 R.nS (uV X)) (h1 : w.heap.size ≤ bw) (h2 : bw < w7.heap.size) :
    RefAt (w7.setCell ⟨R.r, 5, none⟩ (.slice av R.nS cv)) { R with vo := .slice av R.nS cv, bo := bw, outs := X } := by
  have hob := (hB.block _ h.hi.1).trans h.obj
  have o1 : (w7.setCell ⟨R.r, 5, none⟩ (.slice av R.nS cv)).heap[R.r]? = _ := heap_setCell_same _ _ _ _ _ _ hob
  have hO : Only (fun b => b = R.r) w w7 := Only.of_below _ hB
  have ho : Only (fun b => b = R.r) w7 (w7.setCell ⟨R.r, 5, none⟩ (.slice av R.nS cv)) := (Only.refl (fun b => b = R.r) w7).set 5 _ (.inr rfl)
  have ht := hO.trans ho
  have l1 := h.lo; have l2 := h.hi; have l3 := h.ne; have l6 := ht.size; have l7 := ho.size
  refine ⟨o1, h.nI, h.nS, h.rd, h.wt, h.len, h.lt, ?_, ?_, ?_, ?_, h.bp, ?_, ?_, ?_, fun hp => ?_, h.sab⟩
  · exact h.safe.only0 ht (fun hz b off e hb e2 => by have h1 := h.sab hz b off e; have h2 : b = R.r := e2; omega)
  · exact h.ins.only ht (fun _ e => h.ne.1 e.symm)
  · exact hs.only ho (fun _ e => by have h3 : bw = R.r := e; omega)
  · refine (h.puts.kept (grown_of_below hB (some R.r)) ?_).kept (grown_setCell (grown_refl w7 (some R.r)) (o := 5) (.slice av R.nS cv)) ?_
    all_goals
      right
      intro e
      have h3 := h.bp R.r e
      exact (h.np h3.2).2.2.1 h3.1
  · show R.lo ≤ R.r ∧ R.lo ≤ R.bi ∧ R.lo ≤ bw
    omega
  · show R.r < _ ∧ R.bi < _ ∧ bw < _
    omega
  · show R.r ≠ R.bi ∧ R.r ≠ bw ∧ R.bi ≠ bw
    omega
  · have h4 := h.np hp
    show R.lo ≤ R.bp ∧ R.bp < _ ∧ R.r ≠ R.bp ∧ R.bi ≠ R.bp ∧ bw ≠ R.bp
    omega
end Go.Proofs.Ytdelcndaogjngaa
