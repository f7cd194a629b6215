/- Two results, the first of them a row. -/
import Derived.Test.YtalmgjeiopjhlaaGreatDoorSet
namespace Go.Proofs.YtalmgjeiopjhlaaGreatDoor
open Go.RowKit
set_option linter.unusedVariables false
theorem results_cell_tmp {P : Program} {fn : Func} {p q : Tmp} {ty : TypeId} (h : fn.results = #[.cell p ty, .tmp q]) (tmps : Array Value) (w : World) (g : Nat) (t : TypeId) (cs : Array Value) (fr : Nat × Nat) (d : TypeDesc) (v : Value)
    (hp : tmps.getD p undef = .pointer (some ⟨g, 0, none⟩)) (hq : tmps.getD q undef = v) (hg : w.heap[g]? = some (.cells cs t fr))
    (hu : P.underlying ty = some d) (hd : (match d with | .struct _ | .array _ _ => true | _ => false) = true) (hi : (P.info? ty).map (·.size) = some cs.size) :
    (results fn tmps).run P w = .ok (.tuple #[.agg cs, v]) w := by
  have hp' : tmps[p]?.getD undef = .pointer (some ⟨g, 0, none⟩) := by simpa using hp
  have hq' : tmps[q]?.getD undef = v := by simpa using hq
  simp [results, h, hp', hq', asAddr, Go.run_loadVar_row w g t ty cs fr d hg hu hd hi]
theorem setCells_all {w : World} {g : Nat} {t : TypeId} {cur : Array Value} (vs : List Value) (h : w.heap[g]? = some (.cells cur t (0, 0))) (hl : vs.length = cur.size) : (w.setCells g 0 vs).heap[g]? = some (.cells vs.toArray t (0, 0)) := by
  obtain ⟨cur', e1, e2, e3⟩ := setCells_row vs 0 w g t cur h
  rw [e1]
  have e : cur' = vs.toArray := by
    apply Array.ext_getElem?
    intro i
    by_cases hi : i < cur.size
    · rw [e3 i hi, if_pos (by omega)]
      simp [List.getD_eq_getElem?_getD, List.getElem?_eq_getElem (show i < vs.length by omega)]
    · rw [Array.getElem?_eq_none (by omega), Array.getElem?_eq_none (by simp; omega)]
  rw [e]
end Go.Proofs.YtalmgjeiopjhlaaGreatDoor
