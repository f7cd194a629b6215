/- Cells that are set in a row. -/
import Derived.Test.YtdlpgoackmgdkaaGreatDoorRow
import Derived.Test.YtdlpgoackmgdkaaGreatDoorCls
import Derived.Lib.SliceRun
import Derived.OwnWalk
import Derived.WalkSpells
import Derived.Outline
import Derived.IntWalk
import Derived.Deep.MidRow
namespace Go.Proofs.YtdlpgoackmgdkaaGreatDoor
open Go.RowKit
set_option linter.unusedVariables false
theorem setCells_other (b : Nat) : ∀ (vs : List Value) (o : Nat) (w : World) (i : Nat), i ≠ b → (w.setCells b o vs).heap[i]? = w.heap[i]?
  | [], _, _, _, _ => rfl
  | v :: r, o, w, i, h => by show ((w.setCell ⟨b, o, none⟩ v).setCells b (o + 1) r).heap[i]? = _; rw [setCells_other b r (o + 1) _ i h, heap_setCell_other _ _ _ _ h]
theorem setCells_size (b : Nat) : ∀ (vs : List Value) (o : Nat) (w : World), (w.setCells b o vs).heap.size = w.heap.size
  | [], _, _ => rfl
  | v :: r, o, w => by show ((w.setCell ⟨b, o, none⟩ v).setCells b (o + 1) r).heap.size = _; rw [setCells_size b r]; simp [World.setCell]
theorem setCells_os (b : Nat) : ∀ (vs : List Value) (o : Nat) (w : World), (w.setCells b o vs).os = w.os ∧ (w.setCells b o vs).tape = w.tape ∧ (w.setCells b o vs).output = w.output
  | [], _, _ => ⟨rfl, rfl, rfl⟩
  | v :: r, o, w => setCells_os b r (o + 1) (w.setCell ⟨b, o, none⟩ v)
theorem setCells_row : ∀ (vs : List Value) (o : Nat) (w : World) (b : Nat) (t : TypeId) (cur : Array Value), w.heap[b]? = some (.cells cur t (0, 0)) →
    ∃ cur', (w.setCells b o vs).heap[b]? = some (.cells cur' t (0, 0)) ∧ cur'.size = cur.size ∧ ∀ i, i < cur.size → cur'[i]? = if o ≤ i ∧ i < o + vs.length then some (vs.getD (i - o) undef) else cur[i]?
  | [], o, w, b, t, cur, h => ⟨cur, h, rfl, fun i hi => by rw [if_neg (fun h => by have h1 := h.2; simp at h1; omega)]⟩
  | v :: r, o, w, b, t, cur, h => by
    obtain ⟨cur', e1, e2, e3⟩ := setCells_row r (o + 1) (w.setCell ⟨b, o, none⟩ v) b t _ (heap_setCell_same _ _ _ _ _ _ h)
    refine ⟨cur', e1, by rw [e2]; simp, fun i hi => ?_⟩
    rw [e3 i (by simpa using hi), Array.getElem?_setIfInBounds]
    simp only [List.length_cons]
    by_cases e : o = i
    · subst e
      rw [if_neg (by omega), if_pos rfl, if_pos (by omega), if_pos (by omega)]
      simp
    · by_cases h1 : o + 1 ≤ i ∧ i < o + 1 + r.length
      · rw [if_pos h1, if_pos (by omega)]
        obtain ⟨k, hk⟩ : ∃ k, i - o = k + 1 := ⟨i - o - 1, by omega⟩
        rw [hk, show i - (o + 1) = k by omega]; rfl
      · rw [if_neg h1, if_neg e, if_neg (by omega)]
theorem setCells_below {B : Nat} {a w : World} (h : Below B a w) {g : Nat} (hg : B ≤ g) (o : Nat) (vs : List Value) : Below B a (w.setCells g o vs) :=
  ⟨(setCells_os g vs o w).1.trans h.os, (setCells_os g vs o w).2.1.trans h.tape, (setCells_os g vs o w).2.2.trans h.output, by rw [setCells_size]; exact h.size, fun i hi => (setCells_other g vs o w i (by omega)).trans (h.block i hi)⟩
theorem setRow_below {B : Nat} {a w : World} (h : Below B a w) {g : Nat} (hg : B ≤ g) (cs : Array Value) : Below B a (w.setRow g cs) :=
  ⟨h.os, h.tape, h.output, by simpa using h.size, fun i hi => (setRow_other _ _ _ _ (show i ≠ g by omega)).trans (h.block i hi)⟩
theorem run_storeAt_row {P : Program} (w : World) (g : Nat) (t ty : TypeId) (old cells : Array Value) (hg : w.heap[g]? = some (.cells old t (0, 0))) (hi : (P.info? ty).map (·.size) = some cells.size)
    (ho : old.size = cells.size) (h1 : cells.all (·.oneCell') = true) : (Instr.storeAt ty (.pointer (some ⟨g, 0, none⟩)) (.agg cells)).run P w = .ok () (w.setRow g cells) := by
  simp only [Instr.storeAt, Instr.sureAddr, Sem.run_bind, Sem.run_pure, Result.andThen_ok, Go.run_storeVar_row w g t ty old cells hg hi ho h1]
theorem run_loadAt_row {P : Program} (w : World) (g : Nat) (t ty : TypeId) (cs : Array Value) (fr : Nat × Nat) (d : TypeDesc) (hg : w.heap[g]? = some (.cells cs t fr))
    (hu : P.underlying ty = some d) (hd : (match d with | .struct _ | .array _ _ => true | _ => false) = true) (hi : (P.info? ty).map (·.size) = some cs.size) :
    (Instr.loadAt ty (.pointer (some ⟨g, 0, none⟩))).run P w = .ok (.agg cs) w := by
  simp only [Instr.loadAt, Instr.sureAddr, Sem.run_bind, Sem.run_pure, Result.andThen_ok, Go.run_loadVar_row w g t ty cs fr d hg hu hd hi]
theorem store_rowL {P : Program} (w : World) (g : Nat) (t : TypeId) (old : Array Value) (l : List Value) (hg : w.heap[g]? = some (.cells old t (0, 0))) (ho : l.length = old.size) (h1 : ∀ v ∈ l, v.oneCell' = true) :
    (storeCells ⟨g, 0, none⟩ l).run P w = .ok () (w.setRow g l.toArray) := by
  have := Go.run_storeCells_from (P := P) g t l 0 old w hg (by omega) h1
  simpa using this
theorem store_midL {P : Program} (w : World) (b o : Nat) (l : List Value) (ht : w.there b o l.length) (h1 : ∀ v ∈ l, v.oneCell' = true) :
    (storeCells ⟨b, o, none⟩ l).run P w = .ok () (w.setCells b o l) := by
  have := Go.run_storeCells_cells (P := P) b o l 0 w (fun j hj => (ht j hj).1) (fun j hj => (ht j hj).2) h1
  simpa using this
theorem load_rowL {P : Program} (w : World) (g : Nat) (t : TypeId) (l : List Value) (n : Nat) (hn : l.length = n) (fr : Nat × Nat) (hg : w.heap[g]? = some (.cells l.toArray t fr)) : (loadCells ⟨g, 0, none⟩ n).run P w = .ok l.toArray w := by
  subst hn
  refine Go.run_loadCells_list (P := P) w ⟨g, 0, none⟩ l fun j v hv => ?_
  rw [Go.Addr.add_mid, Nat.zero_add, Go.cell_of_row w g j _ t fr hg]
  simpa using hv
theorem wpList_build_eq {P : Program} {ops : Array Oper} {rest : List Oper} {o : Oper} {a : Act} {w : World} {Q : Exit → Act → World → Prop} (hg : o.guard = none) (t : TypeId) (parts : Array (Nat × Operand)) (ho : o.op = .build t parts) (arr : Array Value)
    (hf : P.built t (parts.map fun (i, x) => (i, a.eval x)).toList = some arr) (h : wpList P ops Q rest (a.put o.dst (.agg arr)) w) : wpList P ops Q (o :: rest) a w :=
  Go.wpList_build hg t parts ho (by rw [hf]; rfl) (by rw [hf]; exact h)
theorem wp_build_eq {P : Program} {o : Oper} {a : Act} {w : World} {K : Act → World → Prop} {Q : Exit → Act → World → Prop} (t : TypeId) (parts : Array (Nat × Operand)) (ho : o.op = .build t parts) (arr : Array Value)
    (hf : P.built t (parts.map fun (i, x) => (i, a.eval x)).toList = some arr) (h : K (a.put o.dst (.agg arr)) w) : o.wp P a w K Q :=
  Go.wp_build t parts ho (by rw [hf]; rfl) (by rw [hf]; exact h)
end Go.Proofs.YtdlpgoackmgdkaaGreatDoor
