/- clear, copy and Clone on a field's rows. -/
import Derived.Test.YtdelcndaogjngaaFieSm
import Derived.Lib.SliceRun
import Derived.Laws.CopyOwn
import Derived.Laws.CopyRow
import Derived.OwnWalk
namespace Go.Proofs.Ytdelcndaogjngaa
open Go.RowKit
set_option linter.unusedVariables false
theorem setCells_other (b : Nat) : ∀ (vs : List Value) (o : Nat) (w : World) (i : Nat), i ≠ b → (w.setCells b o vs).heap[i]? = w.heap[i]?
  | [], _, _, _, _ => rfl
  | v :: r, o, w, i, h => by show ((w.setCell ⟨b, o, none⟩ v).setCells b (o + 1) r).heap[i]? = _; rw [setCells_other b r (o + 1) _ i h, heap_setCell_other _ _ _ _ h]
theorem RowAt.setCells {b n : Nat} {t : TypeId} : ∀ (vs : List Value) (o : Nat) (w : World) (V : Nat → Value), RowAt w b t n V → RowAt (w.setCells b o vs) b t n (fun j => if o ≤ j ∧ j < o + vs.length then vs.getD (j - o) undef else V j)
  | [], o, w, V, h => h.congr fun i hi => by simp; intro h1 h2; omega
  | v :: r, o, w, V, h => by
    refine (RowAt.setCells r (o + 1) (w.setCell ⟨b, o, none⟩ v) _ (h.set (i := o) v)).congr fun i hi => ?_
    show (if o + 1 ≤ i ∧ i < o + 1 + r.length then r.getD (i - (o + 1)) undef else if i = o then v else V i) = if o ≤ i ∧ i < o + (v :: r).length then (v :: r).getD (i - o) undef else V i
    simp only [List.length_cons]
    by_cases e : i = o
    · subst e; rw [if_neg (by omega), if_pos rfl, if_pos (by omega)]; simp
    · by_cases h1 : o + 1 ≤ i ∧ i < o + 1 + r.length
      · rw [if_pos h1, if_pos (by omega)]
        obtain ⟨k, hk⟩ : ∃ k, i - o = k + 1 := ⟨i - o - 1, by omega⟩
        rw [hk, show i - (o + 1) = k by omega]; rfl
      · rw [if_neg h1, if_neg e, if_neg (by omega)]
theorem setCells_size (b : Nat) : ∀ (vs : List Value) (o : Nat) (w : World), (w.setCells b o vs).heap.size = w.heap.size
  | [], _, _ => rfl
  | v :: r, o, w => by show ((w.setCell ⟨b, o, none⟩ v).setCells b (o + 1) r).heap.size = _; rw [setCells_size b r]; simp [World.setCell]
theorem setCells_os (b : Nat) : ∀ (vs : List Value) (o : Nat) (w : World), (w.setCells b o vs).os = w.os ∧ (w.setCells b o vs).tape = w.tape ∧ (w.setCells b o vs).output = w.output
  | [], _, _ => ⟨rfl, rfl, rfl⟩
  | v :: r, o, w => setCells_os b r (o + 1) (w.setCell ⟨b, o, none⟩ v)
theorem zeroBool (w : World) : (zeroValue 4).run Try.prog w = .ok (.bool false) w := by kernel_rfl
/-- clear on a row of bools. -/
theorem clear_has {w : World} {v : Value} {b n : Nat} {V : Nat → Value} (h : SlAt w v b 4 n V) :
    ∃ w1, (∀ ty, (Builtin.clear_ #[54] ty #[v]).run Try.prog w = .ok (.tuple #[]) w1) ∧ SlAt w1 v b 4 n (fun _ => .bool false) ∧ (∀ i, (0 < n → i ≠ b) → w1.heap[i]? = w.heap[i]?) ∧ w1.heap.size = w.heap.size ∧ w1.os = w.os ∧ w1.tape = w.tape ∧ w1.output = w.output := by
  obtain ⟨a, c, rfl, h1, h2, h3⟩ := h
  by_cases hp : 0 < n
  · obtain ⟨rfl, hr⟩ := h3 hp
    refine ⟨w.setCells b 0 (List.replicate n (.bool false)), fun ty => Lib.run_clear_slice w _ _ ty _ Try.underlying54 zeroBool rfl rfl b 0 n c hp (fun j hj => by rw [Nat.zero_add, hr.cell hj]; rfl) (fun j hj => hr.frozen _),
      ⟨_, c, rfl, h1, h2, fun _ => ⟨rfl, (hr.setCells _ 0 _ _).congr fun i hi => ?_⟩⟩, fun i hi => setCells_other b _ 0 w i (hi hp), setCells_size b _ 0 w, setCells_os b _ 0 w⟩
    rw [if_pos (by simp; omega)]
    simp [List.getD_eq_getElem?_getD, hi]
  · obtain rfl : n = 0 := by omega
    refine ⟨w, fun ty => ?_, ⟨a, c, rfl, h1, h2, fun hp' => absurd hp' hp⟩, fun _ _ => rfl, rfl, rfl, rfl, rfl⟩
    cases a with
    | none => simp [Builtin.clear_, run_underlying Try.underlying54]
    | some x => simp [Builtin.clear_, run_underlying Try.underlying54]
theorem infoU32 : (Try.prog.info? 23).map (·.size) = some 1 := by kernel_rfl
/-- copy onto a row, of as many. -/
theorem copy_row {w : World} {v : Value} {b n : Nat} {V X : Nat → Value} {a : Option Addr} {c : Nat} (h : SlAt w v b 23 n V) (hx : SliceAt w a n X) (h1 : ∀ i, (X i).oneCell' = true) :
    ∃ w1, (∀ ty, (Builtin.copy_ #[22, 22] ty #[v, .slice a n c]).run Try.prog w = .ok (goInt n) w1) ∧ SlAt w1 v b 23 n X ∧ (∀ i, (0 < n → i ≠ b) → w1.heap[i]? = w.heap[i]?) ∧ w1.heap.size = w.heap.size ∧ w1.os = w.os ∧ w1.tape = w.tape ∧ w1.output = w.output := by
  obtain ⟨a', c', rfl, k1, k2, k3⟩ := h
  by_cases hp : 0 < n
  · obtain ⟨rfl, cur, r1, r2, r3⟩ := k3 hp
    obtain ⟨b', off, rfl, hlt, hc⟩ := hx.at hp
    have hlen : ((List.range n).map X).length = n := by simp
    refine ⟨w.setRow b (cur.toList.take 0 ++ (List.range n).map X ++ cur.toList.drop (0 + ((List.range n).map X).length)).toArray, fun ty => ?_, ⟨_, c', rfl, k1, k2, fun _ => ⟨rfl, _, setRow_heap w b _ _ 23 _ r1, ?_, fun i hi => ?_⟩⟩, fun i hi => setRow_other _ _ _ _ (hi hp), by simp, rfl, rfl, rfl⟩
    · have := run_copy_row (P := Try.prog) w 22 22 ty 23 b 0 n c' ⟨b', off, none⟩ n c cur 23 ((List.range n).map X) Try.underlying22 infoU32 r1 (by simp) (fun j v hj => by
        have hj' : j < n := by
          by_cases e : j < n
          · exact e
          · rw [List.getElem?_eq_none (by simp; omega)] at hj; cases hj
        rw [Go.WideShapes.add_plain, hc j hj']
        simpa [hj'] using hj) (by simpa using r2) (fun v hv => by obtain ⟨i, _, rfl⟩ := List.mem_map.1 hv; exact h1 i)
      rw [this, hlen]
    · simp
    · simp [List.getElem?_append, hi]
  · obtain rfl : n = 0 := by omega
    exact ⟨w, fun ty => run_copy_none w _ _ ty _ _ _ _ _ _ _ Try.underlying22 infoU32 (by simp), ⟨a', c', rfl, k1, k2, fun hp' => absurd hp' hp⟩, fun _ _ => rfl, rfl, rfl, rfl, rfl⟩
end Go.Proofs.Ytdelcndaogjngaa
