/- What all walks of this seat share: an argument that can be read; slices of numbers and bools; frames of calls that write one block. -/
import Derived.Test.YtdlpgoackmgdkaaGreatDoorRows
import Derived.WalkKit
import Derived.ProofKit
import Derived.OpenShut
import Derived.Below
import Derived.Laws.Rows
import Derived.Lib.Hide
import Derived.Deep.Slices
namespace Go.Proofs.YtdlpgoackmgdkaaGreatDoor
open Go.RowKit
set_option linter.unusedVariables false

/-- These cells can be read as data of that type. -/
def ReadsC (w : World) (t : TypeId) (cs : List Value) : Prop :=
  ∃ (H : Type) (enc : TypeId × Value → H) (m : Nat) (y : DataW H × List MemPlace), DataW.trod enc Tryz.prog w 0 (fun _ => true) true m t cs = some y

/-- n values lie one behind the other at an address. -/
def SliceAt (w : World) (a : Option Addr) (n : Nat) (V : Nat → Value) : Prop :=
  n = 0 ∨ ∃ b off, a = some ⟨b, off, none⟩ ∧ b < w.heap.size ∧ ∀ i, i < n → w.cell? ⟨b, off + i, none⟩ = some (V i)
theorem SliceAt.below {w w' : World} {a : Option Addr} {n : Nat} {V : Nat → Value} (h : SliceAt w a n V) (hb : Below w.heap.size w w') : SliceAt w' a n V := by
  rcases h with h | ⟨b, off, rfl, hlt, hc⟩
  · exact .inl h
  · exact .inr ⟨b, off, rfl, Nat.lt_of_lt_of_le hlt hb.size, fun i hi => by rw [hb.cell hlt]; exact hc i hi⟩
theorem SliceAt.below' {w w' : World} {B : Nat} {a : Option Addr} {n : Nat} {V : Nat → Value} (h : SliceAt w a n V) (hb : Below B w w') (hB : ∀ b off, a = some ⟨b, off, none⟩ → b < B) : SliceAt w' a n V := by
  rcases h with h | ⟨b, off, rfl, hlt, hc⟩
  · exact .inl h
  · exact .inr ⟨b, off, rfl, Nat.lt_of_lt_of_le hlt hb.size, fun i hi => by rw [hb.cell (hB b off rfl)]; exact hc i hi⟩
theorem SliceAt.le {w : World} {a : Option Addr} {n m : Nat} {V : Nat → Value} (h : SliceAt w a n V) (hm : m ≤ n) : SliceAt w a m V := by
  rcases h with h | ⟨b, off, rfl, hlt, hc⟩
  · left; omega
  · exact .inr ⟨b, off, rfl, hlt, fun i hi => hc i (by omega)⟩
theorem SliceAt.drop {w : World} {b off : Nat} {n : Nat} {V : Nat → Value} (h : SliceAt w (some ⟨b, off, none⟩) n V) (k : Nat) : SliceAt w (some ⟨b, off + k, none⟩) (n - k) (fun i => V (k + i)) := by
  rcases h with h | ⟨b', off', he, hlt, hc⟩
  · left; omega
  · simp at he
    obtain ⟨rfl, rfl⟩ := he
    exact .inr ⟨b, off + k, rfl, hlt, fun i hi => by rw [Nat.add_assoc]; exact hc (k + i) (by omega)⟩
theorem SliceAt.at {w : World} {a : Option Addr} {n : Nat} {V : Nat → Value} (h : SliceAt w a n V) (hp : 0 < n) : ∃ b off, a = some ⟨b, off, none⟩ ∧ b < w.heap.size ∧ ∀ i, i < n → w.cell? ⟨b, off + i, none⟩ = some (V i) := by
  rcases h with h | h
  · omega
  · exact h
theorem SliceAt.congr {w : World} {a : Option Addr} {n : Nat} {V V' : Nat → Value} (h : SliceAt w a n V) (he : ∀ i, i < n → V i = V' i) : SliceAt w a n V' := by
  rcases h with h | ⟨b, off, rfl, hlt, hc⟩
  · exact .inl h
  · exact .inr ⟨b, off, rfl, hlt, fun i hi => by rw [← he i hi]; exact hc i hi⟩

theorem choose_nat {α : Type} [Inhabited α] {n : Nat} {p : Nat → α → Prop} (h : ∀ i, i < n → ∃ v, p i v) : ∃ V : Nat → α, ∀ i, i < n → p i (V i) :=
  ⟨fun i => if hi : i < n then Classical.choose (h i hi) else default, fun i hi => by simp only [dif_pos hi]; exact Classical.choose_spec (h i hi)⟩

/-- A slice whose elements are one cell each. -/
theorem reads_slice1 {w : World} {t e : TypeId} {a : Option Addr} {len cap : Nat} (ht : Tryz.prog.underlying t = some (.slice e)) (hc : Tryz.prog.cellsOf e = 1) (h : ReadsC w t [.slice a len cap]) :
    len ≤ cap ∧ cap ≤ maxLen ∧ ∃ V : Nat → Value, SliceAt w a len V ∧ ∀ i, i < len → ReadsC w e [V i] := by
  obtain ⟨H, enc, m, y, hf⟩ := h
  rcases Go.Deep.open_slice1 ht hc hf with ⟨hcs, _⟩ | ⟨x, l, c, m', n, V, D, Pl, hcs, _, hl, hm, hmm, _, hx⟩
  · simp at hcs
    obtain ⟨rfl, rfl, rfl⟩ := hcs
    exact ⟨Nat.le_refl _, by unfold maxLen; omega, fun _ => undef, .inl rfl, fun i hi => absurd hi (by omega)⟩
  · simp at hcs
    obtain ⟨rfl, rfl, rfl⟩ := hcs
    have hml : len ≤ m' := by rw [hmm]; split <;> omega
    refine ⟨hl, hm, V, ?_, fun i hi => ⟨H, enc, n, _, (hx i (by omega)).2⟩⟩
    by_cases h0 : len = 0
    · exact .inl h0
    · right
      obtain ⟨b, off, spot⟩ := x
      have hspot : spot = none := by
        have := World.cell?_spot (hx 0 (by omega)).1
        simpa [Addr.add] using this
      subst hspot
      refine ⟨b, off, rfl, ?_, fun i hi => ?_⟩
      · have := block_lt_of_cell (hx 0 (by omega)).1
        simpa [Addr.add] using this
      · rw [← Go.WideShapes.add_plain]; exact (hx i (by omega)).1

/-- The bools of a list as values. -/
def boolV (l : List Bool) (i : Nat) : Value := .bool (l.getD i false)
/-- The numbers of a list as values. -/
def intV (k : IntKind) (l : List Int) (i : Nat) : Value := .int k (l.getD i 0)
theorem list_of {α : Type} (n : Nat) (f : Nat → α) (z : α) : ∃ l : List α, l.length = n ∧ ∀ i, i < n → l.getD i z = f i :=
  ⟨(List.range n).map f, by simp, fun i hi => by simp [List.getD_eq_getElem?_getD, hi]⟩
theorem reads_bools {w : World} {t e : TypeId} {a : Option Addr} {len cap : Nat} (ht : Tryz.prog.underlying t = some (.slice e)) (he : Tryz.prog.underlying e = some .bool) (hc : Tryz.prog.cellsOf e = 1) (h : ReadsC w t [.slice a len cap]) :
    ∃ l : List Bool, l.length = len ∧ len ≤ cap ∧ cap ≤ maxLen ∧ SliceAt w a len (boolV l) := by
  obtain ⟨hl, hm, V, hs, hr⟩ := reads_slice1 ht hc h
  obtain ⟨B, hB⟩ := choose_nat (α := Bool) (p := fun i b => V i = .bool b) (fun i hi => by
    obtain ⟨H, enc, m, y, hf⟩ := hr i hi
    obtain ⟨b, hb, _⟩ := DataW.trod_bool he hf
    exact ⟨b, by simpa using hb⟩)
  obtain ⟨l, hll, hle⟩ := list_of len B false
  exact ⟨l, hll, hl, hm, hs.congr fun i hi => by unfold boolV; rw [hB i hi, hle i hi]⟩
theorem reads_ints {w : World} {t e : TypeId} {k : IntKind} {a : Option Addr} {len cap : Nat} (ht : Tryz.prog.underlying t = some (.slice e)) (he : Tryz.prog.underlying e = some (.int k)) (hc : Tryz.prog.cellsOf e = 1) (h : ReadsC w t [.slice a len cap]) :
    ∃ l : List Int, l.length = len ∧ len ≤ cap ∧ cap ≤ maxLen ∧ SliceAt w a len (intV k l) ∧ ∀ i, i < len → (Lit.int k (l.getD i 0)).wf = true := by
  obtain ⟨hl, hm, V, hs, hr⟩ := reads_slice1 ht hc h
  obtain ⟨B, hB⟩ := choose_nat (α := Int) (p := fun i b => V i = .int k b ∧ (Lit.int k b).wf = true) (fun i hi => by
    obtain ⟨H, enc, m, y, hf⟩ := hr i hi
    obtain ⟨b, hb, _, hw⟩ := DataW.trod_int he hf
    exact ⟨b, by simpa using hb, hw⟩)
  obtain ⟨l, hll, hle⟩ := list_of len B 0
  exact ⟨l, hll, hl, hm, hs.congr fun i hi => by unfold intV; rw [(hB i hi).1, hle i hi], fun i hi => by rw [hle i hi]; exact (hB i hi).2⟩

/-! ### slices whose elements are several cells; structs -/
/-- n elements of sz cells each lie one behind the other at an address. -/
def SliceN (w : World) (a : Option Addr) (n sz : Nat) (C : Nat → Nat → Value) : Prop :=
  n = 0 ∨ ∃ b off, a = some ⟨b, off, none⟩ ∧ b < w.heap.size ∧ ∀ i, i < n → ∀ j, j < sz → w.cell? ⟨b, off + i * sz + j, none⟩ = some (C i j)
theorem SliceN.below {w w' : World} {a : Option Addr} {n sz : Nat} {C : Nat → Nat → Value} (h : SliceN w a n sz C) (hb : Below w.heap.size w w') : SliceN w' a n sz C := by
  rcases h with h | ⟨b, off, rfl, hlt, hc⟩
  · exact .inl h
  · exact .inr ⟨b, off, rfl, Nat.lt_of_lt_of_le hlt hb.size, fun i hi j hj => by rw [hb.cell hlt]; exact hc i hi j hj⟩
theorem SliceN.at {w : World} {a : Option Addr} {n sz : Nat} {C : Nat → Nat → Value} (h : SliceN w a n sz C) (hp : 0 < n) : ∃ b off, a = some ⟨b, off, none⟩ ∧ b < w.heap.size ∧ ∀ i, i < n → ∀ j, j < sz → w.cell? ⟨b, off + i * sz + j, none⟩ = some (C i j) := by
  rcases h with h | h
  · omega
  · exact h
theorem SliceN.congr {w : World} {a : Option Addr} {n sz : Nat} {C C' : Nat → Nat → Value} (h : SliceN w a n sz C) (he : ∀ i, i < n → ∀ j, j < sz → C i j = C' i j) : SliceN w a n sz C' := by
  rcases h with h | ⟨b, off, rfl, hlt, hc⟩
  · exact .inl h
  · exact .inr ⟨b, off, rfl, hlt, fun i hi j hj => by rw [← he i hi j hj]; exact hc i hi j hj⟩
theorem reads_sliceN {w : World} {t e sz : Nat} {a : Option Addr} {len cap : Nat} (ht : Tryz.prog.underlying t = some (.slice e)) (hc : Tryz.prog.cellsOf e = sz) (h0 : 0 < sz) (h : ReadsC w t [.slice a len cap]) :
    len ≤ cap ∧ cap ≤ maxLen ∧ ∃ C : Nat → List Value, SliceN w a len sz (fun i j => (C i).getD j undef) ∧ ∀ i, i < len → (C i).length = sz ∧ ReadsC w e (C i) := by
  obtain ⟨H, enc, m, y, hf⟩ := h
  rcases Go.Deep.open_slice ht hf with ⟨hcs, _⟩ | ⟨x, l, c, m', n, D, Pl, hcs, _, hl, hm, hmm, _, hx⟩
  · simp at hcs
    obtain ⟨rfl, rfl, rfl⟩ := hcs
    exact ⟨Nat.le_refl _, by unfold maxLen; omega, fun _ => [], .inl rfl, fun i hi => absurd hi (by omega)⟩
  · simp at hcs
    obtain ⟨rfl, rfl, rfl⟩ := hcs
    have hml : len ≤ m' := by rw [hmm]; split <;> omega
    obtain ⟨C, hC⟩ := choose_nat (α := List Value) (p := fun i cs => cs.length = sz ∧ (∀ j, j < sz → w.cell? ((x.add (i * sz)).add j) = cs[j]?) ∧ ReadsC w e cs) (fun i hi => by
      obtain ⟨cs', h1, h2⟩ := hx i (show i < m' by omega)
      rw [hc] at h1
      obtain ⟨_, hlen, hcell⟩ := World.cells?_some h1
      exact ⟨cs', hlen, hcell, ⟨H, enc, n, _, h2⟩⟩) (n := len)
    refine ⟨hl, hm, C, ?_, fun i hi => ⟨(hC i hi).1, (hC i hi).2.2⟩⟩
    by_cases h0' : len = 0
    · exact .inl h0'
    · right
      have hget : ∀ i, i < len → ∀ j, j < sz → w.cell? ((x.add (i * sz)).add j) = some ((C i).getD j undef) := by
        intro i hi j hj
        rw [(hC i hi).2.1 j hj, List.getD_eq_getElem?_getD, List.getElem?_eq_getElem (by rw [(hC i hi).1]; exact hj)]; rfl
      obtain ⟨b, off, spot⟩ := x
      have hspot : spot = none := by
        have := World.cell?_spot (hget 0 (by omega) 0 h0)
        simpa [Addr.add] using this
      subst hspot
      refine ⟨b, off, rfl, ?_, fun i hi j hj => ?_⟩
      · have := block_lt_of_cell (hget 0 (by omega) 0 h0)
        simpa [Addr.add] using this
      · rw [← Go.WideShapes.add_plain, ← Go.WideShapes.add_plain]; exact hget i hi j hj
theorem reads_struct {w : World} {t : TypeId} {fs : Array Field} {cs : List Value} (ht : Tryz.prog.underlying t = some (.struct fs)) (h : ReadsC w t cs) :
    cs.length = Tryz.prog.cellsOf t ∧ ∀ (i : Nat) (f : Field), fs[i]? = some f → ReadsC w f.type ((cs.drop f.offset).take (Tryz.prog.cellsOf f.type)) := by
  obtain ⟨H, enc, m, y, hf⟩ := h
  obtain ⟨xs, n, _, _, hl, hlen, hx⟩ := DataW.trod_struct ht hf
  refine ⟨hl, fun i f hi => ?_⟩
  have := hx i f hi
  have hi' : i < xs.length := by
    rw [hlen]
    by_cases h : i < fs.size
    · exact h
    · rw [Array.getElem?_eq_none (by omega)] at hi; cases hi
  rw [List.getElem?_eq_getElem hi'] at this
  exact ⟨H, enc, n, _, this⟩
theorem reads_int1 {w : World} {t : TypeId} {k : IntKind} {cs : List Value} (ht : Tryz.prog.underlying t = some (.int k)) (h : ReadsC w t cs) : ∃ n : Int, cs = [.int k n] ∧ (Lit.int k n).wf = true := by
  obtain ⟨H, enc, m, y, hf⟩ := h
  obtain ⟨n, hc, _, hw⟩ := DataW.trod_int ht hf
  exact ⟨n, hc, hw⟩
theorem reads_bool1 {w : World} {t : TypeId} {cs : List Value} (ht : Tryz.prog.underlying t = some .bool) (h : ReadsC w t cs) : ∃ b : Bool, cs = [.bool b] := by
  obtain ⟨H, enc, m, y, hf⟩ := h
  obtain ⟨n, hc, _⟩ := DataW.trod_bool ht hf
  exact ⟨n, hc⟩
theorem reads_string1 {w : World} {t : TypeId} {cs : List Value} (ht : Tryz.prog.underlying t = some .string) (h : ReadsC w t cs) : ∃ s : ByteArray, cs = [.string s] ∧ s.size ≤ maxLen := by
  obtain ⟨H, enc, m, y, hf⟩ := h
  obtain ⟨n, hc, _, hs⟩ := DataW.trod_string ht hf
  exact ⟨n, hc, hs⟩
theorem one_take {cs : List Value} {o : Nat} {v : Value} (h : (cs.drop o).take 1 = [v]) : cs.getD o undef = v := by
  have : ((cs.drop o).take 1)[0]? = some v := by rw [h]; rfl
  simp at this
  simp [List.getD_eq_getElem?_getD, this]

/-! ### a call that writes one block -/
theorem grown_refl (w : World) (r : Option Nat) : w.grownBy w r := ⟨rfl, rfl, rfl, Nat.le_refl _, fun _ _ _ => rfl⟩
theorem grown_drew {a w : World} {r : Option Nat} (h : a.grownBy w r) : a.grownBy w.drew r := ⟨h.os, h.tape, h.output, h.size, h.block⟩
theorem grown_setCell {a w : World} {g o : Nat} (h : a.grownBy w (some g)) (v : Value) : a.grownBy (w.setCell ⟨g, o, none⟩ v) (some g) :=
  ⟨h.os, h.tape, h.output, by simp [World.setCell]; exact h.size, fun k hk hne => by
    rw [heap_setCell_other _ _ _ _ (fun e => hne (by rw [e]))]; exact h.block k hk hne⟩
theorem grown_setRow {a w : World} {g : Nat} (h : a.grownBy w (some g)) (cs : Array Value) : a.grownBy (w.setRow g cs) (some g) :=
  ⟨h.os, h.tape, h.output, by simp; exact h.size, fun k hk hne => by
    rw [setRow_other _ _ _ _ (fun e => hne (by rw [e]))]; exact h.block k hk hne⟩
theorem grown_trans {a b c : World} {r : Option Nat} (h : a.grownBy b r) (k : b.grownBy c r) : a.grownBy c r :=
  ⟨k.os.trans h.os, k.tape.trans h.tape, k.output.trans h.output, Nat.le_trans h.size k.size, fun i hi hne => (k.block i (Nat.lt_of_lt_of_le hi h.size) hne).trans (h.block i hi hne)⟩
theorem grown_of_below {w w' : World} (h : Below w.heap.size w w') (r : Option Nat) : w.grownBy w' r := ⟨h.os, h.tape, h.output, h.size, fun k hk _ => h.block k hk⟩
theorem cell_row {w : World} {g j : Nat} {cs : Array Value} {t : TypeId} {fr : Nat × Nat} {v : Value} (hg : w.heap[g]? = some (.cells cs t fr)) (hv : cs[j]? = some v) : w.cell? ⟨g, j, none⟩ = some v := by
  rw [cell_of_row w g j cs t fr hg, hv]
theorem below_setRow {B : Nat} {a w : World} (h : Below B a w) {g : Nat} (hg : B ≤ g) (cs : Array Value) : Below B a (w.setRow g cs) :=
  h.trans ⟨rfl, rfl, rfl, by simp, fun k hk => setRow_other w g k cs (by omega)⟩
theorem heap_lt {w : World} {g : Nat} {o : Obj} (h : w.heap[g]? = some o) : g < w.heap.size := by
  by_cases hlt : g < w.heap.size
  · exact hlt
  · rw [Array.getElem?_eq_none (by omega)] at h; cases h
end Go.Proofs.YtdlpgoackmgdkaaGreatDoor
