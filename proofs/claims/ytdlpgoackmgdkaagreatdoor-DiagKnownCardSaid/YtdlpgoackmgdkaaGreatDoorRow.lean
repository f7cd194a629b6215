/- Rows that are read and written in place: a slice at the head of a block of its own; what a call may turn. -/
import Derived.Test.YtdlpgoackmgdkaaGreatDoorBase
import Derived.Laws.AppendOwn
import Derived.Deep.QuietTactic
namespace Go.Proofs.YtdlpgoackmgdkaaGreatDoor
open Go.RowKit
set_option linter.unusedVariables false
/-- Block b's first n cells are V. -/
def RowAt (w : World) (b : Nat) (t : TypeId) (n : Nat) (V : Nat → Value) : Prop := ∃ cur, w.heap[b]? = some (.cells cur t (0, 0)) ∧ n ≤ cur.size ∧ ∀ i, i < n → cur[i]? = some (V i)
/-- A slice of n elements of one cell each, at the head of block b. -/
def SlAt (w : World) (v : Value) (b : Nat) (t : TypeId) (n : Nat) (V : Nat → Value) : Prop := ∃ a c, v = .slice a n c ∧ n ≤ c ∧ c ≤ maxLen ∧ (0 < n → a = some ⟨b, 0, none⟩ ∧ RowAt w b t n V)
theorem RowAt.lt {w : World} {b n : Nat} {t : TypeId} {V : Nat → Value} (h : RowAt w b t n V) : b < w.heap.size := by obtain ⟨cur, h1, _⟩ := h; exact heap_lt h1
theorem RowAt.cell {w : World} {b n : Nat} {t : TypeId} {V : Nat → Value} (h : RowAt w b t n V) {i : Nat} (hi : i < n) : w.cell? ⟨b, i, none⟩ = some (V i) := by obtain ⟨cur, h1, _, h2⟩ := h; exact cell_row h1 (h2 i hi)
theorem RowAt.frozen {w : World} {b n : Nat} {t : TypeId} {V : Nat → Value} (h : RowAt w b t n V) (i : Nat) : w.frozen? ⟨b, i, none⟩ = false := by obtain ⟨cur, h1, _⟩ := h; exact frozen_of_row _ _ _ _ _ h1
theorem RowAt.congr {w : World} {b n : Nat} {t : TypeId} {V V' : Nat → Value} (h : RowAt w b t n V) (he : ∀ i, i < n → V i = V' i) : RowAt w b t n V' := by obtain ⟨cur, h1, h2, h3⟩ := h; exact ⟨cur, h1, h2, fun i hi => by rw [← he i hi]; exact h3 i hi⟩
theorem RowAt.same {w w' : World} {b n : Nat} {t : TypeId} {V : Nat → Value} (h : RowAt w b t n V) (he : w'.heap[b]? = w.heap[b]?) : RowAt w' b t n V := by obtain ⟨cur, h1, h2⟩ := h; exact ⟨cur, he.trans h1, h2⟩
theorem RowAt.set {w : World} {b n : Nat} {t : TypeId} {V : Nat → Value} (h : RowAt w b t n V) {i : Nat} (x : Value) : RowAt (w.setCell ⟨b, i, none⟩ x) b t n (fun j => if j = i then x else V j) := by
  obtain ⟨cur, h1, h2, h3⟩ := h
  refine ⟨_, heap_setCell_same _ _ _ _ _ _ h1, by simpa using h2, fun j hj => ?_⟩
  rw [Array.getElem?_setIfInBounds]
  by_cases e : i = j
  · subst e; show _ = some (if i = i then x else V i); rw [if_pos rfl, if_pos (by omega), if_pos rfl]
  · show _ = some (if j = i then x else V j); rw [if_neg e, if_neg (fun (e' : j = i) => e e'.symm)]; exact h3 j hj
theorem RowAt.other {w : World} {b b' n o : Nat} {t : TypeId} {V : Nat → Value} (h : RowAt w b t n V) (hne : b ≠ b') (x : Value) : RowAt (w.setCell ⟨b', o, none⟩ x) b t n V := h.same (heap_setCell_other _ _ _ _ hne)
theorem SlAt.same {w w' : World} {v : Value} {b n : Nat} {t : TypeId} {V : Nat → Value} (h : SlAt w v b t n V) (he : 0 < n → w'.heap[b]? = w.heap[b]?) : SlAt w' v b t n V := by
  obtain ⟨a, c, h1, h2, h3, h4⟩ := h
  exact ⟨a, c, h1, h2, h3, fun hp => ⟨(h4 hp).1, (h4 hp).2.same (he hp)⟩⟩
theorem SlAt.congr {w : World} {v : Value} {b n : Nat} {t : TypeId} {V V' : Nat → Value} (h : SlAt w v b t n V) (he : ∀ i, i < n → V i = V' i) : SlAt w v b t n V' := by
  obtain ⟨a, c, h1, h2, h3, h4⟩ := h
  exact ⟨a, c, h1, h2, h3, fun hp => ⟨(h4 hp).1, (h4 hp).2.congr he⟩⟩
theorem SlAt.lt {w : World} {v : Value} {b n : Nat} {t : TypeId} {V : Nat → Value} (h : SlAt w v b t n V) (hp : 0 < n) : b < w.heap.size := by obtain ⟨a, c, h1, h2, h3, h4⟩ := h; exact (h4 hp).2.lt
/-- It reads as a slice that came in does. -/
theorem SlAt.slice {w : World} {v : Value} {b n : Nat} {t : TypeId} {V : Nat → Value} (h : SlAt w v b t n V) : ∃ a c, v = .slice a n c ∧ n ≤ c ∧ c ≤ maxLen ∧ SliceAt w a n V := by
  obtain ⟨a, c, h1, h2, h3, h4⟩ := h
  refine ⟨a, c, h1, h2, h3, ?_⟩
  by_cases hp : 0 < n
  · obtain ⟨rfl, hr⟩ := h4 hp
    exact .inr ⟨b, 0, rfl, hr.lt, fun i hi => by rw [Nat.zero_add]; exact hr.cell hi⟩
  · exact .inl (by omega)
theorem SlAt.of_own {w : World} {base n : Nat} {v : Value} {xs : List Value} {t : TypeId} {V : Nat → Value} (h : w.ownsRow base t 1 v n xs) (hV : ∀ i, i < n → xs[i]? = some (V i)) : ∃ b, SlAt w v b t n V ∧ (0 < n → base ≤ b ∧ b < w.heap.size) := by
  rcases h.2 with ⟨rfl, h0⟩ | ⟨g, cap, cur, rfl, hb, hg, hn, hm, hs, htk⟩
  · subst h0; exact ⟨0, ⟨none, 0, rfl, by omega, by unfold maxLen; omega, fun hp => absurd hp (by omega)⟩, fun hp => absurd hp (by omega)⟩
  · refine ⟨g, ⟨_, cap, rfl, hn, hm, fun _ => ⟨rfl, cur, hg, by omega, fun i hi => ?_⟩⟩, fun _ => ⟨hb, heap_lt hg⟩⟩
    have := hV i hi
    rw [← htk, List.getElem?_take, if_pos (by omega)] at this
    simpa using this
/-- What a call may turn: of the blocks that lay, those of M alone. -/
structure Only (M : Nat → Prop) (w w' : World) : Prop where
  os : w'.os = w.os
  tape : w'.tape = w.tape
  output : w'.output = w.output
  size : w.heap.size ≤ w'.heap.size
  block : ∀ b, b < w.heap.size → ¬ M b → w'.heap[b]? = w.heap[b]?
theorem Only.refl (M : Nat → Prop) (w : World) : Only M w w := ⟨rfl, rfl, rfl, Nat.le_refl _, fun _ _ _ => rfl⟩
theorem Only.trans {M : Nat → Prop} {a b c : World} (h : Only M a b) (k : Only M b c) : Only M a c := ⟨k.os.trans h.os, k.tape.trans h.tape, k.output.trans h.output, Nat.le_trans h.size k.size, fun i hi hm => (k.block i (Nat.lt_of_lt_of_le hi h.size) hm).trans (h.block i hi hm)⟩
theorem Only.mono {M N : Nat → Prop} {a b : World} (h : Only M a b) (hM : ∀ i, i < a.heap.size → M i → N i) : Only N a b := ⟨h.os, h.tape, h.output, h.size, fun i hi hn => h.block i hi (fun hm => hn (hM i hi hm))⟩
theorem Only.below {M : Nat → Prop} {a b : World} {B : Nat} (h : Only M a b) (hB : B ≤ a.heap.size) (hM : ∀ i, i < B → ¬ M i) : Below B a b := ⟨h.os, h.tape, h.output, h.size, fun i hi => h.block i (Nat.lt_of_lt_of_le hi hB) (hM i hi)⟩
theorem Only.of_below {a b : World} (M : Nat → Prop) (h : Below a.heap.size a b) : Only M a b := ⟨h.os, h.tape, h.output, h.size, fun i hi _ => h.block i hi⟩
theorem Only.drew {M : Nat → Prop} {a b : World} (h : Only M a b) : Only M a b.drew := ⟨h.os, h.tape, h.output, h.size, h.block⟩
theorem Only.drewN {M : Nat → Prop} {a b : World} {n : Nat} (h : Only M a b) : Only M a (b.drewN n) := ⟨h.os, h.tape, h.output, h.size, h.block⟩
theorem Only.alloc {M : Nat → Prop} {a b : World} (h : Only M a b) (o : Obj) : Only M a (b.alloc o) := h.trans (Only.of_below M ((Below.refl _ b).alloc (Nat.le_refl _) o))
theorem Only.set {M : Nat → Prop} {a b : World} (h : Only M a b) {g : Nat} (o : Nat) (v : Value) (hg : a.heap.size ≤ g ∨ M g) : Only M a (b.setCell ⟨g, o, none⟩ v) :=
  ⟨h.os, h.tape, h.output, by simpa [World.setCell] using h.size, fun i hi hm => by
    rw [heap_setCell_other _ _ _ _ (fun e => hg.elim (fun h' => absurd (show i = g from e) (by omega)) (fun h' => hm (by rw [show i = g from e]; exact h')))]; exact h.block i hi hm⟩
theorem Only.grown {M : Nat → Prop} {a b : World} {r : Option Nat} (h : a.grownBy b r) (hr : ∀ g, r = some g → a.heap.size ≤ g ∨ M g) : Only M a b :=
  ⟨h.os, h.tape, h.output, h.size, fun i hi hm => h.block i hi (fun e => (hr i e.symm).elim (fun h' => by omega) hm)⟩
theorem Only.setRow {M : Nat → Prop} {a b : World} (h : Only M a b) {g : Nat} (cs : Array Value) (hg : a.heap.size ≤ g ∨ M g) : Only M a (b.setRow g cs) :=
  ⟨h.os, h.tape, h.output, by simpa using h.size, fun i hi hm => by
    rw [setRow_other _ _ _ _ (show i ≠ g from fun e => hg.elim (fun h' => by omega) (fun h' => hm (by rw [e]; exact h')))]; exact h.block i hi hm⟩
theorem SlAt.only {M : Nat → Prop} {w w' : World} {v : Value} {b n : Nat} {t : TypeId} {V : Nat → Value} (h : SlAt w v b t n V) (ho : Only M w w') (hb : 0 < n → ¬ M b) : SlAt w' v b t n V := h.same fun hp => ho.block b (h.lt hp) (hb hp)
theorem SliceAt.only {M : Nat → Prop} {w w' : World} {a : Option Addr} {n : Nat} {V : Nat → Value} (h : SliceAt w a n V) (ho : Only M w w') (hb : ∀ b off, a = some ⟨b, off, none⟩ → b < w.heap.size → ¬ M b) : SliceAt w' a n V := by
  rcases h with h | ⟨b, off, rfl, hlt, hc⟩
  · exact .inl h
  · exact .inr ⟨b, off, rfl, Nat.lt_of_lt_of_le hlt ho.size, fun i hi => by
      have := ho.block b hlt (hb b off rfl hlt)
      rw [← hc i hi]; simp [World.cell?, this]⟩
end Go.Proofs.YtdlpgoackmgdkaaGreatDoor
