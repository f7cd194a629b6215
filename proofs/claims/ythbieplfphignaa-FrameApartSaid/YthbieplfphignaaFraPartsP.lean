/- FrameParts, the plain part: which slots a partition has; a row of counts. -/
import Derived.Test.YthbieplfphignaaFraTells
namespace Go.Proofs.Ythbieplfphignaa
open Go.RowKit Go.Shelf
set_option linter.unusedVariables false
/-- A row of n numbers. -/
def rowOf (n : Nat) (f : Nat → Int) : Array Value := ((List.range n).map fun j => Value.int .i64 (f j)).toArray
theorem rowOf_size (n : Nat) (f : Nat → Int) : (rowOf n f).size = n := by simp [rowOf]
theorem rowOf_get (n : Nat) (f : Nat → Int) (j : Nat) (h : j < n) : (rowOf n f)[j]? = some (Value.int .i64 (f j)) := by simp [rowOf, h]
theorem rowOf_none (n : Nat) (f : Nat → Int) (j : Nat) (h : ¬ j < n) : (rowOf n f)[j]? = none := by simp [rowOf_size]; omega
theorem rowOf_congr {n : Nat} {f g : Nat → Int} (h : ∀ j, j < n → f j = g j) : rowOf n f = rowOf n g := by
  apply Array.ext_getElem?
  intro i
  by_cases hi : i < n
  · rw [rowOf_get n f i hi, rowOf_get n g i hi, h i hi]
  · rw [rowOf_none n f i hi, rowOf_none n g i hi]
theorem rowOf_set (n : Nat) (f g : Nat → Int) (k : Nat) (v : Int) (hk : g k = v) (ho : ∀ j, j < n → j ≠ k → g j = f j) : (rowOf n f).setIfInBounds k (.int .i64 v) = rowOf n g := by
  apply Array.ext_getElem?
  intro i
  rw [Array.getElem?_setIfInBounds]
  by_cases hi : i < n
  · rw [rowOf_get n g i hi]
    by_cases e : k = i
    · subst e; simp [rowOf_size, hi, hk]
    · rw [if_neg e, rowOf_get n f i hi, ho i hi (fun h => e h.symm)]
  · rw [rowOf_none n g i hi]
    by_cases e : k = i
    · subst e; simp [rowOf_size, hi]
    · rw [if_neg e, rowOf_none n f i hi]
theorem rowOf_zero (n : Nat) : madeCells #[.int .i64 0] n = rowOf n (fun _ => 0) := by
  apply Array.ext_getElem?
  intro i
  by_cases hi : i < n
  · rw [rowOf_get n _ i hi]; simp [madeCells, hi, Nat.mod_one]
  · rw [rowOf_none n _ i hi]; simp [madeCells]; omega
theorem ofL_mem {S : Nat → SlotR} {p : Int} {n x : Nat} : x ∈ ofL S p n ↔ x < n ∧ (S x).part = p := by
  induction n with
  | zero => simp [ofL]
  | succ n ih =>
    unfold ofL
    split
    · rename_i h
      simp only [List.mem_append, List.mem_singleton, ih]
      constructor
      · rintro (⟨h1, h2⟩ | rfl)
        · exact ⟨by omega, h2⟩
        · exact ⟨by omega, h⟩
      · rintro ⟨h1, h2⟩
        by_cases e : x = n
        · exact .inr e
        · exact .inl ⟨by omega, h2⟩
    · rename_i h
      rw [ih]
      constructor
      · rintro ⟨h1, h2⟩; exact ⟨by omega, h2⟩
      · rintro ⟨h1, h2⟩
        refine ⟨?_, h2⟩
        by_cases e : x = n
        · subst e; exact absurd h2 h
        · omega
theorem ofL_sorted (S : Nat → SlotR) (p : Int) (n : Nat) : (ofL S p n).Pairwise (· < ·) := by
  induction n with
  | zero => simp [ofL]
  | succ n ih =>
    unfold ofL
    split
    · rw [List.pairwise_append]
      refine ⟨ih, by simp, fun x hx y hy => ?_⟩
      simp at hy
      subst hy
      exact (ofL_mem.1 hx).1
    · exact ih
theorem ofL_nil {S : Nat → SlotR} {p : Int} {n : Nat} (h : ∀ i, i < n → (S i).part ≠ p) : ofL S p n = [] := by
  rw [List.eq_nil_iff_forall_not_mem]
  intro x hx
  obtain ⟨h1, h2⟩ := ofL_mem.1 hx
  exact h x h1 h2
theorem sl_of {S : Nat → SlotR} {parts : Int} : ∀ {n : Nat}, slB S parts n = false → ∀ i, i < n → 0 ≤ (S i).part ∧ (S i).part < parts := by
  intro n
  induction n with
  | zero => intro _ i hi; omega
  | succ n ih =>
    intro h i hi
    have h' : (slB S parts n || !slOk (S n) parts) = false := h
    simp only [Bool.or_eq_false_iff, Bool.not_eq_false'] at h'
    by_cases e : i = n
    · subst e
      have := h'.2
      unfold slOk at this
      simp only [Bool.and_eq_true, decide_eq_true_eq] at this
      exact ⟨this.1.1.1, this.1.1.2⟩
    · exact ih h'.1 i (by omega)
theorem chk_zero {S : Nat → SlotR} {L sw len : Nat} {parts : Int} (h : chkV S L sw len parts = 0) : len ≤ 16 ∧ 1 ≤ L ∧ L ≤ 16777216 ∧ slB S parts len = false ∧ frB S L sw len len = false := by
  unfold chkV at h
  split at h
  · exact absurd h (by decide)
  · split at h
    · exact absurd h (by decide)
    · split at h
      · exact absurd h (by decide)
      · refine ⟨by omega, by omega, by omega, by simpa using ‹¬ slB S parts len = true›, by simpa using ‹¬ frB S L sw len len = true›⟩
/-- How often a slot has been counted, when j of the partition's list l have been told, and all below p. -/
def cntS (S : Nat → SlotR) (p : Int) (l : List Nat) (j : Nat) (n : Nat) : Int := if (S n).part < p ∨ n ∈ l.take j then 1 else 0
theorem cntS_start {S : Nat → SlotR} (len : Nat) (l : List Nat) {n : Nat} (h : 0 ≤ (S n).part) : cntS S 0 l 0 n = 0 := by
  unfold cntS; rw [if_neg (by simp; omega)]
theorem cntS_next {S : Nat → SlotR} {p : Int} {len n : Nat} (l : List Nat) (hn : n < len) : cntS S (p + 1) l 0 n = cntS S p (ofL S p len) (ofL S p len).length n := by
  unfold cntS
  simp only [List.take_zero, List.not_mem_nil, or_false, List.take_length, ofL_mem]
  by_cases h : (S n).part < p + 1
  · rw [if_pos h, if_pos (by omega)]
  · rw [if_neg h, if_neg (by omega)]
theorem cntS_end {S : Nat → SlotR} {p : Int} {l : List Nat} {n : Nat} (h : (S n).part < p) : cntS S p l 0 n = 1 := by
  unfold cntS; rw [if_pos (.inl h)]
theorem sorted_get {l : List Nat} (h : l.Pairwise (· < ·)) {i j : Nat} (hij : i < j) (hj : j < l.length) : l.getD i 0 < l.getD j 0 := by
  have := (List.pairwise_iff_getElem.1 h) i j (by omega) hj hij
  simpa [List.getD_eq_getElem?_getD, List.getElem?_eq_getElem hj, List.getElem?_eq_getElem (show i < l.length by omega)] using this
theorem sorted_take {l : List Nat} (h : l.Pairwise (· < ·)) {j : Nat} (hj : j < l.length) : l.getD j 0 ∉ l.take j := by
  intro hm
  obtain ⟨i, hi, he⟩ := List.mem_iff_getElem.1 hm
  have hi' : i < j := by simp at hi; omega
  have := sorted_get h hi' hj
  simp at he
  simp only [List.getD_eq_getElem?_getD, List.getElem?_eq_getElem (show i < l.length by omega), Option.getD_some] at this
  rw [he] at this
  simp at this
theorem take_get {l : List Nat} {j : Nat} (hj : j < l.length) (n : Nat) : n ∈ l.take (j + 1) ↔ n ∈ l.take j ∨ n = l.getD j 0 := by
  rw [List.take_succ_eq_append_getElem hj, List.mem_append, List.mem_singleton, List.getD_eq_getElem?_getD, List.getElem?_eq_getElem hj]; rfl
theorem get_mem {l : List Nat} {j : Nat} (hj : j < l.length) : l.getD j 0 ∈ l := by
  rw [List.getD_eq_getElem?_getD, List.getElem?_eq_getElem hj]; exact List.getElem_mem _
/-- A result of Of as a slice, and where it lies. -/
theorem rowAtB {W : World} {base : Nat} {v : Value} {l : List Nat} (h : W.ownsRow base 3 1 v l.length (natVs l)) :
    ∃ (a : Option Addr) (c : Nat), v = .slice a l.length c ∧ l.length ≤ c ∧ SliceAt W a l.length (fun i => .int .i64 ((l.getD i 0 : Nat) : Int)) ∧ ∀ b off, a = some ⟨b, off, none⟩ → base ≤ b := by
  have hge := ownBlock_ge h
  obtain ⟨a, c, rfl, h1, h2⟩ := rowAt h
  refine ⟨a, c, rfl, h1, h2.congr fun i hi => by rw [List.getD_eq_getElem?_getD], fun b off e => ?_⟩
  subst e
  exact hge b (by simp [Value.ownBlock])
theorem SliceAt.setOther {w : World} {a : Option Addr} {n g o : Nat} {V : Nat → Value} (h : SliceAt w a n V) (hne : ∀ b off, a = some ⟨b, off, none⟩ → g < b) (v : Value) : SliceAt (w.setCell ⟨g, o, none⟩ v) a n V := by
  rcases h with h | ⟨b, off, rfl, hlt, hc⟩
  · exact .inl h
  · refine .inr ⟨b, off, rfl, by simpa [World.setCell] using hlt, fun i hi => ?_⟩
    rw [World.cell?_setCell_other _ _ _ _ (show (⟨g, o, none⟩ : Addr) ≠ ⟨b, off + i, none⟩ from fun e => by have := hne b off rfl; cases e; omega)]
    exact hc i hi
end Go.Proofs.Ythbieplfphignaa
