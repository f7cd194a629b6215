/- append(b[:], more...). -/
import Derived.Test.YtalmgjeiopjhlaaGreatDoorIsaReadsA
import Derived.ArgAppend
namespace Go.Proofs.YtalmgjeiopjhlaaGreatDoor
open Go.RowKit
set_option linter.unusedVariables false
theorem info_parts {t : TypeId} {z : Value} {s b : Nat} (h : (Tryz.prog.info? t).map (fun i => (i.zero, i.size, i.bytes)) = some (some z, s, b)) : ∃ i, Tryz.prog.info? t = some i ∧ i.zero = some z ∧ i.size = s ∧ i.bytes = b := by
  cases hi : Tryz.prog.info? t with
  | none => rw [hi] at h; simp at h
  | some i => rw [hi] at h; simp at h; exact ⟨i, rfl, h.1, h.2.1, h.2.2⟩
def catX (f g : Nat → Nat) (j : Nat) : Nat := if j < 8 then f j else g (j - 8)
theorem catX_lt {f g : Nat → Nat} (h1 : ∀ i, f i < 256) (h2 : ∀ i, g i < 256) (j : Nat) : catX f g j < 256 := by unfold catX; split <;> first | exact h1 _ | exact h2 _
theorem append_bytes (w : World) (gb : Nat) (f : Nat → Nat) (h : w.heap[gb]? = some (.cells ((List.range 8).map (bV f)).toArray 76 (0, 0))) (a : Option Addr) (len c : Nat) (g : Nat → Nat) (hs : SliceAt w a len (bV g)) (hl : len ≤ 140737488351232) :
    ∃ a' c' w', (∀ ty, (Builtin.append_ #[42, 42] ty #[.slice (some ⟨gb, 0, none⟩) 8 8, .slice a len c]).run Tryz.prog w = .ok (.slice a' (8 + len) c') w') ∧ 8 + len ≤ c' ∧ SliceAt w' a' (8 + len) (bV (catX f g)) ∧ Below w.heap.size w w' := by
  obtain ⟨i0, hi, hz, h1, h2⟩ := info_parts infoU8
  have hc : ∀ i, i < 8 → w.cell? ⟨gb, i, none⟩ = some (bV f i) := fun i hi => cell_row h (by simp [hi])
  by_cases h0 : len = 0
  · subst h0
    refine ⟨some ⟨gb, 0, none⟩, 8, w, fun ty => ?_, Nat.le_refl _, .inr ⟨gb, 0, rfl, heap_lt h, fun i hi => ?_⟩, Below.refl _ _⟩
    · cases a with
      | none => simp [Builtin.append_, run_underlying Tryz.underlying42, sizeOf, typeInfo, hi, Builtin.lenOf, Builtin.firstCells, storeCells]
      | some x =>
        have hf := run_firstCells_some (P := Tryz.prog) w i0.size 0 x 0 c [] (by simp) (by simp)
        simp [Builtin.append_, run_underlying Tryz.underlying42, sizeOf, typeInfo, hi, Builtin.lenOf, hf, storeCells]
    · rw [Nat.zero_add, hc i (by omega)]; unfold bV catX; rw [if_pos (by omega)]
  · obtain ⟨b, off, rfl, hlt, hm⟩ := hs.at (by omega)
    have hg := fun ty => run_append_grow (P := Tryz.prog) w 42 ty 5 i0 (.int .u8 0) Tryz.underlying42 hi hz ⟨gb, 0, none⟩ 8 8 ((List.range 8).map (bV f)) (by rw [h1]; simp) (fun j v hv => by
        rw [Go.Addr.add_mid, Nat.zero_add]
        have hj : j < 8 := by
          by_cases e : j < 8
          · exact e
          · rw [List.getElem?_eq_none (by simp; omega)] at hv; cases hv
        rw [hc j hj]; simpa [hj] using hv) ⟨b, off, none⟩ len c ((List.range len).map (bV g)) (by rw [h1]; simp) (fun j v hv => by
        rw [Go.Addr.add_mid]
        have hj : j < len := by
          by_cases e : j < len
          · exact e
          · rw [List.getElem?_eq_none (by simp; omega)] at hv; cases hv
        rw [hm j hj]; simpa [hj] using hv) (by omega) (by omega) (growslice_fits (by omega) (by rw [h2]; omega))
    refine ⟨_, _, _, hg, grownCap_ge _ _ _ _, .inr ⟨w.heap.size, 0, rfl, by simp, fun i hi => ?_⟩, ((Below.refl _ w).drew).alloc (Nat.le_refl _) _⟩
    rw [Nat.zero_add]
    refine cell_row (heap_alloc_new w.drew _) ?_
    by_cases hi8 : i < 8
    · have e : bV (catX f g) i = bV f i := by unfold bV catX; rw [if_pos hi8]
      rw [e, Array.getElem?_append_left (by simp; omega), Array.getElem?_append_left (by simp; omega)]
      simp [hi8]
    · have e : bV (catX f g) i = bV g (i - 8) := by unfold bV catX; rw [if_neg hi8]
      rw [e, Array.getElem?_append_left (by simp; omega), Array.getElem?_append_right (by simp; omega)]
      have hi2 : i - 8 < len := by omega
      simp [hi2]
theorem byt_lt {i : Ins} (h : i.ok) (j : Nat) : i.byt j < 256 := by
  unfold Ins.byt
  split
  · exact h.op
  · split
    · exact h.a
    · split
      · exact Nat.mod_lt _ (by omega)
      · exact Nat.mod_lt _ (by omega)
theorem insOf_byt {i : Ins} (h : i.ok) (g : Nat → Nat) : insOf (catX i.byt g) = i := by
  have e2 : leN (fun j => catX i.byt g (2 + j)) 0 2 = i.b := by
    rw [leN_congr (B' := fun j => stB i.b (j - 0)) 2 (fun j hj => by
      show catX i.byt g (2 + (0 + j)) = stB i.b (0 + j - 0)
      unfold catX Ins.byt
      rw [if_pos (by omega), if_neg (by omega), if_neg (by omega), if_pos (by omega)]
      congr 1; omega), leN_stB]
    exact Nat.mod_eq_of_lt h.b
  have e4 : leN (fun j => catX i.byt g (4 + j)) 0 4 = i.c := by
    rw [leN_congr (B' := fun j => stB i.c (j - 0)) 4 (fun j hj => by
      show catX i.byt g (4 + (0 + j)) = stB i.c (0 + j - 0)
      unfold catX Ins.byt
      rw [if_pos (by omega), if_neg (by omega), if_neg (by omega), if_neg (by omega)]
      congr 1; omega), leN_stB]
    exact Nat.mod_eq_of_lt h.c
  unfold insOf
  rw [e2, e4]
  rfl
theorem byt_insOf {X : Nat → Nat} (h : ∀ j, X j < 256) (j : Nat) (hj : j < 8) : (insOf X).byt j = X j := by
  unfold Ins.byt insOf
  by_cases h0 : j = 0
  · simp [h0]
  · by_cases h1 : j = 1
    · simp [h1]
    · rw [if_neg h0, if_neg h1]
      by_cases h2 : j < 4
      · rw [if_pos h2, stB_leN (fun i => h (2 + i)) 0 2 (j - 2) (by omega)]
        congr 1; omega
      · rw [if_neg h2, stB_leN (fun i => h (4 + i)) 0 4 (j - 4) (by omega)]
        congr 1; omega
end Go.Proofs.YtalmgjeiopjhlaaGreatDoor
