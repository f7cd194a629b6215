/- A train that goes through: each frame's step. -/
import Derived.Test.YtlfcmedhadfheaaAutThP
namespace Go.Proofs.Ytlfcmedhadfheaa
set_option linter.unusedVariables false
set_option linter.unusedSimpArgs false
/-- Tracks of a route: there, and each one once. -/
structure Trk (l : List Int) : Prop where
  r : ∀ j, j < l.length → 0 ≤ l.getD j 0 ∧ l.getD j 0 < 24
  d : ∀ i j, i < l.length → j < l.length → i ≠ j → l.getD i 0 ≠ l.getD j 0
theorem trk_of {T : Tab} (h : checkE T = 0) (hT : TOk T) {n : Nat} (hn : n < T.rts.length) : Trk (T.rts.getD n rt0).tr := by
  have hw := (rtOk ((ckOk h).rt n hn)).tw
  have key : ∀ i j, i < j → j < (T.rts.getD n rt0).tr.length → (T.rts.getD n rt0).tr.getD i 0 ≠ (T.rts.getD n rt0).tr.getD j 0 := fun i j hij hj e => by
    have h1 := (withinI_iff.1 hw j hj).2.2
    have h2 : hasI ((T.rts.getD n rt0).tr.take j) ((T.rts.getD n rt0).tr.getD j 0) = true := hasI_iff.2 ⟨i, by rw [List.length_take]; omega, by rw [getD_take hij]; exact e⟩
    rw [h2] at h1; cases h1
  refine ⟨fun j hj => hT.tr n hn j hj, fun i j hi hj hne => ?_⟩
  rcases Nat.lt_or_gt_of_ne hne with h | h
  · exact key i j h hj
  · exact fun e => key j i h hi e.symm
theorem clear_but {l : List Int} (h : Trk l) {i j : Nat} (hi : i < l.length) (hj : j < l.length) : (offB every (l.getD i 0).toNat).testBit (l.getD j 0).toNat = decide (j ≠ i) := by
  have h1 := h.r i hi; have h2 := h.r j hj
  rw [offB_bit (by omega) (by omega), every_bit, decide_eq_true (show (l.getD j 0).toNat < 24 by omega), Bool.true_and]
  refine decide_eq_decide.2 ⟨fun hne e => hne (by rw [e]), fun hne e => ?_⟩
  exact h.d j i hj hi hne (by omega)
theorem clear_but2 {l : List Int} (h : Trk l) {i k j : Nat} (hi : i < l.length) (hk : k < l.length) (hj : j < l.length) : (offB (offB every (l.getD i 0).toNat) (l.getD k 0).toNat).testBit (l.getD j 0).toNat = decide (j ≠ i ∧ j ≠ k) := by
  have h1 := h.r k hk; have h2 := h.r j hj
  rw [offB_bit (by omega) (by omega), clear_but h hi hj, ← Bool.decide_and]
  refine decide_eq_decide.2 ⟨fun ⟨a, hne⟩ => ⟨a, fun e => hne (by rw [e])⟩, fun ⟨a, hne⟩ => ⟨a, fun e => ?_⟩⟩
  exact h.d j k hj hk hne (by omega)
/-- The train comes. -/
theorem th_first {f : FD} {t : Rt} {n : Nat} (h : Trk t.tr) (h0 : 0 < t.tr.length) (hc : f.cl = offB every (t.tr.getD 0 0).toNat) : goR f t n ⟨1, 0, 0, 0⟩ = ⟨3, 0, ones 1, ones 0⟩ := by
  have hb : ∀ j, j < t.tr.length → bt f.cl (t.tr.getD j 0) = decide (j ≠ 0) := fun j hj => by unfold bt; rw [hc]; exact clear_but h h0 hj
  rw [goR_enter (by rw [hb 0 h0]; rfl)]
  exact train_ones (i' := 0) (i := 0) (p := 0) (p' := 0) h0 (fun j hj => by rw [hb j hj, decide_eq_false_iff_not]; omega) (by omega) (by omega) (by omega) (fun j hj => absurd hj (by omega)) (by rw [hb 0 h0]; rfl)
/-- It stands on two sections. -/
theorem th_both {f : FD} {t : Rt} {n i : Nat} (h : Trk t.tr) (h0 : i + 1 < t.tr.length) (hc : f.cl = offB (offB every (t.tr.getD (i + 1) 0).toNat) (t.tr.getD i 0).toNat) : goR f t n ⟨3, 0, ones (i + 1), ones i⟩ = ⟨3, 0, ones (i + 2), ones i⟩ := by
  have hb : ∀ j, j < t.tr.length → bt f.cl (t.tr.getD j 0) = decide (j ≠ i + 1 ∧ j ≠ i) := fun j hj => by unfold bt; rw [hc]; exact clear_but2 h h0 (by omega) hj
  rw [goR_in rfl]
  exact train_ones (i' := i + 1) (i := i + 1) (p := i) (p' := i) h0 (fun j hj => by rw [hb j hj]; simp; omega) (by omega) (by omega) (by omega) (fun j hj => by rw [hb j (by omega)]; simp; omega) (by rw [hb i (by omega)]; simp)
/-- It stands on the next section alone. -/
theorem th_next {f : FD} {t : Rt} {n i i' : Nat} (h : Trk t.tr) (h0 : i + 1 < t.tr.length) (hc : f.cl = offB every (t.tr.getD (i + 1) 0).toNat) (hi : i' = i + 1 ∨ i' = i + 2) : goR f t n ⟨3, 0, ones i', ones i⟩ = ⟨3, 0, ones (i + 2), ones (i + 1)⟩ := by
  have hb : ∀ j, j < t.tr.length → bt f.cl (t.tr.getD j 0) = decide (j ≠ i + 1) := fun j hj => by unfold bt; rw [hc]; exact clear_but h h0 hj
  rw [goR_in rfl]
  exact train_ones (i' := i') (i := i + 1) (p := i + 1) (p' := i) h0 (fun j hj => by rw [hb j hj]; simp; omega) (by omega) (by omega) (by omega) (fun j hj => by rw [hb j (by omega)]; simp; omega) (by rw [hb (i + 1) h0]; simp)
/-- It is gone. -/
theorem th_gone {f : FD} {t : Rt} {n : Nat} (h : Trk t.tr) (h0 : 0 < t.tr.length) (hc : f.cl = every) : goR f t n ⟨3, 0, ones t.tr.length, ones (t.tr.length - 1)⟩ = rs0 := by
  rw [goR_in rfl]
  exact train_gone h0 (by omega) (fun j hj => by
    have := h.r j hj
    unfold bt; rw [hc, every_bit]; exact decide_eq_true (by omega))
end Go.Proofs.Ytlfcmedhadfheaa
