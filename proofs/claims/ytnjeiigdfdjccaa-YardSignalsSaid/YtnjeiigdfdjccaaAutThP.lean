/- A train that goes through: plain laws for AutoThrough. -/
import Derived.Test.YtnjeiigdfdjccaaAutOne
namespace Go.Proofs.Ytnjeiigdfdjccaa
set_option linter.unusedVariables false
set_option linter.unusedSimpArgs false
def ones (n : Nat) : Nat := 2 ^ n - 1
theorem ones_bit (n j : Nat) : (ones n).testBit j = decide (j < n) := Nat.testBit_two_pow_sub_one ..
theorem ones_or (n : Nat) : ones n ||| 2 ^ n = ones (n + 1) := by
  refine Nat.eq_of_testBit_eq fun j => ?_
  rw [Nat.testBit_or, ones_bit, ones_bit, Nat.testBit_two_pow, ← Bool.decide_or]
  exact decide_eq_decide.2 (by omega)
theorem usedN_bit (f : FD) (l : List Int) (u : Nat) (j : Nat) : ∀ k, (usedN f l u k).testBit j = (u.testBit j || (decide (j < k) && !bt f.cl (l.getD j 0)))
  | 0 => by simp [usedN]
  | k + 1 => by
    simp only [usedN]
    by_cases h : bt f.cl (l.getD k 0) = true
    · rw [if_pos h, usedN_bit f l u j k]
      by_cases e : j = k
      · subst e; rw [h]; simp
      · congr 2; exact decide_eq_decide.2 (by omega)
    · rw [if_neg h, Nat.testBit_or, usedN_bit f l u j k, Nat.testBit_two_pow]
      by_cases e : j = k
      · subst e; rw [Bool.eq_false_iff.2 h]; simp
      · rw [show decide (k = j) = false from decide_eq_false (by omega), Bool.or_false]
        congr 2; exact decide_eq_decide.2 (by omega)
theorem usedN_ones {f : FD} {l : List Int} {i' i : Nat} (hi : i < l.length) (h : ∀ j, j < l.length → (j < i' ∨ bt f.cl (l.getD j 0) = false ↔ j < i + 1)) (hi' : i' ≤ i + 1) : usedN f l (ones i') l.length = ones (i + 1) := by
  refine Nat.eq_of_testBit_eq fun j => ?_
  rw [usedN_bit, ones_bit, ones_bit]
  by_cases hj : j < l.length
  · have := h j hj
    cases hb : bt f.cl (l.getD j 0) with
    | true =>
      rw [hb] at this
      simp at this
      simp [hj]; exact this
    | false =>
      rw [hb] at this
      simp at this
      simp [hj]; omega
  · rw [show decide (j < l.length) = false from decide_eq_false hj]
    simp; omega
theorem relN_ones {f : FD} {l : List Int} {i p p' : Nat} (hp : p ≤ i) (hi : i < l.length) (hpp : p' ≤ p) (hc : ∀ j, j < p → bt f.cl (l.getD j 0) = true) (hn : bt f.cl (l.getD p 0) = false) : ∀ k, k ≤ l.length → relN f l (ones (i + 1)) (ones p') k = ones (max p' (min k p))
  | 0, _ => by rw [show max p' (min 0 p) = p' by omega]; rfl
  | k + 1, hk => by
    simp only [relN]
    rw [relN_ones hp hi hpp hc hn k (by omega)]
    by_cases h1 : k < p
    · have e : ((k == 0 || (ones (max p' (min k p))).testBit (k - 1)) && (ones (i + 1)).testBit k && bt f.cl (l.getD k 0) && (k + 1 == l.length || (ones (i + 1)).testBit (k + 1))) = true := by
        rw [ones_bit, ones_bit, ones_bit, hc k h1, decide_eq_true (show k < i + 1 by omega), decide_eq_true (show k + 1 < i + 1 by omega)]
        by_cases hk0 : k = 0
        · subst hk0; simp
        · rw [decide_eq_true (show k - 1 < max p' (min k p) by omega)]; simp
      rw [if_pos e]
      by_cases h2 : k < p'
      · have : max p' (min k p) = p' := by omega
        rw [this, show max p' (min (k + 1) p) = p' by omega]
        refine Nat.eq_of_testBit_eq fun j => ?_
        rw [Nat.testBit_or, ones_bit, Nat.testBit_two_pow, ← Bool.decide_or]
        exact decide_eq_decide.2 (by omega)
      · rw [show max p' (min k p) = k by omega, show max p' (min (k + 1) p) = k + 1 by omega]
        exact ones_or k
    · have e : ((k == 0 || (ones (max p' (min k p))).testBit (k - 1)) && (ones (i + 1)).testBit k && bt f.cl (l.getD k 0) && (k + 1 == l.length || (ones (i + 1)).testBit (k + 1))) = false := by
        by_cases h2 : k = p
        · subst h2; rw [hn]; simp
        · rw [ones_bit, decide_eq_false (show ¬ k - 1 < max p' (min k p) by omega), beq_eq_false_iff_ne.2 (show k ≠ 0 by omega)]; rfl
      rw [e, if_neg (fun h => by cases h), show max p' (min (k + 1) p) = max p' (min k p) by omega]
theorem relN_all {f : FD} {l : List Int} {p' : Nat} (hpp : p' ≤ l.length) (hc : ∀ j, j < l.length → bt f.cl (l.getD j 0) = true) : ∀ k, k ≤ l.length → relN f l (ones l.length) (ones p') k = ones (max p' k)
  | 0, _ => by rw [show max p' 0 = p' by omega]; rfl
  | k + 1, hk => by
    simp only [relN]
    rw [relN_all hpp hc k (by omega)]
    have e : ((k == 0 || (ones (max p' k)).testBit (k - 1)) && (ones l.length).testBit k && bt f.cl (l.getD k 0) && (k + 1 == l.length || (ones l.length).testBit (k + 1))) = true := by
      rw [ones_bit, ones_bit, ones_bit, hc k hk, decide_eq_true (show k < l.length by omega)]
      by_cases hl : k + 1 = l.length
      · rw [beq_iff_eq.2 hl]
        by_cases hk0 : k = 0
        · rw [beq_iff_eq.2 hk0]; rfl
        · rw [decide_eq_true (show k - 1 < max p' k by omega)]; simp
      · rw [decide_eq_true (show k + 1 < l.length by omega)]
        by_cases hk0 : k = 0
        · rw [beq_iff_eq.2 hk0]; simp
        · rw [decide_eq_true (show k - 1 < max p' k by omega)]; simp
    rw [if_pos e]
    by_cases h2 : k < p'
    · rw [show max p' k = p' by omega, show max p' (k + 1) = p' by omega]
      refine Nat.eq_of_testBit_eq fun j => ?_
      rw [Nat.testBit_or, ones_bit, Nat.testBit_two_pow, ← Bool.decide_or]
      exact decide_eq_decide.2 (by omega)
    · rw [show max p' k = k by omega, show max p' (k + 1) = k + 1 by omega]
      exact ones_or k
theorem ones_ne {p n : Nat} (h : p < n) : ones p ≠ ones n := fun e => by
  have := ones_bit n p
  rw [← e, ones_bit, decide_eq_true h] at this
  simp at this
/-- A train stands on section i; p sections are behind it. -/
theorem train_ones {f : FD} {l : List Int} {i' i p p' tm : Nat} (hi : i < l.length) (h : ∀ j, j < l.length → (j < i' ∨ bt f.cl (l.getD j 0) = false ↔ j < i + 1)) (hi' : i' ≤ i + 1) (hp : p ≤ i) (hpp : p' ≤ p) (hc : ∀ j, j < p → bt f.cl (l.getD j 0) = true) (hn : bt f.cl (l.getD p 0) = false) :
    trainR f l ⟨3, tm, ones i', ones p'⟩ = ⟨3, tm, ones (i + 1), ones p⟩ := by
  unfold trainR
  show (if relN f l (usedN f l (ones i') l.length) (ones p') l.length = 2 ^ l.length - 1 then rs0 else (⟨3, tm, usedN f l (ones i') l.length, relN f l (usedN f l (ones i') l.length) (ones p') l.length⟩ : RS)) = _
  rw [usedN_ones hi h hi', relN_ones hp hi hpp hc hn _ (Nat.le_refl _), show max p' (min l.length p) = p by omega]
  exact if_neg (ones_ne (show p < l.length by omega))
/-- The train is gone. -/
theorem train_gone {f : FD} {l : List Int} {p' tm : Nat} (h0 : 0 < l.length) (hpp : p' ≤ l.length) (hc : ∀ j, j < l.length → bt f.cl (l.getD j 0) = true) : trainR f l ⟨3, tm, ones l.length, ones p'⟩ = rs0 := by
  have e : usedN f l (ones l.length) l.length = ones l.length := by
    have := usedN_ones (f := f) (l := l) (i' := l.length) (i := l.length - 1) (by omega) (fun j hj => by rw [hc j hj]; simp; omega) (by omega)
    rwa [show l.length - 1 + 1 = l.length by omega] at this
  unfold trainR
  show (if relN f l (usedN f l (ones l.length) l.length) (ones p') l.length = 2 ^ l.length - 1 then rs0 else _) = _
  rw [e, relN_all hpp hc _ (Nat.le_refl _), show max p' l.length = l.length by omega]
  exact if_pos rfl
theorem goR_in {f : FD} {t : Rt} {n : Nat} {r : RS} (h : r.ph = 3) : goR f t n r = trainR f t.tr r := by
  have e : goR1 f t n r = r := by
    unfold goR1
    rw [if_neg (fun q => q.1 h), if_neg (fun q => by omega), if_neg (by omega)]
  unfold goR
  rw [e, if_neg (by omega), if_pos h]
theorem goR_enter {f : FD} {t : Rt} {n : Nat} (h : bt f.cl (t.tr.getD 0 0) = false) : goR f t n ⟨1, 0, 0, 0⟩ = trainR f t.tr ⟨3, 0, 0, 0⟩ := by
  have e : goR1 f t n ⟨1, 0, 0, 0⟩ = ⟨3, 0, 0, 0⟩ := by
    unfold goR1
    exact if_pos ⟨by show (1 : Nat) ≠ 3; omega, h⟩
  unfold goR
  rw [e, if_neg (show ¬ (1 : Nat) = 0 by omega)]
  exact if_pos rfl
end Go.Proofs.Ytnjeiigdfdjccaa
