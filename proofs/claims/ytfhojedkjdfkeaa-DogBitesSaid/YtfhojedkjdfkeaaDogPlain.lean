/- The plain law of the dog: what the frames make of it, and what the document says of them. No program in sight. -/
import Derived.KernelRfl
namespace Go.Proofs.Ytfhojedkjdfkeaa.Dp
/-- A frame: (missed, bitten). -/
def step (lim : Nat) (s : Nat × Bool) (y : Bool) : Nat × Bool :=
  if s.2 then s else if y then (0, false) else (s.1 + 1, decide (lim ≤ s.1 + 1))
/-- Behind the first m frames. -/
def st (lim : Nat) (l : List Bool) : Nat → Nat × Bool
  | 0 => (0, false)
  | m + 1 => step lim (st lim l m) (l.getD m true)
theorem st_succ (lim : Nat) (l : List Bool) (m : Nat) : st lim l (m + 1) = step lim (st lim l m) (l.getD m true) := rfl
/-- How many of the first m frames, the last ones running, were without a yield. -/
def run (l : List Bool) : Nat → Nat
  | 0 => 0
  | m + 1 => if l.getD m true then 0 else run l m + 1
/-- Whether among the first m frames so many running were without a yield. -/
def bit (lim : Nat) (l : List Bool) : Nat → Bool
  | 0 => decide (lim ≤ 0)
  | m + 1 => bit lim l m || decide (lim ≤ run l (m + 1))
theorem run_le (l : List Bool) (m : Nat) : run l m ≤ m := by
  induction m with
  | zero => simp [run]
  | succ m ih => unfold run; split <;> omega
theorem bit_iff (lim : Nat) (l : List Bool) (m : Nat) : bit lim l m = true ↔ ∃ n, n ≤ m ∧ lim ≤ run l n := by
  induction m with
  | zero =>
    simp only [bit, decide_eq_true_eq]
    constructor
    · intro h; exact ⟨0, Nat.le_refl _, by simp [run]; omega⟩
    · rintro ⟨n, hn, h⟩
      obtain rfl : n = 0 := by omega
      simpa [run] using h
  | succ m ih =>
    simp only [bit, Bool.or_eq_true, decide_eq_true_eq, ih]
    constructor
    · rintro (⟨n, hn, h⟩ | h)
      · exact ⟨n, by omega, h⟩
      · exact ⟨m + 1, Nat.le_refl _, h⟩
    · rintro ⟨n, hn, h⟩
      by_cases e : n = m + 1
      · subst e; exact .inr h
      · exact .inl ⟨n, by omega, h⟩
theorem st_eq (lim : Nat) (l : List Bool) (hl : 0 < lim) (m : Nat) : (st lim l m).2 = bit lim l m ∧ (st lim l m).1 = (if bit lim l m then lim else run l m) ∧ (bit lim l m = false → run l m < lim) := by
  induction m with
  | zero =>
    have h : bit lim l 0 = false := by simp [bit]; omega
    simp [st, run, h]; exact hl
  | succ m ih =>
    obtain ⟨h1, h2, h3⟩ := ih
    cases hb : bit lim l m with
    | true =>
      rw [hb] at h1 h2
      have : st lim l (m + 1) = st lim l m := by rw [st_succ]; unfold step; rw [h1]; simp
      have hb' : bit lim l (m + 1) = true := by simp [bit, hb]
      rw [this, hb', h1, h2]
      simp
    | false =>
      rw [hb] at h1 h2
      have h3 := h3 hb
      simp only [Bool.false_eq_true, if_false] at h2
      cases hy : l.getD m true with
      | true =>
        have : st lim l (m + 1) = (0, false) := by rw [st_succ]; unfold step; rw [h1, hy]; simp
        have hr : run l (m + 1) = 0 := by unfold run; rw [hy]; simp
        have hb' : bit lim l (m + 1) = false := by simp [bit, hb, hr]; omega
        rw [this, hb', hr]
        simp; exact hl
      | false =>
        have : st lim l (m + 1) = (run l m + 1, decide (lim ≤ run l m + 1)) := by rw [st_succ]; unfold step; rw [h1, hy, h2]; simp
        have hr : run l (m + 1) = run l m + 1 := by
          conv => lhs; unfold run
          rw [hy]; simp
        have hb' : bit lim l (m + 1) = decide (lim ≤ run l m + 1) := by simp [bit, hb, hr]
        rw [this, hb', hr]
        refine ⟨rfl, ?_, ?_⟩
        · by_cases h : lim ≤ run l m + 1 <;> simp [h]; omega
        · simp
/-- What is left. -/
def left (lim : Nat) (l : List Bool) (m : Nat) : Nat := if bit lim l m then 0 else lim - run l m
theorem left_eq (lim : Nat) (l : List Bool) (hl : 0 < lim) (m : Nat) : (lim : Int) - ((st lim l m).1 : Int) = (left lim l m : Int) := by
  obtain ⟨h1, h2, h3⟩ := st_eq lim l hl m
  unfold left
  rw [h2]
  cases hb : bit lim l m with
  | true => simp
  | false =>
    have := h3 hb
    simp; omega
theorem st_le (lim : Nat) (l : List Bool) (m : Nat) : (st lim l m).1 ≤ m := by
  induction m with
  | zero => simp [st]
  | succ m ih =>
    rw [st_succ]
    unfold step
    split
    · omega
    · split <;> simp; omega
/-- The frames from the end: c without a yield, and ahead of them none or one with a yield. -/
theorem run_of (l : List Bool) (m c : Nat) (hc : c ≤ m) (h : ∀ j, m - c ≤ j → j < m → l.getD j true = false) (h2 : c = m ∨ l.getD (m - c - 1) true = true) : run l m = c := by
  induction m generalizing c with
  | zero => simp [run]; omega
  | succ m ih =>
    cases c with
    | zero =>
      rcases h2 with h2 | h2
      · omega
      · unfold run
        rw [show m + 1 - 0 - 1 = m from by omega] at h2
        rw [h2]; simp
    | succ c =>
      have hl := h m (by omega) (by omega)
      unfold run
      rw [hl]
      simp only [Bool.false_eq_true, if_false]
      rw [ih c (by omega) (fun j h1 h3 => h j (by omega) (by omega)) (by
        rcases h2 with h2 | h2
        · left; omega
        · right; rw [show m - c - 1 = m + 1 - (c + 1) - 1 from by omega]; exact h2)]
end Go.Proofs.Ytfhojedkjdfkeaa.Dp
