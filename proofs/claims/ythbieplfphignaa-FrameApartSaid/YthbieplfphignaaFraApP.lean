/- FrameApart, the plain part: where slots begin and end, of a definition that may be. -/
import Derived.Test.YthbieplfphignaaFraPartsP
namespace Go.Proofs.Ythbieplfphignaa
open Go.RowKit Go.Shelf
set_option linter.unusedVariables false
theorem fr_of {S : Nat → SlotR} {L sw len : Nat} : ∀ {n : Nat}, frB S L sw len n = false → ∀ i, i < n → endF S sw i ≤ nextF S L len i := by
  intro n
  induction n with
  | zero => intro _ i hi; omega
  | succ n ih =>
    intro h i hi
    have h' : (frB S L sw len n || decide (nextF S L len n < endF S sw n)) = false := h
    simp only [Bool.or_eq_false_iff, decide_eq_false_iff_not, Nat.not_lt] at h'
    by_cases e : i = n
    · subst e; exact h'.2
    · exact ih h'.1 i (by omega)
theorem start_after {S : Nat → SlotR} {L sw len : Nat} (hf : ∀ i, i < len → endF S sw i ≤ nextF S L len i) {n : Nat} : ∀ {i : Nat}, n < i → i < len → endF S sw n ≤ (S i).start := by
  intro i
  induction i with
  | zero => intro h; omega
  | succ i ih =>
    intro h1 h2
    have h3 := hf i (by omega)
    have h4 : nextF S L len i = (S (i + 1)).start := by unfold nextF; rw [if_pos h2]
    by_cases e : n = i
    · subst e; omega
    · have h5 := ih (by omega) (by omega)
      have h6 : (S i).start ≤ endF S sw i := by unfold endF; omega
      omega
theorem end_le {S : Nat → SlotR} {L sw len : Nat} (hf : ∀ i, i < len → endF S sw i ≤ nextF S L len i) {n : Nat} (hn : n < len) : endF S sw n ≤ L := by
  have h1 := hf (len - 1) (by omega)
  have h2 : nextF S L len (len - 1) = L := by unfold nextF; rw [if_neg (by omega)]
  by_cases e : n = len - 1
  · subst e; omega
  · have h3 := start_after hf (show n < len - 1 by omega) (by omega)
    have h4 : (S (len - 1)).start ≤ endF S sw (len - 1) := by unfold endF; omega
    omega
/-- The tick of the x-th beginning, from frame k on. -/
def tk (L : Nat) (S : Nat → SlotR) (len k x : Nat) : Nat := (k + x / len) * L + (S (x % len)).start
def szF (S : Nat → SlotR) (sw n : Nat) : Nat := sw + (S n).budget
/-- Where the slot that begins ahead of the x-th one ends. -/
def endN (L : Nat) (S : Nat → SlotR) (sw len k : Nat) : Nat → Nat
  | 0 => 0
  | x + 1 => tk L S len k x + szF S sw (x % len)
theorem step_mod {len x : Nat} (hp : 0 < len) : ((x + 1) % len = x % len + 1 ∧ (x + 1) / len = x / len ∧ x % len + 1 < len) ∨ ((x + 1) % len = 0 ∧ (x + 1) / len = x / len + 1 ∧ x % len + 1 = len) := by
  have h1 := Nat.div_add_mod x len
  have h2 := Nat.mod_lt x hp
  by_cases h : x % len + 1 < len
  · left
    have e : x + 1 = len * (x / len) + (x % len + 1) := by omega
    refine ⟨?_, ?_, h⟩
    · rw [e, Nat.mul_add_mod, Nat.mod_eq_of_lt h]
    · rw [e, Nat.mul_add_div hp, Nat.div_eq_of_lt h, Nat.add_zero]
  · right
    have e : x + 1 = len * (x / len) + len := by omega
    refine ⟨?_, ?_, by omega⟩
    · rw [e, Nat.mul_add_mod, Nat.mod_self]
    · rw [e, Nat.mul_add_div hp, Nat.div_self hp]
theorem end_next {S : Nat → SlotR} {L sw len k : Nat} (hf : ∀ i, i < len → endF S sw i ≤ nextF S L len i) (hp : 0 < len) (x : Nat) : endN L S sw len k x ≤ tk L S len k x := by
  cases x with
  | zero => exact Nat.zero_le _
  | succ x =>
    show tk L S len k x + szF S sw (x % len) ≤ _
    have h2 := Nat.mod_lt x hp
    unfold tk szF
    rcases step_mod (x := x) hp with ⟨h3, h4, h5⟩ | ⟨h3, h4, h5⟩
    · rw [h3, h4]
      have := start_after hf (show x % len < x % len + 1 by omega) h5
      unfold endF at this
      omega
    · rw [h3, h4]
      have := end_le hf h2
      unfold endF at this
      have e : (k + (x / len + 1)) * L = (k + x / len) * L + L := by rw [← Nat.add_assoc, Nat.succ_mul]
      omega
theorem tk_ge (L : Nat) (S : Nat → SlotR) (len k x : Nat) : k * L ≤ tk L S len k x := by
  unfold tk
  have : k * L ≤ (k + x / len) * L := Nat.mul_le_mul_right _ (Nat.le_add_right _ _)
  omega
theorem at_tick {S : Nat → SlotR} {L sw len k : Nat} (hf : ∀ i, i < len → endF S sw i ≤ nextF S L len i) (hp : 0 < len) (x c : Nat) (hc : c < szF S sw (x % len)) :
    (tk L S len k x + c) / L = k + x / len ∧ atN S ((tk L S len k x + c) % L) len = ((x % len : Nat) : Int) := by
  have h2 := Nat.mod_lt x hp
  have h3 := end_le hf h2
  unfold szF at hc
  have h3' : (S (x % len)).start + c < L := by unfold endF at h3; omega
  have e : tk L S len k x + c = L * (k + x / len) + ((S (x % len)).start + c) := by unfold tk; rw [Nat.mul_comm L]; omega
  rw [e, Nat.mul_add_div (by omega), Nat.div_eq_of_lt h3', Nat.mul_add_mod, Nat.mod_eq_of_lt h3']
  refine ⟨by omega, atN_some h2 (by omega) fun i h1 h4 => ?_⟩
  have := start_after hf h1 h4
  unfold endF at this
  omega
theorem load_le {S : Nat → SlotR} {L sw len : Nat} (hf : ∀ i, i < len → endF S sw i ≤ nextF S L len i) : loadM sw S len ≤ L := by
  have key : ∀ m, m ≤ len → loadM sw S m ≤ if m < len then (S m).start else L := by
    intro m
    induction m with
    | zero => intro _; exact Nat.zero_le _
    | succ m ih =>
      intro hm
      have h1 := ih (by omega)
      rw [if_pos (by omega)] at h1
      have h2 := hf m (by omega)
      have h3 : loadM sw S (m + 1) ≤ loadM sw S m + sw + (S m).budget := Nat.min_le_left _ _
      unfold nextF endF at h2
      omega
  have := key len (Nat.le_refl _)
  rwa [if_neg (by omega)] at this
theorem tk_lt {S : Nat → SlotR} {L len k x : Nat} (hs : ∀ i, (S i).ok) (hL : L ≤ 16777216) (hk : k < 549755813888) (hx : x / len ≤ 3) : tk L S len k x < 9223372041200000000 := by
  unfold tk
  have h1 : (k + x / len) * L ≤ (549755813887 + 3) * 16777216 := Nat.mul_le_mul (by omega) hL
  have h2 := (hs (x % len)).2.1
  omega
end Go.Proofs.Ythbieplfphignaa
