/- Bytes, the lowest first. -/
import Derived.Test.YtalmgjeiopjhlaaGreatDoorSet
import Derived.Laws.BitsAllLaws
namespace Go.Proofs.YtalmgjeiopjhlaaGreatDoor
open Go.RowKit
set_option linter.unusedVariables false
def bV (f : Nat → Nat) (i : Nat) : Value := .int .u8 ((f i : Nat) : Int)
def leN (B : Nat → Nat) (at_ : Nat) : Nat → Nat
  | 0 => 0
  | k + 1 => leN B at_ k + B (at_ + k) * 256 ^ k
theorem leN_lt {B : Nat → Nat} (h : ∀ i, B i < 256) (at_ : Nat) : ∀ k, leN B at_ k < 256 ^ k
  | 0 => by show 0 < 1; omega
  | k + 1 => by
    have h1 := leN_lt h at_ k
    have h2 := h (at_ + k)
    show leN B at_ k + B (at_ + k) * 256 ^ k < 256 ^ (k + 1)
    rw [Nat.pow_succ]
    have h3 : B (at_ + k) * 256 ^ k ≤ 255 * 256 ^ k := Nat.mul_le_mul_right _ (by omega)
    omega
theorem or_join (x c k : Nat) (hx : x < 256 ^ k) (h : c * 256 ^ k + x < 4294967296) : bits .or .u32 (x : Int) ((c * 256 ^ k : Nat) : Int) = ((x + c * 256 ^ k : Nat) : Int) := by
  rw [u32_or_nat x (c * 256 ^ k) (by omega) (by omega), Nat.or_comm, show 256 ^ k = 2 ^ (8 * k) by rw [Nat.pow_mul], nat_join (8 * k) (c * 2 ^ (8 * k)) x (by simp) (by rw [Nat.pow_mul]; exact hx), Nat.add_comm]
theorem or_shl (x c k : Nat) (hx : x < 256 ^ k) (hc : c < 256) (hk : k < 4) : bits .or .u32 (x : Int) ((c : Int) * 2 ^ (8 * k) % 4294967296) = ((x + c * 256 ^ k : Nat) : Int) := by
  have h1 : c * 256 ^ k + x < 256 ^ (k + 1) := by
    rw [Nat.pow_succ]
    have h3 : c * 256 ^ k ≤ 255 * 256 ^ k := Nat.mul_le_mul_right _ (by omega)
    omega
  have h2 : 256 ^ (k + 1) ≤ 256 ^ 4 := Nat.pow_le_pow_right (by omega) (by omega)
  have h3 : c * 256 ^ k + x < 4294967296 := Nat.lt_of_lt_of_le h1 h2
  have e : (c : Int) * 2 ^ (8 * k) % 4294967296 = ((c * 256 ^ k : Nat) : Int) := by
    have e1 : ((c * 256 ^ k : Nat) : Int) = (c : Int) * 2 ^ (8 * k) := by
      rw [show 256 ^ k = 2 ^ (8 * k) by rw [Nat.pow_mul]]; push_cast; rfl
    rw [← e1]; omega
  rw [e]
  exact or_join x c k hx h3
def stB (x : Nat) (i : Nat) : Nat := x / 256 ^ i % 256
theorem stB_cast (x j : Nat) : ((x : Int) / 2 ^ (8 * j)) % 256 = ((stB x j : Nat) : Int) := by
  unfold stB
  rw [show 256 ^ j = 2 ^ (8 * j) by rw [Nat.pow_mul], Int.natCast_emod, Int.natCast_ediv, Int.natCast_pow]; rfl
theorem leN_congr {B B' : Nat → Nat} {at_ : Nat} : ∀ k, (∀ i, i < k → B (at_ + i) = B' (at_ + i)) → leN B at_ k = leN B' at_ k
  | 0, _ => rfl
  | k + 1, h => by show leN B at_ k + B (at_ + k) * 256 ^ k = leN B' at_ k + B' (at_ + k) * 256 ^ k; rw [leN_congr k (fun i hi => h i (by omega)), h k (by omega)]
theorem leN_stB (x at_ : Nat) : ∀ k, leN (fun j => stB x (j - at_)) at_ k = x % 256 ^ k
  | 0 => by show 0 = x % 1; omega
  | k + 1 => by
    show leN (fun j => stB x (j - at_)) at_ k + stB x (at_ + k - at_) * 256 ^ k = x % 256 ^ (k + 1)
    rw [leN_stB x at_ k, show at_ + k - at_ = k by omega]
    unfold stB
    rw [Nat.pow_succ, Nat.mod_mul, Nat.mul_comm (256 ^ k)]
theorem stB_leN {B : Nat → Nat} (hB : ∀ i, B i < 256) (at_ : Nat) : ∀ k i, i < k → stB (leN B at_ k) i = B (at_ + i)
  | 0, i, h => absurd h (by omega)
  | k + 1, i, h => by
    have h1 := leN_lt hB at_ k
    have h2 := hB (at_ + k)
    show stB (leN B at_ k + B (at_ + k) * 256 ^ k) i = _
    by_cases e : i = k
    · subst e
      unfold stB
      rw [Nat.add_mul_div_right _ _ (by exact Nat.pow_pos (by omega)), Nat.div_eq_of_lt h1, Nat.zero_add, Nat.mod_eq_of_lt h2]
    · rw [← stB_leN hB at_ k i (by omega)]
      unfold stB
      obtain ⟨d, hd⟩ : ∃ d, k = i + 1 + d := ⟨k - i - 1, by omega⟩
      have e1 : B (at_ + k) * 256 ^ k = (B (at_ + k) * 256 ^ d * 256) * 256 ^ i := by rw [hd, Nat.pow_add, Nat.pow_add, Nat.pow_one]; simp [Nat.mul_assoc, Nat.mul_comm, Nat.mul_left_comm]
      rw [e1, Nat.add_mul_div_right _ _ (by exact Nat.pow_pos (by omega)), Nat.add_mul_mod_self_right]
end Go.Proofs.YtalmgjeiopjhlaaGreatDoor
