/- What stands in a memory behind a Store. -/
import Derived.Test.YtfochgpjpngnlaaMemKn
namespace Go.Proofs.Ytfochgpjpngnlaa
open Go.RowKit
set_option linter.unusedVariables false
theorem mayE_zero {N : Nat} {L : Nat → Reg} {l at_ k right : Nat} (h : mayE N L l at_ k right = 0) : ¬ mayBad k right ∧ (found L l at_ k right).isSome = true ∧ at_ + k ≤ N ∧ mayM N L l at_ k right = k := by
  unfold mayE at h
  unfold mayM
  by_cases hb : mayBad k right
  · rw [if_pos hb] at h; omega
  · rw [if_neg hb] at h
    by_cases ho : mayOk N L l at_ k right
    · exact ⟨hb, ho.1, ho.2, by rw [if_neg hb, if_pos ho]⟩
    · rw [if_neg ho] at h; omega
theorem mayE_pos {N : Nat} {L : Nat → Reg} {l at_ k right : Nat} (h : mayE N L l at_ k right ≠ 0) : (mayBad k right ∨ ¬ ((found L l at_ k right).isSome = true ∧ at_ + k ≤ N)) ∧ mayM N L l at_ k right = 0 := by
  unfold mayE at h
  unfold mayM
  by_cases hb : mayBad k right
  · exact ⟨.inl hb, by rw [if_pos hb]⟩
  · rw [if_neg hb] at h
    by_cases ho : mayOk N L l at_ k right
    · rw [if_pos ho] at h; omega
    · exact ⟨.inr ho, by rw [if_neg hb, if_neg ho]⟩
theorem leN_congr {B B' : Nat → Nat} {at_ : Nat} : ∀ k, (∀ i, i < k → B (at_ + i) = B' (at_ + i)) → leN B at_ k = leN B' at_ k
  | 0, _ => rfl
  | k + 1, h => by
    show leN B at_ k + B (at_ + k) * 256 ^ k = leN B' at_ k + B' (at_ + k) * 256 ^ k
    rw [leN_congr k (fun i hi => h i (by omega)), h k (by omega)]
theorem leN_stB (x at_ : Nat) : ∀ k, leN (fun j => stB x (j - at_)) at_ k = x % 256 ^ k
  | 0 => by show 0 = x % 1; omega
  | k + 1 => by
    show leN _ at_ k + stB x (at_ + k - at_) * 256 ^ k = x % 256 ^ (k + 1)
    rw [leN_stB x at_ k, Nat.pow_succ, Nat.mod_mul, show at_ + k - at_ = k by omega]
    unfold stB
    rw [Nat.mul_comm]
theorem mask_and (x k : Nat) (hx : x < 4294967296) (hk : k ≤ 4) : bits .and .u32 (x : Int) (((256 ^ k - 1 : Nat)) : Int) = ((x % 256 ^ k : Nat) : Int) := by
  have h2 : 256 ^ k ≤ 256 ^ 4 := Nat.pow_le_pow_right (by omega) hk
  rw [u32_and_nat x (256 ^ k - 1) hx (by omega), show 256 ^ k = 2 ^ (8 * k) by rw [Nat.pow_mul], Nat.and_two_pow_sub_one_eq_mod]
end Go.Proofs.Ytfochgpjpngnlaa
