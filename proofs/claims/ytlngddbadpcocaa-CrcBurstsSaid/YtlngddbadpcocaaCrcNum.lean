/- Bytes as one number: the remainder behind them is that of the number; bits turned within 32 turn the remainder. -/
import Derived.Test.YtlngddbadpcocaaCrcPlain
namespace Go.Proofs.Ytlngddbadpcocaa.Pl
def num : List Nat → Nat
  | [] => 0
  | c :: l => c ^^^ (256 * num l)
theorem mul_xor (n a b : Nat) : 2 ^ n * (a ^^^ b) = (2 ^ n * a) ^^^ (2 ^ n * b) := by
  apply Nat.eq_of_testBit_eq
  intro i
  simp only [Nat.testBit_xor, Nat.testBit_two_pow_mul]
  by_cases h : n ≤ i <;> simp [h]
theorem rem_num (l : List Nat) : ∀ r, rem r l = btN (8 * l.length) (r ^^^ num l) := by
  induction l with
  | nil => intro r; simp [rem, num, btN]
  | cons c l ih =>
    intro r
    show rem (btN 8 (r ^^^ c)) l = _
    rw [ih, List.length_cons, show 8 * (l.length + 1) = 8 + 8 * l.length from by omega, btN_add]
    congr 1
    show _ = btN 8 (r ^^^ (c ^^^ (256 * num l)))
    rw [← Nat.xor_assoc, btN_xor, btN_xor 8 (r ^^^ c)]
    rw [btN_xor]
    congr 1
    exact (btN_pow 8 (num l)).symm
theorem num_set (l : List Nat) : ∀ (j m : Nat), j < l.length → num (l.set j (l.getD j 0 ^^^ m)) = num l ^^^ (2 ^ (8 * j) * m) := by
  induction l with
  | nil => intro j m h; simp at h
  | cons c l ih =>
    intro j m h
    cases j with
    | zero => simp [num]; rw [Nat.xor_assoc, Nat.xor_comm m, ← Nat.xor_assoc]
    | succ j =>
      simp at h
      have h2 := ih j m h
      simp only [List.set_cons_succ, List.getD_cons_succ, num]
      rw [h2, show (256 : Nat) = 2 ^ 8 from rfl, mul_xor, ← Nat.xor_assoc, ← Nat.mul_assoc, ← Nat.pow_add, show 8 + 8 * j = 8 * (j + 1) from by omega]
theorem bt_zero {r : Nat} (h : r < 4294967296) (h0 : bt r = 0) : r = 0 := by
  unfold bt at h0
  have h1 : r / 2 = if r % 2 = 1 then 3988292384 else 0 := by
    have h2 := xor_xor (r / 2) (if r % 2 = 1 then 3988292384 else 0)
    rw [h0, Nat.zero_xor] at h2
    exact h2.symm
  split at h1 <;> omega
theorem btN_zero (n : Nat) : ∀ r, r < 4294967296 → btN n r = 0 → r = 0 := by
  induction n with
  | zero => intro r _ h; exact h
  | succ n ih => intro r h h0; exact bt_zero h (ih (bt r) (bt_lt h) h0)
/-- Rows of as many bytes whose numbers differ in a number of 32 bits, wherever it lies, have other sums. -/
theorem bursts (l m : List Nat) (hl : ∀ c ∈ l, c < 256) (hm : ∀ c ∈ m, c < 256) (hlen : m.length = l.length) (p t : Nat) (ht : t < 4294967296) (h0 : t ≠ 0) (hp : p ≤ 8 * l.length)
    (hn : num m = num l ^^^ (2 ^ p * t)) : more 0 m ≠ more 0 l := by
  intro h
  have r1 := rem_lt m 4294967295 (by omega) hm
  have r2 := rem_lt l 4294967295 (by omega) hl
  unfold more at h
  simp only [Nat.sub_zero] at h
  have e : rem 4294967295 m = rem 4294967295 l := by omega
  rw [rem_num, rem_num, hlen, hn, ← Nat.xor_assoc, btN_xor] at e
  have z : btN (8 * l.length) (2 ^ p * t) = 0 := by
    have := congrArg (fun x => btN (8 * l.length) (4294967295 ^^^ num l) ^^^ x) e
    simp only [← Nat.xor_assoc, Nat.xor_self, Nat.zero_xor] at this
    exact this
  rw [show 8 * l.length = p + (8 * l.length - p) from by omega, btN_add, btN_pow] at z
  exact h0 (btN_zero _ t ht z)
theorem mod_step (t k : Nat) : t % 2 ^ (k + 1) = (t % 2 ^ k) ^^^ (2 ^ k * (t / 2 ^ k % 2)) := by
  have h := split_pow k (t % 2 ^ (k + 1))
  have h1 : t % 2 ^ (k + 1) / 2 ^ k = t / 2 ^ k % 2 := by
    rw [Nat.pow_succ, Nat.mod_mul_right_div_self]
  have h2 : t % 2 ^ (k + 1) % 2 ^ k = t % 2 ^ k := Nat.mod_mod_of_dvd _ (Nat.pow_dvd_pow 2 (by omega))
  rw [h1, h2, Nat.xor_comm] at h
  exact h.symm
/-- A round: the k-th bit. -/
theorem num_round (l m : List Nat) (p t k : Nat) (hb : t / 2 ^ k % 2 = 1) (hm : num m = num l ^^^ (2 ^ p * (t % 2 ^ k))) (hj : (p + k) / 8 < m.length) :
    num (m.set ((p + k) / 8) (m.getD ((p + k) / 8) 0 ^^^ 2 ^ ((p + k) % 8))) = num l ^^^ (2 ^ p * (t % 2 ^ (k + 1))) := by
  rw [num_set m _ _ hj, hm, mod_step, hb, Nat.mul_one, mul_xor, ← Nat.pow_add, ← Nat.pow_add, Nat.xor_assoc]
  congr 3
  omega
theorem num_still (l m : List Nat) (p t k : Nat) (hb : t / 2 ^ k % 2 = 0) (hm : num m = num l ^^^ (2 ^ p * (t % 2 ^ k))) : num m = num l ^^^ (2 ^ p * (t % 2 ^ (k + 1))) := by
  rw [hm, mod_step, hb, Nat.mul_zero, Nat.xor_zero]
end Go.Proofs.Ytlngddbadpcocaa.Pl
