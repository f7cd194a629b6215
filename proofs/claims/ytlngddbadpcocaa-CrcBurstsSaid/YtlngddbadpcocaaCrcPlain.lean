/- The plain arithmetic of the remainder: what a half byte, a byte and a bit do, as functions of natural numbers. No program in sight. -/
import Derived.Laws.BitsAllLaws
import Derived.KernelRfl
namespace Go.Proofs.Ytlngddbadpcocaa.Pl

/-- A step of one bit: the remainder is halved; an odd one is turned. -/
def bt (r : Nat) : Nat := (r / 2) ^^^ (if r % 2 = 1 then 3988292384 else 0)
def btN : Nat → Nat → Nat
  | 0, r => r
  | n + 1, r => btN n (bt r)
/-- What becomes of four bits. -/
def tab (i : Nat) : Nat := btN 4 i
/-- A byte by two halves. -/
def byteT (r c : Nat) : Nat := (((r ^^^ c) / 16) ^^^ tab ((r ^^^ c) % 16)) / 16 ^^^ tab ((((r ^^^ c) / 16) ^^^ tab ((r ^^^ c) % 16)) % 16)
/-- The reference's bit. -/
def rbit (r c : Nat) : Nat := if r % 2 = c % 2 then r / 2 else (r / 2) ^^^ 3988292384
def rbitN : Nat → Nat → Nat → Nat
  | 0, r, _ => r
  | n + 1, r, c => rbitN n (rbit r c) (c / 2)

theorem xor_lt32 {a b : Nat} (ha : a < 4294967296) (hb : b < 4294967296) : a ^^^ b < 4294967296 := Nat.xor_lt_two_pow (n := 32) ha hb
theorem bt_lt {r : Nat} (h : r < 4294967296) : bt r < 4294967296 := by
  unfold bt; apply xor_lt32; · omega
  · split <;> omega
theorem btN_lt (n : Nat) : ∀ r, r < 4294967296 → btN n r < 4294967296 := by
  induction n with
  | zero => intro r h; exact h
  | succ n ih => intro r h; exact ih _ (bt_lt h)
theorem tab_lt (i : Nat) (h : i < 16) : tab i < 4294967296 := btN_lt 4 i (by omega)
theorem rbit_lt {r : Nat} (c : Nat) (h : r < 4294967296) : rbit r c < 4294967296 := by
  unfold rbit; split; · omega
  · exact xor_lt32 (by omega) (by omega)
theorem byteT_lt {r c : Nat} (h : r < 4294967296) (hc : c < 256) : byteT r c < 4294967296 := by
  have h0 : r ^^^ c < 4294967296 := xor_lt32 h (by omega)
  have h1 : ((r ^^^ c) / 16) ^^^ tab ((r ^^^ c) % 16) < 4294967296 := xor_lt32 (by omega) (tab_lt _ (by omega))
  unfold byteT; exact xor_lt32 (by omega) (tab_lt _ (by omega))

/-! linear -/
theorem half_xor (a b : Nat) : (a ^^^ b) / 2 = (a / 2) ^^^ (b / 2) := Nat.xor_div_two
theorem odd_xor (a b : Nat) : (a ^^^ b) % 2 = 1 ↔ ¬ (a % 2 = 1 ↔ b % 2 = 1) := Nat.xor_mod_two_eq_one
theorem mod2_xor (a b : Nat) : (a ^^^ b) % 2 = (a + b) % 2 := by
  have := odd_xor a b
  omega
theorem xor4 (a b c d : Nat) : (a ^^^ b) ^^^ (c ^^^ d) = (a ^^^ c) ^^^ (b ^^^ d) := by
  rw [Nat.xor_assoc, ← Nat.xor_assoc b c d, Nat.xor_comm b c, Nat.xor_assoc c b d, ← Nat.xor_assoc a c]
theorem bt_xor (a b : Nat) : bt (a ^^^ b) = bt a ^^^ bt b := by
  unfold bt
  rw [xor4, half_xor]
  congr 1
  have := odd_xor a b
  by_cases ha : a % 2 = 1 <;> by_cases hb : b % 2 = 1 <;> simp_all
theorem btN_xor (n : Nat) : ∀ a b, btN n (a ^^^ b) = btN n a ^^^ btN n b := by
  induction n with
  | zero => intro a b; rfl
  | succ n ih => intro a b; show btN n (bt (a ^^^ b)) = _; rw [bt_xor, ih]; rfl
theorem bt_two (x : Nat) : bt (2 * x) = x := by
  unfold bt
  rw [if_neg (by omega)]; simp
theorem btN_pow (n : Nat) : ∀ x, btN n (2 ^ n * x) = x := by
  induction n with
  | zero => intro x; simp [btN]
  | succ n ih =>
    intro x
    show btN n (bt (2 ^ (n + 1) * x)) = x
    rw [Nat.pow_succ, Nat.mul_comm (2 ^ n) 2, Nat.mul_assoc, bt_two, ih]
theorem btN_add (m n : Nat) : ∀ r, btN (m + n) r = btN n (btN m r) := by
  induction m with
  | zero => intro r; simp [btN]
  | succ m ih => intro r; rw [Nat.succ_add]; show btN (m + n) (bt r) = _; rw [ih]; rfl
theorem split_pow (n r : Nat) : (2 ^ n * (r / 2 ^ n)) ^^^ (r % 2 ^ n) = r := by
  apply Nat.eq_of_testBit_eq
  intro i
  rw [Nat.testBit_xor, Nat.testBit_two_pow_mul, Nat.testBit_mod_two_pow, Nat.testBit_div_two_pow]
  by_cases h : n ≤ i
  · have h' : ¬ i < n := by omega
    simp [h, h']
  · have h' : i < n := by omega
    simp [h, h']
theorem btN_split (n r : Nat) : btN n r = (r / 2 ^ n) ^^^ btN n (r % 2 ^ n) := by
  conv => lhs; rw [← split_pow n r]
  rw [btN_xor, btN_pow]
theorem four (r : Nat) : r / 16 ^^^ tab (r % 16) = btN 4 r := (btN_split 4 r).symm
theorem byteT_eq (r c : Nat) : byteT r c = btN 8 (r ^^^ c) := by
  unfold byteT
  rw [four, four, ← btN_add]
theorem rbit_eq (x c : Nat) : rbit (x ^^^ c) c = bt x ^^^ (c / 2) := by
  unfold rbit bt
  rw [half_xor, mod2_xor]
  by_cases h : x % 2 = 1
  · rw [if_neg (by omega), if_pos h, Nat.xor_assoc, Nat.xor_assoc, Nat.xor_comm (c / 2)]
  · rw [if_pos (by omega), if_neg h, Nat.xor_zero]
theorem rbitN_eq (n : Nat) : ∀ x c, rbitN n (x ^^^ c) c = btN n x ^^^ (c / 2 ^ n) := by
  induction n with
  | zero => intro x c; simp [rbitN, btN]
  | succ n ih =>
    intro x c
    show rbitN n (rbit (x ^^^ c) c) (c / 2) = btN n (bt x) ^^^ _
    rw [rbit_eq, ih, Nat.div_div_eq_div_mul, Nat.pow_succ, Nat.mul_comm 2]
theorem xor_xor (x c : Nat) : (x ^^^ c) ^^^ c = x := by rw [Nat.xor_assoc, Nat.xor_self, Nat.xor_zero]
theorem rbit8 (r c : Nat) (hc : c < 256) : rbitN 8 r c = btN 8 (r ^^^ c) := by
  have h := rbitN_eq 8 (r ^^^ c) c
  rw [xor_xor, Nat.div_eq_of_lt (by omega), Nat.xor_zero] at h
  exact h

/-- The remainder behind bytes. -/
def rem (r : Nat) : List Nat → Nat
  | [] => r
  | c :: l => rem (btN 8 (r ^^^ c)) l
theorem rem_append (a b : List Nat) : ∀ r, rem r (a ++ b) = rem (rem r a) b := by
  induction a with
  | nil => intro r; rfl
  | cons c a ih => intro r; exact ih _
theorem rem_snoc (r : Nat) (a : List Nat) (c : Nat) : rem r (a ++ [c]) = btN 8 (rem r a ^^^ c) := by rw [rem_append]; rfl
theorem rem_lt (l : List Nat) : ∀ r, r < 4294967296 → (∀ c ∈ l, c < 256) → rem r l < 4294967296 := by
  induction l with
  | nil => intro r h _; exact h
  | cons c l ih =>
    intro r h hl
    have := hl c (by simp)
    exact ih _ (btN_lt 8 _ (xor_lt32 h (by omega))) (fun x hx => hl x (by simp [hx]))
/-- The sum, carried on. -/
def more (s : Nat) (l : List Nat) : Nat := 4294967295 - rem (4294967295 - s) l
theorem more_lt (s : Nat) (l : List Nat) : more s l < 4294967296 := by unfold more; omega
theorem more_more (s : Nat) (a b : List Nat) (hs : s < 4294967296) (ha : ∀ c ∈ a, c < 256) : more (more s a) b = more s (a ++ b) := by
  have := rem_lt a (4294967295 - s) (by omega) ha
  unfold more
  rw [rem_append]
  congr 2
  omega
end Go.Proofs.Ytlngddbadpcocaa.Pl
