/- Plain: decimals; a text parted at a byte, and joined. (For any seat; where IsaTx, AsmJK, AsmQ are not.) -/
import Derived.Lib.SplitLaws
import Derived.Lib.IndexBytes
import Derived.Lib.ItoaNum
import Derived.Lib.ParseIntBCases
import Derived.Lib.AtoiErrMem
namespace Go.Proofs.YtpodedhnlicckaaGreatDoor
set_option linter.unusedVariables false
set_option linter.unusedSimpArgs false
def isDig (b : UInt8) : Bool := decide (48 ≤ b.toNat) && decide (b.toNat ≤ 57)
theorem dig_val (k : Nat) (h : k < 10) : (UInt8.ofNat (48 + k)).toNat = 48 + k := by
  rw [UInt8.toNat_ofNat']; omega
theorem dec_dig : ∀ (n : Nat), ∀ b ∈ Lib.decDigits n, isDig b = true := by
  intro n
  induction n using Nat.strongRecOn with
  | ind n ih =>
    intro b hb
    rw [Lib.decDigits] at hb
    split at hb
    · rename_i h
      rw [List.mem_singleton] at hb
      subst hb
      unfold isDig
      rw [dig_val n h]
      simp; omega
    · rename_i h
      rcases List.mem_append.1 hb with hb | hb
      · exact ih _ (by omega) b hb
      · rw [List.mem_singleton] at hb
        subst hb
        unfold isDig
        rw [dig_val (n % 10) (by omega)]
        simp; omega
def valD (l : List UInt8) : Nat := l.foldl (fun a b => 10 * a + (b.toNat - 48)) 0
theorem valD_dec : ∀ n, valD (Lib.decDigits n) = n := by
  intro n
  induction n using Nat.strongRecOn with
  | ind n ih =>
    rw [Lib.decDigits]
    split
    · rename_i h
      show 10 * 0 + ((UInt8.ofNat (48 + n)).toNat - 48) = n
      rw [dig_val n h]; omega
    · rename_i h
      have e := ih (n / 10) (by omega)
      unfold valD at e ⊢
      rw [List.foldl_append, e]
      show 10 * (n / 10) + ((UInt8.ofNat (48 + n % 10)).toNat - 48) = n
      rw [dig_val (n % 10) (by omega)]; omega
theorem dec_head (n : Nat) : ∃ d r, Lib.decDigits n = d :: r ∧ isDig d = true := by
  have hl : 1 ≤ (Lib.decDigits n).length := by rw [Lib.decDigits_length]; exact Lib.nDigits_pos n
  have hd := dec_dig n
  match hm : Lib.decDigits n with
  | [] => rw [hm] at hl; simp at hl
  | d :: r => exact ⟨d, r, rfl, hd d (by rw [hm]; simp)⟩
theorem dec_step {n : Nat} (h : ¬ n < 10) : Lib.decDigits n = Lib.decDigits (n / 10) ++ [UInt8.ofNat (48 + n % 10)] := by
  rw [Lib.decDigits, dif_neg h]
theorem dig_back {b : UInt8} (h : isDig b = true) : UInt8.ofNat (48 + (b.toNat - 48)) = b := by
  unfold isDig at h; simp at h
  have : 48 + (b.toNat - 48) = b.toNat := by omega
  rw [this]; simp
theorem valD_snoc (l : List UInt8) (b : UInt8) : valD (l ++ [b]) = 10 * valD l + (b.toNat - 48) := by unfold valD; rw [List.foldl_append]; rfl
theorem dig_lt {b : UInt8} (h : isDig b = true) : b.toNat - 48 < 10 := by unfold isDig at h; simp at h; omega
theorem valD_pos : ∀ (n : Nat) (l : List UInt8) (c : UInt8), l.length = n → (c :: l).all isDig = true → c.toNat ≠ 48 → 1 ≤ valD (c :: l)
  | 0, l, c, hl, hd, hc => by
    obtain rfl := List.length_eq_zero_iff.1 hl
    rw [List.all_cons, Bool.and_eq_true] at hd
    have := hd.1; unfold isDig at this; simp at this
    show 1 ≤ 10 * 0 + (c.toNat - 48)
    omega
  | n + 1, l, c, hl, hd, hc => by
    obtain ⟨l', b, rfl⟩ : ∃ l' b, l = l' ++ [b] := ⟨l.dropLast, l.getLast (by intro h; rw [h] at hl; simp at hl), (List.dropLast_concat_getLast _).symm⟩
    have hl' : l'.length = n := by simpa using hl
    have hd' : (c :: l').all isDig = true := by
      rw [← List.cons_append, List.all_append, Bool.and_eq_true] at hd; exact hd.1
    have := valD_pos n l' c hl' hd' hc
    rw [← List.cons_append, valD_snoc]; omega
theorem canon : ∀ (n : Nat) (l : List UInt8) (c : UInt8), l.length = n → (c :: l).all isDig = true → (c.toNat ≠ 48 ∨ l = []) → Lib.decDigits (valD (c :: l)) = c :: l
  | 0, l, c, hl, hd, hc => by
    obtain rfl := List.length_eq_zero_iff.1 hl
    rw [List.all_cons, Bool.and_eq_true] at hd
    have h1 := dig_lt hd.1
    have e : valD [c] = c.toNat - 48 := by show 10 * 0 + (c.toNat - 48) = _; omega
    rw [e, Lib.decDigits_one h1, dig_back hd.1]
  | n + 1, l, c, hl, hd, hc => by
    obtain ⟨l', b, rfl⟩ : ∃ l' b, l = l' ++ [b] := ⟨l.dropLast, l.getLast (by intro h; rw [h] at hl; simp at hl), (List.dropLast_concat_getLast _).symm⟩
    have hl' : l'.length = n := by simpa using hl
    have hc' : c.toNat ≠ 48 := by
      rcases hc with h | h
      · exact h
      · simp at h
    rw [← List.cons_append] at hd ⊢
    rw [List.all_append, Bool.and_eq_true] at hd
    have hd2 : isDig b = true := by have := hd.2; simpa using this
    have hp := valD_pos n l' c hl' hd.1 hc'
    have hb := dig_lt hd2
    rw [valD_snoc, dec_step (by omega)]
    have e1 : (10 * valD (c :: l') + (b.toNat - 48)) / 10 = valD (c :: l') := by omega
    have e2 : (10 * valD (c :: l') + (b.toNat - 48)) % 10 = b.toNat - 48 := by omega
    rw [e1, e2, canon n l' c hl' hd.1 (.inl hc'), dig_back hd2]
theorem head_dec : ∀ n : Nat, 10 ≤ n → ∃ c r, Lib.decDigits n = c :: r ∧ c.toNat ≠ 48 ∧ r ≠ [] := by
  intro n
  induction n using Nat.strongRecOn with
  | _ n ih =>
    intro h
    rw [dec_step (by omega)]
    by_cases h2 : n / 10 < 10
    · rw [Lib.decDigits_one h2]
      refine ⟨_, _, rfl, ?_, by simp⟩
      have : (UInt8.ofNat (48 + n / 10)).toNat = 48 + n / 10 := by simp; omega
      rw [this]; omega
    · obtain ⟨c, r, e, h3, h4⟩ := ih (n / 10) (by omega) (by omega)
      rw [e]
      exact ⟨c, r ++ [_], rfl, h3, by simp⟩
/-- A text parted at each byte c. -/
def partL (c : UInt8) : List UInt8 → List (List UInt8)
  | [] => [[]]
  | b :: r => if b = c then [] :: partL c r else match partL c r with | [] => [[b]] | h :: t => (b :: h) :: t
theorem partL_ne (c : UInt8) : ∀ l, partL c l ≠ []
  | [] => by simp [partL]
  | b :: r => by
    unfold partL
    by_cases h : b = c
    · rw [if_pos h]; simp
    · rw [if_neg h]
      cases hp : partL c r with
      | nil => simp
      | cons x t => simp
theorem partL_hit (c : UInt8) (r : List UInt8) : partL c (c :: r) = [] :: partL c r := by rw [partL, if_pos rfl]
theorem partL_miss {b c : UInt8} (h : b ≠ c) {r x : List UInt8} {t : List (List UInt8)} (hp : partL c r = x :: t) : partL c (b :: r) = (b :: x) :: t := by rw [partL, if_neg h, hp]
/-- The head of what is parted, and the rest. -/
theorem partL_front (c : UInt8) : ∀ (p : List UInt8), c ∉ p → ∀ r, partL c (p ++ c :: r) = p :: partL c r
  | [], _, r => partL_hit c r
  | b :: p, h, r => by
    rw [List.mem_cons, not_or] at h
    exact partL_miss (fun e => h.1 e.symm) (partL_front c p h.2 r)
theorem partL_last (c : UInt8) : ∀ (p : List UInt8), c ∉ p → partL c p = [p]
  | [], _ => rfl
  | b :: p, h => by
    rw [List.mem_cons, not_or] at h
    exact partL_miss (fun e => h.1 e.symm) (partL_last c p h.2)
/-- Parts with one byte between them. -/
def joinB (c : UInt8) : List (List UInt8) → List UInt8
  | [] => []
  | [q] => q
  | q :: r => q ++ c :: joinB c r
theorem joinB_cons (c : UInt8) (q : List UInt8) {r : List (List UInt8)} (h : r ≠ []) : joinB c (q :: r) = q ++ c :: joinB c r := by
  cases r with
  | nil => exact absurd rfl h
  | cons x t => rfl
theorem join_part (c : UInt8) : ∀ l, joinB c (partL c l) = l
  | [] => rfl
  | b :: r => by
    have ih := join_part c r
    by_cases h : b = c
    · subst h
      rw [partL_hit, joinB_cons b [] (partL_ne b r), ih]; rfl
    · cases hp : partL c r with
      | nil => exact absurd hp (partL_ne c r)
      | cons x t =>
        rw [partL_miss h hp]
        rw [hp] at ih
        cases t with
        | nil => rw [← ih]; rfl
        | cons y t => rw [joinB_cons c _ (by simp)] at ih ⊢; rw [← ih]; rfl
theorem part_join (c : UInt8) : ∀ ws : List (List UInt8), ws ≠ [] → (∀ q ∈ ws, c ∉ q) → partL c (joinB c ws) = ws
  | [], h, _ => absurd rfl h
  | [q], _, h => partL_last c q (h q (by simp))
  | q :: x :: t, _, h => by
    rw [joinB_cons c q (by simp), partL_front c q (h q (by simp)), part_join c (x :: t) (by simp) (fun y hy => h y (List.mem_cons_of_mem _ hy))]
theorem part_clean (c : UInt8) : ∀ l, ∀ q ∈ partL c l, c ∉ q
  | [], q, hq => by simp [partL] at hq; subst hq; simp
  | b :: r, q, hq => by
    by_cases h : b = c
    · subst h
      rw [partL_hit] at hq
      rcases List.mem_cons.1 hq with rfl | hq
      · simp
      · exact part_clean b r q hq
    · cases hp : partL c r with
      | nil => exact absurd hp (partL_ne c r)
      | cons x t =>
        have ih := part_clean c r
        rw [hp] at ih
        rw [partL_miss h hp] at hq
        rcases List.mem_cons.1 hq with rfl | hq
        · rw [List.mem_cons, not_or]; exact ⟨fun e => h e.symm, ih x (by simp)⟩
        · exact ih q (List.mem_cons_of_mem _ hq)
/-! ### numbers up to 65535 -/
def numT (l : List UInt8) : Option Nat :=
  if 0 < l.length ∧ l.length ≤ 5 ∧ ¬ (1 < l.length ∧ l.head? = some 48) ∧ l.all isDig = true then (if valD l ≤ 65535 then some (valD l) else none) else none
theorem numT_inv {l : List UInt8} {n : Nat} (h : numT l = some n) : Lib.decDigits n = l ∧ n ≤ 65535 := by
  unfold numT at h
  by_cases hc : 0 < l.length ∧ l.length ≤ 5 ∧ ¬ (1 < l.length ∧ l.head? = some 48) ∧ l.all isDig = true
  · rw [if_pos hc] at h
    by_cases hv : valD l ≤ 65535
    · rw [if_pos hv] at h
      obtain rfl := Option.some.inj h
      cases l with
      | nil => exact absurd hc.1 (by simp)
      | cons c r =>
        refine ⟨canon r.length r c rfl hc.2.2.2 ?_, hv⟩
        by_cases h1 : r = []
        · exact .inr h1
        · refine .inl fun e => hc.2.2.1 ⟨?_, ?_⟩
          · have := List.length_pos_iff.2 h1
            rw [List.length_cons]; omega
          · show some c = some 48
            congr 1; exact UInt8.toNat_inj.1 e
    · rw [if_neg hv] at h; cases h
  · rw [if_neg hc] at h; cases h
theorem dec_len_five {n : Nat} (h : n ≤ 65535) : 0 < (Lib.decDigits n).length ∧ (Lib.decDigits n).length ≤ 5 := by
  have step : ∀ m, 0 < (Lib.decDigits m).length := fun m => by
    obtain ⟨c, r, e, _⟩ := dec_head m
    rw [e]; simp
  refine ⟨step n, ?_⟩
  have one : ∀ m, m < 10 → (Lib.decDigits m).length = 1 := fun m hm => by rw [Lib.decDigits_one hm]; rfl
  have next : ∀ m k, (m / 10 < 10 → True) → (Lib.decDigits (m / 10)).length ≤ k → (Lib.decDigits m).length ≤ k + 1 := fun m k _ hk => by
    by_cases hm : m < 10
    · rw [one m hm]; omega
    · rw [dec_step hm, List.length_append]; simp; exact hk
  refine next n 4 (fun _ => trivial) (next _ 3 (fun _ => trivial) (next _ 2 (fun _ => trivial) (next _ 1 (fun _ => trivial) ?_)))
  rw [one _ (by omega)]; omega
theorem numT_dec {n : Nat} (h : n ≤ 65535) : numT (Lib.decDigits n) = some n := by
  have hl := dec_len_five h
  unfold numT
  rw [valD_dec, if_pos h, if_pos]
  refine ⟨hl.1, hl.2, ?_, List.all_eq_true.2 (dec_dig n)⟩
  rintro ⟨h1, h2⟩
  by_cases hn : n < 10
  · rw [Lib.decDigits_one hn] at h1; simp at h1
  · obtain ⟨c, r, e, hc, _⟩ := head_dec n (by omega)
    rw [e] at h2
    obtain rfl := Option.some.inj h2
    exact hc (by decide)
end Go.Proofs.YtpodedhnlicckaaGreatDoor
