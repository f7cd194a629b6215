/- One route alone is not free: plain laws for AutoHolds, AutoThrough. -/
import Derived.Test.YtnjeiigdfdjccaaAutBp
namespace Go.Proofs.Ytnjeiigdfdjccaa
set_option linter.unusedVariables false
set_option linter.unusedSimpArgs false
def every : Nat := 16777215
def offB (x a : Nat) : Nat := x &&& (4294967295 - 2 ^ a)
theorem every_bit (i : Nat) : every.testBit i = decide (i < 24) := by
  rw [show every = 2 ^ 24 - 1 from rfl, Nat.testBit_two_pow_sub_one]
theorem offB_bit {x a : Nat} (ha : a < 32) {i : Nat} (hi : i < 32) : (offB x a).testBit i = (x.testBit i && decide (a ≠ i)) := by
  have h : 2 ^ a < 2 ^ 32 := Nat.pow_lt_pow_right (by omega) ha
  unfold offB
  rw [Nat.testBit_and, show 4294967295 - 2 ^ a = 2 ^ 32 - (2 ^ a + 1) by omega, Nat.testBit_two_pow_sub_succ h, Nat.testBit_two_pow]
  simp [hi]
theorem offB_lt {x a : Nat} (hx : x < 4294967296) : offB x a < 4294967296 := Nat.lt_of_le_of_lt Nat.and_le_left hx
/-- All routes are free but one. -/
def one (n : Nat) (r : RS) (C : Nat → Nat) : AS := ⟨fun j => if j = n then r else rs0, C⟩
theorem one_rs0 (n : Nat) (C : Nat → Nat) : one n rs0 C = ⟨fun _ => rs0, C⟩ := by
  unfold one; congr 1; funext j; split <;> rfl
theorem one_at (n : Nat) (r : RS) (C : Nat → Nat) : (one n r C).R n = r := if_pos rfl
theorem one_other {n j : Nat} (r : RS) (C : Nat → Nat) (h : j ≠ n) : (one n r C).R j = rs0 := if_neg h
theorem goK_one (T : Tab) (f : FD) (n : Nat) (r : RS) (C : Nat → Nat) : ∀ k, goK T f (one n r C) k = one n (if n < k then goR f (T.rts.getD n rt0) n r else r) C
  | 0 => by rw [if_neg (by omega)]; rfl
  | k + 1 => by
    show goS T f (goK T f (one n r C) k) k = _
    rw [goK_one T f n r C k]
    unfold goS
    by_cases e : k = n
    · subst e
      rw [if_neg (by omega), if_pos (by omega), one_at]
      unfold one
      congr 1; funext j
      by_cases hj : j = k
      · rw [if_pos hj, if_pos hj]
      · rw [if_neg hj, if_neg hj]; exact if_neg hj
    · rw [one_other _ _ e, show (if n < k + 1 then goR f (T.rts.getD n rt0) n r else r) = (if n < k then goR f (T.rts.getD n rt0) n r else r) from by
        by_cases h : n < k
        · rw [if_pos h, if_pos (by omega)]
        · rw [if_neg h, if_neg (by omega)]]
      generalize (if n < k then goR f (T.rts.getD n rt0) n r else r) = q
      unfold one
      congr 1; funext j
      by_cases hj : j = k
      · rw [if_pos hj, if_neg (by omega)]; rfl
      · rw [if_neg hj]
theorem askK_none {T : Tab} {f : FD} {S : AS} : ∀ {k : Nat}, (∀ j, j < k → askOk T f S j = false) → askK T f S k = S
  | 0, _ => rfl
  | k + 1, h => by
    show askS T f (askK T f S k) k = S
    rw [askK_none (fun j hj => h j (by omega))]
    unfold askS
    rw [h k (Nat.lt_succ_self _)]
    rfl
/-- Nothing is asked for. -/
theorem step_quiet {T : Tab} {f : FD} {n : Nat} {r : RS} {C : Nat → Nat} (hn : n < T.rts.length) (ha : f.ak = 0) (hq : f.rq = 0) : stepS T f (one n r C) = one n (goR f (T.rts.getD n rt0) n r) C := by
  unfold stepS
  rw [goK_one, if_pos hn]
  refine askK_none fun j _ => ?_
  unfold askOk
  rw [ha, hq]
  simp
def setAll (C : Nat → Nat) (l : List (Int × Bool)) : Nat → Nat := setC C l l.length
/-- One route is asked for, where all is clear and all are free. -/
theorem step_ask {T : Tab} (hT : TOk T) {f : FD} {n : Nat} (hn : n < T.rts.length) (hc : f.cl = every) (ha : f.ak = 2 ^ n) (hq : f.rq = 0) : stepS T f as0 = one n ⟨1, 0, 0, 0⟩ (setAll (fun _ => 0) (T.rts.getD n rt0).pts) := by
  have e0 : as0 = one n rs0 (fun _ => 0) := (one_rs0 n _).symm
  have eg : goR f (T.rts.getD n rt0) n rs0 = rs0 := if_pos rfl
  unfold stepS
  rw [e0, goK_one, if_pos hn, eg, ← e0]
  have hcl : ∀ x : Int, 0 ≤ x → x < 24 → bt f.cl x = true := fun x h0 h1 => by
    unfold bt; rw [hc, every_bit]; exact decide_eq_true (by omega)
  have hother : ∀ S j, j ≠ n → askOk T f S j = false := fun S j hj => by
    unfold askOk
    have h1 : f.ak.testBit j = false := by rw [ha, Nat.testBit_two_pow]; exact decide_eq_false (by omega)
    have h2 : (f.rq == j + 1) = false := by rw [hq]; simp
    rw [h1, h2]; rfl
  have hme : askOk T f as0 n = true := by
    unfold askOk
    have h1 : f.ak.testBit n = true := by rw [ha, Nat.testBit_two_pow]; exact decide_eq_true rfl
    have h3 : ((T.rts.getD n rt0).tr.all fun x => bt f.cl x) = true := by
      rw [List.all_eq_true]
      intro x hx
      obtain ⟨i, hi, rfl⟩ := mem_getD hx
      have := hT.tr n hn i hi
      exact hcl _ this.1 this.2
    have h4 : ((T.rts.getD n rt0).pts.all fun p => as0.C p.1.toNat == needP p || bt f.cl (T.pts.getD p.1.toNat 0)) = true := by
      rw [List.all_eq_true]
      intro p hp
      obtain ⟨i, hi, e⟩ := List.mem_iff_getElem.1 hp
      have h5 := hT.pp n hn i hi
      rw [List.getD_eq_getElem?_getD, List.getElem?_eq_getElem hi] at h5
      have h6 : 0 ≤ p.1 ∧ p.1 < T.pts.length := by rw [← e]; exact h5
      have h7 := hT.pt p.1.toNat (by omega)
      rw [hcl _ h7.1 h7.2, Bool.or_true]
    rw [h1, h3, h4]
    have h8 : ((T.rts.getD n rt0).con.all fun k => (as0.R k.toNat).ph == 0) = true := List.all_eq_true.2 fun _ _ => rfl
    rw [h8]; rfl
  have key : ∀ k, askK T f as0 k = if n < k then one n ⟨1, 0, 0, 0⟩ (setAll (fun _ => 0) (T.rts.getD n rt0).pts) else as0 := by
    intro k
    induction k with
    | zero => rw [if_neg (by omega)]; rfl
    | succ k ih =>
      show askS T f (askK T f as0 k) k = _
      rw [ih]
      by_cases e : k = n
      · subst e
        rw [if_neg (by omega), if_pos (by omega)]
        unfold askS
        rw [hme]
        rfl
      · unfold askS
        rw [hother _ _ e, if_neg (fun h => by cases h)]
        by_cases h : n < k
        · rw [if_pos h, if_pos (by omega)]
        · rw [if_neg h, if_neg (by omega)]
  rw [key, if_pos hn]
theorem loN_one (n : Nat) (r : RS) (C : Nat → Nat) : ∀ k, loN (one n r C).R k = if n < k ∧ r.ph ≠ 0 then 2 ^ n else 0
  | 0 => by rw [if_neg (by omega)]; rfl
  | k + 1 => by
    simp only [loN]
    rw [loN_one n r C k]
    by_cases e : k = n
    · subst e
      rw [one_at]
      by_cases h : r.ph = 0
      · rw [if_pos h, if_neg (by omega), if_neg (fun q => q.2 h)]
      · rw [if_neg h, if_neg (by omega), if_pos ⟨by omega, h⟩, Nat.zero_or]
    · rw [one_other _ _ e, if_pos (show rs0.ph = 0 from rfl)]
      by_cases h : n < k ∧ r.ph ≠ 0
      · rw [if_pos h, if_pos ⟨by omega, h.2⟩]
      · rw [if_neg h, if_neg (fun q => h ⟨by omega, q.2⟩)]
theorem prN_one {T : Tab} {f : FD} {n : Nat} {r : RS} {C : Nat → Nat} (h : r.ph ≠ 1) : ∀ k, prN T f (one n r C).R k = 0
  | 0 => rfl
  | k + 1 => by
    simp only [prN]
    have e : procB f (T.rts.getD k rt0) ((one n r C).R k) = false := by
      unfold procB
      have : (((one n r C).R k).ph == 1) = false := by
        by_cases e : k = n
        · subst e; rw [one_at]; simpa using h
        · rw [one_other _ _ e]; rfl
      rw [this]; rfl
    rw [e, prN_one h k]; rfl
theorem lo_one {T : Tab} {f : FD} {n : Nat} {r : RS} {C : Nat → Nat} (hn : n < T.rts.length) (h : r.ph ≠ 0) : (orderS T f (one n r C)).lo = 2 ^ n := (loN_one n r C _).trans (if_pos ⟨hn, h⟩)
theorem lo_free {T : Tab} {f : FD} {n : Nat} {C : Nat → Nat} : (orderS T f (one n rs0 C)).lo = 0 := (loN_one n rs0 C _).trans (if_neg fun q => q.2 rfl)
theorem pr_one {T : Tab} {f : FD} {n : Nat} {r : RS} {C : Nat → Nat} (h : r.ph ≠ 1) : (orderS T f (one n r C)).pr = 0 := prN_one h _
/-- Near a train: the approach is not clear, the first track is. -/
theorem go_back {T : Tab} (hT : TOk T) (hTI : TIn T) {f : FD} {n : Nat} (hn : n < T.rts.length) (ha0 : 0 ≤ (T.rts.getD n rt0).app) (hne : (T.rts.getD n rt0).tr.getD 0 0 ≠ (T.rts.getD n rt0).app) (hc : f.cl = offB every (T.rts.getD n rt0).app.toNat) (hk : f.ca = 2 ^ n) : goR f (T.rts.getD n rt0) n ⟨1, 0, 0, 0⟩ = ⟨2, 0, 0, 0⟩ := by
  have h1 := hT.app n hn
  have h2 := hT.tr n hn 0 (hTI.tl n hn)
  have c0 : bt f.cl ((T.rts.getD n rt0).tr.getD 0 0) = true := by
    unfold bt; rw [hc, offB_bit (by omega) (by omega), every_bit, Bool.and_eq_true]
    exact ⟨decide_eq_true (by omega), decide_eq_true (by omega)⟩
  have ca : bt f.cl (T.rts.getD n rt0).app = false := by
    unfold bt; rw [hc, offB_bit (by omega) (by omega)]; simp
  have e : goR1 f (T.rts.getD n rt0) n ⟨1, 0, 0, 0⟩ = ⟨2, 0, 0, 0⟩ := by
    unfold goR1
    rw [if_neg (fun h => by rw [c0] at h; cases h.2), if_pos ⟨rfl, by rw [hk, Nat.testBit_two_pow]; exact decide_eq_true rfl⟩, if_pos ⟨ha0, ca⟩]
  unfold goR
  rw [e]; rfl
theorem go_held {T : Tab} (hT : TOk T) (hTI : TIn T) {f : FD} {n tm : Nat} (hn : n < T.rts.length) (ha0 : 0 ≤ (T.rts.getD n rt0).app) (hne : (T.rts.getD n rt0).tr.getD 0 0 ≠ (T.rts.getD n rt0).app) (hc : f.cl = offB every (T.rts.getD n rt0).app.toNat) (htm : tm < 65535) : goR f (T.rts.getD n rt0) n ⟨2, tm, 0, 0⟩ = if (T.rts.getD n rt0).hold ≤ tm + 1 then rs0 else ⟨2, tm + 1, 0, 0⟩ := by
  have h1 := hT.app n hn
  have h2 := hT.tr n hn 0 (hTI.tl n hn)
  have c0 : bt f.cl ((T.rts.getD n rt0).tr.getD 0 0) = true := by
    unfold bt; rw [hc, offB_bit (by omega) (by omega), every_bit, Bool.and_eq_true]
    exact ⟨decide_eq_true (by omega), decide_eq_true (by omega)⟩
  have e : goR1 f (T.rts.getD n rt0) n ⟨2, tm, 0, 0⟩ = if (T.rts.getD n rt0).hold ≤ tm + 1 then rs0 else ⟨2, tm + 1, 0, 0⟩ := by
    unfold goR1
    have e1 : upTime tm = tm + 1 := if_pos htm
    rw [if_neg (fun h => by rw [c0] at h; cases h.2), if_neg (fun h => by cases h.1), if_pos rfl]
    show (if _ ≤ upTime tm then _ else _) = _
    rw [e1]
  unfold goR
  rw [e, if_neg (show ¬ (2 : Nat) = 0 by omega)]
  by_cases h : (T.rts.getD n rt0).hold ≤ tm + 1
  · rw [if_pos h]; rfl
  · rw [if_neg h]; rfl
end Go.Proofs.Ytnjeiigdfdjccaa
/- A train that goes through: plain laws for AutoThrough. -/
namespace Go.Proofs.Ytnjeiigdfdjccaa
set_option linter.unusedVariables false
set_option linter.unusedSimpArgs false
def ones (n : Nat) : Nat := 2 ^ n - 1
theorem ones_bit (n j : Nat) : (ones n).testBit j = decide (j < n) := Nat.testBit_two_pow_sub_one ..
theorem ones_or (n : Nat) : ones n ||| 2 ^ n = ones (n + 1) := by
  refine Nat.eq_of_testBit_eq fun j => ?_
  rw [Nat.testBit_or, ones_bit, ones_bit, Nat.testBit_two_pow, ← Bool.decide_or]
  exact decide_eq_decide.2 (by omega)
theorem usedN_bit (f : FD) (l : List Int) (u : Nat) (j : Nat) : ∀ k, (usedN f l u k).testBit j = (u.testBit j || (decide (j < k) && !bt f.cl (l.getD j 0)))
  | 0 => by simp [usedN]
  | k + 1 => by
    simp only [usedN]
    by_cases h : bt f.cl (l.getD k 0) = true
    · rw [if_pos h, usedN_bit f l u j k]
      by_cases e : j = k
      · subst e; rw [h]; simp
      · congr 2; exact decide_eq_decide.2 (by omega)
    · rw [if_neg h, Nat.testBit_or, usedN_bit f l u j k, Nat.testBit_two_pow]
      by_cases e : j = k
      · subst e; rw [Bool.eq_false_iff.2 h]; simp
      · rw [show decide (k = j) = false from decide_eq_false (by omega), Bool.or_false]
        congr 2; exact decide_eq_decide.2 (by omega)
theorem usedN_ones {f : FD} {l : List Int} {i' i : Nat} (hi : i < l.length) (h : ∀ j, j < l.length → (j < i' ∨ bt f.cl (l.getD j 0) = false ↔ j < i + 1)) (hi' : i' ≤ i + 1) : usedN f l (ones i') l.length = ones (i + 1) := by
  refine Nat.eq_of_testBit_eq fun j => ?_
  rw [usedN_bit, ones_bit, ones_bit]
  by_cases hj : j < l.length
  · have := h j hj
    cases hb : bt f.cl (l.getD j 0) with
    | true =>
      rw [hb] at this
      simp at this
      simp [hj]; exact this
    | false =>
      rw [hb] at this
      simp at this
      simp [hj]; omega
  · rw [show decide (j < l.length) = false from decide_eq_false hj]
    simp; omega
theorem relN_ones {f : FD} {l : List Int} {i p p' : Nat} (hp : p ≤ i) (hi : i < l.length) (hpp : p' ≤ p) (hc : ∀ j, j < p → bt f.cl (l.getD j 0) = true) (hn : bt f.cl (l.getD p 0) = false) : ∀ k, k ≤ l.length → relN f l (ones (i + 1)) (ones p') k = ones (max p' (min k p))
  | 0, _ => by rw [show max p' (min 0 p) = p' by omega]; rfl
  | k + 1, hk => by
    simp only [relN]
    rw [relN_ones hp hi hpp hc hn k (by omega)]
    by_cases h1 : k < p
    · have e : ((k == 0 || (ones (max p' (min k p))).testBit (k - 1)) && (ones (i + 1)).testBit k && bt f.cl (l.getD k 0) && (k + 1 == l.length || (ones (i + 1)).testBit (k + 1))) = true := by
        rw [ones_bit, ones_bit, ones_bit, hc k h1, decide_eq_true (show k < i + 1 by omega), decide_eq_true (show k + 1 < i + 1 by omega)]
        by_cases hk0 : k = 0
        · subst hk0; simp
        · rw [decide_eq_true (show k - 1 < max p' (min k p) by omega)]; simp
      rw [if_pos e]
      by_cases h2 : k < p'
      · have : max p' (min k p) = p' := by omega
        rw [this, show max p' (min (k + 1) p) = p' by omega]
        refine Nat.eq_of_testBit_eq fun j => ?_
        rw [Nat.testBit_or, ones_bit, Nat.testBit_two_pow, ← Bool.decide_or]
        exact decide_eq_decide.2 (by omega)
      · rw [show max p' (min k p) = k by omega, show max p' (min (k + 1) p) = k + 1 by omega]
        exact ones_or k
    · have e : ((k == 0 || (ones (max p' (min k p))).testBit (k - 1)) && (ones (i + 1)).testBit k && bt f.cl (l.getD k 0) && (k + 1 == l.length || (ones (i + 1)).testBit (k + 1))) = false := by
        by_cases h2 : k = p
        · subst h2; rw [hn]; simp
        · rw [ones_bit, decide_eq_false (show ¬ k - 1 < max p' (min k p) by omega), beq_eq_false_iff_ne.2 (show k ≠ 0 by omega)]; rfl
      rw [e, if_neg (fun h => by cases h), show max p' (min (k + 1) p) = max p' (min k p) by omega]
theorem relN_all {f : FD} {l : List Int} {p' : Nat} (hpp : p' ≤ l.length) (hc : ∀ j, j < l.length → bt f.cl (l.getD j 0) = true) : ∀ k, k ≤ l.length → relN f l (ones l.length) (ones p') k = ones (max p' k)
  | 0, _ => by rw [show max p' 0 = p' by omega]; rfl
  | k + 1, hk => by
    simp only [relN]
    rw [relN_all hpp hc k (by omega)]
    have e : ((k == 0 || (ones (max p' k)).testBit (k - 1)) && (ones l.length).testBit k && bt f.cl (l.getD k 0) && (k + 1 == l.length || (ones l.length).testBit (k + 1))) = true := by
      rw [ones_bit, ones_bit, ones_bit, hc k hk, decide_eq_true (show k < l.length by omega)]
      by_cases hl : k + 1 = l.length
      · rw [beq_iff_eq.2 hl]
        by_cases hk0 : k = 0
        · rw [beq_iff_eq.2 hk0]; rfl
        · rw [decide_eq_true (show k - 1 < max p' k by omega)]; simp
      · rw [decide_eq_true (show k + 1 < l.length by omega)]
        by_cases hk0 : k = 0
        · rw [beq_iff_eq.2 hk0]; simp
        · rw [decide_eq_true (show k - 1 < max p' k by omega)]; simp
    rw [if_pos e]
    by_cases h2 : k < p'
    · rw [show max p' k = p' by omega, show max p' (k + 1) = p' by omega]
      refine Nat.eq_of_testBit_eq fun j => ?_
      rw [Nat.testBit_or, ones_bit, Nat.testBit_two_pow, ← Bool.decide_or]
      exact decide_eq_decide.2 (by omega)
    · rw [show max p' k = k by omega, show max p' (k + 1) = k + 1 by omega]
      exact ones_or k
theorem ones_ne {p n : Nat} (h : p < n) : ones p ≠ ones n := fun e => by
  have := ones_bit n p
  rw [← e, ones_bit, decide_eq_true h] at this
  simp at this
/-- A train stands on section i; p sections are behind it. -/
theorem train_ones {f : FD} {l : List Int} {i' i p p' tm : Nat} (hi : i < l.length) (h : ∀ j, j < l.length → (j < i' ∨ bt f.cl (l.getD j 0) = false ↔ j < i + 1)) (hi' : i' ≤ i + 1) (hp : p ≤ i) (hpp : p' ≤ p) (hc : ∀ j, j < p → bt f.cl (l.getD j 0) = true) (hn : bt f.cl (l.getD p 0) = false) :
    trainR f l ⟨3, tm, ones i', ones p'⟩ = ⟨3, tm, ones (i + 1), ones p⟩ := by
  unfold trainR
  show (if relN f l (usedN f l (ones i') l.length) (ones p') l.length = 2 ^ l.length - 1 then rs0 else (⟨3, tm, usedN f l (ones i') l.length, relN f l (usedN f l (ones i') l.length) (ones p') l.length⟩ : RS)) = _
  rw [usedN_ones hi h hi', relN_ones hp hi hpp hc hn _ (Nat.le_refl _), show max p' (min l.length p) = p by omega]
  exact if_neg (ones_ne (show p < l.length by omega))
/-- The train is gone. -/
theorem train_gone {f : FD} {l : List Int} {p' tm : Nat} (h0 : 0 < l.length) (hpp : p' ≤ l.length) (hc : ∀ j, j < l.length → bt f.cl (l.getD j 0) = true) : trainR f l ⟨3, tm, ones l.length, ones p'⟩ = rs0 := by
  have e : usedN f l (ones l.length) l.length = ones l.length := by
    have := usedN_ones (f := f) (l := l) (i' := l.length) (i := l.length - 1) (by omega) (fun j hj => by rw [hc j hj]; simp; omega) (by omega)
    rwa [show l.length - 1 + 1 = l.length by omega] at this
  unfold trainR
  show (if relN f l (usedN f l (ones l.length) l.length) (ones p') l.length = 2 ^ l.length - 1 then rs0 else _) = _
  rw [e, relN_all hpp hc _ (Nat.le_refl _), show max p' l.length = l.length by omega]
  exact if_pos rfl
theorem goR_in {f : FD} {t : Rt} {n : Nat} {r : RS} (h : r.ph = 3) : goR f t n r = trainR f t.tr r := by
  have e : goR1 f t n r = r := by
    unfold goR1
    rw [if_neg (fun q => q.1 h), if_neg (fun q => by omega), if_neg (by omega)]
  unfold goR
  rw [e, if_neg (by omega), if_pos h]
theorem goR_enter {f : FD} {t : Rt} {n : Nat} (h : bt f.cl (t.tr.getD 0 0) = false) : goR f t n ⟨1, 0, 0, 0⟩ = trainR f t.tr ⟨3, 0, 0, 0⟩ := by
  have e : goR1 f t n ⟨1, 0, 0, 0⟩ = ⟨3, 0, 0, 0⟩ := by
    unfold goR1
    exact if_pos ⟨by show (1 : Nat) ≠ 3; omega, h⟩
  unfold goR
  rw [e, if_neg (show ¬ (1 : Nat) = 0 by omega)]
  exact if_pos rfl
end Go.Proofs.Ytnjeiigdfdjccaa
