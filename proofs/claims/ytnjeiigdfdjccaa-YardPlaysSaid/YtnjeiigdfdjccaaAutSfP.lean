/- Safe orders: invariants. -/
import Derived.Test.YtnjeiigdfdjccaaAutBp
namespace Go.Proofs.Ytnjeiigdfdjccaa
set_option linter.unusedVariables false
set_option linter.unusedSimpArgs false
def lockd (S : AS) (n : Nat) : Prop := (S.R n).ph ≠ 0
/-- What holds of an automaton at all times. -/
structure Inv (T : Tab) (S : AS) : Prop where
  i1 : ∀ n k, n < T.rts.length → k < T.rts.length → lockd S n → lockd S k → ∀ i, i < (T.rts.getD n rt0).con.length → (T.rts.getD n rt0).con.getD i 0 ≠ (k : Int)
  i2 : ∀ n, n < T.rts.length → lockd S n → ∀ i, i < (T.rts.getD n rt0).pts.length → S.C ((T.rts.getD n rt0).pts.getD i (0, false)).1.toNat = needP ((T.rts.getD n rt0).pts.getD i (0, false))
theorem inv0 (T : Tab) : Inv T as0 := ⟨fun n k _ _ h => absurd rfl h, fun n _ h => absurd rfl h⟩
theorem goR_free {f : FD} {t : Rt} {n : Nat} {r : RS} (h : r.ph = 0) : goR f t n r = r := if_pos h
theorem goS_inv {T : Tab} {f : FD} {S : AS} {n : Nat} (h : Inv T S) : Inv T (goS T f S n) := by
  have hl : ∀ j, lockd (goS T f S n) j → lockd S j := fun j hj => by
    unfold lockd goS at hj
    by_cases e : j = n
    · subst e
      intro h0
      apply hj
      show (if j = j then _ else _ : RS).ph = 0
      rw [if_pos rfl, goR_free h0]; exact h0
    · intro h0
      apply hj
      show (if j = n then _ else _ : RS).ph = 0
      rw [if_neg e]; exact h0
  exact ⟨fun a b ha hb la lb => h.i1 a b ha hb (hl a la) (hl b lb), fun a ha la => h.i2 a ha (hl a la)⟩
theorem goK_inv {T : Tab} {f : FD} {S : AS} (h : Inv T S) : ∀ k, Inv T (goK T f S k)
  | 0 => h
  | k + 1 => goS_inv (goK_inv h k)
theorem goK_C {T : Tab} {f : FD} {S : AS} : ∀ k, (goK T f S k).C = S.C
  | 0 => rfl
  | k + 1 => goK_C k
theorem mem_confL {T : Tab} {i k : Nat} (hne : i ≠ k) (hm : mustB T.pts (T.rts.getD i rt0) (T.rts.getD k rt0) = true) : ∀ m, k < m → (k : Int) ∈ confL T i m
  | 0, h => absurd h (by omega)
  | m + 1, h => by
    simp only [confL]
    by_cases e : k = m
    · subst e
      rw [if_pos (by rw [hm, Bool.and_true]; exact bne_iff_ne.2 hne)]
      exact List.mem_append_right _ (List.mem_singleton.2 rfl)
    · have ih := mem_confL hne hm m (by omega)
      split
      · exact List.mem_append_left _ ih
      · exact ih
theorem decl_of {T : Tab} {i k : Nat} (h : checkE T = 0) (hi : i < T.rts.length) (hk : k < T.rts.length) (hne : i ≠ k) (hm : mustB T.pts (T.rts.getD i rt0) (T.rts.getD k rt0) = true) : ∃ j, j < (T.rts.getD i rt0).con.length ∧ (T.rts.getD i rt0).con.getD j 0 = (k : Int) := by
  have hd := (ckOk h).dc i hi
  unfold declB at hd
  rw [Bool.not_eq_true', List.any_eq_false] at hd
  have := hd _ (mem_confL hne hm _ hk)
  unfold missB at this
  exact hasI_iff.1 (by simpa using this)
theorem getD_mem {α : Type} {l : List α} {i : Nat} {d : α} (h : i < l.length) : l.getD i d ∈ l := by
  rw [List.getD_eq_getElem?_getD, List.getElem?_eq_getElem h]; exact List.getElem_mem h
/-- Two routes that need a point otherwise conflict. -/
theorem opp_decl {T : Tab} {i k a b : Nat} (h : checkE T = 0) (hi : i < T.rts.length) (hk : k < T.rts.length) (hne : i ≠ k) (ha : a < (T.rts.getD i rt0).pts.length) (hb : b < (T.rts.getD k rt0).pts.length)
    (he : ((T.rts.getD i rt0).pts.getD a (0, false)).1 = ((T.rts.getD k rt0).pts.getD b (0, false)).1) (hn : needP ((T.rts.getD i rt0).pts.getD a (0, false)) ≠ needP ((T.rts.getD k rt0).pts.getD b (0, false))) : ∃ j, j < (T.rts.getD i rt0).con.length ∧ (T.rts.getD i rt0).con.getD j 0 = (k : Int) := by
  refine decl_of h hi hk hne ?_
  have h5 : ((T.rts.getD i rt0).pts.any fun p => (T.rts.getD k rt0).pts.any fun q => oppB p q) = true := by
    rw [List.any_eq_true]
    refine ⟨(T.rts.getD i rt0).pts.getD a (0, false), getD_mem ha, ?_⟩
    rw [List.any_eq_true]
    refine ⟨(T.rts.getD k rt0).pts.getD b (0, false), getD_mem hb, ?_⟩
    unfold oppB
    rw [Bool.and_eq_true]
    refine ⟨beq_iff_eq.2 he, bne_iff_ne.2 fun e => hn ?_⟩
    unfold needP
    rw [e]
  unfold mustB
  rw [h5]
  simp
theorem setC_miss {C : Nat → Nat} {l : List (Int × Bool)} {j : Nat} : ∀ {k : Nat}, (∀ i, i < k → (l.getD i (0, false)).1.toNat ≠ j) → setC C l k j = C j
  | 0, _ => rfl
  | k + 1, h => by
    simp only [setC]
    rw [if_neg (fun e => h k (Nat.lt_succ_self _) e.symm), setC_miss (fun i hi => h i (by omega))]
theorem setC_hit {C : Nat → Nat} {l : List (Int × Bool)} (hd : ∀ a b, a < l.length → b < l.length → a ≠ b → (l.getD a (0, false)).1.toNat ≠ (l.getD b (0, false)).1.toNat) {i : Nat} : ∀ {k : Nat}, i < k → k ≤ l.length → setC C l k (l.getD i (0, false)).1.toNat = needP (l.getD i (0, false))
  | 0, h, _ => absurd h (by omega)
  | k + 1, h, hk => by
    simp only [setC]
    by_cases e : i = k
    · subst e; rw [if_pos rfl]
    · rw [if_neg (hd i k (by omega) (by omega) e), setC_hit hd (by omega) (by omega)]
theorem pts_distinct {T : Tab} (h : checkE T = 0) {n : Nat} (hn : n < T.rts.length) : ∀ a b, a < (T.rts.getD n rt0).pts.length → b < (T.rts.getD n rt0).pts.length → a ≠ b → ((T.rts.getD n rt0).pts.getD a (0, false)).1.toNat ≠ ((T.rts.getD n rt0).pts.getD b (0, false)).1.toNat := by
  have hw := (rtOk ((ckOk h).rt n hn)).pw
  have hr : ∀ a, a < (T.rts.getD n rt0).pts.length → 0 ≤ ((T.rts.getD n rt0).pts.getD a (0, false)).1 := fun a ha => by
    have := (withinI_iff.1 hw a (by rw [ownP_len]; exact ha)).1
    rwa [ownP_get _ ha] at this
  have key : ∀ a b, a < b → b < (T.rts.getD n rt0).pts.length → ((T.rts.getD n rt0).pts.getD a (0, false)).1 ≠ ((T.rts.getD n rt0).pts.getD b (0, false)).1 := fun a b hab hb e => by
    have h1 := (withinI_iff.1 hw b (by rw [ownP_len]; exact hb)).2.2
    have h2 : hasI ((ownP (T.rts.getD n rt0)).take b) ((ownP (T.rts.getD n rt0)).getD b 0) = true := hasI_iff.2 ⟨a, by rw [List.length_take, ownP_len]; omega, by rw [getD_take hab, ownP_get _ (by omega), ownP_get _ hb]; exact e⟩
    rw [h2] at h1; cases h1
  intro a b ha hb hne e
  have h1 := hr a ha; have h2 := hr b hb
  rcases Nat.lt_or_gt_of_ne hne with h | h
  · exact key a b h hb (by omega)
  · exact key b a h ha (by omega)
structure AskF (T : Tab) (f : FD) (S : AS) (n : Nat) : Prop where
  free : (S.R n).ph = 0
  con : ∀ i, i < (T.rts.getD n rt0).con.length → (S.R ((T.rts.getD n rt0).con.getD i 0).toNat).ph = 0
  pts : ∀ a, a < (T.rts.getD n rt0).pts.length → S.C ((T.rts.getD n rt0).pts.getD a (0, false)).1.toNat = needP ((T.rts.getD n rt0).pts.getD a (0, false)) ∨ bt f.cl (T.pts.getD ((T.rts.getD n rt0).pts.getD a (0, false)).1.toNat 0) = true
theorem askF {T : Tab} {f : FD} {S : AS} {n : Nat} (h : askOk T f S n = true) : AskF T f S n := by
  unfold askOk at h
  simp only [Bool.and_eq_true, List.all_eq_true, beq_iff_eq, Bool.or_eq_true] at h
  obtain ⟨⟨_, h1⟩, h2, _, h3⟩ := h
  exact ⟨h1, fun i hi => h2 _ (getD_mem hi), fun a ha => h3 _ (getD_mem ha)⟩
theorem nat_of_getD {l : List Int} {n i : Nat} (h : withinI l (n : Int) = true) (hi : i < l.length) : ∃ k : Nat, k < n ∧ l.getD i 0 = (k : Int) := by
  have := withinI_iff.1 h i hi
  obtain ⟨k, hk⟩ := Int.eq_ofNat_of_zero_le this.1
  exact ⟨k, by omega, hk⟩
theorem askS_lock {T : Tab} {f : FD} {S : AS} {n j : Nat} (h : lockd (askS T f S n) j) : lockd S j ∨ (j = n ∧ askOk T f S n = true) := by
  unfold askS at h
  by_cases e : askOk T f S n = true
  · rw [if_pos e] at h
    by_cases hj : j = n
    · exact .inr ⟨hj, e⟩
    · unfold lockd at h
      simp only [hj, if_false] at h
      exact .inl h
  · rw [if_neg e] at h; exact .inl h
theorem askS_C {T : Tab} {f : FD} {S : AS} {n : Nat} (hc : checkE T = 0) (hn : n < T.rts.length) (p : Nat) : (askS T f S n).C p = S.C p ∨ bt f.cl (T.pts.getD p 0) = true := by
  unfold askS
  by_cases e : askOk T f S n = true
  · rw [if_pos e]
    have A := askF e
    by_cases hp : ∃ i, i < (T.rts.getD n rt0).pts.length ∧ ((T.rts.getD n rt0).pts.getD i (0, false)).1.toNat = p
    · obtain ⟨i, hi, rfl⟩ := hp
      rcases A.pts i hi with h | h
      · left
        show setC _ _ _ _ = _
        rw [setC_hit (pts_distinct hc hn) hi (Nat.le_refl _), h]
      · exact .inr h
    · left
      exact setC_miss fun i hi h => hp ⟨i, hi, h⟩
  · rw [if_neg e]; exact .inl rfl
theorem askS_inv {T : Tab} {f : FD} {S : AS} {n : Nat} (hc : checkE T = 0) (hn : n < T.rts.length) (h : Inv T S) : Inv T (askS T f S n) := by
  refine ⟨fun a b ha hb la lb i hi hcon => ?_, fun a ha la i hi => ?_⟩
  · rcases askS_lock la with la' | ⟨rfl, e⟩
    · rcases askS_lock lb with lb' | ⟨rfl, e⟩
      · exact h.i1 a b ha hb la' lb' i hi hcon
      · have hm := (rtOk ((ckOk hc).rt a ha)).cm
        unfold mutB at hm
        rw [List.any_eq_false] at hm
        have h1 := hm _ (getD_mem (d := (0 : Int)) hi)
        rw [hcon, Int.toNat_natCast] at h1
        obtain ⟨j, hj, h2⟩ := hasI_iff.1 (show hasI (T.rts.getD b rt0).con (a : Int) = true by
          cases hq : hasI (T.rts.getD b rt0).con (a : Int) with
          | true => rfl
          | false => rw [hq] at h1; exact absurd rfl h1)
        have h3 := (askF e).con j hj
        rw [h2, Int.toNat_natCast] at h3
        exact la' h3
    · have h3 := (askF e).con i hi
      rw [hcon, Int.toNat_natCast] at h3
      rcases askS_lock lb with lb' | ⟨rfl, _⟩
      · exact lb' h3
      · have hm := (rtOk ((ckOk hc).rt b hb)).ci
        have : hasI (T.rts.getD b rt0).con (b : Int) = true := hasI_iff.2 ⟨i, hi, hcon⟩
        rw [this] at hm; cases hm
  · by_cases e : askOk T f S n = true
    · have e1 : (askS T f S n).C = setC S.C (T.rts.getD n rt0).pts (T.rts.getD n rt0).pts.length := by unfold askS; rw [if_pos e]
      rw [e1]
      have A := askF e
      rcases askS_lock la with la | ⟨rfl, _⟩
      · by_cases hp : ∃ b, b < (T.rts.getD n rt0).pts.length ∧ ((T.rts.getD n rt0).pts.getD b (0, false)).1.toNat = ((T.rts.getD a rt0).pts.getD i (0, false)).1.toNat
        · obtain ⟨b, hb, he⟩ := hp
          rw [← he, setC_hit (pts_distinct hc hn) hb (Nat.le_refl _)]
          by_cases hq : needP ((T.rts.getD n rt0).pts.getD b (0, false)) = needP ((T.rts.getD a rt0).pts.getD i (0, false))
          · exact hq
          · exfalso
            have hna : n ≠ a := fun e => la (by rw [← e]; exact A.free)
            have g1 := (tin_of hc).pp n hn b hb
            have g2 := (tin_of hc).pp a ha i hi
            obtain ⟨j, hj, h2⟩ := opp_decl hc hn ha hna hb hi (by omega) hq
            have h3 := A.con j hj
            rw [h2, Int.toNat_natCast] at h3
            exact la h3
        · rw [setC_miss fun b hb he => hp ⟨b, hb, he⟩]
          exact h.i2 a ha la i hi
      · exact setC_hit (pts_distinct hc hn) hi (Nat.le_refl _)
    · have e1 : askS T f S n = S := by unfold askS; rw [if_neg e]
      rw [e1] at la ⊢
      exact h.i2 a ha la i hi
theorem askK_inv {T : Tab} {f : FD} {S : AS} (hc : checkE T = 0) (h : Inv T S) : ∀ k, k ≤ T.rts.length → Inv T (askK T f S k)
  | 0, _ => h
  | k + 1, hk => askS_inv hc hk (askK_inv hc h k (by omega))
theorem askK_C {T : Tab} {f : FD} {S : AS} (hc : checkE T = 0) (p : Nat) : ∀ k, k ≤ T.rts.length → (askK T f S k).C p = S.C p ∨ bt f.cl (T.pts.getD p 0) = true
  | 0, _ => .inl rfl
  | k + 1, hk => by
    rcases askS_C (f := f) (S := askK T f S k) hc hk p with h | h
    · rcases askK_C hc p k (by omega) with h2 | h2
      · exact .inl (h.trans h2)
      · exact .inr h2
    · exact .inr h
theorem step_inv {T : Tab} {f : FD} {S : AS} (hc : checkE T = 0) (h : Inv T S) : Inv T (stepS T f S) := askK_inv hc (goK_inv h _) _ (Nat.le_refl _)
theorem step_C {T : Tab} {f : FD} {S : AS} (hc : checkE T = 0) (p : Nat) : (stepS T f S).C p = S.C p ∨ bt f.cl (T.pts.getD p 0) = true := by
  have := askK_C (f := f) (S := goK T f S T.rts.length) hc p _ (Nat.le_refl _)
  rw [goK_C] at this
  exact this
theorem loN_bit (R : Nat → RS) (n : Nat) : ∀ k, (loN R k).testBit n = (decide (n < k) && decide ((R n).ph ≠ 0))
  | 0 => by simp [loN]
  | k + 1 => by
    simp only [loN]
    have ih := loN_bit R n k
    split
    · rename_i h
      rw [ih]
      by_cases e : n = k
      · subst e; simp [h]
      · congr 1; exact decide_eq_decide.2 (by omega)
    · rename_i h
      rw [Nat.testBit_or, ih, Nat.testBit_two_pow]
      by_cases e : n = k
      · subst e; simp [h]
      · have : decide (k = n) = false := by simp; omega
        rw [this, Bool.or_false]
        congr 1; exact decide_eq_decide.2 (by omega)
theorem bit_mul {y q n : Nat} (hy : y ≤ 1) : (y * 2 ^ q).testBit n = (decide (q = n) && y.testBit 0) := by
  rcases (show y = 0 ∨ y = 1 by omega) with rfl | rfl
  · simp
  · rw [Nat.one_mul, Nat.testBit_two_pow]; simp
theorem noN_bit (C : Nat → Nat) (n : Nat) : ∀ k, (noN C k).testBit n = (decide (n < k) && (C n).testBit 0)
  | 0 => by simp [noN]
  | k + 1 => by
    simp only [noN]
    rw [Nat.testBit_or, noN_bit C n k, bit_mul (by have := @Nat.and_le_right (C k) 1; omega)]
    by_cases e : n = k
    · subst e; simp
    · have : decide (k = n) = false := by simp; omega
      rw [this, Bool.false_and, Bool.or_false]
      congr 1; exact decide_eq_decide.2 (by omega)
theorem reN_bit (C : Nat → Nat) (h : ∀ p, C p < 3) (n : Nat) : ∀ k, (reN C k).testBit n = (decide (n < k) && decide (C n = 2))
  | 0 => by simp [reN]
  | k + 1 => by
    simp only [reN]
    rw [Nat.testBit_or, reN_bit C h n k, bit_mul (by have := h k; omega)]
    by_cases e : n = k
    · subst e
      have := h n
      rcases (show C n = 0 ∨ C n = 1 ∨ C n = 2 by omega) with e | e | e <;> rw [e] <;> simp
    · have : decide (k = n) = false := by simp; omega
      rw [this, Bool.false_and, Bool.or_false]
      congr 1; exact decide_eq_decide.2 (by omega)
theorem prN_bit {T : Tab} {f : FD} {R : Nat → RS} {s : Nat} : ∀ k, (prN T f R k).testBit s = true → ∃ n, n < k ∧ procB f (T.rts.getD n rt0) (R n) = true ∧ (T.rts.getD n rt0).sig.toNat = s
  | 0, h => by simp [prN] at h
  | k + 1, h => by
    simp only [prN] at h
    split at h
    · rename_i hp
      rw [Nat.testBit_or, Nat.testBit_two_pow, Bool.or_eq_true] at h
      rcases h with h | h
      · obtain ⟨n, h1, h2⟩ := prN_bit k h
        exact ⟨n, by omega, h2⟩
      · exact ⟨k, by omega, hp, by simpa using h⟩
    · obtain ⟨n, h1, h2⟩ := prN_bit k h
      exact ⟨n, by omega, h2⟩
/-- A route that makes a signal's proceed good (Safe). -/
def goodB (f : FD) (lo : Nat) (s n : Nat) (r : Rt) : Bool :=
  ((r.sig == (s : Int)) && lo.testBit n) && ((r.tr.all fun x => bt f.cl x) && (r.pts.all fun p => (bt f.no p.1 != p.2) && (bt f.re p.1 == p.2)))
def needsB (T : Tab) (r : Rt) (p : Nat) : Bool := hasI r.tr (T.pts.getD p 0) || r.pts.any fun x => x.1 == (p : Int)
/-- What a safe order is (Safe). -/
structure SafeP (T : Tab) (f : FD) (was now : OD) : Prop where
  c1 : ∀ n, n < T.rts.length → now.lo.testBit n = true → ((T.rts.getD n rt0).con.any fun k => bt now.lo k) = false
  lo : now.lo >>> T.rts.length = 0
  pr : now.pr >>> T.sigs.toNat = 0
  nr : (now.no ||| now.re) >>> T.pts.length = 0
  na : now.no &&& now.re = 0
  c3 : ∀ s : Nat, (s : Int) < T.sigs → now.pr.testBit s = true → ∃ n, n < T.rts.length ∧ goodB f now.lo s n (T.rts.getD n rt0) = true
  c4 : ∀ p, p < T.pts.length → (was.no.testBit p == now.no.testBit p && was.re.testBit p == now.re.testBit p) = false → bt f.cl (T.pts.getD p 0) = true ∧ ∀ n, n < T.rts.length → was.lo.testBit n = true → now.lo.testBit n = true → needsB T (T.rts.getD n rt0) p = false
theorem shr_zero {x k : Nat} (h : ∀ i, k ≤ i → x.testBit i = false) : x >>> k = 0 := Nat.eq_of_testBit_eq fun i => by
  rw [Nat.testBit_shiftRight, Nat.zero_testBit]; exact h _ (Nat.le_add_right _ _)
/-- The order behind a step is safe behind the one ahead. -/
theorem safe_step {T : Tab} {f g : FD} {S : AS} (hc : checkE T = 0) (h : Inv T S) (hS : ∀ p, S.C p < 3) (hS1 : ∀ p, (stepS T f S).C p < 3) : SafeP T f (orderS T g S) (orderS T f (stepS T f S)) := by
  have h1 := step_inv (f := f) hc h
  have hC := step_C (f := f) (S := S) hc
  generalize stepS T f S = S1 at *
  have c := ckOk hc
  have hlo : ∀ (S : AS) n, (loN S.R T.rts.length).testBit n = true ↔ n < T.rts.length ∧ lockd S n := fun S n => by
    rw [loN_bit, Bool.and_eq_true, decide_eq_true_eq, decide_eq_true_eq]; rfl
  refine ⟨fun n hn hl => ?_, ?_, ?_, ?_, ?_, fun s hs hp => ?_, fun p hp hne => ?_⟩
  · rw [List.any_eq_false]
    intro x hx hb
    obtain ⟨i, hi, rfl⟩ := mem_getD hx
    obtain ⟨k, hk, e⟩ := nat_of_getD (rtOk (c.rt n hn)).cw hi
    rw [e] at hb
    have hb' := (hlo S1 k).1 hb
    exact h1.i1 n k hn hk ((hlo S1 n).1 hl).2 hb'.2 i hi e
  · refine shr_zero fun i hi => ?_
    show (loN S1.R _).testBit i = _
    rw [loN_bit]
    simp; omega
  · refine shr_zero fun i hi => ?_
    cases e : (orderS T f S1).pr.testBit i with
    | false => rfl
    | true =>
      obtain ⟨n, hn, _, hs⟩ := prN_bit _ e
      have r := rtOk (c.rt n hn)
      have := r.s0; have := r.s1
      omega
  · refine shr_zero fun i hi => ?_
    show (noN S1.C _ ||| reN S1.C _).testBit i = _
    rw [Nat.testBit_or, noN_bit, reN_bit _ hS1]
    have : decide (i < T.pts.length) = false := by simp; omega
    rw [this]; rfl
  · refine Nat.eq_of_testBit_eq fun i => ?_
    show (noN S1.C _ &&& reN S1.C _).testBit i = _
    rw [Nat.testBit_and, noN_bit, reN_bit _ hS1, Nat.zero_testBit]
    by_cases e : S1.C i = 2
    · rw [e]; simp
    · simp [e]
  · obtain ⟨n, hn, hq, hsn⟩ := prN_bit _ hp
    refine ⟨n, hn, ?_⟩
    have r := rtOk (c.rt n hn)
    unfold procB at hq
    rw [Bool.and_eq_true, Bool.and_eq_true, beq_iff_eq] at hq
    obtain ⟨⟨q1, q2⟩, q3⟩ := hq
    unfold goodB
    rw [Bool.and_eq_true, Bool.and_eq_true, Bool.and_eq_true]
    refine ⟨⟨by have := r.s0; rw [beq_iff_eq]; omega, (hlo S1 n).2 ⟨hn, fun e => by rw [q1] at e; cases e⟩⟩, q2, ?_⟩
    rw [← q3]
    congr 1
    funext p
    unfold seenB
    cases bt f.no p.1 <;> cases p.2 <;> rfl
  · have hx : S1.C p ≠ S.C p := fun e => by
      have e1 : (orderS T g S).no.testBit p = (orderS T f S1).no.testBit p := by
        show (noN _ _).testBit p = (noN _ _).testBit p
        rw [noN_bit, noN_bit, e]
      have e2 : (orderS T g S).re.testBit p = (orderS T f S1).re.testBit p := by
        show (reN _ _).testBit p = (reN _ _).testBit p
        rw [reN_bit _ hS, reN_bit _ hS1, e]
      rw [e1, e2] at hne
      simp at hne
    refine ⟨(hC p).resolve_left hx, fun n hn w1 w2 => ?_⟩
    cases hd : needsB T (T.rts.getD n rt0) p with
    | false => rfl
    | true =>
      exfalso
      have hown : ∃ i, i < (T.rts.getD n rt0).pts.length ∧ ((T.rts.getD n rt0).pts.getD i (0, false)).1 = (p : Int) := by
        unfold needsB at hd
        rw [Bool.or_eq_true] at hd
        rcases hd with hd | hd
        · have hi := inPtsB_iff.1 (rtOk (c.rt n hn)).ip p hp
          rw [hd] at hi
          obtain ⟨i, hi, e⟩ := hasI_iff.1 (show hasI (ownP (T.rts.getD n rt0)) (p : Int) = true from hi)
          rw [ownP_len] at hi
          rw [ownP_get _ hi] at e
          exact ⟨i, hi, e⟩
        · obtain ⟨x, hx, e⟩ := List.any_eq_true.1 hd
          obtain ⟨i, hi, rfl⟩ := List.mem_iff_getElem.1 hx
          refine ⟨i, hi, ?_⟩
          rw [List.getD_eq_getElem?_getD, List.getElem?_eq_getElem hi]
          simpa using e
      obtain ⟨i, hi, e⟩ := hown
      have a1 := h.i2 n hn ((hlo S n).1 w1).2 i hi
      have a2 := h1.i2 n hn ((hlo S1 n).1 w2).2 i hi
      rw [e, Int.toNat_natCast] at a1 a2
      exact hx (a2.trans a1.symm)
end Go.Proofs.Ytnjeiigdfdjccaa
