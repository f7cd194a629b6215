/- Stretches that are free: plain. -/
import Derived.Test.YteekneicahfkpaaReg
import Derived.Test.YteekneicahfkpaaRigS
namespace Go.Proofs.Yteekneicahfkpaa
set_option linter.unusedVariables false
def IsRuns (p : Nat → Bool) (m : Nat) : Nat → List (Nat × Nat) → Prop
  | lo, [] => ∀ b, lo ≤ b → b < m → p b = false
  | lo, (a, n) :: L => lo ≤ a ∧ 0 < n ∧ a + n ≤ m ∧ (∀ b, lo ≤ b → b < a → p b = false) ∧ (∀ b, a ≤ b → b < a + n → p b = true) ∧ (a + n < m → p (a + n) = false) ∧ IsRuns p m (a + n) L
theorem IsRuns.unique {p : Nat → Bool} {m : Nat} : ∀ {lo : Nat} {L K : List (Nat × Nat)}, IsRuns p m lo L → IsRuns p m lo K → L = K
  | lo, [], [], _, _ => rfl
  | lo, [], (a, n) :: K, h, k => by
    have := h a k.1 (by have := k.2.1; have := k.2.2.1; omega)
    rw [k.2.2.2.2.1 a (Nat.le_refl _) (by have := k.2.1; omega)] at this; cases this
  | lo, (a, n) :: L, [], h, k => by
    have := k a h.1 (by have := h.2.1; have := h.2.2.1; omega)
    rw [h.2.2.2.2.1 a (Nat.le_refl _) (by have := h.2.1; omega)] at this; cases this
  | lo, (a, n) :: L, (c, d) :: K, h, k => by
    obtain ⟨h1, h2, h3, h4, h5, h6, h7⟩ := h
    obtain ⟨k1, k2, k3, k4, k5, k6, k7⟩ := k
    have e1 : a = c := by
      rcases Nat.lt_trichotomy a c with h | h | h
      · have := k4 a h1 h; rw [h5 a (Nat.le_refl _) (by omega)] at this; cases this
      · exact h
      · have := h4 c k1 h; rw [k5 c (Nat.le_refl _) (by omega)] at this; cases this
    subst e1
    have e2 : n = d := by
      rcases Nat.lt_trichotomy n d with h | h | h
      · have := h6 (by omega); rw [k5 (a + n) (by omega) (by omega)] at this; cases this
      · exact h
      · have := k6 (by omega); rw [h5 (a + d) (by omega) (by omega)] at this; cases this
    subst e2
    rw [IsRuns.unique h7 k7]
/-- The last one ends at b. -/
def endsAt (L : List (Nat × Nat)) (b : Nat) : Prop := ∃ x, L.getLast? = some x ∧ x.1 + x.2 = b
theorem endsAt_nil (b : Nat) : ¬ endsAt [] b := fun ⟨x, h, _⟩ => by cases h
theorem endsAt_cons {x : Nat × Nat} {L : List (Nat × Nat)} {b : Nat} (hL : L ≠ []) : endsAt (x :: L) b ↔ endsAt L b := by
  unfold endsAt
  obtain ⟨y, L', rfl⟩ : ∃ y L', L = y :: L' := by cases L with
    | nil => exact absurd rfl hL
    | cons y L' => exact ⟨y, L', rfl⟩
  simp [List.getLast?_cons_cons]
theorem endsAt_one {x : Nat × Nat} {b : Nat} : endsAt [x] b ↔ x.1 + x.2 = b := by unfold endsAt; simp
theorem IsRuns.ext_false {p : Nat → Bool} {m : Nat} (hp : p m = false) : ∀ {lo : Nat} {L : List (Nat × Nat)}, IsRuns p m lo L → IsRuns p (m + 1) lo L
  | lo, [], h => fun b h1 h2 => by
    by_cases e : b = m
    · subst e; exact hp
    · exact h b h1 (by omega)
  | lo, (a, n) :: L, ⟨h1, h2, h3, h4, h5, h6, h7⟩ => ⟨h1, h2, by omega, h4, h5, fun hh => by
    by_cases e : a + n = m
    · rw [e]; exact hp
    · exact h6 (by omega), IsRuns.ext_false hp h7⟩
theorem IsRuns.ext_new {p : Nat → Bool} {m : Nat} (hp : p m = true) : ∀ {lo : Nat} {L : List (Nat × Nat)}, lo ≤ m → ¬ endsAt L m → IsRuns p m lo L → IsRuns p (m + 1) lo (L ++ [(m, 1)])
  | lo, [], hlo, _, h => ⟨hlo, by omega, by omega, fun b h1 h2 => h b h1 h2, fun b h1 h2 => by rw [show b = m by omega]; exact hp, fun h => by omega, fun b h1 h2 => by omega⟩
  | lo, (a, n) :: L, hlo, he, ⟨h1, h2, h3, h4, h5, h6, h7⟩ => by
    have hne : a + n < m := by
      by_cases e : a + n = m
      · exfalso
        cases L with
        | nil => exact he (endsAt_one.2 e)
        | cons y L' => have := h7.1; have := h7.2.1; have := h7.2.2.1; omega
      · omega
    refine ⟨h1, h2, by omega, h4, h5, fun _ => h6 hne, IsRuns.ext_new hp h3 (fun hh => he ?_) h7⟩
    cases L with
    | nil => exact absurd hh (endsAt_nil _)
    | cons y L' => exact (endsAt_cons (by simp)).2 hh
theorem IsRuns.ext_bump {p : Nat → Bool} {m : Nat} (hp : p m = true) {a n : Nat} (he : a + n = m) : ∀ {lo : Nat} {L : List (Nat × Nat)}, IsRuns p m lo (L ++ [(a, n)]) → IsRuns p (m + 1) lo (L ++ [(a, n + 1)])
  | lo, [], ⟨h1, h2, h3, h4, h5, h6, h7⟩ => ⟨h1, by omega, by omega, h4, fun b k1 k2 => by
    by_cases e : b = m
    · subst e; exact hp
    · exact h5 b k1 (by omega), fun h => by omega, fun b k1 k2 => by omega⟩
  | lo, (c, d) :: L, ⟨h1, h2, h3, h4, h5, h6, h7⟩ => by
    have hlt : c + d < m := by
      have := IsRuns.ge h7
      omega
    exact ⟨h1, h2, by omega, h4, h5, fun _ => h6 hlt, IsRuns.ext_bump hp he h7⟩
where IsRuns.ge {p : Nat → Bool} {m : Nat} {a n : Nat} : ∀ {lo : Nat} {L : List (Nat × Nat)}, IsRuns p m lo (L ++ [(a, n)]) → lo + 1 ≤ a + n
  | lo, [], ⟨h1, h2, _⟩ => by omega
  | lo, (c, d) :: L, ⟨h1, h2, h3, h4, h5, h6, h7⟩ => by have := IsRuns.ge h7; omega
/-- Byte by byte. -/
def bump (L : List (Nat × Nat)) : List (Nat × Nat) := match L.getLast? with | some x => L.dropLast ++ [(x.1, x.2 + 1)] | none => L
def rst (p : Nat → Bool) : Nat → List (Nat × Nat) × Bool
  | 0 => ([], false)
  | b + 1 => if p b then (if (rst p b).2 then bump (rst p b).1 else (rst p b).1 ++ [(b, 1)], true) else ((rst p b).1, false)
def runs (p : Nat → Bool) (m : Nat) : List (Nat × Nat) := (rst p m).1
theorem rst_snd (p : Nat → Bool) (b : Nat) : (rst p (b + 1)).2 = p b := by
  unfold rst; cases h : p b <;> simp
theorem endsAt_snoc {L : List (Nat × Nat)} {x : Nat × Nat} {b : Nat} : endsAt (L ++ [x]) b ↔ x.1 + x.2 = b := by unfold endsAt; simp
theorem bump_snoc (L : List (Nat × Nat)) (x : Nat × Nat) : bump (L ++ [x]) = L ++ [(x.1, x.2 + 1)] := by unfold bump; simp
theorem rst_ok (p : Nat → Bool) : ∀ b, IsRuns p b 0 (rst p b).1 ∧ ((rst p b).2 = true ↔ endsAt (rst p b).1 b)
  | 0 => ⟨fun b h1 h2 => by omega, by simp [rst, endsAt]⟩
  | b + 1 => by
    obtain ⟨h1, h2⟩ := rst_ok p b
    unfold rst
    cases hp : p b
    · simp only [Bool.false_eq_true, if_false]
      refine ⟨h1.ext_false hp, ?_⟩
      simp only [false_iff]
      rintro ⟨x, hx, he⟩
      obtain ⟨L, hL⟩ : ∃ L, (rst p b).1 = L ++ [x] := by
        have := List.getLast?_eq_some_iff.1 hx
        obtain ⟨ys, hy⟩ := this
        exact ⟨ys, hy⟩
      have : ∀ {lo : Nat} {L : List (Nat × Nat)} {x : Nat × Nat}, IsRuns p b lo (L ++ [x]) → x.1 + x.2 ≤ b := by
        intro lo L x
        induction L generalizing lo with
        | nil => intro h; exact h.2.2.1
        | cons y L ih => intro h; exact ih h.2.2.2.2.2.2
      rw [hL] at h1
      have := this h1
      omega
    · simp only [if_true]
      cases hg : (rst p b).2
      · simp only [Bool.false_eq_true, if_false]
        have hn : ¬ endsAt (rst p b).1 b := fun h => by rw [h2.2 h] at hg; cases hg
        exact ⟨IsRuns.ext_new hp (by omega) hn h1, by simp [endsAt_snoc]⟩
      · simp only [if_true]
        obtain ⟨x, hx, he⟩ := h2.1 hg
        obtain ⟨L, hL⟩ := List.getLast?_eq_some_iff.1 hx
        rw [hL] at h1 ⊢
        rw [bump_snoc]
        exact ⟨IsRuns.ext_bump hp he h1, by simp [endsAt_snoc]; omega⟩
theorem runs_ok (p : Nat → Bool) (m : Nat) : IsRuns p m 0 (runs p m) := (rst_ok p m).1
/-- Region by region, sorted by where they begin. -/
def gstep (m : Nat) (s : Nat × List (Nat × Nat)) (r : Reg) : Nat × List (Nat × Nat) :=
  if r.size = 0 then s else (max s.1 (r.base + r.size), if s.1 < min r.base m then s.2 ++ [(s.1, min r.base m - s.1)] else s.2)
def gaps (m : Nat) (rs : List Reg) : Nat × List (Nat × Nat) := rs.foldl (gstep m) (0, [])
theorem gstep_out (m : Nat) (a : Nat) (o : List (Nat × Nat)) : ∀ rs : List Reg, (rs.foldl (gstep m) (a, o)).2 = o ++ (rs.foldl (gstep m) (a, [])).2
  | [] => by simp
  | r :: rs => by
    simp only [List.foldl_cons]
    have h1 : gstep m (a, o) r = ((gstep m (a, []) r).1, o ++ (gstep m (a, []) r).2) := by
      unfold gstep
      split
      · simp
      · simp only; split <;> simp
    rw [h1, gstep_out m _ _ rs]
    have := gstep_out m (gstep m (a, []) r).1 (gstep m (a, []) r).2 rs
    rw [show ((gstep m (a, []) r).1, (gstep m (a, []) r).2) = gstep m (a, []) r from rfl] at this
    rw [this, List.append_assoc]
theorem IsRuns.lower {p : Nat → Bool} {m lo lo' : Nat} {L : List (Nat × Nat)} (hl : lo' ≤ lo) (hf : ∀ b, lo' ≤ b → b < lo → b < m → p b = false) (h : IsRuns p m lo L) : IsRuns p m lo' L := by
  cases L with
  | nil => intro b h1 h2
           by_cases e : b < lo
           · exact hf b h1 e h2
           · exact h b (by omega) h2
  | cons x L =>
    obtain ⟨h1, h2, h3, h4, h5, h6, h7⟩ := h
    exact ⟨by omega, h2, h3, fun b k1 k2 => by
      by_cases e : b < lo
      · exact hf b k1 e (by omega)
      · exact h4 b (by omega) k2, h5, h6, h7⟩
/-- What is free from a on, when the regions rs are still to come. -/
theorem gaps_go (m : Nat) (p : Nat → Bool) : ∀ (rs : List Reg) (a : Nat), rs.Pairwise (fun x y => x.base ≤ y.base) → (∀ b, a ≤ b → b < m → p b = !rs.any fun r => r.has b) →
    IsRuns p m a ((rs ++ [(⟨m, 1, 0⟩ : Reg)]).foldl (gstep m) (a, [])).2
  | [], a, _, hp => by
    simp only [List.nil_append, List.foldl_cons, List.foldl_nil, gstep, Nat.one_ne_zero, if_false, Nat.min_self]
    by_cases e : a < m
    · rw [if_pos e]
      show IsRuns p m a [(a, m - a)]
      exact ⟨Nat.le_refl _, by omega, by omega, fun b h1 h2 => by omega, fun b h1 h2 => by rw [hp b h1 (by omega)]; rfl, fun h => by omega, fun b h1 h2 => by omega⟩
    · rw [if_neg e]
      exact fun b h1 h2 => by omega
  | r :: rs, a, hs, hp => by
    rw [List.pairwise_cons] at hs
    obtain ⟨hs1, hs2⟩ := hs
    simp only [List.cons_append, List.foldl_cons]
    by_cases hz : r.size = 0
    · rw [show gstep m (a, []) r = (a, []) by unfold gstep; rw [if_pos hz]]
      refine gaps_go m p rs a hs2 (fun b h1 h2 => ?_)
      rw [hp b h1 h2, List.any_cons, show r.has b = false by unfold Reg.has; simp; omega, Bool.false_or]
    · have key : ∀ b, max a (r.base + r.size) ≤ b → b < m → p b = !rs.any fun r => r.has b := fun b h1 h2 => by
        rw [hp b (by omega) h2, List.any_cons, show r.has b = false by unfold Reg.has; simp; omega, Bool.false_or]
      have ih := gaps_go m p rs (max a (r.base + r.size)) hs2 key
      have cov : ∀ b, a ≤ b → r.base ≤ b → b < r.base + r.size → b < m → p b = false := fun b h0 h1 h2 h3 => by
        rw [hp b h0 h3, List.any_cons, show r.has b = true by unfold Reg.has; simp; omega]; rfl
      by_cases ht : a < min r.base m
      · rw [show gstep m (a, []) r = (max a (r.base + r.size), [(a, min r.base m - a)]) by unfold gstep; rw [if_neg hz, if_pos ht]; rfl]
        rw [gstep_out]
        refine ⟨Nat.le_refl _, by omega, by omega, fun b h1 h2 => by omega, fun b h1 h2 => ?_, fun h => ?_, ?_⟩
        · rw [hp b h1 (by omega), List.any_cons, show r.has b = false by unfold Reg.has; simp; omega, Bool.false_or]
          have : (rs.any fun r => r.has b) = false := by
            rw [List.any_eq_false]
            intro y hy
            have := hs1 y hy
            unfold Reg.has; simp; omega
          rw [this]; rfl
        · exact cov _ (by omega) (by omega) (by omega) h
        · exact ih.lower (by omega) (fun b h1 h2 h3 => cov b (by omega) (by omega) (by omega) h3)
      · rw [show gstep m (a, []) r = (max a (r.base + r.size), []) by unfold gstep; rw [if_neg hz, if_neg ht]]
        exact ih.lower (by omega) (fun b h1 h2 h3 => cov b h1 (by omega) (by omega) h3)
/-- Free bytes. -/
def freeB (L : Nat → Reg) (len b : Nat) : Bool := !(List.range len).any fun i => (L i).has b
def frees (L : Nat → Reg) (len m : Nat) : List (Nat × Nat) := if 262144 < m then [] else runs (freeB L len) m
theorem gaps_eq (L : Nat → Reg) (len m : Nat) (rs : List Reg) (hs : rs.Pairwise (fun x y => x.base ≤ y.base)) (hp : rs.Perm ((List.range len).map L)) : (gaps m (rs ++ [(⟨m, 1, 0⟩ : Reg)])).2 = runs (freeB L len) m := by
  refine (gaps_go m (freeB L len) rs 0 hs (fun b _ _ => ?_)).unique (runs_ok _ _)
  unfold freeB
  congr 1
  rw [hp.any_eq, List.any_map]
  rfl
end Go.Proofs.Yteekneicahfkpaa
