/- RightsWhole: plain. -/
import Derived.Test.YteekneicahfkpaaRigSm
import Derived.Test.YteekneicahfkpaaRigN
import Derived.Test.YteekneicahfkpaaRigRd
namespace Go.Proofs.Yteekneicahfkpaa
open Go.RowKit Go.Shelf
set_option linter.unusedVariables false
def inG (at_ : Nat) (g : Nat × Nat) : Bool := decide (g.1 ≤ at_) && decide (at_ < g.1 + g.2)
/-- How many of the first x have the byte; where the last of them ends. -/
def cntG (G : List (Nat × Nat)) (at_ x : Nat) : Nat := (G.take x).countP (inG at_)
def lastG (G : List (Nat × Nat)) (x : Nat) : Nat := match (G.take x).getLast? with | some g => g.1 + g.2 | none => 0
theorem cntG_zero (G : List (Nat × Nat)) (at_ : Nat) : cntG G at_ 0 = 0 := by simp [cntG]
theorem lastG_zero (G : List (Nat × Nat)) : lastG G 0 = 0 := by simp [lastG]
theorem cntG_succ {G : List (Nat × Nat)} {at_ x : Nat} {g : Nat × Nat} (h : G[x]? = some g) : cntG G at_ (x + 1) = cntG G at_ x + (if inG at_ g then 1 else 0) := by
  unfold cntG
  rw [List.take_add_one, h, List.countP_append]
  simp [List.countP_cons]
theorem lastG_succ {G : List (Nat × Nat)} {x : Nat} {g : Nat × Nat} (h : G[x]? = some g) : lastG G (x + 1) = g.1 + g.2 := by
  unfold lastG
  rw [List.take_add_one, h]
  simp
theorem cntG_le (G : List (Nat × Nat)) (at_ x : Nat) : cntG G at_ x ≤ x := by
  unfold cntG
  refine Nat.le_trans List.countP_le_length ?_
  simp; omega
/-- What is told of each stretch. -/
theorem runs_sep {p : Nat → Bool} {m : Nat} : ∀ {lo : Nat} {L : List (Nat × Nat)} (x : Nat) (g : Nat × Nat), IsRuns p m lo L → L[x]? = some g → 0 < g.2 ∧ g.1 + g.2 ≤ m ∧ (x = 0 → lo ≤ g.1) ∧ (0 < x → lastG L x < g.1)
  | lo, [], x, g, _, hx => by simp at hx
  | lo, (a, n) :: L, 0, g, ⟨h1, h2, h3, _⟩, hx => by
    simp at hx; subst hx
    exact ⟨h2, h3, fun _ => h1, fun h => by omega⟩
  | lo, (a, n) :: L, x + 1, g, ⟨h1, h2, h3, h4, h5, h6, h7⟩, hx => by
    simp at hx
    obtain ⟨k1, k2, k3, k4⟩ := runs_sep x g h7 hx
    refine ⟨k1, k2, fun h => by omega, fun _ => ?_⟩
    cases x with
    | zero =>
      have hl : lastG ((a, n) :: L) (0 + 1) = a + n := lastG_succ (g := (a, n)) (by simp)
      rw [hl]
      have := k3 rfl
      by_cases e : a + n = g.1
      · exfalso
        have hf := h6 (by omega)
        cases L with
        | nil => simp at hx
        | cons y L' =>
          simp at hx; subst hx
          have := h7.2.2.2.2.1 y.1 (Nat.le_refl _) (by have := h7.2.1; omega)
          rw [e] at hf; rw [hf] at this; cases this
      · omega
    | succ x =>
      have : lastG ((a, n) :: L) (x + 1 + 1) = lastG L (x + 1) := by
        unfold lastG
        rw [List.take_succ_cons]
        have hne : L.take (x + 1) ≠ [] := by
          intro h
          have : (L.take (x + 1)).length = 0 := by rw [h]; rfl
          rw [List.length_take] at this
          have hl : x + 1 < L.length := by
            by_cases e : x + 1 < L.length
            · exact e
            · rw [List.getElem?_eq_none (by omega)] at hx; cases hx
          omega
        obtain ⟨y, T, hT⟩ := List.exists_cons_of_ne_nil hne
        rw [hT, List.getLast?_cons_cons]
      rw [this]
      exact k4 (by omega)
theorem runs_cnt {p : Nat → Bool} {m at_ : Nat} (hm : at_ < m) : ∀ {lo : Nat} {L : List (Nat × Nat)}, IsRuns p m lo L → L.countP (inG at_) = if lo ≤ at_ ∧ p at_ = true then 1 else 0
  | lo, [], h => by
    rw [if_neg]
    · rfl
    · rintro ⟨h1, h2⟩
      rw [h at_ h1 hm] at h2; cases h2
  | lo, (a, n) :: L, ⟨h1, h2, h3, h4, h5, h6, h7⟩ => by
    rw [List.countP_cons, runs_cnt hm h7]
    by_cases c1 : at_ < a
    · have hin : inG at_ (a, n) = false := by unfold inG; simp; omega
      have e1 : ¬ (a + n ≤ at_ ∧ p at_ = true) := fun h => by have := h.1; omega
      have e2 : ¬ (lo ≤ at_ ∧ p at_ = true) := fun h => by have := h4 at_ h.1 c1; rw [h.2] at this; cases this
      simp only [hin, if_neg e1, if_neg e2, Bool.false_eq_true, if_false]
    · by_cases c2 : at_ < a + n
      · have hin : inG at_ (a, n) = true := by unfold inG; simp; omega
        have e1 : ¬ (a + n ≤ at_ ∧ p at_ = true) := fun h => by have := h.1; omega
        have e2 : lo ≤ at_ ∧ p at_ = true := ⟨by omega, h5 at_ (by omega) c2⟩
        simp only [hin, if_neg e1, if_pos e2, if_true]
      · have hin : inG at_ (a, n) = false := by unfold inG; simp; omega
        by_cases c3 : p at_ = true
        · have e1 : a + n ≤ at_ ∧ p at_ = true := ⟨by omega, c3⟩
          have e2 : lo ≤ at_ ∧ p at_ = true := ⟨by omega, c3⟩
          simp only [hin, if_pos e1, if_pos e2, Bool.false_eq_true, if_false]
        · have e1 : ¬ (a + n ≤ at_ ∧ p at_ = true) := fun h => c3 h.2
          have e2 : ¬ (lo ≤ at_ ∧ p at_ = true) := fun h => c3 h.2
          simp only [hin, if_neg e1, if_neg e2, Bool.false_eq_true, if_false]
theorem cnt_all (L : Nat → Reg) (len m at_ : Nat) (hm : m ≤ 262144) (h : at_ < m) : cntG (frees L len m) at_ (frees L len m).length = if freeB L len at_ then 1 else 0 := by
  unfold cntG frees
  rw [if_neg (by omega), List.take_length, runs_cnt h (runs_ok (freeB L len) m)]
  by_cases c : freeB L len at_ = true
  · rw [if_pos ⟨Nat.zero_le _, c⟩, if_pos c]
  · rw [if_neg (fun h => c h.2), if_neg c]
theorem sep_all (L : Nat → Reg) (len m : Nat) (hm : m ≤ 262144) (x : Nat) (g : Nat × Nat) (h : (frees L len m)[x]? = some g) : 0 < g.2 ∧ g.1 + g.2 ≤ m ∧ (0 < x → lastG (frees L len m) x < g.1) := by
  have e : frees L len m = runs (freeB L len) m := by unfold frees; rw [if_neg (by omega)]
  rw [e] at h ⊢
  obtain ⟨h1, h2, _, h4⟩ := runs_sep x g (runs_ok (freeB L len) m) h
  exact ⟨h1, h2, h4⟩
theorem over_byte (r : Reg) (at_ : Nat) : r.over ⟨at_, 1, 1⟩ = r.has at_ := by
  unfold Reg.over Reg.has
  rw [← Bool.decide_and, ← Bool.decide_and, ← Bool.decide_and, ← Bool.decide_and]
  exact decide_eq_decide.2 (by simp; omega)
def ownedQ (L : Nat → Reg) (q at_ : Nat) : Bool := (List.range q).any fun i => (L i).has at_
theorem ownedQ_succ (L : Nat → Reg) (q at_ : Nat) : ownedQ L (q + 1) at_ = (ownedQ L q at_ || (L q).has at_) := by
  unfold ownedQ; rw [List.range_succ, List.any_append]; simp
end Go.Proofs.Yteekneicahfkpaa
