/- The walk of HealthTable. -/
import Derived.Test.YtfbbmapihgepmaaHeaKnown
namespace Go.Proofs.Ytfbbmapihgepmaa
open Go.RowKit
set_option linter.unusedVariables false
/-- What an event comes to, whatever its partition. -/
def HMon.ev (S : HMon) (p : Int) (kind : Nat) : Nat × Int × HMon :=
  if S.there p = false then (0, 4, S) else if S.runs p = false then (0, 6, S) else ((S.l p.toNat).act kind, 0, S.event p.toNat kind)
/-- The monitor's numbers fit. -/
structure Fits (S : HMon) (k : Nat) : Prop where
  n8 : S.n ≤ 8
  d : ∀ i, i < S.n → (S.l i).d.trap < 256 ∧ (S.l i).d.over < 256 ∧ (S.l i).d.lim < 256
  rs : ∀ i, i < S.n → (S.l i).rs ≤ k
theorem event_gen (g : Nat) (S : HMon) (p : Int) (kind k : Nat) (r1 r2 r3 : Value) (w : World) (h : MonAt w g S) (hf : Fits S k) (hk : kind < 256) (hkk : k < 1000000) :
    Calls Try.prog 10 #[.pointer (some ⟨g, 0, none⟩), .int .i64 p, .agg #[.int .u8 (kind : Int), r1, r2, r3]] w fun e w' => e = .returned (.tuple #[.int .u8 ((S.ev p kind).1 : Int), .int .i64 (S.ev p kind).2.1]) ∧ MonAt w' g (S.ev p kind).2.2 ∧ w.grownBy w' (some g) := by
  cases ht : S.there p with
  | false =>
    have e : S.ev p kind = (0, 4, S) := by unfold HMon.ev; rw [if_pos ht]
    rw [e]
    exact (event_none g S p _ r1 r2 r3 w h hf.n8 ht).mono fun _ _ ⟨h1, h2⟩ => ⟨h1, h.below h2, grown_of_below h2 _⟩
  | true =>
    cases hr : S.runs p with
    | false =>
      have e : S.ev p kind = (0, 6, S) := by unfold HMon.ev; rw [if_neg (by rw [ht]; simp), if_pos hr]
      rw [e]
      exact (event_state g S p _ r1 r2 r3 w h hf.n8 ht hr).mono fun _ _ ⟨h1, h2⟩ => ⟨h1, h.below h2, grown_of_below h2 _⟩
    | true =>
      have e : S.ev p kind = ((S.l p.toNat).act kind, 0, S.event p.toNat kind) := by unfold HMon.ev; rw [if_neg (by rw [ht]; simp), if_neg (by rw [hr]; simp)]
      rw [e]
      obtain ⟨i, rfl, hi⟩ := there_nat ht
      rw [Int.toNat_natCast]
      have hd := hf.d i hi
      have := hf.rs i hi
      exact event_runs g S i kind r1 r2 r3 w h hf.n8 hr hk hd.1 hd.2.1 hd.2.2 (by omega)
theorem event_cases (S : HMon) (i kind : Nat) : (S.event i kind = S.setPart i { S.l i with halted := true } ∧ (S.l i).act kind = 1) ∨ (S.event i kind = S.setPart i { S.l i with rs := (S.l i).rs + 1 } ∧ (S.l i).act kind = 2) ∨ (S.event i kind = { S with safe := true } ∧ (S.l i).act kind = 3) ∨ S.event i kind = S := by
  unfold HMon.event
  by_cases h1 : (S.l i).act kind = 1
  · left; simp [h1]
  · by_cases h2 : (S.l i).act kind = 2
    · right; left; simp [h2]
    · by_cases h3 : (S.l i).act kind = 3
      · right; right; left; simp [h3]
      · right; right; right; simp [h1, h2, h3]
theorem ev_cases (S : HMon) (p : Int) (kind : Nat) : ((S.ev p kind).2.2 = S) ∨ (∃ i, i < S.n ∧ p = (i : Int) ∧ (S.ev p kind).2.2 = S.event i kind) := by
  unfold HMon.ev
  cases ht : S.there p with
  | false => left; simp
  | true =>
    cases hr : S.runs p with
    | false => left; simp
    | true =>
      right
      obtain ⟨i, rfl, hi⟩ := there_nat ht
      exact ⟨i, hi, rfl, by simp⟩
theorem Fits.ev {S : HMon} {k : Nat} (h : Fits S k) (p : Int) (kind : Nat) : Fits (S.ev p kind).2.2 (k + 1) := by
  rcases ev_cases S p kind with e | ⟨i, hi, _, e⟩
  · rw [e]; exact ⟨h.n8, h.d, fun i hi => by have := h.rs i hi; omega⟩
  · rw [e]
    rcases event_cases S i kind with ⟨e, _⟩ | ⟨e, _⟩ | ⟨e, _⟩ | e
    all_goals rw [e]
    · refine ⟨h.n8, fun j hj => ?_, fun j hj => ?_⟩
      · simp only [HMon.setPart]; split
        · rename_i hji; subst hji; exact h.d j hj
        · exact h.d j hj
      · simp only [HMon.setPart]
        have := h.rs j hj
        split
        · rename_i hji; subst hji; show (S.l j).rs ≤ k + 1; omega
        · omega
    · refine ⟨h.n8, fun j hj => ?_, fun j hj => ?_⟩
      · simp only [HMon.setPart]; split
        · rename_i hji; subst hji; exact h.d j hj
        · exact h.d j hj
      · simp only [HMon.setPart]
        have := h.rs j hj
        split
        · rename_i hji; subst hji; show (S.l j).rs + 1 ≤ k + 1; omega
        · omega
    · exact ⟨h.n8, h.d, fun j hj => by have := h.rs j hj; show (S.l j).rs ≤ _; omega⟩
    · exact ⟨h.n8, h.d, fun j hj => by have := h.rs j hj; omega⟩
/-- May a row make the system safe? -/
def mayB (D : Nat → HDef) : Nat → Bool
  | 0 => false
  | n + 1 => mayB D n || decide ((D n).trap = 3) || decide ((D n).over = 3)
theorem mayB_of {D : Nat → HDef} {i n : Nat} (h : i < n) (hd : (D i).trap = 3 ∨ (D i).over = 3) : mayB D n = true := by
  induction n with
  | zero => omega
  | succ n ih =>
    show (mayB D n || decide ((D n).trap = 3) || decide ((D n).over = 3)) = true
    by_cases e : i = n
    · subst e; rcases hd with h | h <;> simp [h]
    · rw [ih (by omega)]; rfl
structure TInv (D : Nat → HDef) (len : Nat) (S : HMon) : Prop where
  n : S.n = len
  d : ∀ i, i < len → (S.l i).d = D i
  safe : S.safe = true → mayB D len = true
  lim : ∀ i, i < len → 0 < (D i).lim → (S.l i).rs ≤ (D i).lim
theorem TInv.ev {D : Nat → HDef} {len : Nat} {S : HMon} (h : TInv D len S) (p : Int) (kind : Nat) : TInv D len (S.ev p kind).2.2 := by
  rcases ev_cases S p kind with e | ⟨i, hi, _, e⟩
  · rw [e]; exact h
  · rw [e]
    have hi' : i < len := by rw [← h.n]; exact hi
    rcases event_cases S i kind with ⟨e, _⟩ | ⟨e, ha⟩ | ⟨e, ha⟩ | e
    all_goals rw [e]
    · refine ⟨h.n, fun j hj => ?_, h.safe, fun j hj hl => ?_⟩
      · simp only [HMon.setPart]; split
        · rename_i hji; subst hji; exact h.d j hj
        · exact h.d j hj
      · simp only [HMon.setPart]; split
        · rename_i hji; subst hji; exact h.lim j hj hl
        · exact h.lim j hj hl
    · refine ⟨h.n, fun j hj => ?_, h.safe, fun j hj hl => ?_⟩
      · simp only [HMon.setPart]; split
        · rename_i hji; subst hji; exact h.d j hj
        · exact h.d j hj
      · simp only [HMon.setPart]; split
        · rename_i hji; subst hji
          unfold HPart.act at ha
          rw [h.d j hj] at ha
          show (S.l j).rs + 1 ≤ _
          split at ha
          · omega
          · rename_i hn
            have : ¬ (D j).lim ≤ (S.l j).rs := fun hc => hn ⟨ha, hl, hc⟩
            omega
        · exact h.lim j hj hl
    · refine ⟨h.n, h.d, fun _ => ?_, h.lim⟩
      have : (S.l i).raw kind = 3 := by
        unfold HPart.act at ha
        split at ha
        · omega
        · exact ha
      unfold HPart.raw at this
      rw [h.d i hi'] at this
      apply mayB_of hi'
      split at this
      · exact .inl this
      · split at this
        · exact .inr this
        · omega
    · exact h
/-- An event that is no trap and no overrun has nothing done. -/
theorem ev_idle (S : HMon) (p : Int) (kind : Nat) (h3 : kind ≠ 3) (h4 : kind ≠ 4) : (S.ev p kind).1 = 0 := by
  unfold HMon.ev
  split
  · rfl
  · split
    · rfl
    · show HPart.act _ kind = 0
      unfold HPart.act HPart.raw
      simp [h3, h4]
end Go.Proofs.Ytfbbmapihgepmaa
