/- The plain law of HealthOwn: what becomes of a partition hangs on its own events alone. -/
import Derived.Test.YtfbbmapihgepmaaHeaTabE
namespace Go.Proofs.Ytfbbmapihgepmaa
theorem event_n (S : HMon) (i kind : Nat) : (S.event i kind).n = S.n := by
  rcases event_cases S i kind with ⟨e, _⟩ | ⟨e, _⟩ | ⟨e, _⟩ | e <;> rw [e] <;> rfl
theorem ev_n (S : HMon) (p : Int) (kind : Nat) : (S.ev p kind).2.2.n = S.n := by
  rcases ev_cases S p kind with e | ⟨i, _, _, e⟩ <;> rw [e]
  exact event_n S i kind
theorem ev_safe (S : HMon) (p : Int) (kind : Nat) (h : S.safe = true) : (S.ev p kind).2.2 = S ∧ ((S.ev p kind).2.1 == 0) = false := by
  have hr : S.runs p = false := by simp [HMon.runs, h]
  unfold HMon.ev
  rw [if_pos hr]
  split <;> exact ⟨rfl, rfl⟩
theorem ev_runs (S : HMon) (p Q : Int) (kind : Nat) (h : S.runs Q = false) : (S.ev p kind).2.2.runs Q = false := by
  rcases ev_cases S p kind with e | ⟨i, hi, _, e⟩
  · rw [e]; exact h
  · rw [e]
    have ht : ∀ S' : HMon, S'.n = S.n → S'.there Q = S.there Q := fun S' hn => by unfold HMon.there; rw [hn]
    unfold HMon.runs at h ⊢
    rw [ht _ (event_n S i kind)]
    cases hq : S.there Q with
    | false => rfl
    | true =>
      rw [hq] at h
      simp only [Bool.true_and] at h ⊢
      rcases event_cases S i kind with ⟨e, _⟩ | ⟨e, _⟩ | ⟨e, _⟩ | e
      all_goals rw [e]
      · simp only [HMon.setPart]
        by_cases hc : Q.toNat = i
        · simp [hc]
        · rw [if_neg hc]; exact h
      · simp only [HMon.setPart]
        by_cases hc : Q.toNat = i
        · rw [if_pos hc]; rw [← hc]; exact h
        · rw [if_neg hc]; exact h
      · simp
      · exact h
structure OInv (Q : Int) (len : Nat) (S O : HMon) : Prop where
  nS : S.n = len
  nO : O.n = len
  safe : S.safe = false → O.safe = false
  part : ∀ i : Nat, i < len → Q = (i : Int) → S.l i = O.l i
theorem OInv.there {Q : Int} {len : Nat} {S O : HMon} (h : OInv Q len S O) (p : Int) : S.there p = O.there p := by unfold HMon.there; rw [h.nS, h.nO]
theorem OInv.rst {Q : Int} {len : Nat} {S O : HMon} (h : OInv Q len S O) : S.rst Q = O.rst Q := by
  unfold HMon.rst
  rw [h.there Q]
  cases hq : O.there Q with
  | false => rfl
  | true =>
    obtain ⟨i, rfl, hi⟩ := there_nat hq
    rw [Int.toNat_natCast, h.part i (by rw [← h.nO]; exact hi) rfl]
theorem OInv.runs {Q : Int} {len : Nat} {S O : HMon} (h : OInv Q len S O) (hs : S.safe = false) : S.runs Q = O.runs Q := by
  unfold HMon.runs
  rw [h.there Q, hs, h.safe hs]
  cases hq : O.there Q with
  | false => rfl
  | true =>
    obtain ⟨i, rfl, hi⟩ := there_nat hq
    rw [Int.toNat_natCast, h.part i (by rw [← h.nO]; exact hi) rfl]
theorem OInv.own {Q : Int} {len : Nat} {S O : HMon} (h : OInv Q len S O) (hs : S.safe = false) (kind : Nat) :
    (S.ev Q kind).1 = (O.ev Q kind).1 ∧ (S.ev Q kind).2.1 = (O.ev Q kind).2.1 ∧ OInv Q len (S.ev Q kind).2.2 (O.ev Q kind).2.2 := by
  have hr := h.runs hs
  have ht := h.there Q
  unfold HMon.ev
  rw [hr, ht]
  cases hq : O.there Q with
  | false => exact ⟨rfl, rfl, h⟩
  | true =>
    cases hR : O.runs Q with
    | false => exact ⟨rfl, rfl, h⟩
    | true =>
      obtain ⟨i, rfl, hi⟩ := there_nat hq
      rw [Int.toNat_natCast]
      have hi' : i < len := by rw [← h.nO]; exact hi
      have hp := h.part i hi' rfl
      refine ⟨by simp [hp], by simp, ?_⟩
      show OInv (i : Int) len (S.event i kind) (O.event i kind)
      refine ⟨(event_n S i kind).trans h.nS, (event_n O i kind).trans h.nO, ?_, ?_⟩
      · unfold HMon.event
        rw [hp]
        split
        · exact h.safe
        · split
          · exact h.safe
          · split
            · intro h; cases h
            · exact h.safe
      · intro j hj hq
        have : j = i := by omega
        subst this
        unfold HMon.event
        rw [hp]
        split
        · simp [HMon.setPart]
        · split
          · simp [HMon.setPart]
          · split <;> exact hp
theorem OInv.other {Q : Int} {len : Nat} {S O : HMon} (h : OInv Q len S O) (p : Int) (kind : Nat) (hp : p ≠ Q ∨ S.safe = true) : OInv Q len (S.ev p kind).2.2 O := by
  rcases ev_cases S p kind with e | ⟨i, hi, rfl, e⟩
  · rw [e]; exact h
  · by_cases hs : S.safe = true
    · rw [(ev_safe S i kind hs).1]; exact h
    · rw [e]
      have hne : (i : Int) ≠ Q := by rcases hp with h | h; exact h; exact absurd h hs
      have hsf : S.safe = false := by simpa using hs
      refine ⟨(event_n S i kind).trans h.nS, h.nO, fun _ => h.safe hsf, fun j hj hq => ?_⟩
      have hji : j ≠ i := by omega
      rcases event_cases S i kind with ⟨e, _⟩ | ⟨e, _⟩ | ⟨e, _⟩ | e
      all_goals rw [e]
      · simp only [HMon.setPart, if_neg hji]; exact h.part j hj hq
      · simp only [HMon.setPart, if_neg hji]; exact h.part j hj hq
      · exact h.part j hj hq
      · exact h.part j hj hq
end Go.Proofs.Ytfbbmapihgepmaa
