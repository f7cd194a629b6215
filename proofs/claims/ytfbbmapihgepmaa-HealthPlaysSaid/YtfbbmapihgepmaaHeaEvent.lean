/- What an event comes to. -/
import Derived.Test.YtfbbmapihgepmaaHeaBase
namespace Go.Proofs.Ytfbbmapihgepmaa
open Go.RowKit
set_option linter.unusedVariables false
/-- What is done with a partition. -/
def HPart.raw (p : HPart) (kind : Nat) : Nat := if kind = 3 then p.d.trap else if kind = 4 then p.d.over else 0
def HPart.act (p : HPart) (kind : Nat) : Nat := if p.raw kind = 2 ∧ 0 < p.d.lim ∧ p.d.lim ≤ p.rs then 1 else p.raw kind
def HMon.setPart (S : HMon) (i : Nat) (p : HPart) : HMon := { S with l := fun j => if j = i then p else S.l j }
def HMon.event (S : HMon) (i kind : Nat) : HMon :=
  if (S.l i).act kind = 1 then S.setPart i { S.l i with halted := true }
  else if (S.l i).act kind = 2 then S.setPart i { S.l i with rs := (S.l i).rs + 1 }
  else if (S.l i).act kind = 3 then { S with safe := true } else S
theorem MonAt.setHalted {w : World} {g : Nat} {S : HMon} (h : MonAt w g S) (i : Nat) (hi : i < 8) : MonAt (w.setCell ⟨g, i * 5 + 3, none⟩ (.bool true)) g (S.setPart i { S.l i with halted := true }) := by
  refine h.set (i * 5 + 3) _ (by omega) fun j hj => ?_
  by_cases e : j = i * 5 + 3
  · subst e; rw [if_pos rfl, monV_part _ i 3 hi (by omega)]; simp [HMon.setPart, partV]
  · rw [if_neg e]
    unfold monV
    by_cases e1 : j = 40
    · simp [e1, HMon.setPart]
    · by_cases e2 : j = 41
      · simp [e2, HMon.setPart]
      · rw [if_neg e1, if_neg e2, if_neg e1, if_neg e2]
        unfold HMon.setPart
        by_cases e3 : j / 5 = i
        · have e4 : j % 5 ≠ 3 := by omega
          simp [e3, partV, e4]
        · simp [e3]
theorem MonAt.setRs {w : World} {g : Nat} {S : HMon} (h : MonAt w g S) (i n : Nat) (hi : i < 8) : MonAt (w.setCell ⟨g, i * 5 + 4, none⟩ (.int .u32 (n : Int))) g (S.setPart i { S.l i with rs := n }) := by
  refine h.set (i * 5 + 4) _ (by omega) fun j hj => ?_
  by_cases e : j = i * 5 + 4
  · subst e; rw [if_pos rfl, monV_part _ i 4 hi (by omega)]; simp [HMon.setPart, partV]
  · rw [if_neg e]
    unfold monV
    by_cases e1 : j = 40
    · simp [e1, HMon.setPart]
    · by_cases e2 : j = 41
      · simp [e2, HMon.setPart]
      · rw [if_neg e1, if_neg e2, if_neg e1, if_neg e2]
        unfold HMon.setPart
        by_cases e3 : j / 5 = i
        · have e4 : j % 5 = 0 ∨ j % 5 = 1 ∨ j % 5 = 2 ∨ j % 5 = 3 := by omega
          rcases e4 with e4 | e4 | e4 | e4 <;> simp [e3, partV, e4]
        · simp [e3]
theorem heap_drewN (w : World) (n : Nat) : (w.drewN n).heap = w.heap := rfl
theorem MonAt.drewN {w : World} {g : Nat} {S : HMon} {n : Nat} (h : MonAt w g S) : MonAt (w.drewN n) g S := h
theorem grown_drewN {a w : World} {r : Option Nat} {n : Nat} (h : a.grownBy w r) : a.grownBy (w.drewN n) r := ⟨h.os, h.tape, h.output, h.size, h.block⟩
theorem event_nil (p : Int) (r0 r1 r2 r3 : Value) (w : World) : Calls Try.prog 10 #[.pointer none, .int .i64 p, .agg #[r0, r1, r2, r3]] w fun e w' => e = .returned (.tuple #[.int .u8 0, .int .i64 1]) ∧ Below w.heap.size w w' := by
  go_enter Try.func10, Try.ntmps10
  go_wp2_with fail
  go_ret2
  exact ⟨rfl, (Below.refl _ _).alloc (Nat.le_refl _) _⟩
set_option maxHeartbeats 1000000 in
theorem event_none (g : Nat) (S : HMon) (p : Int) (r0 r1 r2 r3 : Value) (w : World) (h : MonAt w g S) (hn8 : S.n ≤ 8) (ht : S.there p = false) : Calls Try.prog 10 #[.pointer (some ⟨g, 0, none⟩), .int .i64 p, .agg #[r0, r1, r2, r3]] w fun e w' => e = .returned (.tuple #[.int .u8 0, .int .i64 4]) ∧ Below w.heap.size w w' := by
  have HC := fun w' (h : MonAt w' g S) => there_any g S p w' h
  rw [ht] at HC
  have HC := Lib.hid HC
  have H := Lib.hid h
  clear ht h
  go_enter Try.func10, Try.ntmps10
  go_wp2_with fail
  refine (HC.out _ (H.out.below ((Below.refl _ _).alloc (Nat.le_refl _) _))).mono ?_
  rintro e w1 ⟨rfl, rfl⟩
  go_wp2_with fail
  go_ret2
  exact ⟨rfl, (Below.refl _ _).alloc (Nat.le_refl _) _⟩
set_option maxHeartbeats 1000000 in
theorem event_state (g : Nat) (S : HMon) (p : Int) (r0 r1 r2 r3 : Value) (w : World) (h : MonAt w g S) (hn8 : S.n ≤ 8) (ht : S.there p = true) (hr : S.runs p = false) : Calls Try.prog 10 #[.pointer (some ⟨g, 0, none⟩), .int .i64 p, .agg #[r0, r1, r2, r3]] w fun e w' => e = .returned (.tuple #[.int .u8 0, .int .i64 6]) ∧ Below w.heap.size w w' := by
  have HC := fun w' (h : MonAt w' g S) => there_any g S p w' h
  rw [ht] at HC
  have HD := fun w' (h : MonAt w' g S) => runs_any g S p w' h hn8
  rw [hr] at HD
  have HC := Lib.hid HC
  have HD := Lib.hid HD
  have H := Lib.hid h
  clear ht h hr
  go_enter Try.func10, Try.ntmps10
  go_wp2_with fail
  refine (HC.out _ (H.out.below ((Below.refl _ _).alloc (Nat.le_refl _) _))).mono ?_
  rintro e w1 ⟨rfl, rfl⟩
  go_wp2_with fail
  refine (HD.out _ (H.out.below ((Below.refl _ _).alloc (Nat.le_refl _) _))).mono ?_
  rintro e w1 ⟨rfl, rfl⟩
  go_wp2_with fail
  go_ret2
  exact ⟨rfl, (Below.refl _ _).alloc (Nat.le_refl _) _⟩
set_option maxHeartbeats 4000000 in
theorem event_runs (g : Nat) (S : HMon) (i kind : Nat) (r1 r2 r3 : Value) (w : World) (h : MonAt w g S) (hn8 : S.n ≤ 8) (hr : S.runs (i : Int) = true) (hk : kind < 256)
    (ht : (S.l i).d.trap < 256) (ho : (S.l i).d.over < 256) (hl : (S.l i).d.lim < 256) (hrs : (S.l i).rs < 1000000) :
    Calls Try.prog 10 #[.pointer (some ⟨g, 0, none⟩), .int .i64 (i : Int), .agg #[.int .u8 (kind : Int), r1, r2, r3]] w fun e w' => e = .returned (.tuple #[.int .u8 ((S.l i).act kind : Nat), .int .i64 0]) ∧ MonAt w' g (S.event i kind) ∧ w.grownBy w' (some g) := by
  have hth : S.there (i : Int) = true := by
    cases hc : S.there (i : Int) with
    | true => rfl
    | false => rw [there_false hc] at hr; cases hr
  have hi : i < S.n := by obtain ⟨j, e, hj⟩ := there_nat hth; omega
  have HC := fun w' (h : MonAt w' g S) => there_any g S (i : Int) w' h
  rw [hth] at HC
  have HD := fun w' (h : MonAt w' g S) => runs_any g S (i : Int) w' h hn8
  rw [hr] at HD
  have HC := Lib.hid HC
  have HD := Lib.hid HD
  clear hth hr
  have hw0 : MonAt (w.alloc (.cells #[.int .u8 (kind : Int), r1, r2, r3] 37)) g S := h.below ((Below.refl _ _).alloc (Nat.le_refl _) _)
  have H0 := Lib.hid hw0
  have c0 : (w.alloc (.cells #[.int .u8 (kind : Int), r1, r2, r3] 37)).cell? ⟨g, i * 5, none⟩ = some (.int .u8 ((S.l i).d.trap : Int)) := hw0.cell i 0 (by omega) (by omega)
  have c1 : (w.alloc (.cells #[.int .u8 (kind : Int), r1, r2, r3] 37)).cell? ⟨g, i * 5 + 1, none⟩ = some (.int .u8 ((S.l i).d.over : Int)) := hw0.cell i 1 (by omega) (by omega)
  have c2 : (w.alloc (.cells #[.int .u8 (kind : Int), r1, r2, r3] 37)).cell? ⟨g, i * 5 + 2, none⟩ = some (.int .u8 ((S.l i).d.lim : Int)) := hw0.cell i 2 (by omega) (by omega)
  have c3 : (w.alloc (.cells #[.int .u8 (kind : Int), r1, r2, r3] 37)).cell? ⟨g, i * 5 + 3, none⟩ = some (.bool (S.l i).halted) := hw0.cell i 3 (by omega) (by omega)
  have c4 : (w.alloc (.cells #[.int .u8 (kind : Int), r1, r2, r3] 37)).cell? ⟨g, i * 5 + 4, none⟩ = some (.int .u32 ((S.l i).rs : Int)) := hw0.cell i 4 (by omega) (by omega)
  have f3 := hw0.free (i * 5 + 3)
  have f4 := hw0.free (i * 5 + 4)
  have f5 := hw0.free 41
  have c5 := hw0.safe
  have i1 : (i : Int) < 8 := by omega
  have HB : Hid (w.grownBy (w.alloc (.cells #[.int .u8 (kind : Int), r1, r2, r3] 37)) (some g)) := grown_of_below ((Below.refl _ _).alloc (Nat.le_refl _) _) _
  have HA : Hid (∀ a, (S.l i).act kind = a → (a = 1 → S.event i kind = S.setPart i { S.l i with halted := true }) ∧ (a = 2 → S.event i kind = S.setPart i { S.l i with rs := (S.l i).rs + 1 }) ∧ (a = 3 → S.event i kind = { S with safe := true }) ∧ (a ≠ 1 → a ≠ 2 → a ≠ 3 → S.event i kind = S)) := by
    intro a ha
    refine ⟨?_, ?_, ?_, ?_⟩
    · rintro rfl; unfold HMon.event; rw [if_pos ha]
    · rintro rfl; unfold HMon.event; rw [if_neg (by omega), if_pos ha]
    · rintro rfl; unfold HMon.event; rw [if_neg (by omega), if_neg (by omega), if_pos ha]
    · intro h1 h2 h3; unfold HMon.event; rw [if_neg (by omega), if_neg (by omega), if_neg (by omega)]
  have HX : Hid ((S.l i).act kind = if (if kind = 3 then (S.l i).d.trap else if kind = 4 then (S.l i).d.over else 0) = 2 ∧ 0 < (S.l i).d.lim ∧ (S.l i).d.lim ≤ (S.l i).rs then 1 else (if kind = 3 then (S.l i).d.trap else if kind = 4 then (S.l i).d.over else 0)) := rfl
  obtain ⟨R, hR⟩ : ∃ R, R = (S.l i).rs := ⟨_, rfl⟩
  have HR := Lib.hid hR
  rw [← hR] at c4 HX hrs
  generalize (S.l i).act kind = act at *
  generalize (S.l i).d.trap = T at *
  generalize (S.l i).d.over = O at *
  generalize (S.l i).d.lim = L at *
  clear h hw0 hR
  have key : (((kind : Int) == 3) = true ∧ act = (if T = 2 ∧ 0 < L ∧ L ≤ R then 1 else T)) ∨ (((kind : Int) == 3) = false ∧ ((kind : Int) == 4) = true ∧ act = (if O = 2 ∧ 0 < L ∧ L ≤ R then 1 else O)) ∨ (((kind : Int) == 3) = false ∧ ((kind : Int) == 4) = false ∧ act = 0) := by
    have hx := HX.out
    by_cases h3 : kind = 3
    · left; subst h3; exact ⟨rfl, by simpa using hx⟩
    · by_cases h4 : kind = 4
      · right; left; subst h4; exact ⟨rfl, rfl, by simpa using hx⟩
      · right; right
        exact ⟨by simp; omega, by simp; omega, by simpa [h3, h4] using hx⟩
  have key2 : ∀ A : Nat, act = (if A = 2 ∧ 0 < L ∧ L ≤ R then 1 else A) → (A = 2 ∧ (decide (0 < (L : Int)) = true ∧ 0 < L) ∧ decide ((L : Int) ≤ (R : Int)) = true ∧ decide (L ≤ R) = true ∧ act = 1) ∨ (A = 2 ∧ (decide (0 < (L : Int)) = true ∧ 0 < L) ∧ decide ((L : Int) ≤ (R : Int)) = false ∧ decide (L ≤ R) = false ∧ act = 2) ∨ (A = 2 ∧ (decide (0 < (L : Int)) = false ∧ L = 0) ∧ decide ((L : Int) ≤ (R : Int)) = decide ((L : Int) ≤ (R : Int)) ∧ decide (L ≤ R) = decide (L ≤ R) ∧ act = 2) ∨ (A = 1 ∧ act = 1) ∨ (A = 3 ∧ act = 3) ∨ (((A : Int) == 2) = false ∧ ((A : Int) == 1) = false ∧ ((A : Int) == 3) = false ∧ act = A) := by
    intro A ha
    by_cases h2 : A = 2
    · by_cases hL : 0 < L
      · by_cases hLR : L ≤ R
        · left; rw [if_pos ⟨h2, hL, hLR⟩] at ha; exact ⟨h2, ⟨by simp; omega, hL⟩, by simp; omega, by simp; omega, ha⟩
        · right; left; rw [if_neg (by omega)] at ha; exact ⟨h2, ⟨by simp; omega, hL⟩, by simp; omega, by simp; omega, by omega⟩
      · right; right; left; rw [if_neg (by omega)] at ha; exact ⟨h2, ⟨by simp; omega, by omega⟩, rfl, rfl, by omega⟩
    · rw [if_neg (by omega)] at ha
      by_cases h1 : A = 1
      · right; right; right; left; omega
      · by_cases h3 : A = 3
        · right; right; right; right; left; omega
        · right; right; right; right; right
          exact ⟨by simp; omega, by simp; omega, by simp; omega, ha⟩
  have K2 := Lib.hid key2
  clear key2 HX
  rcases key with ⟨k3, ha⟩ | ⟨k3, k4, ha⟩ | ⟨k3, k4, ha⟩
  · rcases K2.out T ha with ⟨rfl, ⟨l1, l4⟩, l2, l3, rfl⟩ | ⟨rfl, ⟨l1, l4⟩, l2, l3, rfl⟩ | ⟨rfl, ⟨-, rfl⟩, -, -, rfl⟩ | ⟨rfl, rfl⟩ | ⟨rfl, rfl⟩ | ⟨e1, e2, e3, rfl⟩
    · clear ha K2
      try (have l5 : decide (0 < L) = true := by simpa using l4)
      go_enter Try.func10, Try.ntmps10
      go_wp2_with fail
      refine (HC.out _ H0.out).mono ?_
      rintro e w1 ⟨rfl, rfl⟩
      go_wp2_with fail
      refine (HD.out _ H0.out).mono ?_
      rintro e w1 ⟨rfl, rfl⟩
      go_wp2_with fail
      go_quiet (fail)
      go_wp2_with fail
      go_ret2
      refine ⟨rfl, ?_, ?_⟩
      · rw [(HA.out 1 rfl).1 rfl]
        first | exact (H0.out.setHalted i (by omega)).drewN | exact (H0.out.drewN).setHalted i (by omega)
      · first | exact grown_setCell (grown_drewN HB.out) _ | exact grown_drewN (grown_setCell HB.out _)
    · clear ha K2
      try (have l5 : decide (0 < L) = true := by simpa using l4)
      go_enter Try.func10, Try.ntmps10
      go_wp2_with fail
      refine (HC.out _ H0.out).mono ?_
      rintro e w1 ⟨rfl, rfl⟩
      go_wp2_with fail
      refine (HD.out _ H0.out).mono ?_
      rintro e w1 ⟨rfl, rfl⟩
      go_wp2_with fail
      go_quiet (fail)
      go_wp2_with fail
      go_ret2
      refine ⟨rfl, ?_, ?_⟩
      · rw [(HA.out 2 rfl).2.1 rfl]
        have hrr : ((S.l i).rs + 1 : Nat) = R + 1 := by rw [HR.out]
        rw [hrr]
        first | exact (H0.out.setRs i (R + 1) (by omega)).drewN | exact (H0.out.drewN).setRs i (R + 1) (by omega)
      · first | exact grown_setCell (grown_drewN HB.out) _ | exact grown_drewN (grown_setCell HB.out _)
    · clear ha K2
      try (have l5 : decide (0 < L) = true := by simpa using l4)
      go_enter Try.func10, Try.ntmps10
      go_wp2_with fail
      refine (HC.out _ H0.out).mono ?_
      rintro e w1 ⟨rfl, rfl⟩
      go_wp2_with fail
      refine (HD.out _ H0.out).mono ?_
      rintro e w1 ⟨rfl, rfl⟩
      go_wp2_with fail
      go_quiet (fail)
      go_wp2_with fail
      go_ret2
      refine ⟨rfl, ?_, ?_⟩
      · rw [(HA.out 2 rfl).2.1 rfl]
        have hrr : ((S.l i).rs + 1 : Nat) = R + 1 := by rw [HR.out]
        rw [hrr]
        first | exact (H0.out.setRs i (R + 1) (by omega)).drewN | exact (H0.out.drewN).setRs i (R + 1) (by omega)
      · first | exact grown_setCell (grown_drewN HB.out) _ | exact grown_drewN (grown_setCell HB.out _)
    · clear ha K2
      try (have l5 : decide (0 < L) = true := by simpa using l4)
      go_enter Try.func10, Try.ntmps10
      go_wp2_with fail
      refine (HC.out _ H0.out).mono ?_
      rintro e w1 ⟨rfl, rfl⟩
      go_wp2_with fail
      refine (HD.out _ H0.out).mono ?_
      rintro e w1 ⟨rfl, rfl⟩
      go_wp2_with fail
      go_quiet (fail)
      go_wp2_with fail
      go_ret2
      refine ⟨rfl, ?_, ?_⟩
      · rw [(HA.out 1 rfl).1 rfl]
        first | exact (H0.out.setHalted i (by omega)).drewN | exact (H0.out.drewN).setHalted i (by omega)
      · first | exact grown_setCell (grown_drewN HB.out) _ | exact grown_drewN (grown_setCell HB.out _)
    · clear ha K2
      try (have l5 : decide (0 < L) = true := by simpa using l4)
      go_enter Try.func10, Try.ntmps10
      go_wp2_with fail
      refine (HC.out _ H0.out).mono ?_
      rintro e w1 ⟨rfl, rfl⟩
      go_wp2_with fail
      refine (HD.out _ H0.out).mono ?_
      rintro e w1 ⟨rfl, rfl⟩
      go_wp2_with fail
      go_quiet (fail)
      go_wp2_with fail
      go_ret2
      refine ⟨rfl, ?_, ?_⟩
      · rw [(HA.out 3 rfl).2.2.1 rfl]
        first | exact (H0.out.setSafe true).drewN | exact (H0.out.drewN).setSafe true
      · first | exact grown_setCell (grown_drewN HB.out) _ | exact grown_drewN (grown_setCell HB.out _)
    · clear ha K2
      try (have l5 : decide (0 < L) = true := by simpa using l4)
      go_enter Try.func10, Try.ntmps10
      go_wp2_with fail
      refine (HC.out _ H0.out).mono ?_
      rintro e w1 ⟨rfl, rfl⟩
      go_wp2_with fail
      refine (HD.out _ H0.out).mono ?_
      rintro e w1 ⟨rfl, rfl⟩
      go_wp2_with fail
      go_quiet (fail)
      go_wp2_with fail
      go_ret2
      refine ⟨rfl, ?_, grown_drewN HB.out⟩
      rw [(HA.out _ rfl).2.2.2 (by rintro rfl; simp at e2) (by rintro rfl; simp at e1) (by rintro rfl; simp at e3)]
      exact H0.out.drewN
  · rcases K2.out O ha with ⟨rfl, ⟨l1, l4⟩, l2, l3, rfl⟩ | ⟨rfl, ⟨l1, l4⟩, l2, l3, rfl⟩ | ⟨rfl, ⟨-, rfl⟩, -, -, rfl⟩ | ⟨rfl, rfl⟩ | ⟨rfl, rfl⟩ | ⟨e1, e2, e3, rfl⟩
    · clear ha K2
      try (have l5 : decide (0 < L) = true := by simpa using l4)
      go_enter Try.func10, Try.ntmps10
      go_wp2_with fail
      refine (HC.out _ H0.out).mono ?_
      rintro e w1 ⟨rfl, rfl⟩
      go_wp2_with fail
      refine (HD.out _ H0.out).mono ?_
      rintro e w1 ⟨rfl, rfl⟩
      go_wp2_with fail
      go_quiet (fail)
      go_wp2_with fail
      go_ret2
      refine ⟨rfl, ?_, ?_⟩
      · rw [(HA.out 1 rfl).1 rfl]
        first | exact (H0.out.setHalted i (by omega)).drewN | exact (H0.out.drewN).setHalted i (by omega)
      · first | exact grown_setCell (grown_drewN HB.out) _ | exact grown_drewN (grown_setCell HB.out _)
    · clear ha K2
      try (have l5 : decide (0 < L) = true := by simpa using l4)
      go_enter Try.func10, Try.ntmps10
      go_wp2_with fail
      refine (HC.out _ H0.out).mono ?_
      rintro e w1 ⟨rfl, rfl⟩
      go_wp2_with fail
      refine (HD.out _ H0.out).mono ?_
      rintro e w1 ⟨rfl, rfl⟩
      go_wp2_with fail
      go_quiet (fail)
      go_wp2_with fail
      go_ret2
      refine ⟨rfl, ?_, ?_⟩
      · rw [(HA.out 2 rfl).2.1 rfl]
        have hrr : ((S.l i).rs + 1 : Nat) = R + 1 := by rw [HR.out]
        rw [hrr]
        first | exact (H0.out.setRs i (R + 1) (by omega)).drewN | exact (H0.out.drewN).setRs i (R + 1) (by omega)
      · first | exact grown_setCell (grown_drewN HB.out) _ | exact grown_drewN (grown_setCell HB.out _)
    · clear ha K2
      try (have l5 : decide (0 < L) = true := by simpa using l4)
      go_enter Try.func10, Try.ntmps10
      go_wp2_with fail
      refine (HC.out _ H0.out).mono ?_
      rintro e w1 ⟨rfl, rfl⟩
      go_wp2_with fail
      refine (HD.out _ H0.out).mono ?_
      rintro e w1 ⟨rfl, rfl⟩
      go_wp2_with fail
      go_quiet (fail)
      go_wp2_with fail
      go_ret2
      refine ⟨rfl, ?_, ?_⟩
      · rw [(HA.out 2 rfl).2.1 rfl]
        have hrr : ((S.l i).rs + 1 : Nat) = R + 1 := by rw [HR.out]
        rw [hrr]
        first | exact (H0.out.setRs i (R + 1) (by omega)).drewN | exact (H0.out.drewN).setRs i (R + 1) (by omega)
      · first | exact grown_setCell (grown_drewN HB.out) _ | exact grown_drewN (grown_setCell HB.out _)
    · clear ha K2
      try (have l5 : decide (0 < L) = true := by simpa using l4)
      go_enter Try.func10, Try.ntmps10
      go_wp2_with fail
      refine (HC.out _ H0.out).mono ?_
      rintro e w1 ⟨rfl, rfl⟩
      go_wp2_with fail
      refine (HD.out _ H0.out).mono ?_
      rintro e w1 ⟨rfl, rfl⟩
      go_wp2_with fail
      go_quiet (fail)
      go_wp2_with fail
      go_ret2
      refine ⟨rfl, ?_, ?_⟩
      · rw [(HA.out 1 rfl).1 rfl]
        first | exact (H0.out.setHalted i (by omega)).drewN | exact (H0.out.drewN).setHalted i (by omega)
      · first | exact grown_setCell (grown_drewN HB.out) _ | exact grown_drewN (grown_setCell HB.out _)
    · clear ha K2
      try (have l5 : decide (0 < L) = true := by simpa using l4)
      go_enter Try.func10, Try.ntmps10
      go_wp2_with fail
      refine (HC.out _ H0.out).mono ?_
      rintro e w1 ⟨rfl, rfl⟩
      go_wp2_with fail
      refine (HD.out _ H0.out).mono ?_
      rintro e w1 ⟨rfl, rfl⟩
      go_wp2_with fail
      go_quiet (fail)
      go_wp2_with fail
      go_ret2
      refine ⟨rfl, ?_, ?_⟩
      · rw [(HA.out 3 rfl).2.2.1 rfl]
        first | exact (H0.out.setSafe true).drewN | exact (H0.out.drewN).setSafe true
      · first | exact grown_setCell (grown_drewN HB.out) _ | exact grown_drewN (grown_setCell HB.out _)
    · clear ha K2
      try (have l5 : decide (0 < L) = true := by simpa using l4)
      go_enter Try.func10, Try.ntmps10
      go_wp2_with fail
      refine (HC.out _ H0.out).mono ?_
      rintro e w1 ⟨rfl, rfl⟩
      go_wp2_with fail
      refine (HD.out _ H0.out).mono ?_
      rintro e w1 ⟨rfl, rfl⟩
      go_wp2_with fail
      go_quiet (fail)
      go_wp2_with fail
      go_ret2
      refine ⟨rfl, ?_, grown_drewN HB.out⟩
      rw [(HA.out _ rfl).2.2.2 (by rintro rfl; simp at e2) (by rintro rfl; simp at e1) (by rintro rfl; simp at e3)]
      exact H0.out.drewN
  · clear K2
    go_enter Try.func10, Try.ntmps10
    go_wp2_with fail
    refine (HC.out _ H0.out).mono ?_
    rintro e w1 ⟨rfl, rfl⟩
    go_wp2_with fail
    refine (HD.out _ H0.out).mono ?_
    rintro e w1 ⟨rfl, rfl⟩
    go_wp2_with fail
    go_quiet (fail)
    go_wp2_with fail
    go_ret2
    subst ha
    refine ⟨rfl, ?_, grown_drewN HB.out⟩
    rw [(HA.out 0 rfl).2.2.2 (by omega) (by omega) (by omega)]
    exact H0.out.drewN
end Go.Proofs.Ytfbbmapihgepmaa
