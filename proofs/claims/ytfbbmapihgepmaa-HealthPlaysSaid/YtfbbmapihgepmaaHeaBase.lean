/- The monitor in memory, and what its small calls return. -/
import Derived.Test.YtfbbmapihgepmaaBase
import Derived.Deep.QuietTactic
import Derived.BigQuiet
import Derived.BigRegion
import Derived.RegionTactic
import Derived.Deep.RegionHeld3
namespace Go.Proofs.Ytfbbmapihgepmaa
open Go.RowKit
set_option linter.unusedVariables false
/-- A row of the table; a partition; a monitor. -/
structure HDef where
  trap : Nat
  over : Nat
  lim : Nat
structure HPart where
  d : HDef
  halted : Bool
  rs : Nat
structure HMon where
  l : Nat → HPart
  n : Nat
  safe : Bool
def partV (p : HPart) (j : Nat) : Value :=
  if j = 0 then .int .u8 (p.d.trap : Int) else if j = 1 then .int .u8 (p.d.over : Int) else if j = 2 then .int .u8 (p.d.lim : Int) else if j = 3 then .bool p.halted else .int .u32 (p.rs : Int)
def monV (S : HMon) (j : Nat) : Value :=
  if j = 40 then .int .i64 (S.n : Int) else if j = 41 then .bool S.safe else partV (S.l (j / 5)) (j % 5)
def monRow (S : HMon) : Array Value := ((List.range 42).map (monV S)).toArray
theorem monRow_size (S : HMon) : (monRow S).size = 42 := by simp [monRow]
theorem monRow_get (S : HMon) (j : Nat) (h : j < 42) : (monRow S)[j]? = some (monV S j) := by simp [monRow, h]
theorem monV_part (S : HMon) (i c : Nat) (hi : i < 8) (hc : c < 5) : monV S (i * 5 + c) = partV (S.l i) c := by
  unfold monV
  rw [if_neg (by omega), if_neg (by omega), show (i * 5 + c) / 5 = i from by omega, show (i * 5 + c) % 5 = c from by omega]
/-- A monitor lies in block g. -/
def MonAt (w : World) (g : Nat) (S : HMon) : Prop := w.heap[g]? = some (.cells (monRow S) 54 (0, 0))
theorem MonAt.cell {w : World} {g : Nat} {S : HMon} (h : MonAt w g S) (i c : Nat) (hi : i < 8) (hc : c < 5) : w.cell? ⟨g, i * 5 + c, none⟩ = some (partV (S.l i) c) := by
  rw [cell_row h (monRow_get S _ (by omega)), monV_part S i c hi hc]
theorem MonAt.n {w : World} {g : Nat} {S : HMon} (h : MonAt w g S) : w.cell? ⟨g, 40, none⟩ = some (.int .i64 (S.n : Int)) := cell_row h (monRow_get S 40 (by omega))
theorem MonAt.safe {w : World} {g : Nat} {S : HMon} (h : MonAt w g S) : w.cell? ⟨g, 41, none⟩ = some (.bool S.safe) := cell_row h (monRow_get S 41 (by omega))
theorem MonAt.free {w : World} {g : Nat} {S : HMon} (h : MonAt w g S) (j : Nat) : w.frozen? ⟨g, j, none⟩ = false := frozen_of_row _ _ _ _ _ h
theorem MonAt.other {w w' : World} {g h : Nat} {S : HMon} (hd : MonAt w g S) (hg : w.grownBy w' (some h)) (hne : g ≠ h) : MonAt w' g S := by
  unfold MonAt at *
  rw [hg.block g (heap_lt hd) (fun e => hne (by simpa using e))]; exact hd
theorem MonAt.idle {w w' : World} {g : Nat} {S : HMon} (hd : MonAt w g S) (hg : w.grownBy w' none) : MonAt w' g S := by
  unfold MonAt at *
  rw [hg.block g (heap_lt hd) (by simp)]; exact hd
theorem MonAt.below {w w' : World} {g : Nat} {S : HMon} (hd : MonAt w g S) (hb : Below w.heap.size w w') : MonAt w' g S := by
  unfold MonAt at *
  rw [hb.block g (heap_lt hd)]; exact hd
theorem monRow_setV (S S' : HMon) (j : Nat) (v : Value) (hj : j < 42) (h : ∀ i, i < 42 → monV S' i = if i = j then v else monV S i) : (monRow S).setIfInBounds j v = monRow S' := by
  apply Array.ext_getElem?
  intro i
  rw [Array.getElem?_setIfInBounds]
  by_cases hi : i < 42
  · rw [monRow_get S' i hi, h i hi]
    by_cases e : j = i
    · subst e; simp [monRow_size, hj]
    · rw [if_neg e, monRow_get S i hi, if_neg (fun h => e h.symm)]
  · have h1 : (monRow S)[i]? = Option.none := by simp [monRow_size]; omega
    have h2 : (monRow S')[i]? = Option.none := by simp [monRow_size]; omega
    rw [if_neg (by omega), h1, h2]
theorem MonAt.set {w : World} {g : Nat} {S S' : HMon} (hm : MonAt w g S) (j : Nat) (v : Value) (hj : j < 42) (h : ∀ i, i < 42 → monV S' i = if i = j then v else monV S i) : MonAt (w.setCell ⟨g, j, none⟩ v) g S' := by
  unfold MonAt
  rw [← monRow_setV S S' j v hj h]
  exact heap_setCell_same _ _ _ _ _ _ hm

/-- Is there a partition? -/
def HMon.there (S : HMon) (p : Int) : Bool := decide (0 ≤ p) && decide (p < (S.n : Int))
theorem there_nil (p : Int) (w : World) : Calls Try.prog 24 #[.pointer none, .int .i64 p] w fun e w' => e = .returned (.bool false) ∧ w = w' := by
  go_enter Try.func24, Try.ntmps24
  go_wp2
  go_ret
  exact ⟨rfl, rfl⟩
theorem there_any (g : Nat) (S : HMon) (p : Int) (w : World) (h : MonAt w g S) : Calls Try.prog 24 #[.pointer (some ⟨g, 0, none⟩), .int .i64 p] w fun e w' => e = .returned (.bool (S.there p)) ∧ w = w' := by
  have hn := h.n
  by_cases h0 : 0 ≤ p
  · by_cases h1 : p < (S.n : Int)
    · have hS : S.there p = true := by simp [HMon.there, h0, h1]
      have t1 : decide (0 ≤ p) = true := by simpa using h0
      have t2 : decide (p < (S.n : Int)) = true := by simpa using h1
      have HS := Lib.hid hS; clear hS h
      go_enter Try.func24, Try.ntmps24
      go_wp2
      go_ret
      exact ⟨by rw [HS.out]; rfl, rfl⟩
    · have hS : S.there p = false := by simp [HMon.there, h0]; omega
      have t1 : decide (0 ≤ p) = true := by simpa using h0
      have t2 : decide (p < (S.n : Int)) = false := by simpa using h1
      have HS := Lib.hid hS; clear hS h
      go_enter Try.func24, Try.ntmps24
      go_wp2
      go_ret
      exact ⟨by rw [HS.out]; rfl, rfl⟩
  · have hS : S.there p = false := by simp [HMon.there]; omega
    have t1 : decide (0 ≤ p) = false := by simpa using h0
    have HS := Lib.hid hS; clear hS h
    go_enter Try.func24, Try.ntmps24
    go_wp2
    go_ret
    exact ⟨by rw [HS.out]; rfl, rfl⟩
theorem runs_nil (p : Int) (w : World) : Calls Try.prog 16 #[.pointer none, .int .i64 p] w fun e w' => e = .returned (.bool false) ∧ w = w' := by
  go_enter Try.func16, Try.ntmps16
  go_wp2_with fail
  refine (there_nil p _).mono ?_
  rintro e w1 ⟨rfl, rfl⟩
  go_wp2_with fail
  go_ret
  exact ⟨rfl, rfl⟩
/-- Does a partition run? -/
def HMon.runs (S : HMon) (p : Int) : Bool := S.there p && !(S.l p.toNat).halted && !S.safe
theorem there_false {S : HMon} {p : Int} (h : S.there p = false) : S.runs p = false := by simp [HMon.runs, h]
theorem there_nat {S : HMon} {p : Int} (h : S.there p = true) : ∃ i : Nat, p = (i : Int) ∧ i < S.n := by
  simp [HMon.there] at h
  exact ⟨p.toNat, by omega, by omega⟩
set_option maxHeartbeats 1000000 in
theorem runs_any (g : Nat) (S : HMon) (p : Int) (w : World) (h : MonAt w g S) (hn8 : S.n ≤ 8) : Calls Try.prog 16 #[.pointer (some ⟨g, 0, none⟩), .int .i64 p] w fun e w' => e = .returned (.bool (S.runs p)) ∧ w = w' := by
  have H := Lib.hid h
  clear h
  cases ht : S.there p with
  | false =>
    have HR := Lib.hid (there_false ht)
    have HC := there_any g S p w H.out
    rw [ht] at HC
    have HC := Lib.hid HC
    clear ht
    go_enter Try.func16, Try.ntmps16
    go_wp2_with fail
    refine HC.out.mono ?_
    rintro e w1 ⟨rfl, rfl⟩
    go_wp2_with fail
    go_ret
    exact ⟨by rw [HR.out]; rfl, rfl⟩
  | true =>
    have HC := there_any g S p w H.out
    rw [ht] at HC
    have HC := Lib.hid HC
    obtain ⟨i, rfl, hi⟩ := there_nat ht
    have hr : S.runs (i : Int) = (!(S.l i).halted && !S.safe) := by simp [HMon.runs, ht]
    have hc : w.cell? ⟨g, i * 5 + 3, none⟩ = some (.bool (S.l i).halted) := H.out.cell i 3 (by omega) (by omega)
    have hs := H.out.safe
    have i1 : (i : Int) < 8 := by omega
    clear ht
    generalize S.runs (i : Int) = r at *
    generalize (S.l i).halted = hh at *
    generalize S.safe = ss at *
    have HR := Lib.hid hr; clear hr
    cases hh <;> cases ss
    all_goals
      go_enter Try.func16, Try.ntmps16
      go_wp2_with fail
      refine HC.out.mono ?_
      rintro e w1 ⟨rfl, rfl⟩
      go_wp2_with fail
      go_ret
      exact ⟨by rw [HR.out]; rfl, rfl⟩
theorem restarts_nil (p : Int) (w : World) : Calls Try.prog 18 #[.pointer none, .int .i64 p] w fun e w' => e = .returned (.int .u32 0) ∧ w = w' := by
  go_enter Try.func18, Try.ntmps18
  go_wp2_with fail
  refine (there_nil p _).mono ?_
  rintro e w1 ⟨rfl, rfl⟩
  go_wp2_with fail
  go_ret
  exact ⟨rfl, rfl⟩
/-- How often a partition was restarted. -/
def HMon.rst (S : HMon) (p : Int) : Nat := if S.there p then (S.l p.toNat).rs else 0
theorem restarts_any (g : Nat) (S : HMon) (p : Int) (w : World) (h : MonAt w g S) (hn8 : S.n ≤ 8) : Calls Try.prog 18 #[.pointer (some ⟨g, 0, none⟩), .int .i64 p] w fun e w' => e = .returned (.int .u32 (S.rst p : Nat)) ∧ w = w' := by
  have H := Lib.hid h
  clear h
  have HC := there_any g S p w H.out
  cases ht : S.there p with
  | false =>
    have hr : S.rst p = 0 := by simp [HMon.rst, ht]
    have HR := Lib.hid hr
    rw [ht] at HC
    have HC := Lib.hid HC
    clear ht hr
    go_enter Try.func18, Try.ntmps18
    go_wp2_with fail
    refine HC.out.mono ?_
    rintro e w1 ⟨rfl, rfl⟩
    go_wp2_with fail
    go_ret
    exact ⟨by rw [HR.out]; rfl, rfl⟩
  | true =>
    rw [ht] at HC
    have HC := Lib.hid HC
    obtain ⟨i, rfl, hi⟩ := there_nat ht
    have hr : S.rst (i : Int) = (S.l i).rs := by simp [HMon.rst, ht]
    have HR := Lib.hid hr
    have hc : w.cell? ⟨g, i * 5 + 4, none⟩ = some (.int .u32 ((S.l i).rs : Int)) := H.out.cell i 4 (by omega) (by omega)
    have i1 : (i : Int) < 8 := by omega
    clear ht hr
    go_enter Try.func18, Try.ntmps18
    go_wp2_with fail
    refine HC.out.mono ?_
    rintro e w1 ⟨rfl, rfl⟩
    go_wp2_with fail
    go_ret
    exact ⟨by rw [HR.out]; rfl, rfl⟩
theorem safe_nil (w : World) : Calls Try.prog 20 #[.pointer none] w fun e w' => e = .returned (.bool false) ∧ w = w' := by
  go_enter Try.func20, Try.ntmps20
  go_wp2
  go_ret
  exact ⟨rfl, rfl⟩
theorem safe_any (g : Nat) (S : HMon) (w : World) (h : MonAt w g S) : Calls Try.prog 20 #[.pointer (some ⟨g, 0, none⟩)] w fun e w' => e = .returned (.bool S.safe) ∧ w = w' := by
  have hs := h.safe
  clear h
  go_enter Try.func20, Try.ntmps20
  go_wp2
  go_ret
  exact ⟨rfl, rfl⟩
theorem fail_nil (w : World) : Calls Try.prog 12 #[.pointer none] w fun e w' => e = .returned (.tuple #[]) ∧ w = w' := by
  go_enter Try.func12, Try.ntmps12
  go_wp2
  go_end0
  exact ⟨rfl, rfl⟩
theorem MonAt.setSafe {w : World} {g : Nat} {S : HMon} (h : MonAt w g S) (b : Bool) : MonAt (w.setCell ⟨g, 41, none⟩ (.bool b)) g { S with safe := b } := by
  refine h.set 41 _ (by omega) fun i hi => ?_
  by_cases e : i = 41
  · subst e; simp [monV]
  · rw [if_neg e]; simp [monV, e]
theorem fail_any (g : Nat) (S : HMon) (w : World) (h : MonAt w g S) : Calls Try.prog 12 #[.pointer (some ⟨g, 0, none⟩)] w fun e w' => e = .returned (.tuple #[]) ∧ MonAt w' g { S with safe := true } ∧ w.grownBy w' (some g) := by
  have hs := h.safe
  have hf := h.free 41
  have H := Lib.hid h
  clear h
  go_enter Try.func12, Try.ntmps12
  go_wp2
  go_end0
  exact ⟨rfl, H.out.setSafe true, grown_setCell (grown_refl _ _) _⟩
end Go.Proofs.Ytfbbmapihgepmaa
