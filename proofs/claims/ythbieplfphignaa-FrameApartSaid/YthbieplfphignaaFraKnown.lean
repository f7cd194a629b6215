/- The chapter's rows. -/
import Derived.Test.YthbieplfphignaaFraDef
namespace Go.Proofs.Ythbieplfphignaa
open Go.RowKit Go.Shelf
set_option linter.unusedVariables false
/-- A row of numbers of one's own: where it lies, and what stands there. -/
theorem rowNat {W : World} {base : Nat} {v : Value} {l : List Nat} (h : W.ownsRow base 3 1 v l.length (natVs l)) (hp : 0 < l.length) :
    ∃ o c, v = .slice (some ⟨o, 0, none⟩) l.length c ∧ o < W.heap.size ∧ l.length ≤ c ∧ c ≤ maxLen ∧ ∀ i, (hi : i < l.length) → W.cell? ⟨o, i, none⟩ = some (.int .i64 (l[i] : Int)) := by
  rcases h.2 with ⟨_, h0⟩ | ⟨o, c, cur, rfl, ho, hh, hcap, hcm, hcs, htk⟩
  · omega
  · refine ⟨o, c, rfl, heap_lt hh, hcap, hcm, fun i hi => ?_⟩
    have g1 : (natVs l)[i]? = some (.int .i64 (l[i] : Int)) := by simp [natVs, hi]
    rw [← htk, List.getElem?_take, if_pos (by omega)] at g1
    exact cell_row hh (by simpa using g1)
set_option maxHeartbeats 8000000 in
theorem known_any (w : World) : Calls Try.prog 7 #[] w fun e W' => e = .returned (.bool true) ∧ Below w.heap.size w W' := by
  have V1 : Hid (chkV (defS 58) 100 2 2 2 = 0) := by show _ = _; decide
  have V2 : Hid (chkV (defS 58) 100 2 2 1 = 2) := by show _ = _; decide
  have V3 : Hid (chkV (defS 59) 100 2 2 2 = 170) := by show _ = _; decide
  have V4 : Hid (beginI 100 (defS 58) 2 3 1 = 340) := by show _ = _; decide
  have V5 : Hid (loadM 2 (defS 58) 2 = 82) := by show _ = _; decide
  have V6 : Hid (ofL (defS 58) 0 2 = [1]) := by show _ = _; decide
  have C1 : Hid (∀ a W, SlotsAt W a 2 (defS 58) → Calls Try.prog 13 #[.agg #[.int .u32 100, .int .u32 2, .slice a 2 2], .int .i64 2] W fun e W' => e = .returned (.int .i64 0) ∧ Below W.heap.size W W') := fun a W hS => by
    have := check_any 100 2 a 2 2 (defS 58) 2 W (by omega) (by omega) (by omega) (by omega) (by omega) hS
    rw [V1.out] at this; exact this
  have C2 : Hid (∀ a W, SlotsAt W a 2 (defS 58) → Calls Try.prog 13 #[.agg #[.int .u32 100, .int .u32 2, .slice a 2 2], .int .i64 1] W fun e W' => e = .returned (.int .i64 2) ∧ Below W.heap.size W W') := fun a W hS => by
    have := check_any 100 2 a 2 2 (defS 58) 1 W (by omega) (by omega) (by omega) (by omega) (by omega) hS
    rw [V2.out] at this; exact this
  have C3 : Hid (∀ a W, SlotsAt W a 2 (defS 59) → Calls Try.prog 13 #[.agg #[.int .u32 100, .int .u32 2, .slice a 2 2], .int .i64 2] W fun e W' => e = .returned (.int .i64 170) ∧ Below W.heap.size W W') := fun a W hS => by
    have := check_any 100 2 a 2 2 (defS 59) 2 W (by omega) (by omega) (by omega) (by omega) (by omega) hS
    rw [V3.out] at this; exact this
  have C4 : Hid (∀ a W, SlotsAt W a 2 (defS 58) → Calls Try.prog 15 #[.agg #[.int .u32 100, .int .u32 2, .slice a 2 2], .int .u64 3, .int .i64 1] W fun e W' => e = .returned (.int .u64 340) ∧ Below W.heap.size W W') := fun a W hS => by
    have := begin_any 100 2 a 2 2 (defS 58) 3 1 W (by omega) (by omega) (by omega) hS
    rw [V4.out] at this; exact this
  have C5 : Hid (∀ a W, SlotsAt W a 2 (defS 58) → Calls Try.prog 17 #[.agg #[.int .u32 100, .int .u32 2, .slice a 2 2]] W fun e W' => e = .returned (.int .u32 82) ∧ Below W.heap.size W W') := fun a W hS => by
    have := load_any 100 2 a 2 2 (defS 58) W (by omega) (by omega) hS
    rw [V5.out] at this; exact this
  have C6 : Hid (∀ a W, SlotsAt W a 2 (defS 58) → Calls Try.prog 11 #[.agg #[.int .u32 100, .int .u32 2, .slice a 2 2], .int .i64 0] W fun e W' => ∃ o c, e = .returned (.slice (some ⟨o, 0, none⟩) 1 c) ∧ o < W'.heap.size ∧ 1 ≤ c ∧ W'.cell? ⟨o, 0, none⟩ = some (.int .i64 1) ∧ Below W.heap.size W W') := fun a W hS => by
    refine (of_any 100 2 a 2 2 (defS 58) 0 W (by omega) hS).mono ?_
    rintro e W' ⟨v, rfl, hO, hB⟩
    rw [V6.out] at hO
    obtain ⟨o, c, rfl, ho, hc, _, hcell⟩ := rowNat hO (by simp)
    exact ⟨o, c, rfl, ho, hc, hcell 0 (by simp), hB⟩
  have A1 : Hid (∀ W, Calls Try.prog 21 #[.int .u64 339, .int .u64 3, .int .i64 0] W fun e W' => e = .returned (.bool true) ∧ Below W.heap.size W W') := fun W => atk_any 339 3 0 W (by omega) (by decide) (by decide)
  have A2 : Hid (∀ W, Calls Try.prog 21 #[.int .u64 340, .int .u64 3, .int .i64 1] W fun e W' => e = .returned (.bool true) ∧ Below W.heap.size W W') := fun W => atk_any 340 3 1 W (by omega) (by decide) (by decide)
  have A3 : Hid (∀ W, Calls Try.prog 21 #[.int .u64 305, .int .u64 3, .int .i64 (-1)] W fun e W' => e = .returned (.bool true) ∧ Below W.heap.size W W') := fun W => atk_any 305 3 (-1) W (by omega) (by decide) (by decide)
  have D8 : Hid (∀ W, Calls Try.prog 20 #[.int .u32 58] W fun e W' => ∃ a, e = .returned (.agg #[.int .u32 100, .int .u32 2, .slice a 2 2]) ∧ SlotsAt W' a 2 (defS 58) ∧ Below W.heap.size W W') := fun W => def_any 58 W (by omega)
  have D9 : Hid (∀ W, Calls Try.prog 20 #[.int .u32 59] W fun e W' => ∃ a, e = .returned (.agg #[.int .u32 100, .int .u32 2, .slice a 2 2]) ∧ SlotsAt W' a 2 (defS 59) ∧ Below W.heap.size W W') := fun W => def_any 59 W (by omega)
  clear V1 V2 V3 V4 V5 V6
  go_enter Try.func7, Try.ntmps7
  go_wp2_with fail
  refine (D8.out _).mono ?_
  rintro e W1 ⟨a, rfl, hS, hB⟩
  have hS := Lib.hid hS
  have B1 : Hid (Below w.heap.size w W1) := hB
  clear hB
  go_wp2_with fail
  refine (C6.out _ _ hS.out).mono ?_
  rintro e W2 ⟨o, c, rfl, ho, hc, hcell, hB⟩
  have B2 : Hid (Below w.heap.size w W2) := B1.out.trans (hB.mono B1.out.size)
  clear hB
  have K2 : Hid (o < W2.heap.size ∧ W2.cell? ⟨o, 0, none⟩ = some (.int .i64 1)) := ⟨ho, hcell⟩
  clear ho hcell hS
  go_wp2_with fail
  refine (D8.out _).mono ?_
  rintro e W3 ⟨a, rfl, hS, hB⟩
  have hS := Lib.hid hS
  have B3 : Hid (Below w.heap.size w W3) := B2.out.trans (hB.mono B2.out.size)
  have K3 : Hid (o < W3.heap.size ∧ W3.cell? ⟨o, 0, none⟩ = some (.int .i64 1)) := ⟨Nat.lt_of_lt_of_le K2.out.1 hB.size, (hB.cell K2.out.1).trans K2.out.2⟩
  clear K2
  clear hB
  go_wp2_with fail
  refine (C1.out _ _ hS.out).mono ?_
  rintro e W4 ⟨rfl, hB⟩
  have B4 : Hid (Below w.heap.size w W4) := B3.out.trans (hB.mono B3.out.size)
  have K4 : Hid (o < W4.heap.size ∧ W4.cell? ⟨o, 0, none⟩ = some (.int .i64 1)) := ⟨Nat.lt_of_lt_of_le K3.out.1 hB.size, (hB.cell K3.out.1).trans K3.out.2⟩
  clear K3
  clear hB
  clear hS
  go_wp2_with fail
  refine (D8.out _).mono ?_
  rintro e W5 ⟨a, rfl, hS, hB⟩
  have hS := Lib.hid hS
  have B5 : Hid (Below w.heap.size w W5) := B4.out.trans (hB.mono B4.out.size)
  have K5 : Hid (o < W5.heap.size ∧ W5.cell? ⟨o, 0, none⟩ = some (.int .i64 1)) := ⟨Nat.lt_of_lt_of_le K4.out.1 hB.size, (hB.cell K4.out.1).trans K4.out.2⟩
  clear K4
  clear hB
  go_wp2_with fail
  refine (C2.out _ _ hS.out).mono ?_
  rintro e W6 ⟨rfl, hB⟩
  have B6 : Hid (Below w.heap.size w W6) := B5.out.trans (hB.mono B5.out.size)
  have K6 : Hid (o < W6.heap.size ∧ W6.cell? ⟨o, 0, none⟩ = some (.int .i64 1)) := ⟨Nat.lt_of_lt_of_le K5.out.1 hB.size, (hB.cell K5.out.1).trans K5.out.2⟩
  clear K5
  clear hB
  clear hS
  go_wp2_with fail
  refine (D9.out _).mono ?_
  rintro e W7 ⟨a, rfl, hS, hB⟩
  have hS := Lib.hid hS
  have B7 : Hid (Below w.heap.size w W7) := B6.out.trans (hB.mono B6.out.size)
  have K7 : Hid (o < W7.heap.size ∧ W7.cell? ⟨o, 0, none⟩ = some (.int .i64 1)) := ⟨Nat.lt_of_lt_of_le K6.out.1 hB.size, (hB.cell K6.out.1).trans K6.out.2⟩
  clear K6
  clear hB
  go_wp2_with fail
  refine (C3.out _ _ hS.out).mono ?_
  rintro e W8 ⟨rfl, hB⟩
  have B8 : Hid (Below w.heap.size w W8) := B7.out.trans (hB.mono B7.out.size)
  have K8 : Hid (o < W8.heap.size ∧ W8.cell? ⟨o, 0, none⟩ = some (.int .i64 1)) := ⟨Nat.lt_of_lt_of_le K7.out.1 hB.size, (hB.cell K7.out.1).trans K7.out.2⟩
  clear K7
  clear hB
  clear hS
  go_wp2_with fail
  refine (D8.out _).mono ?_
  rintro e W9 ⟨a, rfl, hS, hB⟩
  have hS := Lib.hid hS
  have B9 : Hid (Below w.heap.size w W9) := B8.out.trans (hB.mono B8.out.size)
  have K9 : Hid (o < W9.heap.size ∧ W9.cell? ⟨o, 0, none⟩ = some (.int .i64 1)) := ⟨Nat.lt_of_lt_of_le K8.out.1 hB.size, (hB.cell K8.out.1).trans K8.out.2⟩
  clear K8
  clear hB
  go_wp2_with fail
  refine (C4.out _ _ hS.out).mono ?_
  rintro e W10 ⟨rfl, hB⟩
  have B10 : Hid (Below w.heap.size w W10) := B9.out.trans (hB.mono B9.out.size)
  have K10 : Hid (o < W10.heap.size ∧ W10.cell? ⟨o, 0, none⟩ = some (.int .i64 1)) := ⟨Nat.lt_of_lt_of_le K9.out.1 hB.size, (hB.cell K9.out.1).trans K9.out.2⟩
  clear K9
  clear hB
  clear hS
  go_wp2_with fail
  refine (A1.out _).mono ?_
  rintro e W11 ⟨rfl, hB⟩
  have B11 : Hid (Below w.heap.size w W11) := B10.out.trans (hB.mono B10.out.size)
  have K11 : Hid (o < W11.heap.size ∧ W11.cell? ⟨o, 0, none⟩ = some (.int .i64 1)) := ⟨Nat.lt_of_lt_of_le K10.out.1 hB.size, (hB.cell K10.out.1).trans K10.out.2⟩
  clear K10
  clear hB
  go_wp2_with fail
  refine (A2.out _).mono ?_
  rintro e W12 ⟨rfl, hB⟩
  have B12 : Hid (Below w.heap.size w W12) := B11.out.trans (hB.mono B11.out.size)
  have K12 : Hid (o < W12.heap.size ∧ W12.cell? ⟨o, 0, none⟩ = some (.int .i64 1)) := ⟨Nat.lt_of_lt_of_le K11.out.1 hB.size, (hB.cell K11.out.1).trans K11.out.2⟩
  clear K11
  clear hB
  go_wp2_with fail
  refine (A3.out _).mono ?_
  rintro e W13 ⟨rfl, hB⟩
  have B13 : Hid (Below w.heap.size w W13) := B12.out.trans (hB.mono B12.out.size)
  have K13 : Hid (o < W13.heap.size ∧ W13.cell? ⟨o, 0, none⟩ = some (.int .i64 1)) := ⟨Nat.lt_of_lt_of_le K12.out.1 hB.size, (hB.cell K12.out.1).trans K12.out.2⟩
  clear K12
  clear hB
  go_wp2_with fail
  refine (D8.out _).mono ?_
  rintro e W14 ⟨a, rfl, hS, hB⟩
  have hS := Lib.hid hS
  have B14 : Hid (Below w.heap.size w W14) := B13.out.trans (hB.mono B13.out.size)
  have K14 : Hid (o < W14.heap.size ∧ W14.cell? ⟨o, 0, none⟩ = some (.int .i64 1)) := ⟨Nat.lt_of_lt_of_le K13.out.1 hB.size, (hB.cell K13.out.1).trans K13.out.2⟩
  clear K13
  clear hB
  go_wp2_with fail
  refine (C5.out _ _ hS.out).mono ?_
  rintro e W15 ⟨rfl, hB⟩
  have B15 : Hid (Below w.heap.size w W15) := B14.out.trans (hB.mono B14.out.size)
  have K15 : Hid (o < W15.heap.size ∧ W15.cell? ⟨o, 0, none⟩ = some (.int .i64 1)) := ⟨Nat.lt_of_lt_of_le K14.out.1 hB.size, (hB.cell K14.out.1).trans K14.out.2⟩
  clear K14
  clear hB
  clear hS
  have hc0 := K15.out.2
  go_wp2_with fail
  go_ret
  exact ⟨rfl, B15.out⟩
end Go.Proofs.Ythbieplfphignaa
