/- HealthTable, whole. -/
import Derived.Test.YtfbbmapihgepmaaHeaTabM
namespace Go.Proofs.Ytfbbmapihgepmaa
open Go.RowKit
set_option linter.unusedVariables false
set_option maxHeartbeats 1000000 in
theorem table_big (a : Option Addr) (len cap : Nat) (s : Option Addr) (n scap : Nat) (w : World) (hm : len ≤ 9223372036854775807) (hm2 : n ≤ 9223372036854775807) (h : 100 < len ∨ 500 < n) :
    Calls Try.prog 5 #[.slice a len cap, .slice s n scap] w fun e w' => e = .returned (.bool true) ∧ Below w.heap.size w w' := by
  by_cases q : 100 < len
  · have t1 : decide (100 < (len : Int)) = true := by simp; omega
    clear h
    go_enter Try.func5, Try.ntmps5
    go_wp2_with fail
    refine (known_any _).mono ?_
    rintro e w1 ⟨rfl, hb1⟩
    have B1 := Lib.hid hb1; clear hb1
    go_wp2_with fail
    go_ret
    exact ⟨rfl, B1.out⟩
  · have t1 : decide (100 < (len : Int)) = false := by simp; omega
    have t2 : decide (500 < (n : Int)) = true := by simp; omega
    clear h
    go_enter Try.func5, Try.ntmps5
    go_wp2_with fail
    refine (known_any _).mono ?_
    rintro e w1 ⟨rfl, hb1⟩
    have B1 := Lib.hid hb1; clear hb1
    go_wp2_with fail
    go_ret
    exact ⟨rfl, B1.out⟩
set_option maxHeartbeats 1000000 in
theorem table_bad (a : Option Addr) (len cap : Nat) (s : Option Addr) (n scap : Nat) (D : Nat → HDef) (w : World) (hl : len ≤ 100) (hn : n ≤ 500) (hD : DefsAt w a len D) (hc : checkV D len = 2) :
    Calls Try.prog 5 #[.slice a len cap, .slice s n scap] w fun e w' => e = .returned (.bool true) ∧ Below w.heap.size w w' := by
  have HD := Lib.hid hD; have HCV := Lib.hid hc
  have t1 : decide (100 < (len : Int)) = false := by simp; omega
  have t2 : decide (500 < (n : Int)) = false := by simp; omega
  clear hD hc
  go_enter Try.func5, Try.ntmps5
  go_wp2_with fail
  refine (known_any _).mono ?_
  rintro e w1 ⟨rfl, hb1⟩
  have B1 := Lib.hid hb1; clear hb1
  go_wp2_with fail
  refine (new_bad a len cap D _ (by omega) (HD.out.below B1.out) HCV.out).mono ?_
  rintro e w2 ⟨rfl, hB⟩
  have B2 : Hid (Below w.heap.size w w2) := B1.out.trans (hB.mono B1.out.size)
  clear hB
  go_wp2_with fail
  go_ret
  exact ⟨rfl, B2.out⟩
theorem check_cases (D : Nat → HDef) (len : Nat) : checkV D len = 2 ∨ (checkV D len = 0 ∧ len ≤ 8) := by
  unfold checkV
  by_cases h : 8 < len ∨ anyBad D len = true
  · left; rw [if_pos h]
  · right; rw [if_neg h]; exact ⟨rfl, by omega⟩
theorem table_walk (a : Option Addr) (len cap : Nat) (s : Option Addr) (n scap : Nat) (w : World) (h1 : ReadsC w 22 [.slice a len cap]) (h2 : ReadsC w 23 [.slice s n scap]) :
    Calls Try.prog 5 #[.slice a len cap, .slice s n scap] w fun e w' => e = .returned (.bool true) ∧ Below w.heap.size w w' := by
  obtain ⟨hl, hm, D, hD⟩ := reads_defs h1
  obtain ⟨hl2, hm2, L, hL⟩ := reads_dos h2
  unfold maxLen at hm hm2
  by_cases h : 100 < len ∨ 500 < n
  · exact table_big a len cap s n scap w (by omega) (by omega) h
  · rcases check_cases D len with hc | ⟨hc, h8⟩
    · exact table_bad a len cap s n scap D w (by omega) (by omega) hD hc
    · exact table_good a len cap s n scap D L w h8 (by omega) hD hL hc
end Go.Proofs.Ytfbbmapihgepmaa
