/- HealthOwn, whole. -/
import Derived.Test.YtfbbmapihgepmaaHeaOwnM
namespace Go.Proofs.Ytfbbmapihgepmaa
open Go.RowKit
set_option linter.unusedVariables false
set_option maxHeartbeats 1000000 in
theorem own_big (a : Option Addr) (len cap : Nat) (s : Option Addr) (n scap : Nat) (Q : Int) (w : World) (hm : len ≤ 9223372036854775807) (hm2 : n ≤ 9223372036854775807) (h : 100 < len ∨ 500 < n) :
    Calls Try.prog 4 #[.slice a len cap, .slice s n scap, .int .i64 Q] w fun e w' => e = .returned (.bool true) ∧ Below w.heap.size w w' := by
  by_cases q : 100 < len
  · have t1 : decide (100 < (len : Int)) = true := by simp; omega
    clear h
    go_enter Try.func4, Try.ntmps4
    go_wp2_with fail
    refine (known_any _).mono ?_
    rintro e w1 ⟨rfl, hb1⟩
    have B1 := Lib.hid hb1; clear hb1
    go_wp2_with fail
    go_ret
    exact ⟨rfl, B1.out⟩
  · have t1 : decide (100 < (len : Int)) = false := by simp; omega
    have t2 : decide (500 < (n : Int)) = true := by simp; omega
    clear h
    go_enter Try.func4, Try.ntmps4
    go_wp2_with fail
    refine (known_any _).mono ?_
    rintro e w1 ⟨rfl, hb1⟩
    have B1 := Lib.hid hb1; clear hb1
    go_wp2_with fail
    go_ret
    exact ⟨rfl, B1.out⟩
set_option maxHeartbeats 1000000 in
theorem own_bad (a : Option Addr) (len cap : Nat) (s : Option Addr) (n scap : Nat) (Q : Int) (D : Nat → HDef) (w : World) (hl : len ≤ 100) (hn : n ≤ 500) (hD : DefsAt w a len D) (hc : checkV D len = 2) :
    Calls Try.prog 4 #[.slice a len cap, .slice s n scap, .int .i64 Q] w fun e w' => e = .returned (.bool true) ∧ Below w.heap.size w w' := by
  have HD := Lib.hid hD; have HCV := Lib.hid hc
  have t1 : decide (100 < (len : Int)) = false := by simp; omega
  have t2 : decide (500 < (n : Int)) = false := by simp; omega
  clear hD hc
  go_enter Try.func4, Try.ntmps4
  go_wp2_with fail
  refine (known_any _).mono ?_
  rintro e w1 ⟨rfl, hb1⟩
  have B1 := Lib.hid hb1; clear hb1
  go_wp2_with fail
  refine (new_bad a len cap D _ (by omega) (HD.out.below B1.out) HCV.out).mono ?_
  rintro e w2 ⟨rfl, hB⟩
  have B2 : Hid (Below w.heap.size w w2) := B1.out.trans (hB.mono B1.out.size)
  clear hB
  go_wp2_with fail
  refine (new_bad a len cap D _ (by omega) (HD.out.below B2.out) HCV.out).mono ?_
  rintro e w3 ⟨rfl, hB⟩
  have B3 : Hid (Below w.heap.size w w3) := B2.out.trans (hB.mono B2.out.size)
  clear hB
  go_wp2_with fail
  go_ret
  exact ⟨rfl, B3.out⟩
theorem own_walk (a : Option Addr) (len cap : Nat) (s : Option Addr) (n scap : Nat) (Q : Int) (w : World) (h1 : ReadsC w 22 [.slice a len cap]) (h2 : ReadsC w 23 [.slice s n scap]) (h3 : (Lit.int .i64 Q).wf = true) :
    Calls Try.prog 4 #[.slice a len cap, .slice s n scap, .int .i64 Q] w fun e w' => e = .returned (.bool true) ∧ Below w.heap.size w w' := by
  obtain ⟨hl, hm, D, hD⟩ := reads_defs h1
  obtain ⟨hl2, hm2, L, hL⟩ := reads_dos h2
  obtain ⟨q0, q1⟩ := bounds_i64 h3
  unfold maxLen at hm hm2
  by_cases h : 100 < len ∨ 500 < n
  · exact own_big a len cap s n scap Q w (by omega) (by omega) h
  · rcases check_cases D len with hc | ⟨hc, h8⟩
    · exact own_bad a len cap s n scap Q D w (by omega) (by omega) hD hc
    · exact own_good a len cap s n scap Q D L w h8 (by omega) q0 q1 hD hL hc
end Go.Proofs.Ytfbbmapihgepmaa
