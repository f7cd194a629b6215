/- HealthPlays, whole. -/
import Derived.Test.YtfbbmapihgepmaaHeaPlayM
namespace Go.Proofs.Ytfbbmapihgepmaa
open Go.RowKit
set_option linter.unusedVariables false
set_option maxHeartbeats 1000000 in
theorem plays_big (a : Option Addr) (len cap : Nat) (s : Option Addr) (n scap : Nat) (w : World) (hm : len ≤ 9223372036854775807) (hm2 : n ≤ 9223372036854775807) (h : 100 < len ∨ 500 < n) :
    Calls Try.prog 3 #[.slice a len cap, .slice s n scap] w fun e w' => e = .returned (.bool true) ∧ Below w.heap.size w w' := by
  by_cases q : 100 < len
  · have t1 : decide (100 < (len : Int)) = true := by simp; omega
    clear h
    go_enter Try.func3, Try.ntmps3
    go_wp2_with fail
    refine (known_any _).mono ?_
    rintro e w1 ⟨rfl, hb1⟩
    have B1 := Lib.hid hb1; clear hb1
    go_wp2_with fail
    go_ret
    exact ⟨rfl, B1.out⟩
  · have t1 : decide (100 < (len : Int)) = false := by simp; omega
    have t2 : decide (500 < (n : Int)) = true := by simp; omega
    clear h
    go_enter Try.func3, Try.ntmps3
    go_wp2_with fail
    refine (known_any _).mono ?_
    rintro e w1 ⟨rfl, hb1⟩
    have B1 := Lib.hid hb1; clear hb1
    go_wp2_with fail
    go_ret
    exact ⟨rfl, B1.out⟩
set_option maxHeartbeats 1000000 in
theorem plays_bad (a : Option Addr) (len cap : Nat) (s : Option Addr) (n scap : Nat) (D : Nat → HDef) (w : World) (hl : len ≤ 100) (hn : n ≤ 500) (hD : DefsAt w a len D) (hc : checkV D len = 2) :
    Calls Try.prog 3 #[.slice a len cap, .slice s n scap] w fun e w' => e = .returned (.bool true) ∧ Below w.heap.size w w' := by
  have HD := Lib.hid hD; have HCV := Lib.hid hc
  have HMV : Hid (mayV D len = false) := by show mayV D len = false; rw [mayV_check, hc]; rfl
  have HMAY : Hid (∀ W, Below w.heap.size w W → Calls Try.prog 8 #[.slice a len cap] W fun e w' => e = .returned (.bool false) ∧ W = w') := fun W hW => by
    have := refMay_any a len cap D W (by omega) (HD.out.below hW)
    rw [HMV.out] at this; exact this
  have HCHK : Hid (∀ W, Below w.heap.size w W → Calls Try.prog 9 #[.slice a len cap] W fun e w' => e = .returned (.int .i64 2) ∧ Below W.heap.size W w') := fun W hW => by
    have := check_any a len cap D W (by omega) (HD.out.below hW)
    rw [HCV.out] at this; exact this
  have t1 : decide (100 < (len : Int)) = false := by simp; omega
  have t2 : decide (500 < (n : Int)) = false := by simp; omega
  clear hD hc
  go_enter Try.func3, Try.ntmps3
  go_wp2_with fail
  refine (known_any _).mono ?_
  rintro e w1 ⟨rfl, hb1⟩
  have B1 := Lib.hid hb1; clear hb1
  go_wp2_with fail
  refine (new_bad a len cap D _ (by omega) (HD.out.below B1.out) HCV.out).mono ?_
  rintro e w2 ⟨rfl, hB⟩
  have B2 : Hid (Below w.heap.size w w2) := B1.out.trans (hB.mono B1.out.size)
  clear hB
  go_wp2_with fail
  refine (HMAY.out _ B2.out).mono ?_
  rintro e w2' ⟨rfl, rfl⟩
  go_wp2_with fail
  refine (HCHK.out _ B2.out).mono ?_
  rintro e w3 ⟨rfl, hB⟩
  have B3 : Hid (Below w.heap.size w w3) := B2.out.trans (hB.mono B2.out.size)
  clear hB
  go_wp2_with fail
  go_ret
  exact ⟨rfl, B3.out⟩
theorem plays_walk (a : Option Addr) (len cap : Nat) (s : Option Addr) (n scap : Nat) (w : World) (h1 : ReadsC w 22 [.slice a len cap]) (h2 : ReadsC w 23 [.slice s n scap]) :
    Calls Try.prog 3 #[.slice a len cap, .slice s n scap] w fun e w' => e = .returned (.bool true) ∧ Below w.heap.size w w' := by
  obtain ⟨hl, hm, D, hD⟩ := reads_defs h1
  obtain ⟨hl2, hm2, L, hL⟩ := reads_dos h2
  unfold maxLen at hm hm2
  by_cases h : 100 < len ∨ 500 < n
  · exact plays_big a len cap s n scap w (by omega) (by omega) h
  · rcases check_cases D len with hc | ⟨hc, h8⟩
    · exact plays_bad a len cap s n scap D w (by omega) (by omega) hD hc
    · exact plays_good a len cap s n scap D L w h8 hl (by omega) hD hL hc
end Go.Proofs.Ytfbbmapihgepmaa
