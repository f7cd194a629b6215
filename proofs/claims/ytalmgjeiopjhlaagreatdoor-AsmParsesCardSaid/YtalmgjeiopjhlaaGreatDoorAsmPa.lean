/- AsmParses. -/
import Derived.Test.YtalmgjeiopjhlaaGreatDoorAsmY
namespace Go.Proofs.YtalmgjeiopjhlaaGreatDoor
open Go.Shelf Go.RowKit
set_option linter.unusedVariables false
set_option linter.unusedSimpArgs false
set_option maxRecDepth 100000
theorem parseG_len : ∀ (ls : List (List UInt8)) (n : Nat) (acc : List AL), acc.length ≤ 16384 → (parseG n acc ls).1.length ≤ 16384
  | [], _, acc, h => h
  | l :: ls, n, acc, h => by
    rw [parseG]
    by_cases h1 : wordsL l = []
    · rw [if_pos h1]; exact parseG_len ls _ _ h
    rw [if_neg h1]
    by_cases h2 : (lineS (wordsB l)).1 ≠ 0
    · rw [if_pos h2]; exact Nat.zero_le _
    rw [if_neg h2]
    by_cases h3 : acc.length = 16384
    · rw [if_pos h3]; exact Nat.zero_le _
    rw [if_neg h3]
    exact parseG_len ls _ _ (by rw [List.length_append]; simp; omega)
theorem parseS_len (l : List UInt8) : (parseS l).1.length ≤ 16384 := by
  unfold parseS
  by_cases h : 524288 < l.length
  · rw [if_pos h]; exact Nat.zero_le _
  · rw [if_neg h]; exact parseG_len _ _ _ (Nat.zero_le _)
set_option maxHeartbeats 4000000 in
theorem parses_walk (s : ByteArray) (w : World) (h0 : s.size ≤ maxLen) (hL : LibW w) :
    Calls Tryz.prog 4 #[.string s] w fun e w' => e = .returned (.bool true) ∧ Below w.heap.size w w' := by
  have HK := Lib.hid (known_any w hL)
  have HL := Lib.hid hL
  clear hL
  unfold maxLen at h0
  by_cases hbig : 20000 < s.size
  · have t1 : decide ((20000 : Int) < (s.size : Int)) = true := decide_eq_true (by omega)
    go_enter Tryz.func4, Tryz.ntmps4
    go_wp2_with fail
    refine HK.out.mono ?_
    rintro e w1 ⟨rfl, hb1⟩
    have B1 := Lib.hid hb1
    clear hb1 HK
    go_wp2_with fail
    go_ret
    exact ⟨rfl, B1.out⟩
  have t1 : decide ((20000 : Int) < (s.size : Int)) = false := decide_eq_false (by omega)
  have HN := Lib.hid (parseS_len s.data.toList)
  have HP := Lib.hid (fun W hW => parse_any s W (by omega) hW)
  have HR := Lib.hid (fun W => rparse_any s W (by omega))
  generalize parseS s.data.toList = r at *
  obtain ⟨ls, n, c⟩ := r
  go_enter Tryz.func4, Tryz.ntmps4
  go_wp2_with fail
  refine HK.out.mono ?_
  rintro e w1 ⟨rfl, hb1⟩
  have B1 := Lib.hid hb1
  clear hb1 HK
  go_wp2_with fail
  refine (HP.out w1 (HL.out.below B1.out)).mono ?_
  rintro e w2 ⟨⟨v, rfl, hv⟩, hb2⟩
  obtain ⟨a, cp, rfl, _, _, ha⟩ := als_of_own (ls := ls) hv
  have HA := Lib.hid ha
  have B2 : Hid (Below w.heap.size w w2) := B1.out.trans (hb2.mono B1.out.size)
  clear hv ha hb2 B1 HP
  go_wp2_with fail
  refine (HR.out w2).mono ?_
  rintro e w3 ⟨⟨v, rfl, hv⟩, hb3⟩
  obtain ⟨b, cq, rfl, _, _, hb⟩ := als_of_own (ls := ls) hv
  have HB := Lib.hid hb
  have HA3 := Lib.hid (HA.out.below hb3)
  have B3 : Hid (Below w.heap.size w w3) := B2.out.trans (hb3.mono B2.out.size)
  clear hv hb hb3 B2 HR HA
  have HS := Lib.hid (same_true ls a b cp cq w3 HA3.out HB.out (by have h1 : ls.length ≤ 16384 := HN.out; omega))
  clear HA3 HB
  go_wp2_with fail
  refine HS.out.mono ?_
  rintro e w4 ⟨rfl, hb4⟩
  have B4 : Hid (Below w.heap.size w w4) := B3.out.trans (hb4.mono B3.out.size)
  clear hb4 B3 HS
  go_wp2_with fail
  go_ret
  exact ⟨by simp, B4.out⟩
end Go.Proofs.YtalmgjeiopjhlaaGreatDoor
