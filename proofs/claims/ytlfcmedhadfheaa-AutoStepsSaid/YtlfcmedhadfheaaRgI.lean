/- The document's automaton: Bits. -/
import Derived.Test.YtlfcmedhadfheaaRgH
namespace Go.Proofs.Ytlfcmedhadfheaa
open Go.RowKit
set_option linter.unusedVariables false
set_option linter.unusedSimpArgs false
theorem mod_succ (x k : Nat) : x % 2 ^ (k + 1) = if x.testBit k then x % 2 ^ k + 2 ^ k else x % 2 ^ k := by
  rw [Nat.pow_succ, Nat.mod_mul, Nat.testBit_eq_decide_div_mod_eq]
  have := Nat.mod_two_eq_zero_or_one (x / 2 ^ k)
  rcases this with h | h <;> rw [h] <;> simp
set_option maxHeartbeats 2000000 in
theorem rbits_any (a : Option Addr) (x L c : Nat) (w : World) (hs : SliceAt w a L (bitsV x)) (hL : L ≤ 31) :
    Calls Try.prog 21 #[.slice a L c] w fun e w' => e = .returned (.int .u32 ((x % 2 ^ L : Nat) : Int)) ∧ w' = w := by
  have HS := Lib.hid hs
  clear hs
  go_enter Try.func21, Try.ntmps21
  go_wp2_with fail
  go_loopw [3, 4] (fun s i wr => ∃ k : Nat, k ≤ L ∧ s = .int .u32 ((x % 2 ^ k : Nat) : Int) ∧ i = .int .i64 k ∧ wr = w) (fun _ i _ => L - (intOf i).toNat)
  case atStart => exact ⟨0, Nat.zero_le _, by rw [Nat.pow_zero, Nat.mod_one]; rfl, rfl, by first | trivial | rfl⟩
  case round =>
    obtain ⟨k, hk, rfl, rfl, rfl⟩ := hrel
    by_cases hlt : k < L
    case pos =>
      obtain ⟨b, off, rfl, hb, hc⟩ := HS.out.at (by omega)
      have x0 : wr.cell? ⟨b, off + k, none⟩ = some (.bool (x.testBit k)) := hc k hlt
      have HM := Lib.hid (mod_succ x k)
      have hlt2 : x % 2 ^ k < 2 ^ k := Nat.mod_lt _ (Nat.pow_pos (by omega))
      have hp : 2 ^ k ≤ 2 ^ 30 := Nat.pow_le_pow_right (by omega) (by omega)
      have hq := rpow_mod (n := k) (by omega)
      generalize hs1 : x % 2 ^ (k + 1) = s1 at *
      have HE := Lib.hid hs1
      generalize x % 2 ^ k = s at *
      generalize x.testBit k = h at *
      generalize hqq : 2 ^ k = q at *
      have hsq : ((s : Int) + (q : Int)) % 4294967296 = ((s + q : Nat) : Int) := by omega
      clear hqq hc hs1
      cases h
      case false =>
        have HX : Hid (s1 = s) := HM.out
        go_wp2_with fail
        go_roundw
        case rel => exact ⟨k + 1, by omega, by rw [HE.out, HX.out], by go_num, by first | trivial | rfl⟩
        case measure => simp [intOf]; omega
      case true =>
        have HX : Hid (s1 = s + q) := HM.out
        go_wp2_with fail
        go_roundw
        case rel => exact ⟨k + 1, by omega, by rw [HE.out, HX.out]; congr 1 <;> omega, by go_num, by first | trivial | rfl⟩
        case measure => simp [intOf]; omega
    case neg =>
    obtain rfl : k = L := by omega
    go_wp2_with fail
    go_ret
    exact ⟨rfl, by first | trivial | rfl⟩
end Go.Proofs.Ytlfcmedhadfheaa
