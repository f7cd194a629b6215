/- The document's Find, whole. -/
import Derived.Test.YtfochgpjpngnlaaRegR
namespace Go.Proofs.Ytfochgpjpngnlaa
open Go.RowKit
set_option linter.unusedVariables false
set_option maxHeartbeats 4000000 in
theorem rfind_any (a : Option Addr) (n c : Nat) (L : Nat → Reg) (at_ size right : Nat) (w : World) (hL : RegsAt w a n L) (hn : n ≤ 9223372036854775807) (h1 : at_ < 4294967296) (h2 : size < 4294967296) (h3 : right < 256) :
    Calls Try.prog 32 #[.slice a n c, .int .u32 (at_ : Int), .int .u32 (size : Int), .int .u8 (right : Int)] w fun e w' => e = .returned (findV (found L n at_ size right)) ∧ Below w.heap.size w w' := by
  have HL := Lib.hid hL
  clear hL
  by_cases hz : size = 0
  · subst hz
    have HF : Hid (findV (found L n at_ 0 right) = .tuple #[.int .i64 0, .bool false]) := by show _ = _; unfold found; rw [if_pos rfl]; rfl
    rw [HF.out]
    cases t1 : decide (0 < n)
    case false =>
      have t1' : decide ((0 : Int) < (n : Int)) = false := by have := of_decide_eq_false t1; simp; omega
      go_enter Try.func32, Try.ntmps32
      go_wp2_with fail
      go_loopw [10] (fun i wr => i = .int .i64 0 ∧ wr = w) (fun i _ => 0)
      case atStart => exact ⟨rfl, rfl⟩
      case round =>
        obtain ⟨rfl, rfl⟩ := hrel
        go_wp2_with fail
        go_ret2
        exact ⟨rfl, Below.refl _ _⟩
    case true =>
      have t1' : decide ((0 : Int) < (n : Int)) = true := by have := of_decide_eq_true t1; simp; omega
      go_enter Try.func32, Try.ntmps32
      go_wp2_with fail
      go_loopw [10] (fun i wr => i = .int .i64 0 ∧ wr = w) (fun i _ => 0)
      case atStart => exact ⟨rfl, rfl⟩
      case round =>
        obtain ⟨rfl, rfl⟩ := hrel
        go_wp2_with fail
        go_ret2
        exact ⟨rfl, Below.refl _ _⟩
  have t0 : decide ((0 : Int) < (size : Int)) = true := by simp; omega
  have hs0 : 0 < size := by omega
  have HFD : Hid (found L n at_ size right = first (fun i => (L i).hit at_ size right) n) := by show _ = _; unfold found; rw [if_neg hz]
  obtain ⟨F, hF⟩ : ∃ F, F = findV (found L n at_ size right) := ⟨_, rfl⟩
  rw [← hF]
  rw [HFD.out] at hF
  have HF := Lib.hid hF
  clear HFD hz hF
  go_enter Try.func32, Try.ntmps32
  go_wp2_with fail
  go_loopw [10] (fun i wr => ∃ k : Nat, k ≤ n ∧ i = .int .i64 k ∧ (∀ j, j < k → (L j).hit at_ size right = false) ∧ Below w.heap.size w wr) (fun i _ => n - (intOf i).toNat)
  case atStart => exact ⟨0, Nat.zero_le _, rfl, fun j hj => absurd hj (by omega), Below.refl _ _⟩
  case round =>
    obtain ⟨k, hk, rfl, hno, hb⟩ := hrel
    have B1 := Lib.hid hb; have NO := Lib.hid hno
    clear hb hno
    by_cases hlt : k < n
    · obtain ⟨sb, soff, rfl, hsl, hcells⟩ := HL.out.1.at (by omega)
      have x0 : wr.cell? ⟨sb, soff + k * 3, none⟩ = some (.int .u32 ((L k).base : Int)) := by rw [B1.out.cell hsl]; exact hcells k hlt 0 (by omega)
      have x1 : wr.cell? ⟨sb, soff + k * 3 + 1, none⟩ = some (.int .u32 ((L k).size : Int)) := by rw [B1.out.cell hsl]; exact hcells k hlt 1 (by omega)
      have x2 : wr.cell? ⟨sb, soff + k * 3 + 2, none⟩ = some (.int .u8 ((L k).rt : Int)) := by rw [B1.out.cell hsl]; exact hcells k hlt 2 (by omega)
      have HC := Lib.hid hcells
      clear hcells
      have HR := Lib.hid (hit_eq (L k) at_ size right h3 hs0)
      have hr2 := (HL.out.2 k).rt
      have HE : Hid (∀ (V : World) (at2 : Nat), at2 < 18446744073709551616 → Calls Try.prog 34 #[.agg #[.int .u32 ((L k).base : Int), .int .u32 ((L k).size : Int), .int .u8 ((L k).rt : Int)], .int .u64 (at2 : Int)] V fun e w' => e = .returned (.bool ((L k).has at2)) ∧ Below V.heap.size V w') := fun V at2 h => has_any (L k) at2 V (HL.out.2 k) h
      have hki : (k : Int) < (n : Int) := by omega
      have e1 : ((at_ : Int) + (size : Int) - 1) = ((at_ + size - 1 : Nat) : Int) := by omega
      obtain ⟨b1, hb1⟩ : ∃ x, x = allN (L k).rt right 8 := ⟨_, rfl⟩
      obtain ⟨b2, hb2⟩ : ∃ x, x = (L k).has at_ := ⟨_, rfl⟩
      obtain ⟨b3, hb3⟩ : ∃ x, x = (L k).has (at_ + size - 1) := ⟨_, rfl⟩
      have HA := Lib.hid (all_any (L k).rt right wr hr2 h3)
      have HE1 := Lib.hid (HE.out wr at_ (by omega))
      have HE2 := Lib.hid (fun V => HE.out V (at_ + size - 1) (by omega))
      rw [← hb1, ← hb2, ← hb3] at HR
      rw [← hb1] at HA
      rw [← hb2] at HE1
      rw [← hb3] at HE2
      clear hb1 hb2 hb3 HE
      go_wp2_with fail
      refine HA.out.mono ?_
      rintro e w' ⟨rfl, rfl⟩
      clear HA
      cases b1
      case false =>
        go_wp2_with fail
        have HH : Hid ((L k).hit at_ size right = false) := by show _ = _; rw [HR.out]; simp
        go_roundw
        case rel => exact ⟨k + 1, by omega, by go_num, fun j hj => (by
          by_cases e : j < k
          · exact NO.out j e
          · obtain rfl : j = k := by omega
            exact HH.out), B1.out⟩
        case measure => simp [intOf]; omega
      go_wp2_with fail
      refine HE1.out.mono ?_
      rintro e w4 ⟨rfl, hb4⟩
      have B4 : Hid (Below w.heap.size w w4) := B1.out.trans (hb4.mono B1.out.size)
      have x0 : w4.cell? ⟨sb, soff + k * 3, none⟩ = some (.int .u32 ((L k).base : Int)) := by rw [B4.out.cell hsl]; exact HC.out k hlt 0 (by omega)
      have x1 : w4.cell? ⟨sb, soff + k * 3 + 1, none⟩ = some (.int .u32 ((L k).size : Int)) := by rw [B4.out.cell hsl]; exact HC.out k hlt 1 (by omega)
      have x2 : w4.cell? ⟨sb, soff + k * 3 + 2, none⟩ = some (.int .u8 ((L k).rt : Int)) := by rw [B4.out.cell hsl]; exact HC.out k hlt 2 (by omega)
      clear hb4 HE1
      cases b2
      case false =>
        go_wp2_with fail
        have HH : Hid ((L k).hit at_ size right = false) := by show _ = _; rw [HR.out]; simp
        go_roundw
        case rel => exact ⟨k + 1, by omega, by go_num, fun j hj => (by
          by_cases e : j < k
          · exact NO.out j e
          · obtain rfl : j = k := by omega
            exact HH.out), B4.out⟩
        case measure => simp [intOf]; omega
      go_wp2_with fail
      try rw [e1]
      refine (HE2.out w4).mono ?_
      rintro e w5 ⟨rfl, hb5⟩
      have B5 : Hid (Below w.heap.size w w5) := B4.out.trans (hb5.mono B4.out.size)
      clear hb5 HE2 x0 x1 x2
      cases b3
      case false =>
        go_wp2_with fail
        have HH : Hid ((L k).hit at_ size right = false) := by show _ = _; rw [HR.out]; simp
        go_roundw
        case rel => exact ⟨k + 1, by omega, by go_num, fun j hj => (by
          by_cases e : j < k
          · exact NO.out j e
          · obtain rfl : j = k := by omega
            exact HH.out), B5.out⟩
        case measure => simp [intOf]; omega
      have HH : Hid (F = .tuple #[.int .i64 (k : Int), .bool true]) := by
        show _ = _
        rw [HF.out, first_some hlt HR.out NO.out]; rfl
      go_wp2_with fail
      go_ret2
      exact ⟨congrArg Ending.returned HH.out.symm, B5.out⟩
    · obtain rfl : k = n := by omega
      have HH : Hid (F = .tuple #[.int .i64 0, .bool false]) := by show _ = _; rw [HF.out, first_none NO.out]; rfl
      go_wp2_with fail
      go_ret2
      exact ⟨congrArg Ending.returned HH.out.symm, B1.out⟩
end Go.Proofs.Ytfochgpjpngnlaa
