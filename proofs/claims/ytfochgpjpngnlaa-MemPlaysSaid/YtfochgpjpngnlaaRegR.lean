/- The document's Find. -/
import Derived.Test.YtfochgpjpngnlaaReg
namespace Go.Proofs.Ytfochgpjpngnlaa
open Go.RowKit
set_option linter.unusedVariables false
def Reg.has (r : Reg) (at_ : Nat) : Bool := decide (r.base ≤ at_) && decide (at_ < r.base + r.size)
set_option maxHeartbeats 2000000 in
theorem has_any (r : Reg) (at_ : Nat) (w : World) (h : r.ok) (ha : at_ < 18446744073709551616) : Calls Try.prog 34 #[r.val, .int .u64 (at_ : Int)] w fun e w' => e = .returned (.bool (r.has at_)) ∧ Below w.heap.size w w' := by
  have h1 := h.base; have h2 := h.size
  have HR : Hid (r.has at_ = (decide (r.base ≤ at_) && decide (at_ < r.base + r.size))) := rfl
  obtain ⟨b, s, t⟩ := r
  simp only at h1 h2 HR
  unfold Reg.val
  rw [HR.out]
  clear HR h
  have hB : Hid (Below w.heap.size w (w.alloc (.cells #[.int .u32 (b : Int), .int .u32 (s : Int), .int .u8 (t : Int)] 64))) := (Below.refl _ w).alloc (Nat.le_refl _) _
  cases t1 : decide (b ≤ at_)
  case false =>
    have t1' : decide ((b : Int) ≤ (at_ : Int)) = false := by have := of_decide_eq_false t1; simp; omega
    simp only [Bool.false_and]
    go_enter Try.func34, Try.ntmps34
    go_wp2_with fail
    go_ret
    exact ⟨rfl, hB.out⟩
  case true =>
    have t1' : decide ((b : Int) ≤ (at_ : Int)) = true := by have := of_decide_eq_true t1; simp; omega
    simp only [Bool.true_and]
    cases t2 : decide (at_ < b + s)
    case false =>
      have t2' : decide ((at_ : Int) < (b : Int) + (s : Int)) = false := by have := of_decide_eq_false t2; simp; omega
      go_enter Try.func34, Try.ntmps34
      go_wp2_with fail
      go_ret
      exact ⟨rfl, hB.out⟩
    case true =>
      have t2' : decide ((at_ : Int) < (b : Int) + (s : Int)) = true := by have := of_decide_eq_true t2; simp; omega
      go_enter Try.func34, Try.ntmps34
      go_wp2_with fail
      go_ret
      exact ⟨rfl, hB.out⟩
def allN (h w i : Nat) : Bool := (List.range i).all fun j => decide (w / 2 ^ j % 2 = 0) || decide (h / 2 ^ j % 2 = 1)
theorem allN_succ (h w i : Nat) : allN h w (i + 1) = (allN h w i && (decide (w / 2 ^ i % 2 = 0) || decide (h / 2 ^ i % 2 = 1))) := by
  unfold allN
  rw [List.range_succ, List.all_append]
  simp
theorem allN_and (h w : Nat) (hw : w < 256) : allN h w 8 = decide (h &&& w = w) := by
  rw [Bool.eq_iff_iff, decide_eq_true_iff]
  have hb : ∀ x i : Nat, x.testBit i = decide (x / 2 ^ i % 2 = 1) := fun x i => Nat.testBit_eq_decide_div_mod_eq
  constructor
  · intro ha
    apply Nat.eq_of_testBit_eq
    intro i
    rw [Nat.testBit_and]
    by_cases hi : i < 8
    · have := (List.all_eq_true.1 ha) i (by simpa using hi)
      rw [hb, hb]
      by_cases e : w / 2 ^ i % 2 = 1
      · have : h / 2 ^ i % 2 = 1 := by
          simp only [Bool.or_eq_true, decide_eq_true_eq] at this
          omega
        simp [e, this]
      · simp [e]
    · have : w.testBit i = false := Nat.testBit_lt_two_pow (Nat.lt_of_lt_of_le (show w < 2 ^ 8 from hw) (Nat.pow_le_pow_right (show 0 < 2 by decide) (show 8 ≤ i by omega)))
      simp [this]
  · intro he
    refine List.all_eq_true.2 fun i hi => ?_
    have h1 : (h &&& w).testBit i = w.testBit i := by rw [he]
    rw [Nat.testBit_and, hb, hb] at h1
    simp only [Bool.or_eq_true, decide_eq_true_eq]
    by_cases e : w / 2 ^ i % 2 = 1
    · right
      simpa [e] using h1
    · left; omega
theorem halve (x i : Nat) : x / 2 ^ i / 2 = x / 2 ^ (i + 1) := by rw [Nat.div_div_eq_div_mul, Nat.pow_succ]
set_option maxHeartbeats 4000000 in
theorem all_any (h v : Nat) (w : World) (hh : h < 256) (hv : v < 256) : Calls Try.prog 33 #[.int .u8 (h : Int), .int .u8 (v : Int)] w fun e w' => e = .returned (.bool (allN h v 8)) ∧ w = w' := by
  go_enter Try.func33, Try.ntmps33
  go_wp2_with fail
  go_loop [0, 1, 5, 6] (fun a b o i => ∃ k : Nat, k ≤ 8 ∧ i = .int .i64 k ∧ a = .int .u8 ((h / 2 ^ k : Nat) : Int) ∧ b = .int .u8 ((v / 2 ^ k : Nat) : Int) ∧ o = .bool (allN h v k)) (fun _ _ _ i => 8 - (intOf i).toNat)
  case atStart => exact ⟨0, by omega, rfl, by simp, by simp, rfl⟩
  case round =>
    obtain ⟨k, hk, rfl, rfl, rfl, rfl⟩ := hrel
    by_cases hlt : k < 8
    · have HA := Lib.hid (halve h k)
      have HV := Lib.hid (halve v k)
      have HN := Lib.hid (allN_succ h v k)
      have h1 : h / 2 ^ k < 256 := Nat.lt_of_le_of_lt (Nat.div_le_self _ _) hh
      have h2 : v / 2 ^ k < 256 := Nat.lt_of_le_of_lt (Nat.div_le_self _ _) hv
      generalize h / 2 ^ k = x at *
      generalize v / 2 ^ k = y at *
      generalize allN h v k = o at *
      have hk2 : (k : Int) < 8 := by omega
      cases o
      case false =>
        have t1 := True.intro; have t2 := True.intro
        have HB : Hid (allN h v (k + 1) = false) := by
          show _ = _
          rw [HN.out]
          have q1 := t1; have q2 := t2
          first
            | (simp; done)
            | (simp; omega)
        go_wp2_with fail
        go_round
        case rel => exact ⟨k + 1, by omega, by go_num, by rw [← HA.out]; go_num, by rw [← HV.out]; go_num, by rw [HB.out]⟩
        case measure => simp [intOf]; omega
      case true =>
        have hy : y % 2 = 0 ∨ y % 2 = 1 := by omega
        have hx : x % 2 = 0 ∨ x % 2 = 1 := by omega
        rcases hy with t1 | t1
        · have t1' : (((y : Int) % 2) == 0) = true := by simp; omega
          have t2 := True.intro
          have HB : Hid (allN h v (k + 1) = true) := by
            show _ = _
            rw [HN.out]
            have q1 := t1; have q2 := t2
            first
              | (simp; done)
              | (simp; omega)
          go_wp2_with fail
          go_round
          case rel => exact ⟨k + 1, by omega, by go_num, by rw [← HA.out]; go_num, by rw [← HV.out]; go_num, by rw [HB.out]⟩
          case measure => simp [intOf]; omega
        · have t1' : (((y : Int) % 2) == 0) = false := by simp; omega
          rcases hx with t2 | t2
          · have t2' : (((x : Int) % 2) == 1) = false := by simp; omega
            have HB : Hid (allN h v (k + 1) = false) := by
              show _ = _
              rw [HN.out]
              have q1 := t1; have q2 := t2
              first
                | (simp; done)
                | (simp; omega)
            go_wp2_with fail
            go_round
            case rel => exact ⟨k + 1, by omega, by go_num, by rw [← HA.out]; go_num, by rw [← HV.out]; go_num, by rw [HB.out]⟩
            case measure => simp [intOf]; omega
          · have t2' : (((x : Int) % 2) == 1) = true := by simp; omega
            have HB : Hid (allN h v (k + 1) = true) := by
              show _ = _
              rw [HN.out]
              have q1 := t1; have q2 := t2
              first
                | (simp; done)
                | (simp; omega)
            go_wp2_with fail
            go_round
            case rel => exact ⟨k + 1, by omega, by go_num, by rw [← HA.out]; go_num, by rw [← HV.out]; go_num, by rw [HB.out]⟩
            case measure => simp [intOf]; omega
    · obtain rfl : k = 8 := by omega
      go_wp2_with fail
      go_ret
      exact ⟨rfl, rfl⟩
theorem hit_eq (r : Reg) (at_ size right : Nat) (hr : right < 256) (hs : 0 < size) : r.hit at_ size right = (allN r.rt right 8 && r.has at_ && r.has (at_ + size - 1)) := by
  rw [allN_and _ _ hr]
  unfold Reg.hit Reg.has
  rw [Bool.eq_iff_iff]
  simp only [Bool.and_eq_true, decide_eq_true_eq]
  constructor
  · rintro ⟨⟨h1, h2⟩, h3⟩
    exact ⟨⟨h1, by omega, by omega⟩, by omega, by omega⟩
  · rintro ⟨⟨h1, h2, h3⟩, h4, h5⟩
    exact ⟨⟨h1, h2⟩, by omega⟩
end Go.Proofs.Ytfochgpjpngnlaa
