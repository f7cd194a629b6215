/- of; Apart. -/
import Derived.Test.YteekneicahfkpaaRigU
namespace Go.Proofs.Yteekneicahfkpaa
open Go.RowKit
set_option linter.unusedVariables false
set_option linter.unusedSimpArgs false
theorem of_any (b s r : Nat) (w : World) : Calls Try.prog 17 #[.int .u32 (b : Int), .int .u32 (s : Int), .int .u8 (r : Int)] w fun e w' => e = .returned (.agg #[.int .u32 (b : Int), .int .u32 (s : Int), .int .u8 (r : Int)]) ∧ Below w.heap.size w w' := by
  have hB : Hid (Below w.heap.size w (w.alloc (.cells #[.int .u32 (b : Int), .int .u32 (s : Int), .int .u8 (r : Int)] 24))) := alloc_below _ _
  go_enter Try.func17, Try.ntmps17
  go_wp2_with fail
  exact bodyPost_ret (v := .agg #[.int .u32 (b : Int), .int .u32 (s : Int), .int .u8 (r : Int)]) (by simp [results, Try.f17, go_sem]) rfl ⟨rfl, hB.out⟩
def hurt (x y : Reg) : Bool := x.over y && decide (((x.rt ||| y.rt) &&& 2) ≠ 0)
def apartB (L : Nat → Reg) (n : Nat) (K : Nat → Reg) (m : Nat) : Bool := (List.range n).all fun i => (List.range m).all fun j => !hurt (L i) (K j)
theorem apart_yes {L K : Nat → Reg} {n m : Nat} (h : ∀ i, i < n → ∀ j, j < m → hurt (L i) (K j) = false) : apartB L n K m = true := by
  unfold apartB
  simp only [List.all_eq_true, List.mem_range, Bool.not_eq_true']
  exact h
theorem apart_no {L K : Nat → Reg} {n m i j : Nat} (hi : i < n) (hj : j < m) (h : hurt (L i) (K j) = true) : apartB L n K m = false := by
  cases e : apartB L n K m with
  | false => rfl
  | true =>
    unfold apartB at e
    simp only [List.all_eq_true, List.mem_range, Bool.not_eq_true'] at e
    rw [e i hi j hj] at h; cases h
set_option maxHeartbeats 8000000 in
theorem apart_any (a : Option Addr) (n c : Nat) (L : Nat → Reg) (b : Option Addr) (m d : Nat) (K : Nat → Reg) (w : World) (hL : RegsAt w a n L) (hK : RegsAt w b m K) (hn : n ≤ 9223372036854775807) (hm : m ≤ 9223372036854775807) :
    Calls Try.prog 20 #[.slice a n c, .slice b m d] w fun e w' => e = .returned (.bool (apartB L n K m)) ∧ Below w.heap.size w w' := by
  have HL := Lib.hid hL; have HK := Lib.hid hK
  clear hL hK
  obtain ⟨F, hF⟩ : ∃ F, F = apartB L n K m := ⟨_, rfl⟩
  rw [← hF]
  have HF := Lib.hid hF
  clear hF
  go_enter Try.func20, Try.ntmps20
  go_wp2_with fail
  go_loopw [11] (fun i wr => ∃ k : Nat, k ≤ n ∧ i = .int .i64 k ∧ (∀ i, i < k → ∀ j, j < m → hurt (L i) (K j) = false) ∧ Below w.heap.size w wr) (fun i _ => n - (intOf i).toNat)
  case atStart => exact ⟨0, Nat.zero_le _, rfl, fun i hi => absurd hi (by omega), Below.refl _ _⟩
  case round =>
    obtain ⟨k, hk, rfl, hno, hb⟩ := hrel
    have B1 := Lib.hid hb; have NO := Lib.hid hno
    clear hb hno
    obtain ⟨w1, rfl⟩ : ∃ w1 : World, w1 = wr := ⟨_, rfl⟩
    by_cases hlt : k < n
    · obtain ⟨sb, soff, rfl, hsl, hcells⟩ := HL.out.1.at (by omega)
      have x0 : w1.cell? ⟨sb, soff + k * 3, none⟩ = some (.int .u32 ((L k).base : Int)) := by rw [B1.out.cell hsl]; exact hcells k hlt 0 (by omega)
      have x1 : w1.cell? ⟨sb, soff + k * 3 + 1, none⟩ = some (.int .u32 ((L k).size : Int)) := by rw [B1.out.cell hsl]; exact hcells k hlt 1 (by omega)
      have x2 : w1.cell? ⟨sb, soff + k * 3 + 2, none⟩ = some (.int .u8 ((L k).rt : Int)) := by rw [B1.out.cell hsl]; exact hcells k hlt 2 (by omega)
      clear hcells
      have HX := Lib.hid (HL.out.2 k)
      have hxr := (HL.out.2 k).rt
      obtain ⟨x, hx⟩ : ∃ x, x = L k := ⟨_, rfl⟩
      rw [← hx] at x0 x1 x2 HX hxr
      have HXL := Lib.hid hx
      clear hx
      obtain ⟨xb, xs, xt⟩ := x
      simp only at x0 x1 x2 hxr
      obtain ⟨w2, hw2⟩ : ∃ x, x = w1.alloc (.cells #[.int .u32 (xb : Int), .int .u32 (xs : Int), .int .u8 (xt : Int)] 24) := ⟨_, rfl⟩
      have K2 : Hid (w2.heap[w1.heap.size]? = some (.cells #[.int .u32 (xb : Int), .int .u32 (xs : Int), .int .u8 (xt : Int)] 24 (0, 0))) := by rw [hw2]; exact heap_alloc_new _ _
      have B2 : Hid (Below w.heap.size w w2) := by rw [hw2]; exact B1.out.alloc B1.out.size _
      have HW2 := Lib.hid hw2
      clear hw2
      go_upto_region 4 with fail
      rw [← HW2.out]
      generalize hg1 : w1.heap.size = g1 at *
      clear x0 x1 x2
      go_wp2_with fail
      go_loopw [17] (fun i wr => ∃ q : Nat, q ≤ m ∧ i = .int .i64 q ∧ (∀ j, j < q → hurt ⟨xb, xs, xt⟩ (K j) = false) ∧ wr.heap[g1]? = some (.cells #[.int .u32 (xb : Int), .int .u32 (xs : Int), .int .u8 (xt : Int)] 24 (0, 0)) ∧ Below w.heap.size w wr) (fun i _ => m - (intOf i).toNat)
      case atStart => exact ⟨0, Nat.zero_le _, rfl, fun j hj => absurd hj (by omega), K2.out, B2.out⟩
      case round =>
        obtain ⟨q, hq, rfl, hno2, hk3, hb3⟩ := hrel
        have B3 := Lib.hid hb3; have NO2 := Lib.hid hno2; have K3 := Lib.hid hk3
        clear hb3 hno2 hk3 B2 K2
        obtain ⟨w3, rfl⟩ : ∃ w3 : World, w3 = wr := ⟨_, rfl⟩
        by_cases hltq : q < m
        · obtain ⟨tb, toff, rfl, htl, hcells⟩ := HK.out.1.at (by omega)
          have x0 : w3.cell? ⟨tb, toff + q * 3, none⟩ = some (.int .u32 ((K q).base : Int)) := by rw [B3.out.cell htl]; exact hcells q hltq 0 (by omega)
          have x1 : w3.cell? ⟨tb, toff + q * 3 + 1, none⟩ = some (.int .u32 ((K q).size : Int)) := by rw [B3.out.cell htl]; exact hcells q hltq 1 (by omega)
          have x2 : w3.cell? ⟨tb, toff + q * 3 + 2, none⟩ = some (.int .u8 ((K q).rt : Int)) := by rw [B3.out.cell htl]; exact hcells q hltq 2 (by omega)
          clear hcells
          have HY := Lib.hid (HK.out.2 q)
          have hyr := (HK.out.2 q).rt
          obtain ⟨y, hy⟩ : ∃ y, y = K q := ⟨_, rfl⟩
          rw [← hy] at x0 x1 x2 HY hyr
          have HYL := Lib.hid hy
          clear hy
          obtain ⟨yb, ys, yt⟩ := y
          simp only at x0 x1 x2 hyr
          have HO := Lib.hid (fun W => overlap_any ⟨xb, xs, xt⟩ ⟨yb, ys, yt⟩ W HX.out HY.out)
          unfold Reg.val at HO
          simp only at HO
          have HU : Hid (hurt ⟨xb, xs, xt⟩ ⟨yb, ys, yt⟩ = ((⟨xb, xs, xt⟩ : Reg).over ⟨yb, ys, yt⟩ && decide (((xt ||| yt) &&& 2) ≠ 0))) := rfl
          generalize (⟨xb, xs, xt⟩ : Reg).over ⟨yb, ys, yt⟩ = ov at *
          obtain ⟨w4, hw4⟩ : ∃ x, x = w3.alloc (.cells #[.int .u32 (yb : Int), .int .u32 (ys : Int), .int .u8 (yt : Int)] 24) := ⟨_, rfl⟩
          have K4 : Hid (w4.heap[w3.heap.size]? = some (.cells #[.int .u32 (yb : Int), .int .u32 (ys : Int), .int .u8 (yt : Int)] 24 (0, 0))) := by rw [hw4]; exact heap_alloc_new _ _
          have B4 : Hid (Below w.heap.size w w4) := by rw [hw4]; exact B3.out.alloc B3.out.size _
          have K5 : Hid (w4.heap[g1]? = some (.cells #[.int .u32 (xb : Int), .int .u32 (xs : Int), .int .u8 (xt : Int)] 24 (0, 0))) := by rw [hw4]; exact kept K3.out (alloc_below _ _)
          have HW4 := Lib.hid hw4
          clear hw4
          have hor := u8_or_nat xt yt hxr hyr
          have horl : xt ||| yt < 256 := Nat.or_lt_two_pow (n := 8) (by omega) (by omega)
          have hand : bits .and .u8 ((xt ||| yt : Nat) : Int) 2 = (((xt ||| yt) &&& 2 : Nat) : Int) := u8_and_nat (xt ||| yt) 2 horl (by omega)
          have handl : (xt ||| yt) &&& 2 < 256 := Nat.lt_of_le_of_lt Nat.and_le_left horl
          obtain ⟨z, hz⟩ : ∃ z, z = (xt ||| yt) &&& 2 := ⟨_, rfl⟩
          rw [← hz] at hand handl HU
          obtain ⟨y9, hy9⟩ : ∃ y9, y9 = xt ||| yt := ⟨_, rfl⟩
          rw [← hy9] at hor horl hand
          clear hz hy9
          go_upto_region 7 with fail
          rw [← HW4.out]
          generalize hg3 : w3.heap.size = g3 at *
          clear x0 x1 x2
          have z0 := cell_row (j := 0) K5.out rfl
          have z1 := cell_row (j := 1) K5.out rfl
          have z2 := cell_row (j := 2) K5.out rfl
          have z3 := cell_row (j := 0) K4.out rfl
          have z4 := cell_row (j := 1) K4.out rfl
          have z5 := cell_row (j := 2) K4.out rfl
          go_wp2_with fail
          (with_reducible refine (HO.out w4).mono ?_)
          rintro e w5 ⟨rfl, hb5⟩
          have B5 : Hid (Below w.heap.size w w5) := B4.out.trans (hb5.mono B4.out.size)
          have K6 := Lib.hid (kept K5.out hb5)
          have K7 := Lib.hid (kept K4.out hb5)
          clear hb5 z0 z1 z2 z3 z4 z5
          have z0 := cell_row (j := 2) K6.out rfl
          have z1 := cell_row (j := 2) K7.out rfl
          cases ov
          case false =>
            have HH : Hid (hurt ⟨xb, xs, xt⟩ ⟨yb, ys, yt⟩ = false) := by show _ = _; rw [HU.out]; rfl
            go_wp2_with fail
            go_roundw
            case rel => exact ⟨q + 1, by omega, by go_num, fun j hj => (by
              by_cases e : j < q
              · exact NO2.out j e
              · obtain rfl : j = q := by omega
                rw [← HYL.out]; exact HH.out), K6.out, B5.out⟩
            case measure => simp [intOf]; omega
          case true =>
            cases t2 : ((z : Int) != 0)
            case false =>
              have HH : Hid (hurt ⟨xb, xs, xt⟩ ⟨yb, ys, yt⟩ = false) := by show _ = _; rw [HU.out]; have : z = 0 := by simp at t2; omega
                                                                           subst this; rfl
              go_wp2_with fail
              go_roundw
              case rel => exact ⟨q + 1, by omega, by go_num, fun j hj => (by
                by_cases e : j < q
                · exact NO2.out j e
                · obtain rfl : j = q := by omega
                  rw [← HYL.out]; exact HH.out), K6.out, B5.out⟩
              case measure => simp [intOf]; omega
            case true =>
              have HH : Hid (F = false) := by
                show _ = _
                rw [HF.out]
                refine apart_no hlt hltq ?_
                rw [← HXL.out, ← HYL.out, HU.out]
                have : z ≠ 0 := by intro e; subst e; simp at t2
                simp [this]
              go_wp2_with fail
              go_ret
              exact ⟨congrArg (fun x => Ending.returned (.bool x)) HH.out.symm, B5.out⟩
        · obtain rfl : q = m := by omega
          go_wp2_with fail
          go_roundw
          case rel => exact ⟨k + 1, by omega, by go_num, fun i hi j hj => (by
            by_cases e : i < k
            · exact NO.out i e j hj
            · obtain rfl : i = k := by omega
              rw [← HXL.out]; exact NO2.out j hj), B3.out⟩
          case measure => simp [intOf]; omega
    · obtain rfl : k = n := by omega
      have HH : Hid (F = true) := by show _ = _; rw [HF.out]; exact apart_yes NO.out
      go_wp2_with fail
      go_ret
      exact ⟨congrArg (fun x => Ending.returned (.bool x)) HH.out.symm, B1.out⟩
end Go.Proofs.Yteekneicahfkpaa
