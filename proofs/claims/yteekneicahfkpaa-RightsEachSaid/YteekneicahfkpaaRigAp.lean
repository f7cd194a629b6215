/- RightsApart. -/
import Derived.Test.YteekneicahfkpaaRigCk
import Derived.Test.YteekneicahfkpaaRigN
import Derived.Test.YteekneicahfkpaaRigRd
import Derived.Test.YteekneicahfkpaaRigPr
namespace Go.Proofs.Yteekneicahfkpaa
open Go.RowKit Go.Shelf
set_option linter.unusedVariables false
set_option linter.unusedSimpArgs false
theorem check_any (a : Option Addr) (len cap : Nat) (L : Nat → Reg) (m : Nat) (w : World) (hn : len ≤ 9223372036854775807) (hc : len ≤ cap) (hm : m < 4294967296) (hL : RegsAt w a len L) :
    Calls Try.prog 18 #[.slice a len cap, .int .u32 (m : Int)] w fun e w' => (∃ c : Int, e = .returned (.int .i64 c) ∧ (c = 0 → chkOk L len m)) ∧ Below w.heap.size w w' :=
  (callsIn_wide (n := 4)).1 (check_in 4 (Nat.le_refl _) a len cap L m w hn hc hm hL)
theorem hurt_comm (x y : Reg) : hurt x y = hurt y x := by
  unfold hurt
  rw [over_comm, Nat.or_comm]
theorem apartB_comm (L K : Nat → Reg) (n m : Nat) : apartB L n K m = apartB K m L n := by
  have key : ∀ (L K : Nat → Reg) (n m : Nat), apartB L n K m = true → apartB K m L n = true := fun L K n m h => by
    refine apart_yes fun i hi j hj => ?_
    rw [hurt_comm]
    cases e : hurt (L j) (K i) with
    | false => rfl
    | true => rw [apart_no hj hi e] at h; cases h
  cases h : apartB L n K m with
  | true => exact (key _ _ _ _ h).symm
  | false =>
    cases h2 : apartB K m L n with
    | false => rfl
    | true => rw [key _ _ _ _ h2] at h; cases h
theorem first_spec {p : Nat → Bool} {n k : Nat} (h : first p n = some k) : k < n ∧ p k = true ∧ ∀ j, j < k → p j = false := by
  by_cases hk : ∃ j, j < n ∧ p j = true
  · obtain ⟨j0, h1, h2⟩ := hk
    have : ∃ j, j < n ∧ p j = true ∧ ∀ i, i < j → p i = false := by
      clear h
      induction j0 using Nat.strongRecOn with
      | ind j ih =>
        by_cases c : ∃ i, i < j ∧ p i = true
        · obtain ⟨i, c1, c2⟩ := c
          exact ih i c1 (by omega) c2
        · exact ⟨j, h1, h2, fun i hi => by
            cases e : p i with
            | false => rfl
            | true => exact absurd ⟨i, hi, e⟩ c⟩
    obtain ⟨j, a1, a2, a3⟩ := this
    rw [first_some a1 a2 a3] at h
    cases h
    exact ⟨a1, a2, a3⟩
  · rw [first_none (fun j hj => by
      cases e : p j with
      | false => rfl
      | true => exact absurd ⟨j, hj, e⟩ hk)] at h
    cases h
theorem found_spec {L : Nat → Reg} {n at_ size right k : Nat} (h : found L n at_ size right = some k) : size ≠ 0 ∧ k < n ∧ (L k).hit at_ size right = true ∧ ∀ j, j < k → (L j).hit at_ size right = false := by
  unfold found at h
  split at h
  · cases h
  · rename_i hs
    obtain ⟨h1, h2, h3⟩ := first_spec h
    exact ⟨hs, h1, h2, h3⟩
theorem hit_spec {r : Reg} {at_ size right : Nat} : r.hit at_ size right = true ↔ r.rt &&& right = right ∧ r.base ≤ at_ ∧ at_ + size ≤ r.base + r.size := by
  unfold Reg.hit
  simp [and_assoc]
theorem apart_byte {A B : Nat → Reg} {n m at_ r : Nat} (hf : (found A n at_ 1 2).isSome = true) (hg : (found B m at_ 1 r).isSome = true) : apartB A n B m = false := by
  obtain ⟨i, hi⟩ := Option.isSome_iff_exists.1 hf
  obtain ⟨k, hk⟩ := Option.isSome_iff_exists.1 hg
  obtain ⟨_, i1, i2, _⟩ := found_spec hi
  obtain ⟨_, k1, k2, _⟩ := found_spec hk
  obtain ⟨a1, a2, a3⟩ := hit_spec.1 i2
  obtain ⟨b1, b2, b3⟩ := hit_spec.1 k2
  refine apart_no i1 k1 ?_
  unfold hurt
  have ho : (A i).over (B k) = true := by unfold Reg.over; simp; omega
  rw [ho, Bool.true_and]
  simp only [ne_eq, decide_not, Bool.not_eq_true', decide_eq_false_iff_not]
  rw [Nat.and_or_distrib_right, a1]
  intro h
  have := (Nat.or_eq_zero_iff.1 h).1
  cases this
theorem fits_lt {r : Reg} {m : Nat} (h : r.fits m = true) : r.base + r.size ≤ m := by
  unfold Reg.fits at h
  simp at h
  omega
theorem found_mem {L : Nat → Reg} {n at_ size right m : Nat} (hc : chkOk L n m) (h : (found L n at_ size right).isSome = true) : at_ + size ≤ m := by
  obtain ⟨i, hi⟩ := Option.isSome_iff_exists.1 h
  obtain ⟨_, i1, i2, _⟩ := found_spec hi
  obtain ⟨a1, a2, a3⟩ := hit_spec.1 i2
  have := fits_lt (hc.2.2.1 i i1)
  omega
def R3 (k : Nat) : Nat := if k = 0 then 1 else if k = 1 then 2 else 4
set_option maxRecDepth 100000 in
set_option maxHeartbeats 8000000 in
theorem apart_law (a : Option Addr) (n c : Nat) (L : Nat → Reg) (b : Option Addr) (p d : Nat) (K : Nat → Reg) (m at_ : Nat) (w : World) (hL : RegsAt w a n L) (hK : RegsAt w b p K) (hn : n ≤ c) (hc : c ≤ 9223372036854775807) (hp : p ≤ d) (hd : d ≤ 9223372036854775807) (hm : m < 4294967296) (ha : at_ < 4294967296) :
    Calls Try.prog 6 #[.slice a n c, .slice b p d, .int .u32 (m : Int), .int .u32 (at_ : Int)] w fun e w' => e = .returned (.bool true) ∧ Below w.heap.size w w' := by
  have HL := Lib.hid hL; have HK := Lib.hid hK
  clear hL hK
  have KN := Lib.hid (fun W => known_any W)
  go_enter Try.func6, Try.ntmps6
  go_wp2_with fail
  (with_reducible refine (KN.out w).mono ?_); rintro e w1 ⟨rfl, hb1⟩
  have B1 := Lib.hid hb1
  have L1 : Hid (RegsAt w1 a n L) := HL.out.below B1.out
  have K1 : Hid (RegsAt w1 b p K) := HK.out.below B1.out
  clear hb1 KN
  go_wp2_with fail
  refine (check_any a n c L m w1 (by omega) hn hm L1.out).mono ?_
  rintro e w2 ⟨⟨c1, rfl, hc1⟩, hb2⟩
  have B2 := Lib.hid (B1.out.trans (hb2.mono B1.out.size))
  have L2 : Hid (RegsAt w2 a n L) := L1.out.below hb2
  have K2 : Hid (RegsAt w2 b p K) := K1.out.below hb2
  have C1 := Lib.hid hc1
  clear hb2 hc1
  by_cases z1 : c1 = 0
  case neg =>
    have t1 : (c1 == 0) = false := by simpa using z1
    have t1' : (c1 != 0) = true := by simpa using z1
    clear z1
    go_wp2_with fail
    go_ret
    exact ⟨rfl, B2.out⟩
  case pos =>
    subst z1
    have C2 := Lib.hid (C1.out rfl)
    clear C1
    go_wp2_with fail
    refine (check_any b p d K m w2 (by omega) hp hm K2.out).mono ?_
    rintro e w3 ⟨⟨c1, rfl, hc1⟩, hb3⟩
    have B3 := Lib.hid (B2.out.trans (hb3.mono B2.out.size))
    have L3 : Hid (RegsAt w3 a n L) := L2.out.below hb3
    have K3 : Hid (RegsAt w3 b p K) := K2.out.below hb3
    have C1 := Lib.hid hc1
    clear hb3 hc1
    by_cases z1 : c1 = 0
    case neg =>
      have t1 : (c1 == 0) = false := by simpa using z1
      have t1' : (c1 != 0) = true := by simpa using z1
      clear z1
      go_wp2_with fail
      go_ret
      exact ⟨rfl, B3.out⟩
    case pos =>
      subst z1
      have C3 := Lib.hid (C1.out rfl)
      clear C1
      go_wp2_with fail
      (with_reducible refine (show Calls Try.prog 19 #[.slice a n c, .int .u32 (at_ : Int), .int .u32 1, .int .u8 2] w3 _ from find_any a n c L at_ 1 2 w3 L3.out (by omega) ha (by omega) (by omega)).mono ?_)
      rintro e w4 ⟨rfl, hb4⟩
      have B4 := Lib.hid (B3.out.trans (hb4.mono B3.out.size))
      have L4 : Hid (RegsAt w4 a n L) := L3.out.below hb4
      have K4 : Hid (RegsAt w4 b p K) := K3.out.below hb4
      clear hb4
      unfold findV
      have HME : Hid ((found L n at_ 1 2).isSome = true → at_ + 1 ≤ m) := fun h => found_mem C2.out h
      have HAP : Hid ((found L n at_ 1 2).isSome = true → ∀ r, (found K p at_ 1 r).isSome = true → apartB L n K p = false) := fun h r hr => apart_byte h hr
      generalize (found L n at_ 1 2).isSome = wr at *
      generalize (found L n at_ 1 2).getD 0 = ix at *
      have HCM := Lib.hid (apartB_comm L K n p)
      have B5 : Hid (Below w.heap.size w (w4.alloc (.cells #[.int .u8 1, .int .u8 2, .int .u8 4] 5))) := B4.out.alloc B4.out.size _
      have G5 : Hid ((w4.alloc (.cells #[.int .u8 1, .int .u8 2, .int .u8 4] 5)).heap[w4.heap.size]? = some (.cells #[.int .u8 1, .int .u8 2, .int .u8 4] 5 (0, 0))) := heap_alloc_new _ _
      have L5 : Hid (RegsAt (w4.alloc (.cells #[.int .u8 1, .int .u8 2, .int .u8 4] 5)) a n L) := L4.out.below (alloc_below _ _)
      have K5 : Hid (RegsAt (w4.alloc (.cells #[.int .u8 1, .int .u8 2, .int .u8 4] 5)) b p K) := K4.out.below (alloc_below _ _)
      have hn' : n ≤ 9223372036854775807 := by omega
      have hp' : p ≤ 9223372036854775807 := by omega
      clear L1 L2 L3 K1 K2 K3 B1 B2 B3 HL HK C2 C3 L4 K4
      cases wr
      case false =>
        clear HME HAP
        go_wp2_with fail
        go_loopw [41] (fun i wr => ∃ k : Nat, k ≤ 3 ∧ i = .int .i64 k ∧ Below w.heap.size w wr ∧ wr.heap[w4.heap.size]? = some (.cells #[.int .u8 1, .int .u8 2, .int .u8 4] 5 (0, 0)) ∧ RegsAt wr a n L ∧ RegsAt wr b p K) (fun i _ => 3 - (intOf i).toNat)
        case atStart => exact ⟨0, by omega, rfl, B5.out, G5.out, L5.out, K5.out⟩
        case round =>
          obtain ⟨k, hk, rfl, hb, hg, hl, hkk⟩ := hrel
          have B6 := Lib.hid hb; have G6 := Lib.hid hg; have L6 := Lib.hid hl; have K6 := Lib.hid hkk
          clear hb hg hl hkk B5 G5 L5 K5
          obtain ⟨w6, rfl⟩ : ∃ w6 : World, w6 = wr := ⟨_, rfl⟩
          by_cases hlt : k < 3
          · have x0 : w6.cell? ⟨w4.heap.size, k, none⟩ = some (.int .u8 (R3 k : Int)) := cell_row G6.out (by
              match k, hlt with
              | 0, _ => rfl
              | 1, _ => rfl
              | 2, _ => rfl)
            have hr3 : R3 k < 256 := by unfold R3; split; omega; split <;> omega
            generalize R3 k = r at *
            go_wp2_with fail
            (with_reducible refine (show Calls Try.prog 19 #[.slice b p d, .int .u32 (at_ : Int), .int .u32 1, .int .u8 (r : Int)] w6 _ from find_any b p d K at_ 1 r w6 K6.out hp' ha (by omega) hr3).mono ?_)
            rintro e w7 ⟨rfl, hb7⟩
            have B7 := Lib.hid (B6.out.trans (hb7.mono B6.out.size))
            have L7 : Hid (RegsAt w7 a n L) := L6.out.below hb7
            have K7 : Hid (RegsAt w7 b p K) := K6.out.below hb7
            have G7 := Lib.hid (kept G6.out hb7)
            clear hb7 B6 L6 K6 G6 x0
            unfold findV
            generalize (found K p at_ 1 r).isSome = is at *
            generalize (found K p at_ 1 r).getD 0 = iy at *
            go_wp2_with fail
            refine (apart_any a n c L b p d K w7 L7.out K7.out hn' hp').mono ?_
            rintro e w8 ⟨rfl, hb8⟩
            have B8 := Lib.hid (B7.out.trans (hb8.mono B7.out.size))
            have L8 : Hid (RegsAt w8 a n L) := L7.out.below hb8
            have K8 : Hid (RegsAt w8 b p K) := K7.out.below hb8
            have G8 := Lib.hid (kept G7.out hb8)
            clear hb8 B7 L7 K7 G7
            have B7 := B8; have L7 := L8; have K7 := K8; have G7 := G8
            clear B8 L8 K8 G8
            cases hap : apartB L n K p
            case false =>
              go_wp2_with fail
              go_roundw
              case rel => exact ⟨k + 1, by omega, by go_num, B7.out, G7.out, L7.out, K7.out⟩
              case measure => simp [intOf]; omega
            case true =>
              go_wp2_with fail
              go_roundw
              case rel => exact ⟨k + 1, by omega, by go_num, B7.out, G7.out, L7.out, K7.out⟩
              case measure => simp [intOf]; omega
          · obtain rfl : k = 3 := by omega
            go_wp2_with fail
            refine (apart_any a n c L b p d K w6 L6.out K6.out hn' hp').mono ?_
            rintro e w7 ⟨rfl, hb7⟩
            have B7 := Lib.hid (B6.out.trans (hb7.mono B6.out.size))
            have L7 : Hid (RegsAt w7 a n L) := L6.out.below hb7
            have K7 : Hid (RegsAt w7 b p K) := K6.out.below hb7
            clear hb7 B6 L6 K6 G6
            go_wp2_with fail
            refine (apart_any b p d K a n c L w7 K7.out L7.out hp' hn').mono ?_
            rintro e w8 ⟨rfl, hb8⟩
            have B8 := Lib.hid (B7.out.trans (hb8.mono B7.out.size))
            clear hb8 B7 L7 K7
            rw [← HCM.out]
            go_wp2_with fail
            go_ret
            exact ⟨by simp, B8.out⟩
      case true =>
        have hmm := HME.out rfl
        have t3 : decide ((m : Int) ≤ (at_ : Int)) = false := by simp; omega
        have n3 : decide (m ≤ at_) = false := by simp; omega
        clear hmm
        go_wp2_with fail
        go_loopw [41] (fun i wr => ∃ k : Nat, k ≤ 3 ∧ i = .int .i64 k ∧ Below w.heap.size w wr ∧ wr.heap[w4.heap.size]? = some (.cells #[.int .u8 1, .int .u8 2, .int .u8 4] 5 (0, 0)) ∧ RegsAt wr a n L ∧ RegsAt wr b p K) (fun i _ => 3 - (intOf i).toNat)
        case atStart => exact ⟨0, by omega, rfl, B5.out, G5.out, L5.out, K5.out⟩
        case round =>
          obtain ⟨k, hk, rfl, hb, hg, hl, hkk⟩ := hrel
          have B6 := Lib.hid hb; have G6 := Lib.hid hg; have L6 := Lib.hid hl; have K6 := Lib.hid hkk
          clear hb hg hl hkk B5 G5 L5 K5
          obtain ⟨w6, rfl⟩ : ∃ w6 : World, w6 = wr := ⟨_, rfl⟩
          by_cases hlt : k < 3
          · have x0 : w6.cell? ⟨w4.heap.size, k, none⟩ = some (.int .u8 (R3 k : Int)) := cell_row G6.out (by
              match k, hlt with
              | 0, _ => rfl
              | 1, _ => rfl
              | 2, _ => rfl)
            have hr3 : R3 k < 256 := by unfold R3; split; omega; split <;> omega
            generalize R3 k = r at *
            go_wp2_with fail
            (with_reducible refine (show Calls Try.prog 19 #[.slice b p d, .int .u32 (at_ : Int), .int .u32 1, .int .u8 (r : Int)] w6 _ from find_any b p d K at_ 1 r w6 K6.out hp' ha (by omega) hr3).mono ?_)
            rintro e w7 ⟨rfl, hb7⟩
            have B7 := Lib.hid (B6.out.trans (hb7.mono B6.out.size))
            have L7 : Hid (RegsAt w7 a n L) := L6.out.below hb7
            have K7 : Hid (RegsAt w7 b p K) := K6.out.below hb7
            have G7 := Lib.hid (kept G6.out hb7)
            clear hb7 B6 L6 K6 G6 x0
            unfold findV
            have HX : Hid ((found K p at_ 1 r).isSome = true → apartB L n K p = false) := fun h => HAP.out (by trivial) r h
            generalize (found K p at_ 1 r).isSome = is at *
            generalize (found K p at_ 1 r).getD 0 = iy at *
            go_wp2_with fail
            refine (apart_any a n c L b p d K w7 L7.out K7.out hn' hp').mono ?_
            rintro e w8 ⟨rfl, hb8⟩
            have B8 := Lib.hid (B7.out.trans (hb8.mono B7.out.size))
            have L8 : Hid (RegsAt w8 a n L) := L7.out.below hb8
            have K8 : Hid (RegsAt w8 b p K) := K7.out.below hb8
            have G8 := Lib.hid (kept G7.out hb8)
            clear hb8 B7 L7 K7 G7
            have B7 := B8; have L7 := L8; have K7 := K8; have G7 := G8
            clear B8 L8 K8 G8
            cases his : is
            case false =>
              cases hap : apartB L n K p
              case false =>
                go_wp2_with fail
                go_roundw
                case rel => exact ⟨k + 1, by omega, by go_num, B7.out, G7.out, L7.out, K7.out⟩
                case measure => simp [intOf]; omega
              case true =>
                go_wp2_with fail
                go_roundw
                case rel => exact ⟨k + 1, by omega, by go_num, B7.out, G7.out, L7.out, K7.out⟩
                case measure => simp [intOf]; omega
            case true =>
              rw [HX.out his]
              clear his HX
              go_wp2_with fail
              go_roundw
              case rel => exact ⟨k + 1, by omega, by go_num, B7.out, G7.out, L7.out, K7.out⟩
              case measure => simp [intOf]; omega
          · obtain rfl : k = 3 := by omega
            go_wp2_with fail
            refine (apart_any a n c L b p d K w6 L6.out K6.out hn' hp').mono ?_
            rintro e w7 ⟨rfl, hb7⟩
            have B7 := Lib.hid (B6.out.trans (hb7.mono B6.out.size))
            have L7 : Hid (RegsAt w7 a n L) := L6.out.below hb7
            have K7 : Hid (RegsAt w7 b p K) := K6.out.below hb7
            clear hb7 B6 L6 K6 G6
            go_wp2_with fail
            refine (apart_any b p d K a n c L w7 K7.out L7.out hp' hn').mono ?_
            rintro e w8 ⟨rfl, hb8⟩
            have B8 := Lib.hid (B7.out.trans (hb8.mono B7.out.size))
            clear hb8 B7 L7 K7
            rw [← HCM.out]
            go_wp2_with fail
            go_ret
            exact ⟨by simp, B8.out⟩
theorem apart_walk (a : Option Addr) (n c : Nat) (b : Option Addr) (p d : Nat) (m t : Int) (w : World) (w0 : ReadsC w 29 [.slice a n c]) (w1 : ReadsC w 29 [.slice b p d]) (w2 : (Lit.int .u32 m).wf = true) (w3 : (Lit.int .u32 t).wf = true) :
    Calls Try.prog 6 #[.slice a n c, .slice b p d, .int .u32 m, .int .u32 t] w fun e w' => e = .returned (.bool true) ∧ Below w.heap.size w w' := by
  obtain ⟨l1, l2, L, hL⟩ := reads_regs w0
  obtain ⟨k1, k2, K, hK⟩ := reads_regs w1
  obtain ⟨mem, rfl, hm⟩ := u32_nat w2
  obtain ⟨at_, rfl, ha⟩ := u32_nat w3
  unfold maxLen at l2 k2
  exact apart_law a n c L b p d K mem at_ w hL hK l1 (by omega) k1 (by omega) hm ha
end Go.Proofs.Yteekneicahfkpaa
