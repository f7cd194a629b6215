/- RightsEach. -/
import Derived.Test.YteekneicahfkpaaRigAp
namespace Go.Proofs.Yteekneicahfkpaa
open Go.RowKit Go.Shelf
set_option linter.unusedVariables false
set_option linter.unusedSimpArgs false
def eachQ (L : Nat → Reg) (n at_ right i : Nat) : Bool := (List.range i).all fun j => (found L n (at_ + j) 1 right).isSome && decide ((found L n (at_ + j) 1 right).getD 0 = (found L n at_ 1 right).getD 0)
theorem eachQ_succ (L : Nat → Reg) (n at_ right i : Nat) : eachQ L n at_ right (i + 1) = (eachQ L n at_ right i && (found L n (at_ + i) 1 right).isSome && decide ((found L n (at_ + i) 1 right).getD 0 = (found L n at_ 1 right).getD 0)) := by
  unfold eachQ; rw [List.range_succ, List.all_append]; simp [Bool.and_assoc]
theorem found_some {L : Nat → Reg} {n at_ size right k : Nat} (hs : size ≠ 0) (hk : k < n) (h : (L k).hit at_ size right = true) (hb : ∀ j, j < k → (L j).hit at_ size right = false) : found L n at_ size right = some k := by
  unfold found; rw [if_neg hs]; exact first_some hk h hb
theorem found_is {L : Nat → Reg} {n at_ size right k : Nat} (hs : size ≠ 0) (hk : k < n) (h : (L k).hit at_ size right = true) : (found L n at_ size right).isSome = true := by
  unfold found; rw [if_neg hs]
  cases hf : first (fun i => (L i).hit at_ size right) n with
  | some x => rfl
  | none =>
    unfold first at hf
    rw [List.find?_eq_none] at hf
    have := hf k (by simpa using hk)
    simp [h] at this
/-- Of regions that do not overlap one alone has a byte. -/
theorem one_has {L : Nat → Reg} {n m : Nat} (hc : chkOk L n m) {i j at_ : Nat} (hi : i < n) (hj : j < n) (h1 : (L i).base ≤ at_) (h2 : at_ < (L i).base + (L i).size) (h3 : (L j).base ≤ at_) (h4 : at_ < (L j).base + (L j).size) : i = j := by
  have key : ∀ i j, i < n → (L i).base ≤ at_ → at_ < (L i).base + (L i).size → (L j).base ≤ at_ → at_ < (L j).base + (L j).size → ¬ j < i := fun i j hi h1 h2 h3 h4 h => by
    have := hc.2.2.2 i j h hi
    unfold Reg.over at this
    simp at this
    omega
  rcases Nat.lt_trichotomy i j with h | h | h
  · exact absurd h (key j i hj h3 h4 h1 h2)
  · exact h
  · exact absurd h (key i j hi h1 h2 h3 h4)
theorem found_byte {L : Nat → Reg} {n m : Nat} (hc : chkOk L n m) {k at_ right : Nat} (hk : k < n) (hr : (L k).rt &&& right = right) (h1 : (L k).base ≤ at_) (h2 : at_ < (L k).base + (L k).size) : found L n at_ 1 right = some k := by
  refine found_some (by omega) hk (hit_spec.2 ⟨hr, h1, by omega⟩) (fun j hj => ?_)
  cases e : (L j).hit at_ 1 right with
  | false => rfl
  | true =>
    obtain ⟨_, e2, e3⟩ := hit_spec.1 e
    have := one_has hc (show j < n by omega) hk e2 (by omega) h1 h2
    omega
theorem each_eq {L : Nat → Reg} {n m : Nat} (hc : chkOk L n m) (at_ size right : Nat) (hs : 0 < size) : (found L n at_ size right).isSome = eachQ L n at_ right size := by
  cases hb : eachQ L n at_ right size with
  | true =>
    unfold eachQ at hb
    simp only [List.all_eq_true, List.mem_range, Bool.and_eq_true, decide_eq_true_eq] at hb
    obtain ⟨k, hk⟩ := Option.isSome_iff_exists.1 (hb 0 hs).1
    rw [Nat.add_zero] at hk
    obtain ⟨_, k1, k2, _⟩ := found_spec hk
    obtain ⟨a1, a2, a3⟩ := hit_spec.1 k2
    refine found_is (by omega) k1 (hit_spec.2 ⟨a1, a2, ?_⟩)
    obtain ⟨h1, h2⟩ := hb (size - 1) (by omega)
    obtain ⟨q, hq⟩ := Option.isSome_iff_exists.1 h1
    rw [hq, hk] at h2
    obtain rfl : q = k := h2
    obtain ⟨_, _, q2, _⟩ := found_spec hq
    have := (hit_spec.1 q2).2.2
    omega
  | false =>
    cases hf : (found L n at_ size right).isSome with
    | false => rfl
    | true =>
      exfalso
      obtain ⟨k, hk⟩ := Option.isSome_iff_exists.1 hf
      obtain ⟨_, k1, k2, _⟩ := found_spec hk
      obtain ⟨a1, a2, a3⟩ := hit_spec.1 k2
      have : eachQ L n at_ right size = true := by
        unfold eachQ
        simp only [List.all_eq_true, List.mem_range, Bool.and_eq_true, decide_eq_true_eq]
        intro j hj
        rw [found_byte hc k1 a1 (show (L k).base ≤ at_ + j by omega) (by omega), found_byte hc k1 a1 a2 (by omega)]
        exact ⟨rfl, rfl⟩
      rw [hb] at this; cases this
theorem found_less {L : Nat → Reg} {n at_ size right : Nat} (x : Nat) (h : (found L n at_ size right).isSome = true) : (found L n at_ size (right &&& x)).isSome = true := by
  obtain ⟨k, hk⟩ := Option.isSome_iff_exists.1 h
  obtain ⟨hs, k1, k2, _⟩ := found_spec hk
  obtain ⟨a1, a2, a3⟩ := hit_spec.1 k2
  exact found_is hs k1 (hit_spec.2 ⟨by rw [← Nat.and_assoc, a1], a2, a3⟩)
theorem found_short {L : Nat → Reg} {n at_ size right : Nat} (h : (found L n at_ size right).isSome = true) : (found L n at_ (max (size - 1) 1) right).isSome = true := by
  obtain ⟨k, hk⟩ := Option.isSome_iff_exists.1 h
  obtain ⟨hs, k1, k2, _⟩ := found_spec hk
  obtain ⟨a1, a2, a3⟩ := hit_spec.1 k2
  exact found_is (by omega) k1 (hit_spec.2 ⟨a1, a2, by omega⟩)
theorem found_at {L : Nat → Reg} {n at_ size right : Nat} (h : (found L n at_ size right).isSome = true) : (found L n at_ size right).getD 0 < n ∧ (L ((found L n at_ size right).getD 0)).rt &&& right = right := by
  obtain ⟨k, hk⟩ := Option.isSome_iff_exists.1 h
  obtain ⟨hs, k1, k2, _⟩ := found_spec hk
  rw [hk]
  exact ⟨k1, (hit_spec.1 k2).1⟩
set_option maxRecDepth 100000 in
set_option maxHeartbeats 8000000 in
theorem each_law (a : Option Addr) (n c : Nat) (L : Nat → Reg) (m at_ size right : Nat) (w : World) (hL : RegsAt w a n L) (hn : n ≤ c) (hc : c ≤ 9223372036854775807) (hm : m < 4294967296) (ha : at_ < 4294967296) (hs : size < 4294967296) (hr : right < 256) :
    Calls Try.prog 7 #[.slice a n c, .int .u32 (m : Int), .int .u32 (at_ : Int), .int .u32 (size : Int), .int .u8 (right : Int)] w fun e w' => e = .returned (.bool true) ∧ Below w.heap.size w w' := by
  have HL := Lib.hid hL
  clear hL
  have KN := Lib.hid (fun W => known_any W)
  go_enter Try.func7, Try.ntmps7
  go_wp2_with fail
  (with_reducible refine (KN.out w).mono ?_); rintro e w1 ⟨rfl, hb1⟩
  have B1 := Lib.hid hb1
  have L1 : Hid (RegsAt w1 a n L) := HL.out.below B1.out
  clear hb1 KN HL
  go_wp2_with fail
  refine (check_any a n c L m w1 (by omega) hn hm L1.out).mono ?_
  rintro e w2 ⟨⟨c1, rfl, hc1⟩, hb2⟩
  have B2 := Lib.hid (B1.out.trans (hb2.mono B1.out.size))
  have L2 : Hid (RegsAt w2 a n L) := L1.out.below hb2
  have C1 := Lib.hid hc1
  clear hb2 hc1 B1 L1
  by_cases z1 : c1 = 0
  case neg =>
    have t1 : (c1 == 0) = false := by simpa using z1
    have t1' : (c1 != 0) = true := by simpa using z1
    clear z1
    go_wp2_with fail
    go_ret
    exact ⟨rfl, B2.out⟩
  case pos =>
    subst z1
    have C2 := Lib.hid (C1.out rfl)
    clear C1
    by_cases t1 : 100 < size
    · have t1' : decide (100 < (size : Int)) = true := by simp; omega
      go_wp2_with fail
      go_ret
      exact ⟨rfl, B2.out⟩
    · have t1' : decide (100 < (size : Int)) = false := by simp; omega
      by_cases t2 : size = 0
      · subst t2
        go_wp2_with fail
        go_ret
        exact ⟨rfl, B2.out⟩
      · have t2' : ((size : Int) == 0) = false := by simpa using t2
        go_wp2_with fail
        (with_reducible refine (find_any a n c L at_ size right w2 L2.out (by omega) ha hs hr).mono ?_)
        rintro e w3 ⟨rfl, hb3⟩
        have B3 := Lib.hid (B2.out.trans (hb3.mono B2.out.size))
        have L3 : Hid (RegsAt w3 a n L) := L2.out.below hb3
        clear hb3 B2 L2
        unfold findV
        have HEQ := Lib.hid (each_eq C2.out at_ size right (by omega))
        have HBIG : Hid ((found L n at_ size right).isSome = true → at_ + size ≤ 262144) := fun h => Nat.le_trans (found_mem C2.out h) C2.out.2.1
        have HLS := Lib.hid (fun x (h : (found L n at_ size right).isSome = true) => found_less x h)
        have HSH := Lib.hid (fun (h : (found L n at_ size right).isSome = true) => found_short h)
        have HAT := Lib.hid (fun (h : (found L n at_ size right).isSome = true) => found_at h)
        generalize (found L n at_ size right).isSome = is at *
        generalize (found L n at_ size right).getD 0 = ix at *
        have hn' : n ≤ 9223372036854775807 := by omega
        clear C2 hn hc
        go_wp2_with fail
        have HLE : Hid (∀ W, RegsAt W a n L → Calls Try.prog 19 #[.slice a n c, .int .u32 (at_ : Int), .int .u32 (size : Int), .int .u8 (bits .and .u8 (right : Int) (((right : Int) - 1) % 256))] W fun e w' => e = .returned (findV (found L n at_ size (right &&& ((right + 255) % 256)))) ∧ Below W.heap.size W w') := fun W hW => by
          have e1 : ((right : Int) - 1) % 256 = (((right + 255) % 256 : Nat) : Int) := by omega
          rw [e1, u8_and_nat right _ hr (Nat.mod_lt _ (by omega))]
          exact find_any a n c L at_ size _ W hW hn' ha hs (Nat.lt_of_le_of_lt Nat.and_le_left hr)
        have HSE : Hid (∀ W, RegsAt W a n L → Calls Try.prog 19 #[.slice a n c, .int .u32 (at_ : Int), .int .u32 (max ((size : Int) - 1) 1), .int .u8 (right : Int)] W fun e w' => e = .returned (findV (found L n at_ (max (size - 1) 1) right)) ∧ Below W.heap.size W w') := fun W hW => by
          have e1 : max ((size : Int) - 1) 1 = ((max (size - 1) 1 : Nat) : Int) := by omega
          rw [e1]
          exact find_any a n c L at_ (max (size - 1) 1) right W hW hn' ha (by omega) hr
        have HL1 := Lib.hid (HLS.out ((right + 255) % 256))
        unfold findV at HLE HSE
        generalize (found L n at_ size (right &&& ((right + 255) % 256))).isSome = les at *
        generalize (found L n at_ size (right &&& ((right + 255) % 256))).getD 0 = kl at *
        generalize (found L n at_ (max (size - 1) 1) right).isSome = sho at *
        generalize (found L n at_ (max (size - 1) 1) right).getD 0 = ks at *
        clear HLS
        go_loopw [13, 46] (fun al i wr => ∃ k : Nat, k ≤ size ∧ i = .int .u32 k ∧ al = .bool (eachQ L n at_ right k) ∧ (0 < k → at_ + k ≤ 4294967296) ∧ Below w.heap.size w wr ∧ RegsAt wr a n L) (fun _ i _ => size - (intOf i).toNat)
        case atStart => exact ⟨0, Nat.zero_le _, rfl, rfl, fun h => absurd h (by omega), B3.out, L3.out⟩
        case round =>
          obtain ⟨k, hk, rfl, rfl, hlim, hb, hl⟩ := hrel
          have B4 := Lib.hid hb; have L4 := Lib.hid hl
          clear hb hl B3 L3
          obtain ⟨w4, rfl⟩ : ∃ w4 : World, w4 = wr := ⟨_, rfl⟩
          by_cases hlt : k < size
          · by_cases hbig : 4294967296 ≤ at_ + k
            · have t5 : decide (4294967296 ≤ (at_ : Int) + (k : Int)) = true := by simp; omega
              have n5 : decide (4294967296 ≤ at_ + k) = true := by simp; omega
              have hisf : is = false := by
                cases his : is with
                | false => rfl
                | true => have := HBIG.out his; omega
              subst hisf
              go_wp2_with fail
              (with_reducible refine (HLE.out w4 (L4.out)).mono ?_)
              rintro e w5 ⟨rfl, hb7⟩
              have B7 := Lib.hid ((B4.out).trans (hb7.mono (B4.out).size))
              have L7 := Lib.hid (RegsAt.below (L4.out) hb7)
              clear hb7
              go_wp2_with fail
              (with_reducible refine (HSE.out w5 L7.out).mono ?_)
              rintro e w6 ⟨rfl, hb8⟩
              have B8 := Lib.hid (B7.out.trans (hb8.mono B7.out.size))
              clear hb8 B7 L7
              go_wp2_with fail
              go_ret
              exact ⟨rfl, B8.out⟩
            · have t5 : decide (4294967296 ≤ (at_ : Int) + (k : Int)) = false := by simp; omega
              have n5 : decide (4294967296 ≤ at_ + k) = false := by simp; omega
              have hmod : ((at_ : Int) + (k : Int)) % 4294967296 = (at_ : Int) + (k : Int) := by omega
              have HES := Lib.hid (eachQ_succ L n at_ right k)
              have HFI : Hid (∀ W, RegsAt W a n L → Calls Try.prog 19 #[.slice a n c, .int .u32 ((at_ : Int) + (k : Int)), .int .u32 1, .int .u8 (right : Int)] W fun e w' => e = .returned (findV (found L n (at_ + k) 1 right)) ∧ Below W.heap.size W w') := fun W hW => find_any a n c L (at_ + k) 1 right W hW hn' (by omega) (by omega) hr
              have HFJ : Hid (∀ W, RegsAt W a n L → Calls Try.prog 19 #[.slice a n c, .int .u32 (at_ : Int), .int .u32 1, .int .u8 (right : Int)] W fun e w' => e = .returned (findV (found L n at_ 1 right)) ∧ Below W.heap.size W w') := fun W hW => find_any a n c L at_ 1 right W hW hn' ha (by omega) hr
              unfold findV at HFI HFJ
              generalize (found L n (at_ + k) 1 right).isSome = on at *
              generalize (found L n (at_ + k) 1 right).getD 0 = ki at *
              generalize (found L n at_ 1 right).isSome = o0 at *
              generalize (found L n at_ 1 right).getD 0 = k0 at *
              go_wp2_with fail
              (with_reducible refine (HFI.out w4 L4.out).mono ?_)
              rintro e w5 ⟨rfl, hb5⟩
              have B5 := Lib.hid (B4.out.trans (hb5.mono B4.out.size))
              have L5 : Hid (RegsAt w5 a n L) := L4.out.below hb5
              clear hb5 B4 L4
              go_wp2_with fail
              (with_reducible refine (HFJ.out w5 L5.out).mono ?_)
              rintro e w6 ⟨rfl, hb6⟩
              have B6 := Lib.hid (B5.out.trans (hb6.mono B5.out.size))
              have L6 : Hid (RegsAt w6 a n L) := L5.out.below hb6
              clear hb6 B5 L5
              clear HFI HFJ t5 n5 hmod HLE HSE HL1 HSH HAT HEQ HBIG
              cases haq : eachQ L n at_ right k
              case false =>
                rw [haq] at HES
                clear haq
                have HX : Hid (eachQ L n at_ right (k + 1) = false) := by show _ = _; rw [HES.out]; simp
                clear HES
                go_wp2_with fail
                go_roundw
                case rel => exact ⟨k + 1, by omega, by go_num, by rw [HX.out], fun _ => by omega, B6.out, L6.out⟩
                case measure => simp [intOf]; omega
              case true =>
                rw [haq] at HES
                clear haq
                cases on
                case false =>
                  have HX : Hid (eachQ L n at_ right (k + 1) = false) := by show _ = _; rw [HES.out]; simp
                  clear HES
                  go_wp2_with fail
                  go_roundw
                  case rel => exact ⟨k + 1, by omega, by go_num, by rw [HX.out], fun _ => by omega, B6.out, L6.out⟩
                  case measure => simp [intOf]; omega
                case true =>
                  by_cases hkk : ki = k0
                  · subst hkk
                    have HX : Hid (eachQ L n at_ right (k + 1) = true) := by show _ = _; rw [HES.out]; simp
                    clear HES
                    go_wp2_with fail
                    go_roundw
                    case rel => exact ⟨k + 1, by omega, by go_num, by rw [HX.out], fun _ => by omega, B6.out, L6.out⟩
                    case measure => simp [intOf]; omega
                  · have e1 : ((ki : Int) == (k0 : Int)) = false := by simp; omega
                    have e2 : (ki == k0) = false := by simp; omega
                    have HX : Hid (eachQ L n at_ right (k + 1) = false) := by show _ = _; rw [HES.out]; simp [hkk]
                    clear HES hkk
                    go_wp2_with fail
                    go_roundw
                    case rel => exact ⟨k + 1, by omega, by go_num, by rw [HX.out], fun _ => by omega, B6.out, L6.out⟩
                    case measure => simp [intOf]; omega
          · obtain rfl : k = size := by omega
            rw [← HEQ.out]
            cases is
            case false =>
              go_wp2_with fail
              (with_reducible refine (HLE.out w4 (L4.out)).mono ?_)
              rintro e w5 ⟨rfl, hb7⟩
              have B7 := Lib.hid ((B4.out).trans (hb7.mono (B4.out).size))
              have L7 := Lib.hid (RegsAt.below (L4.out) hb7)
              clear hb7
              go_wp2_with fail
              (with_reducible refine (HSE.out w5 L7.out).mono ?_)
              rintro e w6 ⟨rfl, hb8⟩
              have B8 := Lib.hid (B7.out.trans (hb8.mono B7.out.size))
              clear hb8 B7 L7
              go_wp2_with fail
              go_ret
              exact ⟨rfl, B8.out⟩
            case true =>
              obtain ⟨hix, hri⟩ := HAT.out rfl
              have hle := HL1.out rfl
              have hsh := HSH.out rfl
              subst hle; subst hsh
              obtain ⟨sb, soff, rfl, hsl, hcells⟩ := L4.out.1.at (by omega)
              have x2 : w4.cell? ⟨sb, soff + ix * 3 + 2, none⟩ = some (.int .u8 ((L ix).rt : Int)) := hcells ix hix 2 (by omega)
              have hri2 : bits .and .u8 ((L ix).rt : Int) (right : Int) = (right : Int) := by rw [u8_and_nat _ _ (L4.out.2 ix).rt hr, hri]
              generalize (L ix).rt = rt at *
              clear hcells hri
              go_wp2_with fail
              (with_reducible refine (HLE.out w4 (L4.out)).mono ?_)
              rintro e w5 ⟨rfl, hb7⟩
              have B7 := Lib.hid ((B4.out).trans (hb7.mono (B4.out).size))
              have L7 := Lib.hid (RegsAt.below (L4.out) hb7)
              clear hb7
              go_wp2_with fail
              (with_reducible refine (HSE.out w5 L7.out).mono ?_)
              rintro e w6 ⟨rfl, hb8⟩
              have B8 := Lib.hid (B7.out.trans (hb8.mono B7.out.size))
              clear hb8 B7 L7
              go_wp2_with fail
              go_ret
              exact ⟨rfl, B8.out⟩
theorem each_walk (a : Option Addr) (n c : Nat) (m t s r : Int) (w : World) (w0 : ReadsC w 29 [.slice a n c]) (w1 : (Lit.int .u32 m).wf = true) (w2 : (Lit.int .u32 t).wf = true) (w3 : (Lit.int .u32 s).wf = true) (w4 : (Lit.int .u8 r).wf = true) :
    Calls Try.prog 7 #[.slice a n c, .int .u32 m, .int .u32 t, .int .u32 s, .int .u8 r] w fun e w' => e = .returned (.bool true) ∧ Below w.heap.size w w' := by
  obtain ⟨l1, l2, L, hL⟩ := reads_regs w0
  obtain ⟨mem, rfl, hm⟩ := u32_nat w1
  obtain ⟨at_, rfl, ha⟩ := u32_nat w2
  obtain ⟨size, rfl, hs⟩ := u32_nat w3
  obtain ⟨right, rfl, hr⟩ := u8_nat w4
  unfold maxLen at l2
  exact each_law a n c L mem at_ size right w hL l1 (by omega) hm ha hs hr
end Go.Proofs.Yteekneicahfkpaa
