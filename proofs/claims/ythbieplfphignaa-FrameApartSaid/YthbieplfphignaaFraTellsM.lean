/- The walk of FrameTells, of a definition that is gone through. -/
import Derived.Test.YthbieplfphignaaFraTells
namespace Go.Proofs.Ythbieplfphignaa
open Go.RowKit Go.Shelf
set_option linter.unusedVariables false
set_option maxHeartbeats 16000000 in
theorem tells_ok (L sw : Nat) (a : Option Addr) (len cap : Nat) (S : Nat → SlotR) (parts part : Int) (k tick : Nat) (n : Int) (w : World) (hm : len ≤ 2000) (hL : L < 4294967296) (hsw : sw < 4294967296) (hk : k < 18446744073709551616) (ht : tick < 18446744073709551616) (hq0 : -9223372036854775808 ≤ parts) (hq1 : parts ≤ 9223372036854775807) (hS : SlotsAt w a len S) :
    Calls Try.prog 3 #[.agg #[.int .u32 (L : Int), .int .u32 (sw : Int), .slice a len cap], .int .i64 parts, .int .i64 part, .int .u64 (k : Int), .int .u64 (tick : Int), .int .i64 n] w fun e W' => e = .returned (.bool true) ∧ Below w.heap.size w W' := by
  have t1 : decide (2000 < (len : Int)) = false := by simp; omega
  have HS := Lib.hid hS
  have HA := Lib.hid (fun W hW => at_any L sw a len cap S tick W (by omega) hL ht (hS.below hW))
  have HRA := Lib.hid (fun W hW => refAt_any L sw a len cap S tick W (by omega) hL ht (hS.below hW))
  have HO := Lib.hid (fun W hW => of_any L sw a len cap S part W (by omega) (hS.below hW))
  have HRO := Lib.hid (fun W hW => refOf_any L sw a len cap S part W (by omega) (hS.below hW))
  have HC := Lib.hid (fun W hW => check_any L sw a len cap S parts W (by omega) hL hsw hq0 hq1 (hS.below hW))
  have HRC := Lib.hid (fun W hW => refCheck_any L sw a len cap S parts W (by omega) hL hsw hq0 hq1 (hS.below hW))
  have HBG := Lib.hid (fun W hW => begin_any L sw a len cap S k n W (by omega) hL hk (hS.below hW))
  have HRB := Lib.hid (fun W hW => refBegin_any L sw a len cap S k n W (by omega) hL hk (hS.below hW))
  have HLO := Lib.hid (fun W hW => load_any L sw a len cap S W (by omega) hsw (hS.below hW))
  have HRL := Lib.hid (fun W hW => refLoad_any L sw a len cap S W hm hsw (hS.below hW))
  clear hS
  have hll : (ofL S part len).length ≤ 2000 := Nat.le_trans (ofL_len S part len) hm
  generalize tick / L = Q at *
  generalize (if L = 0 then -1 else atN S (tick % L) len) = An at *
  generalize ofL S part len = l at *
  generalize chkV S L sw len parts = cv at *
  generalize beginI L S len k n = bv at *
  generalize loadM sw S len = lv at *
  go_enter Try.func3, Try.ntmps3
  go_wp2_with fail
  have hH := Held.new w #[.int .u32 (L : Int), .int .u32 (sw : Int), .slice a len cap] 25
  refine (known_any _).mono ?_
  rintro e w1 ⟨rfl, hb1⟩
  have B1 : Hid (Below w.heap.size w w1) := (below_box w _).trans (hb1.mono (by simp))
  have H1 : Hid (Held w1 w.heap.size #[.int .u32 (L : Int), .int .u32 (sw : Int), .slice a len cap] 25) := (hb1.block _ hH.lt).trans hH
  clear hb1 hH
  have d0 : w1.cell? ⟨w.heap.size, 0, none⟩ = some (.int .u32 (L : Int)) := H1.out.cell 0 _ rfl
  have d1 : w1.cell? ⟨w.heap.size, 1, none⟩ = some (.int .u32 (sw : Int)) := H1.out.cell 1 _ rfl
  have d2 : w1.cell? ⟨w.heap.size, 2, none⟩ = some (.slice a len cap) := H1.out.cell 2 _ rfl
  go_wp2_with fail
  clear d0 d1 d2
  refine (great_any L sw a len cap false _ t1).mono ?_
  rintro e w2 ⟨rfl, hb⟩
  have B2 : Hid (Below w.heap.size w w2) := B1.out.trans (hb.mono B1.out.size)
  have H2 : Hid (Held w2 w.heap.size #[.int .u32 (L : Int), .int .u32 (sw : Int), .slice a len cap] 25) := (hb.block _ H1.out.lt).trans H1.out
  clear hb
  have d0 : w2.cell? ⟨w.heap.size, 0, none⟩ = some (.int .u32 (L : Int)) := H2.out.cell 0 _ rfl
  have d1 : w2.cell? ⟨w.heap.size, 1, none⟩ = some (.int .u32 (sw : Int)) := H2.out.cell 1 _ rfl
  have d2 : w2.cell? ⟨w.heap.size, 2, none⟩ = some (.slice a len cap) := H2.out.cell 2 _ rfl
  go_wp2_with fail
  clear d0 d1 d2
  refine (HA.out _ B2.out).mono ?_
  rintro e w3 ⟨rfl, hb⟩
  have B3 : Hid (Below w.heap.size w w3) := B2.out.trans (hb.mono B2.out.size)
  have H3 : Hid (Held w3 w.heap.size #[.int .u32 (L : Int), .int .u32 (sw : Int), .slice a len cap] 25) := (hb.block _ H2.out.lt).trans H2.out
  clear hb
  have d0 : w3.cell? ⟨w.heap.size, 0, none⟩ = some (.int .u32 (L : Int)) := H3.out.cell 0 _ rfl
  have d1 : w3.cell? ⟨w.heap.size, 1, none⟩ = some (.int .u32 (sw : Int)) := H3.out.cell 1 _ rfl
  have d2 : w3.cell? ⟨w.heap.size, 2, none⟩ = some (.slice a len cap) := H3.out.cell 2 _ rfl
  go_wp2_with fail
  clear d0 d1 d2
  refine (HRA.out _ B3.out).mono ?_
  rintro e w4 ⟨rfl, hb⟩
  have B4 : Hid (Below w.heap.size w w4) := B3.out.trans (hb.mono B3.out.size)
  have H4 : Hid (Held w4 w.heap.size #[.int .u32 (L : Int), .int .u32 (sw : Int), .slice a len cap] 25) := (hb.block _ H3.out.lt).trans H3.out
  clear hb
  go_wp2_with fail
  go_region_held3 (fun W => W.cell? ⟨w.heap.size, 0, none⟩ = some (.int .u32 (L : Int)) ∧ W.cell? ⟨w.heap.size, 1, none⟩ = some (.int .u32 (sw : Int)) ∧ W.cell? ⟨w.heap.size, 2, none⟩ = some (.slice a len cap)) (first
    | exact ⟨H6.out.cell 0 _ rfl, H6.out.cell 1 _ rfl, H6.out.cell 2 _ rfl⟩
    | exact ⟨H5.out.cell 0 _ rfl, H5.out.cell 1 _ rfl, H5.out.cell 2 _ rfl⟩
    | exact ⟨H4.out.cell 0 _ rfl, H4.out.cell 1 _ rfl, H4.out.cell 2 _ rfl⟩) (first
    | (go_at_call 12; (with_reducible refine (HRO.out w5 B5.out).mono ?_); rintro e w6 ⟨v6, rfl, hO6, hb⟩; obtain ⟨a6, c6, rfl, hc6, hL6⟩ := rowAt hO6; have B6 : Hid (Below w.heap.size w w6) := B5.out.trans (hb.mono B5.out.size); have H6 : Hid (Held w6 w.heap.size #[.int .u32 (L : Int), .int .u32 (sw : Int), .slice a len cap] 25) := (hb.block _ H5.out.lt).trans H5.out; have M6 := Lib.hid hL6; have L6 := Lib.hid (hL5.out.below hb); clear hb hO6 hL6)
    | (go_at_call 11; (with_reducible refine (HO.out w4.drew B4.out.drew).mono ?_); rintro e w5 ⟨v5, rfl, hO5, hb⟩; obtain ⟨a5, c5, rfl, hc5, hL⟩ := rowAt hO5; have hL5 := Lib.hid hL; have B5 : Hid (Below w.heap.size w w5) := B4.out.drew.trans (hb.mono B4.out.size); have H5 : Hid (Held w5 w.heap.size #[.int .u32 (L : Int), .int .u32 (sw : Int), .slice a len cap] 25) := (hb.block _ H4.out.lt).trans H4.out; clear hb hO5 hL))
  go_wp2_with fail
  go_loop [50] (fun i => ∃ j : Nat, j ≤ l.length ∧ i = .int .i64 j) (fun i => l.length - (intOf i).toNat)
  case atStart => exact ⟨0, Nat.zero_le _, rfl⟩
  case round =>
    obtain ⟨j, hj, rfl⟩ := hrel
    by_cases hlt : j < l.length
    · obtain ⟨b5, o5, rfl, hb5, hx5⟩ := L6.out.at (by omega)
      obtain ⟨b6, o6, rfl, hb6, hx6⟩ := M6.out.at (by omega)
      have x5 : w6.cell? ⟨b5, o5 + j, none⟩ = some (.int .i64 ((l[j]?.getD 0 : Nat) : Int)) := hx5 j hlt
      have x6 : w6.cell? ⟨b6, o6 + j, none⟩ = some (.int .i64 ((l[j]?.getD 0 : Nat) : Int)) := hx6 j hlt
      clear hx5 hx6
      have i1 : (j : Int) < (l.length : Int) := by omega
      generalize l[j]?.getD 0 = xv at *
      go_wp2_with fail
      go_round
      case rel => exact ⟨j + 1, by omega, by go_num⟩
      case measure => simp [intOf]; omega
    · have hjl : j = l.length := by omega
      clear hlt
      cases hcv : (cv == 0)
      all_goals
        have d0 : w6.cell? ⟨w.heap.size, 0, none⟩ = some (.int .u32 (L : Int)) := H6.out.cell 0 _ rfl
        have d1 : w6.cell? ⟨w.heap.size, 1, none⟩ = some (.int .u32 (sw : Int)) := H6.out.cell 1 _ rfl
        have d2 : w6.cell? ⟨w.heap.size, 2, none⟩ = some (.slice a len cap) := H6.out.cell 2 _ rfl
        subst hjl
        go_wp2_with fail
        clear d0 d1 d2
        refine (HC.out _ B6.out).mono ?_
        rintro e w7 ⟨rfl, hb⟩
        have B7 : Hid (Below w.heap.size w w7) := B6.out.trans (hb.mono B6.out.size)
        have H7 : Hid (Held w7 w.heap.size #[.int .u32 (L : Int), .int .u32 (sw : Int), .slice a len cap] 25) := (hb.block _ H6.out.lt).trans H6.out
        clear hb
        go_wp2_with fail
        go_region_held3 (fun W => W.cell? ⟨w.heap.size, 0, none⟩ = some (.int .u32 (L : Int)) ∧ W.cell? ⟨w.heap.size, 1, none⟩ = some (.int .u32 (sw : Int)) ∧ W.cell? ⟨w.heap.size, 2, none⟩ = some (.slice a len cap)) (first
          | exact ⟨H13.out.cell 0 _ rfl, H13.out.cell 1 _ rfl, H13.out.cell 2 _ rfl⟩
          | exact ⟨H12.out.cell 0 _ rfl, H12.out.cell 1 _ rfl, H12.out.cell 2 _ rfl⟩
          | exact ⟨H11.out.cell 0 _ rfl, H11.out.cell 1 _ rfl, H11.out.cell 2 _ rfl⟩
          | exact ⟨H10.out.cell 0 _ rfl, H10.out.cell 1 _ rfl, H10.out.cell 2 _ rfl⟩
          | exact ⟨H9.out.cell 0 _ rfl, H9.out.cell 1 _ rfl, H9.out.cell 2 _ rfl⟩
          | exact ⟨H8.out.cell 0 _ rfl, H8.out.cell 1 _ rfl, H8.out.cell 2 _ rfl⟩
          | exact ⟨H7.out.cell 0 _ rfl, H7.out.cell 1 _ rfl, H7.out.cell 2 _ rfl⟩) (first
          | (go_at_call 18; (with_reducible refine (HRL.out w12 B12.out).mono ?_); rintro e w13 ⟨rfl, hb⟩; have B13 : Hid (Below w.heap.size w w13) := B12.out.trans (hb.mono B12.out.size); have H13 : Hid (Held w13 w.heap.size #[.int .u32 (L : Int), .int .u32 (sw : Int), .slice a len cap] 25) := (hb.block _ H12.out.lt).trans H12.out; clear hb)
          | (go_at_call 17; (with_reducible refine (HLO.out w11 B11.out).mono ?_); rintro e w12 ⟨rfl, hb⟩; have B12 : Hid (Below w.heap.size w w12) := B11.out.trans (hb.mono B11.out.size); have H12 : Hid (Held w12 w.heap.size #[.int .u32 (L : Int), .int .u32 (sw : Int), .slice a len cap] 25) := (hb.block _ H11.out.lt).trans H11.out; clear hb)
          | (go_at_call 16; (with_reducible refine (HRB.out w10 B10.out).mono ?_); rintro e w11 ⟨rfl, hb⟩; have B11 : Hid (Below w.heap.size w w11) := B10.out.trans (hb.mono B10.out.size); have H11 : Hid (Held w11 w.heap.size #[.int .u32 (L : Int), .int .u32 (sw : Int), .slice a len cap] 25) := (hb.block _ H10.out.lt).trans H10.out; clear hb)
          | (go_at_call 15; (with_reducible refine (HBG.out w9 B9.out).mono ?_); rintro e w10 ⟨rfl, hb⟩; have B10 : Hid (Below w.heap.size w w10) := B9.out.trans (hb.mono B9.out.size); have H10 : Hid (Held w10 w.heap.size #[.int .u32 (L : Int), .int .u32 (sw : Int), .slice a len cap] 25) := (hb.block _ H9.out.lt).trans H9.out; clear hb)
          | (go_at_call 14; (with_reducible refine (HRC.out w8 B8.out).mono ?_); rintro e w9 ⟨rfl, hb⟩; have B9 : Hid (Below w.heap.size w w9) := B8.out.trans (hb.mono B8.out.size); have H9 : Hid (Held w9 w.heap.size #[.int .u32 (L : Int), .int .u32 (sw : Int), .slice a len cap] 25) := (hb.block _ H8.out.lt).trans H8.out; clear hb)
          | (go_at_call 13; (with_reducible refine (HC.out w7.drew B7.out.drew).mono ?_); rintro e w8 ⟨rfl, hb⟩; have B8 : Hid (Below w.heap.size w w8) := B7.out.drew.trans (hb.mono B7.out.size); have H8 : Hid (Held w8 w.heap.size #[.int .u32 (L : Int), .int .u32 (sw : Int), .slice a len cap] 25) := (hb.block _ H7.out.lt).trans H7.out; clear hb))
        go_wp2
        go_ret
        exact ⟨rfl, B13.out⟩
end Go.Proofs.Ythbieplfphignaa
