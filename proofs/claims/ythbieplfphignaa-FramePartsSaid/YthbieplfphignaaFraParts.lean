/- The walk of FrameParts. -/
import Derived.Test.YthbieplfphignaaFraPartsP
import Derived.Test.YthbieplfphignaaFraTellsE
import Derived.Deep.OwnRows
namespace Go.Proofs.Ythbieplfphignaa
open Go.RowKit Go.Shelf
set_option linter.unusedVariables false
theorem info3' : (Try.prog.info? 3).map (fun i => (i.zero, i.size, i.bytes)) = some (some (.int .i64 0), 1, 8) := by kernel_rfl
set_option maxHeartbeats 16000000 in
theorem parts_out (L sw : Nat) (a : Option Addr) (len cap : Nat) (S : Nat → SlotR) (parts : Int) (w : World) (hm : len ≤ 9223372036854775807) (hL : L < 4294967296) (hsw : sw < 4294967296) (hq0 : -9223372036854775808 ≤ parts) (hq1 : parts ≤ 9223372036854775807) (hS : SlotsAt w a len S)
    (h : 2000 < len ∨ 100 < parts ∨ chkV S L sw len parts ≠ 0) :
    Calls Try.prog 4 #[.agg #[.int .u32 (L : Int), .int .u32 (sw : Int), .slice a len cap], .int .i64 parts] w fun e W' => e = .returned (.bool true) ∧ Below w.heap.size w W' := by
  have HC := Lib.hid (fun W hW => check_any L sw a len cap S parts W (by omega) hL hsw hq0 hq1 (hS.below hW))
  clear hS
  cases t1 : decide (2000 < (len : Int))
  case true =>
    have T1 := Lib.hid t1
    clear t1 h
    go_enter Try.func4, Try.ntmps4
    go_wp2_with fail
    have hH := Held.new w #[.int .u32 (L : Int), .int .u32 (sw : Int), .slice a len cap] 25
    refine (known_any _).mono ?_
    rintro e w1 ⟨rfl, hb1⟩
    have B1 : Hid (Below w.heap.size w w1) := (below_box w _).trans (hb1.mono (by simp))
    have H1 : Hid (Held w1 w.heap.size #[.int .u32 (L : Int), .int .u32 (sw : Int), .slice a len cap] 25) := (hb1.block _ hH.lt).trans hH
    clear hb1 hH
    have d0 : w1.cell? ⟨w.heap.size, 0, none⟩ = some (.int .u32 (L : Int)) := H1.out.cell 0 _ rfl
    have d1 : w1.cell? ⟨w.heap.size, 1, none⟩ = some (.int .u32 (sw : Int)) := H1.out.cell 1 _ rfl
    have d2 : w1.cell? ⟨w.heap.size, 2, none⟩ = some (.slice a len cap) := H1.out.cell 2 _ rfl
    go_wp2_with fail
    clear d0 d1 d2
    refine (great_any L sw a len cap true _ T1.out).mono ?_
    rintro e w2 ⟨rfl, hb⟩
    have B2 : Hid (Below w.heap.size w w2) := B1.out.trans (hb.mono B1.out.size)
    have H2 : Hid (Held w2 w.heap.size #[.int .u32 (L : Int), .int .u32 (sw : Int), .slice a len cap] 25) := (hb.block _ H1.out.lt).trans H1.out
    clear hb
    go_wp2_with fail
    go_ret
    exact ⟨rfl, B2.out⟩
  case false =>
    have T1 := Lib.hid t1
    have hl : len ≤ 2000 := by simp at t1; omega
    clear t1
    cases t2 : decide (100 < parts)
    case true =>
      clear h
      go_enter Try.func4, Try.ntmps4
      go_wp2_with fail
      have hH := Held.new w #[.int .u32 (L : Int), .int .u32 (sw : Int), .slice a len cap] 25
      refine (known_any _).mono ?_
      rintro e w1 ⟨rfl, hb1⟩
      have B1 : Hid (Below w.heap.size w w1) := (below_box w _).trans (hb1.mono (by simp))
      have H1 : Hid (Held w1 w.heap.size #[.int .u32 (L : Int), .int .u32 (sw : Int), .slice a len cap] 25) := (hb1.block _ hH.lt).trans hH
      clear hb1 hH
      have d0 : w1.cell? ⟨w.heap.size, 0, none⟩ = some (.int .u32 (L : Int)) := H1.out.cell 0 _ rfl
      have d1 : w1.cell? ⟨w.heap.size, 1, none⟩ = some (.int .u32 (sw : Int)) := H1.out.cell 1 _ rfl
      have d2 : w1.cell? ⟨w.heap.size, 2, none⟩ = some (.slice a len cap) := H1.out.cell 2 _ rfl
      go_wp2_with fail
      clear d0 d1 d2
      refine (great_any L sw a len cap false _ T1.out).mono ?_
      rintro e w2 ⟨rfl, hb⟩
      have B2 : Hid (Below w.heap.size w w2) := B1.out.trans (hb.mono B1.out.size)
      have H2 : Hid (Held w2 w.heap.size #[.int .u32 (L : Int), .int .u32 (sw : Int), .slice a len cap] 25) := (hb.block _ H1.out.lt).trans H1.out
      clear hb
      go_wp2_with fail
      go_ret
      exact ⟨rfl, B2.out⟩
    case false =>
      have hc : (chkV S L sw len parts == 0) = false := by
        simp at t2
        rcases h with h | h | h
        · omega
        · omega
        · simpa using h
      have hc' : (chkV S L sw len parts != 0) = true := by simpa using hc
      clear h
      generalize chkV S L sw len parts = cv at *
      go_enter Try.func4, Try.ntmps4
      go_wp2_with fail
      have hH := Held.new w #[.int .u32 (L : Int), .int .u32 (sw : Int), .slice a len cap] 25
      refine (known_any _).mono ?_
      rintro e w1 ⟨rfl, hb1⟩
      have B1 : Hid (Below w.heap.size w w1) := (below_box w _).trans (hb1.mono (by simp))
      have H1 : Hid (Held w1 w.heap.size #[.int .u32 (L : Int), .int .u32 (sw : Int), .slice a len cap] 25) := (hb1.block _ hH.lt).trans hH
      clear hb1 hH
      have d0 : w1.cell? ⟨w.heap.size, 0, none⟩ = some (.int .u32 (L : Int)) := H1.out.cell 0 _ rfl
      have d1 : w1.cell? ⟨w.heap.size, 1, none⟩ = some (.int .u32 (sw : Int)) := H1.out.cell 1 _ rfl
      have d2 : w1.cell? ⟨w.heap.size, 2, none⟩ = some (.slice a len cap) := H1.out.cell 2 _ rfl
      go_wp2_with fail
      clear d0 d1 d2
      refine (great_any L sw a len cap false _ T1.out).mono ?_
      rintro e w2 ⟨rfl, hb⟩
      have B2 : Hid (Below w.heap.size w w2) := B1.out.trans (hb.mono B1.out.size)
      have H2 : Hid (Held w2 w.heap.size #[.int .u32 (L : Int), .int .u32 (sw : Int), .slice a len cap] 25) := (hb.block _ H1.out.lt).trans H1.out
      clear hb
      have d0 : w2.cell? ⟨w.heap.size, 0, none⟩ = some (.int .u32 (L : Int)) := H2.out.cell 0 _ rfl
      have d1 : w2.cell? ⟨w.heap.size, 1, none⟩ = some (.int .u32 (sw : Int)) := H2.out.cell 1 _ rfl
      have d2 : w2.cell? ⟨w.heap.size, 2, none⟩ = some (.slice a len cap) := H2.out.cell 2 _ rfl
      go_wp2_with fail
      clear d0 d1 d2
      refine (HC.out w2 B2.out).mono ?_
      rintro e w3 ⟨rfl, hb⟩
      have B3 : Hid (Below w.heap.size w w3) := B2.out.trans (hb.mono B2.out.size)
      have H3 : Hid (Held w3 w.heap.size #[.int .u32 (L : Int), .int .u32 (sw : Int), .slice a len cap] 25) := (hb.block _ H2.out.lt).trans H2.out
      clear hb
      go_wp2_with fail
      go_ret
      exact ⟨rfl, B3.out⟩
def lastV (l : List Nat) (j : Nat) : Int := if j = 0 then -1 else ((l.getD (j - 1) 0 : Nat) : Int)
theorem lastV_lt {l : List Nat} (h : l.Pairwise (· < ·)) {j : Nat} (hj : j < l.length) : lastV l j < ((l.getD j 0 : Nat) : Int) := by
  unfold lastV
  split
  · omega
  · have := sorted_get h (show j - 1 < j by omega) hj; omega
set_option maxHeartbeats 16000000 in
theorem parts_in (L sw : Nat) (a : Option Addr) (len cap : Nat) (S : Nat → SlotR) (parts : Int) (w : World) (hl : len ≤ 2000) (hL : L < 4294967296) (hsw : sw < 4294967296) (hq0 : -9223372036854775808 ≤ parts) (hq1 : parts ≤ 100) (hS : SlotsAt w a len S)
    (hc : chkV S L sw len parts = 0) :
    Calls Try.prog 4 #[.agg #[.int .u32 (L : Int), .int .u32 (sw : Int), .slice a len cap], .int .i64 parts] w fun e W' => e = .returned (.bool true) ∧ Below w.heap.size w W' := by
  have HC := Lib.hid (fun W hW => check_any L sw a len cap S parts W (by omega) hL hsw hq0 (by omega) (hS.below hW))
  have HO := Lib.hid (fun p W hW => of_any L sw a len cap S p W (by omega) (hS.below hW))
  have HO1 := Lib.hid (fun W hW => of_any L sw a len cap S parts W (by omega) (hS.below hW))
  have HO2 := Lib.hid (fun W hW => of_any L sw a len cap S (-1) W (by omega) (hS.below hW))
  have HS := Lib.hid hS
  obtain ⟨hl16, -, -, hsl, -⟩ := chk_zero hc
  have HSL := Lib.hid (sl_of hsl)
  rw [hc] at HC
  have HC2 := HC
  rw [ofL_nil (fun i hi => by have := HSL.out i hi; omega)] at HO1
  rw [ofL_nil (fun i hi => by have := HSL.out i hi; omega)] at HO2
  clear hS hc hsl HC
  have t1 : decide (2000 < (len : Int)) = false := by simp; omega
  have T1 := Lib.hid t1
  clear t1
  have t2 : decide (100 < parts) = false := by simp; omega
  have hmk := fun w => run_make_row' (P := Try.prog) 31 3 (.int .i64 0) 8 Try.underlying31 info3' rfl .i64 .i64 len (by omega) (by omega) w
  go_enter Try.func4, Try.ntmps4
  go_wp2_with fail
  have hH := Held.new w #[.int .u32 (L : Int), .int .u32 (sw : Int), .slice a len cap] 25
  refine (known_any _).mono ?_
  rintro e w1 ⟨rfl, hb1⟩
  have B1 : Hid (Below w.heap.size w w1) := (below_box w _).trans (hb1.mono (by simp))
  have H1 : Hid (Held w1 w.heap.size #[.int .u32 (L : Int), .int .u32 (sw : Int), .slice a len cap] 25) := (hb1.block _ hH.lt).trans hH
  clear hb1 hH
  have d0 : w1.cell? ⟨w.heap.size, 0, none⟩ = some (.int .u32 (L : Int)) := H1.out.cell 0 _ rfl
  have d1 : w1.cell? ⟨w.heap.size, 1, none⟩ = some (.int .u32 (sw : Int)) := H1.out.cell 1 _ rfl
  have d2 : w1.cell? ⟨w.heap.size, 2, none⟩ = some (.slice a len cap) := H1.out.cell 2 _ rfl
  go_wp2_with fail
  clear d0 d1 d2
  refine (great_any L sw a len cap false _ T1.out).mono ?_
  rintro e w2 ⟨rfl, hb⟩
  have B2 : Hid (Below w.heap.size w w2) := B1.out.trans (hb.mono B1.out.size)
  have H2 : Hid (Held w2 w.heap.size #[.int .u32 (L : Int), .int .u32 (sw : Int), .slice a len cap] 25) := (hb.block _ H1.out.lt).trans H1.out
  clear hb
  have d0 : w2.cell? ⟨w.heap.size, 0, none⟩ = some (.int .u32 (L : Int)) := H2.out.cell 0 _ rfl
  have d1 : w2.cell? ⟨w.heap.size, 1, none⟩ = some (.int .u32 (sw : Int)) := H2.out.cell 1 _ rfl
  have d2 : w2.cell? ⟨w.heap.size, 2, none⟩ = some (.slice a len cap) := H2.out.cell 2 _ rfl
  go_wp2_with fail
  clear d0 d1 d2
  refine (HC2.out w2 B2.out).mono ?_
  rintro e w3 ⟨rfl, hb⟩
  have B3 : Hid (Below w.heap.size w w3) := B2.out.trans (hb.mono B2.out.size)
  have H3 : Hid (Held w3 w.heap.size #[.int .u32 (L : Int), .int .u32 (sw : Int), .slice a len cap] 25) := (hb.block _ H2.out.lt).trans H2.out
  clear hb
  have d0 : w3.cell? ⟨w.heap.size, 0, none⟩ = some (.int .u32 (L : Int)) := H3.out.cell 0 _ rfl
  have d1 : w3.cell? ⟨w.heap.size, 1, none⟩ = some (.int .u32 (sw : Int)) := H3.out.cell 1 _ rfl
  have d2 : w3.cell? ⟨w.heap.size, 2, none⟩ = some (.slice a len cap) := H3.out.cell 2 _ rfl
  go_wp2_with fail
  clear hmk
  clear d0 d1 d2
  have hlt3 := H3.out.lt
  have hsz3 := B3.out.size
  obtain ⟨sb, hsb⟩ : ∃ sb, sb = w3.heap.size := ⟨_, rfl⟩
  have R4 : Hid (Held (w3.alloc (.cells (rowOf len (cntS S 0 [] 0)) 3)) sb (rowOf len (cntS S 0 [] 0)) 3) := by rw [hsb]; exact Held.new _ _ _
  rw [rowOf_zero, rowOf_congr (g := cntS S 0 [] 0) (fun j hj => (cntS_start len [] (HSL.out j hj).1).symm)]
  have B4 : Hid (Below w.heap.size w (w3.alloc (.cells (rowOf len (cntS S 0 [] 0)) 3))) := B3.out.alloc hsz3 _
  have H4 : Hid (Held (w3.alloc (.cells (rowOf len (cntS S 0 [] 0)) 3)) w.heap.size #[.int .u32 (L : Int), .int .u32 (sw : Int), .slice a len cap] 25) := H3.out.alloc _
  rw [← hsb]
  have hsb1 : w.heap.size < sb := by omega
  generalize w3.alloc (.cells (rowOf len (cntS S 0 [] 0)) 3) = w4 at *
  clear hsb hlt3 hsz3
  have R4' := Lib.hid R4.out
  go_loopw [31] (fun i wr => ∃ p : Nat, p ≤ parts.toNat ∧ i = .int .i64 p ∧ Held wr sb (rowOf len (cntS S p [] 0)) 3 ∧ Held wr w.heap.size #[.int .u32 (L : Int), .int .u32 (sw : Int), .slice a len cap] 25 ∧ Below w.heap.size w wr) (fun i _ => parts.toNat - (intOf i).toNat)
  case atStart => exact ⟨0, Nat.zero_le _, rfl, R4.out, H4.out, B4.out⟩
  case round =>
    obtain ⟨p, hp, rfl, r1, r2, r3⟩ := hrel
    obtain ⟨w5, rfl⟩ : ∃ w5 : World, w5 = wr := ⟨_, rfl⟩
    have R5 := Lib.hid r1; have H5 := Lib.hid r2; have B5 := Lib.hid r3
    clear r1 r2 r3
    by_cases hlt : (p : Int) < parts
    · skip
      have d0 : w5.cell? ⟨w.heap.size, 0, none⟩ = some (.int .u32 (L : Int)) := H5.out.cell 0 _ rfl
      have d1 : w5.cell? ⟨w.heap.size, 1, none⟩ = some (.int .u32 (sw : Int)) := H5.out.cell 1 _ rfl
      have d2 : w5.cell? ⟨w.heap.size, 2, none⟩ = some (.slice a len cap) := H5.out.cell 2 _ rfl
      go_wp2_with fail
      clear d0 d1 d2
      refine (HO.out p w5 B5.out).mono ?_
      rintro e w6 ⟨v6, rfl, hO6, hb⟩
      obtain ⟨a6, c6, rfl, hc6, hL6, hge6⟩ := rowAtB hO6
      have R6 : Hid (Held w6 sb (rowOf len (cntS S p [] 0)) 3) := (hb.block _ R5.out.lt).trans R5.out
      have M6 := Lib.hid hL6; have G6 := Lib.hid hge6
      have hsb5 := R5.out.lt
      have B6 : Hid (Below w.heap.size w w6) := B5.out.trans (hb.mono B5.out.size)
      have H6 : Hid (Held w6 w.heap.size #[.int .u32 (L : Int), .int .u32 (sw : Int), .slice a len cap] 25) := (hb.block _ H5.out.lt).trans H5.out
      clear hb
      clear hO6 hL6 hge6
      have hl6 : (ofL S p len).length ≤ 2000 := Nat.le_trans (ofL_len S p len) hl
      go_wp2_with fail
      go_loopw [38, 7] (fun i la wr => ∃ j : Nat, j ≤ (ofL S p len).length ∧ i = .int .i64 j ∧ la = .int .i64 (lastV (ofL S p len) j) ∧ Held wr sb (rowOf len (cntS S p (ofL S p len) j)) 3 ∧ SliceAt wr a6 (ofL S p len).length (fun i => .int .i64 (((ofL S p len).getD i 0 : Nat) : Int)) ∧ Held wr w.heap.size #[.int .u32 (L : Int), .int .u32 (sw : Int), .slice a len cap] 25 ∧ Below w.heap.size w wr) (fun i _ _ => (ofL S p len).length - (intOf i).toNat)
      case atStart => exact ⟨0, Nat.zero_le _, rfl, rfl, by rw [rowOf_congr (g := cntS S p [] 0) (fun _ _ => by simp [cntS])]; exact R6.out, M6.out, H6.out, B6.out⟩
      case round =>
        obtain ⟨j, hj, rfl, hla, r1, r2, r3, r4⟩ := hrel
        obtain ⟨w7, rfl⟩ : ∃ w7 : World, w7 = wr := ⟨_, rfl⟩
        subst hla
        have R7 := Lib.hid r1; have M7 := Lib.hid r2; have H7 := Lib.hid r3; have B7 := Lib.hid r4
        clear r1 r2 r3 r4
        by_cases hj2 : j < (ofL S p len).length
        · have hmem := ofL_mem.1 (get_mem hj2)
          have hsrt := sorted_take (ofL_sorted S p len) hj2
          have hprev := lastV_lt (ofL_sorted S p len) hj2
          have HT := Lib.hid (fun n => take_get hj2 n)
          have hc0 : cntS S p (ofL S p len) j ((ofL S p len).getD j 0) = 0 := by unfold cntS; rw [if_neg (fun h => h.elim (fun h => by omega) hsrt)]
          obtain ⟨b6, o6, rfl, hb6, hx6⟩ := M7.out.at (by omega)
          have x6 := hx6 j hj2
          have hge := G6.out b6 o6 rfl
          clear hx6
          obtain ⟨hx1, hx2⟩ := hmem
          have d0 : w7.cell? ⟨w.heap.size, 0, none⟩ = some (.int .u32 (L : Int)) := H7.out.cell 0 _ rfl
          have d1 : w7.cell? ⟨w.heap.size, 1, none⟩ = some (.int .u32 (sw : Int)) := H7.out.cell 1 _ rfl
          have d2 : w7.cell? ⟨w.heap.size, 2, none⟩ = some (.slice a len cap) := H7.out.cell 2 _ rfl
          obtain ⟨b, off, rfl, hbl, hcells⟩ := HS.out.1.at (show 0 < len by omega)
          have hB7 := B7.out.cell (p := ⟨b, off + (ofL S p len).getD j 0 * 3, none⟩) hbl
          have k0 : w7.cell? ⟨b, off + (ofL S p len).getD j 0 * 3, none⟩ = some (.int .i64 (S ((ofL S p len).getD j 0)).part) := hB7.trans (hcells _ hx1 0 (by omega))
          rw [hx2] at k0
          have y0 : w7.cell? ⟨sb, (ofL S p len).getD j 0, none⟩ = some (.int .i64 (cntS S p (ofL S p len) j ((ofL S p len).getD j 0))) := R7.out.cell _ _ (rowOf_get _ _ _ hx1)
          rw [hc0] at y0
          have f0 : w7.frozen? ⟨sb, (ofL S p len).getD j 0, none⟩ = false := R7.out.frozen _
          have HS1 : Hid ((rowOf len (cntS S p (ofL S p len) j)).setIfInBounds ((ofL S p len).getD j 0) (.int .i64 1) = rowOf len (cntS S p (ofL S p len) (j + 1))) := by
            refine rowOf_set _ _ _ _ _ ?_ ?_
            · unfold cntS; rw [if_pos (.inr ((HT.out _).2 (.inr rfl)))]
            · intro n hn hne
              unfold cntS
              have := HT.out n
              by_cases hq : (S n).part < p ∨ n ∈ (ofL S p len).take j
              · rw [if_pos hq, if_pos (hq.elim .inl fun h => .inr (this.2 (.inl h)))]
              · rw [if_neg hq, if_neg (fun h => hq (h.elim .inl fun h => .inr ((this.1 h).elim id fun e => absurd e hne)))]
          have HSP : Hid ((S ((ofL S p len).getD j 0)).part = p) := hx2
          have HN : Hid (lastV (ofL S p len) (j + 1) = (((ofL S p len).getD j 0 : Nat) : Int)) := rfl
          clear hcells hB7 hx2 hc0 hsrt HT
          generalize (ofL S p len).getD j 0 = x at *
          generalize lastV (ofL S p len) j = la at *
          have i1 : (j : Int) < ((ofL S p len).length : Int) := by omega
          have i2 : (x : Int) < (len : Int) := by omega
          have i3 : decide ((x : Int) ≤ la) = false := by simp; omega
          go_wp2_with fail
          go_roundw
          case rel =>
            refine ⟨j + 1, by omega, by go_num, by rw [HN.out], ?_, M7.out.setOther (fun b off e => by have := G6.out b off e; omega) _, H7.out.other (by omega) _ _, B7.out.setCell (by simp; omega) _⟩
            rw [← HS1.out]; exact heap_setCell_same _ _ _ _ _ _ R7.out
          case measure => simp [intOf]; omega
        · obtain rfl : j = (ofL S p len).length := by omega
          have HE : Hid (rowOf len (cntS S ((p : Int) + 1) [] 0) = rowOf len (cntS S p (ofL S p len) (ofL S p len).length)) := rowOf_congr fun n hn => cntS_next [] hn
          go_wp2_with fail
          go_roundw
          case rel => exact ⟨p + 1, by omega, by go_num, by rw [show ((p + 1 : Nat) : Int) = (p : Int) + 1 from by omega, HE.out]; exact R7.out, H7.out, B7.out⟩
          case measure => simp [intOf]; omega
    · obtain rfl : p = parts.toNat := by omega
      have HE : Hid (rowOf len (cntS S (parts.toNat : Int) [] 0) = rowOf len (fun _ => 1)) := rowOf_congr fun n hn => cntS_end (by have := HSL.out n hn; omega)
      have R6 : Hid (Held w5 sb (rowOf len (fun _ => 1)) 3) := by have := R5.out; rw [HE.out] at this; exact this
      have f0 : decide ((parts.toNat : Int) < parts) = false := by simp; omega
      clear HE R5 hlt
      go_wp2_with fail
      go_loop [72] (fun i => ∃ j : Nat, j ≤ len ∧ i = .int .i64 j) (fun i => len - (intOf i).toNat)
      case atStart => exact ⟨0, Nat.zero_le _, rfl⟩
      case round =>
        obtain ⟨j, hj, rfl⟩ := hrel
        by_cases hlt : j < len
        · have y0 : w5.cell? ⟨sb, j, none⟩ = some (.int .i64 1) := R6.out.cell _ _ (rowOf_get _ _ _ hlt)
          have i1 : (j : Int) < (len : Int) := by omega
          go_wp2_with fail
          go_round
          case rel => exact ⟨j + 1, by omega, by go_num⟩
          case measure => simp [intOf]; omega
        · skip
          have d0 : w5.cell? ⟨w.heap.size, 0, none⟩ = some (.int .u32 (L : Int)) := H5.out.cell 0 _ rfl
          have d1 : w5.cell? ⟨w.heap.size, 1, none⟩ = some (.int .u32 (sw : Int)) := H5.out.cell 1 _ rfl
          have d2 : w5.cell? ⟨w.heap.size, 2, none⟩ = some (.slice a len cap) := H5.out.cell 2 _ rfl
          obtain rfl : j = len := by omega
          go_wp2_with fail
          clear d0 d1 d2
          go_region_held3 (fun W => W.cell? ⟨w.heap.size, 0, none⟩ = some (.int .u32 (L : Int)) ∧ W.cell? ⟨w.heap.size, 1, none⟩ = some (.int .u32 (sw : Int)) ∧ W.cell? ⟨w.heap.size, 2, none⟩ = some (.slice a j cap)) (first
            | exact ⟨H7.out.cell 0 _ rfl, H7.out.cell 1 _ rfl, H7.out.cell 2 _ rfl⟩
            | exact ⟨H6.out.cell 0 _ rfl, H6.out.cell 1 _ rfl, H6.out.cell 2 _ rfl⟩
            | exact ⟨H5.out.cell 0 _ rfl, H5.out.cell 1 _ rfl, H5.out.cell 2 _ rfl⟩) (first
            | (go_at_call 11; (with_reducible refine (HO2.out w6 B6.out).mono ?_); rintro e w7 ⟨v7, rfl, hO7, hb⟩; obtain ⟨a7, c7, rfl, -, -, -⟩ := rowAtB hO7; have B7 : Hid (Below w.heap.size w w7) := B6.out.trans (hb.mono B6.out.size); have H7 : Hid (Held w7 w.heap.size #[.int .u32 (L : Int), .int .u32 (sw : Int), .slice a j cap] 25) := (hb.block _ H6.out.lt).trans H6.out; clear hb hO7)
            | (go_at_call 11; (with_reducible refine (HO1.out w5.drew B5.out.drew).mono ?_); rintro e w6 ⟨v6, rfl, hO6, hb⟩; obtain ⟨a6, c6, rfl, -, -, -⟩ := rowAtB hO6; have B6 : Hid (Below w.heap.size w w6) := B5.out.drew.trans (hb.mono B5.out.size); have H6 : Hid (Held w6 w.heap.size #[.int .u32 (L : Int), .int .u32 (sw : Int), .slice a j cap] 25) := (hb.block _ H5.out.lt).trans H5.out; clear hb hO6))
          go_wp2_with fail
          go_ret
          exact ⟨rfl, B7.out⟩
theorem parts_walk (v : Value) (parts : Int) (w : World) (w0 : ReadsC w 25 v.cells.toList ∧ Value.okWide Try.prog w .any 0 25 v)
    (w1 : (Lit.int .i64 parts).wf = true) :
    Calls Try.prog 4 #[v, .int .i64 parts] w fun e w' => e = .returned (.bool true) ∧ Below w.heap.size w w' := by
  obtain ⟨L, sw, a, len, cap, S, rfl, h1, h2, h3, h4, h5⟩ := frame_value w0
  obtain ⟨p0, p1⟩ := bounds_i64 w1
  unfold maxLen at h4
  by_cases h : 2000 < len ∨ 100 < parts ∨ chkV S L sw len parts ≠ 0
  · exact parts_out L sw a len cap S parts w (by omega) h1 h2 p0 p1 h5 h
  · have h0 : chkV S L sw len parts = 0 := Classical.byContradiction fun hne => h (.inr (.inr hne))
    exact parts_in L sw a len cap S parts w (by omega) h1 h2 p0 (by omega) h5 h0
end Go.Proofs.Ythbieplfphignaa
