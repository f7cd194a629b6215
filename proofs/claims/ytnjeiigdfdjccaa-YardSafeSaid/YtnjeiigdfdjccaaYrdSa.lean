/- YardSafe, walked. -/
import Derived.Test.YtnjeiigdfdjccaaYrdL
namespace Go.Proofs.Ytnjeiigdfdjccaa
open Go.RowKit
set_option linter.unusedVariables false
set_option linter.unusedSimpArgs false
theorem infoU8 : (Try.prog.info? 5).map (fun i => (i.zero, i.size, i.bytes)) = some (some (.int .u8 0), 1, 1) := by kernel_rfl
theorem pointI_lt {T : Tab} {Y : YS} (h : YFine T Y) (M : Nat) (i : Int) : pointI M Y.pn i < 3 := by
  unfold pointI pointN
  have := h.inv.t12 i.toNat
  split
  · split <;> omega
  · omega
theorem point_at {M : Nat} {pn : Nat → PN} {i : Nat} (h : i < M) : pointI M pn (i : Int) = pointN (pn i) := by
  unfold pointI
  rw [if_pos ⟨by omega, by omega⟩]; rfl
set_option maxRecDepth 100000 in
set_option maxHeartbeats 16000000 in
theorem ysafe_walk (v vl : Value) (T : Tab) (d : Int) (ls : List (List MV)) (w : World) (hT : TabAt w v T) (hsm : TSm T) (hd : i64ok d) (hl : MssAt w vl ls) :
    Calls Try.prog 7 #[v, .int .i64 d, vl] w fun e w' => e = .returned (.bool true) ∧ Below w.heap.size w w' := by
  have HT0 := Lib.hid hT
  obtain ⟨⟨vp, vr, rfl, hP, hr⟩, _, _⟩ := hT
  obtain ⟨a, c, C0, rfl, hlc, hcm, _⟩ := hr.at_
  obtain ⟨⟨va, vc, rfl, hvl, hvm, _⟩, _⟩ := id hP
  have HLS := Lib.hid hl
  obtain ⟨⟨la, lc, V, rfl, hl1, hl2, hls, hlv⟩, hz1, hz2⟩ := hl
  obtain ⟨w1, hw1⟩ : ∃ w1, w1 = w.alloc (.cells #[.int .i64 T.tracks, .slice va T.pts.length vc, .int .i64 T.sigs, .slice a T.rts.length c] 25) := ⟨_, rfl⟩
  have B1 : Hid (Below w.heap.size w w1) := by rw [hw1]; exact tb_alloc_below _ _
  have K1 : Hid (w1.heap[w.heap.size]? = some (.cells #[.int .i64 T.tracks, .slice va T.pts.length vc, .int .i64 T.sigs, .slice a T.rts.length c] 25 (0, 0))) := by rw [hw1]; exact heap_alloc_new _ _
  have HW1 := Lib.hid hw1
  have HSM := Lib.hid hsm; have HD := Lib.hid hd; have HP := Lib.hid hP; have HR := Lib.hid hr
  have HHO : Hid (∀ n, n < T.rts.length → (T.rts.getD n rt0).hold < 65536) := fun n hn => by
    obtain ⟨_, _, _, _, _, _, _, hR⟩ := hr.at_
    exact (hR n hn).holdOk
  have HSL := Lib.hid hls; have HLV := Lib.hid hlv
  have hd0 := hd.1; have hd1 := hd.2
  unfold maxLen at hl2 hcm hvm
  have HG : Hid (heavyB T ls = heavyB T ls) := rfl
  clear hw1 hP hr hls hlv hz2 hsm hd
  go_enter Try.func7, Try.ntmps7
  go_upto_region 1 with fail
  rw [← HW1.out]
  obtain ⟨kb, hkb⟩ : ∃ b, b = w.heap.size := ⟨_, rfl⟩
  have HKB := Lib.hid hkb
  rw [← hkb] at K1 ⊢
  clear hkb HW1
  go_wp2_with fail
  refine (yworks_any w1).mono ?_
  rintro e w2 ⟨rfl, hb⟩
  have B2 : Hid (Below w.heap.size w w2) := B1.out.trans (hb.mono B1.out.size)
  have K2 := Lib.hid (tb_kept K1.out hb)
  clear hb B1 K1
  have c0 := cell_row (j := 0) K2.out rfl; have c1 := cell_row (j := 1) K2.out rfl; have c2 := cell_row (j := 2) K2.out rfl; have c3 := cell_row (j := 3) K2.out rfl
  have lk := heap_lt K2.out
  have HHV := Lib.hid (yheavy_any (.agg #[.int .i64 T.tracks, .slice va T.pts.length vc, .int .i64 T.sigs, .slice a T.rts.length c]) (.slice la ls.length lc) T ls w2 (HT0.out.below B2.out) HSM.out (HLS.out.below B2.out))
  have HHB := Lib.hid (heavy_no (T := T) (ls := ls))
  generalize heavyB T ls = F at *
  go_wp2_with fail
  refine HHV.out.mono ?_
  rintro e w3 ⟨rfl, hb⟩
  have B3 : Hid (Below w.heap.size w w3) := B2.out.trans (hb.mono B2.out.size)
  have K3 := Lib.hid (tb_kept K2.out hb)
  clear hb B2 K2 HHV c0 c1 c2 c3 lk
  cases F
  case true =>
    go_wp2_with fail
    refine (yworks_any w3).mono ?_
    rintro e wE ⟨rfl, hbE⟩
    have BE := Lib.hid (B3.out.trans (hbE.mono (B3.out).size))
    clear hbE
    go_wp2_with fail
    go_ret
    exact ⟨rfl, BE.out⟩
  case false =>
  obtain ⟨hgr, htot⟩ := HHB.out rfl
  have HSS := Lib.hid (small_of hgr)
  have HTT := Lib.hid htot
  clear hgr htot HHB HG
  have c0 := cell_row (j := 0) K3.out rfl; have c1 := cell_row (j := 1) K3.out rfl; have c2 := cell_row (j := 2) K3.out rfl; have c3 := cell_row (j := 3) K3.out rfl
  have lk := heap_lt K3.out
  have HN := Lib.hid (ynew_any (.agg #[.int .i64 T.tracks, .slice va T.pts.length vc, .int .i64 T.sigs, .slice a T.rts.length c]) T d w3 (HT0.out.below B3.out) HD.out HSS.out.big (fun h => tok_of h HHO.out))
  go_wp2_with fail
  refine HN.out.mono ?_
  rintro e w4 ⟨hb, hif⟩
  have B4 : Hid (Below w.heap.size w w4) := B3.out.trans (hb.mono B3.out.size)
  have K4 := Lib.hid (tb_kept K3.out hb)
  clear hb HN c0 c1 c2 c3 lk
  by_cases hE : checkE T = 0
  case neg =>
    rw [if_neg hE] at hif
    subst hif
    have t2 : (checkE T != 0) = true := by simpa using hE
    clear hE
    generalize checkE T = E at *
    go_wp2_with fail
    refine (yworks_any w4).mono ?_
    rintro e wE ⟨rfl, hbE⟩
    have BE := Lib.hid (B4.out.trans (hbE.mono (B4.out).size))
    clear hbE
    go_wp2_with fail
    go_ret
    exact ⟨rfl, BE.out⟩
  case pos =>
  rw [if_pos hE] at hif
  by_cases hd2 : 0 ≤ d ∧ d ≤ 100
  case neg =>
    rw [if_neg hd2] at hif
    subst hif
    clear hE hd2
    go_wp2_with fail
    refine (yworks_any w4).mono ?_
    rintro e wE ⟨rfl, hbE⟩
    have BE := Lib.hid (B4.out.trans (hbE.mono (B4.out).size))
    clear hbE
    go_wp2_with fail
    go_ret
    exact ⟨rfl, BE.out⟩
  case pos =>
  rw [if_pos hd2] at hif
  obtain ⟨y, rfl, hY, hyT, hyd, hyw, _⟩ := hif
  have htk := tok_of hE HHO.out
  have hyd1 : y.d ≤ 100 := by omega
  have hx : YCtx y := ⟨by rw [hyT]; exact hE, by rw [hyT]; exact htk.1, by rw [hyT]; exact tracks_of hE, hyd1, by rw [hyT]; exact htk.2⟩
  have L4 : Hid (LwAt w kb #[.int .i64 T.tracks, .slice va T.pts.length vc, .int .i64 T.sigs, .slice a T.rts.length c] y ys0 w4) := ⟨K4.out, hY, B4.out, by rw [hyw]; exact B3.out.size, by rw [hyw]; exact heap_lt K3.out⟩
  have HX := Lib.hid hx; have HYT := Lib.hid hyT; have HCE := Lib.hid hE
  have hM12 : T.pts.length ≤ 12 := htk.1.p
  clear hE hd2 hY hyT hyd hyw htk hyd1 hx K3 K4 B3 B4
  obtain ⟨M, hM⟩ : ∃ m, m = T.pts.length := ⟨_, rfl⟩
  have HM := Lib.hid hM
  have hmk := fun w => run_make_row' (P := Try.prog) 60 5 (.int .u8 0) 1 Try.underlying60 infoU8 rfl .i64 .i64 M (by omega) (by omega) w
  have c1 : w4.cell? ⟨kb, 1, none⟩ = some (.slice va M vc) := by rw [hM]; exact cell_row (j := 1) L4.out.k rfl
  have lk := heap_lt L4.out.k
  rw [← hM] at hM12
  clear hM
  obtain ⟨w5, hw5⟩ : ∃ x, x = w4.alloc (.cells (madeCells #[.int .u8 0] M) 5) := ⟨_, rfl⟩
  have B45 : Hid (Below w4.heap.size w4 w5) := by rw [hw5]; exact tb_alloc_below _ _
  have R5 : Hid (RowAt w5 w4.heap.size 5 M (fun _ => .int .u8 0)) := by rw [hw5]; exact made_at _ _ _ _
  have HW5 := Lib.hid hw5
  clear hw5
  go_upto_region 9 with fail
  rw [← HW5.out]
  obtain ⟨sb, hsb⟩ : ∃ b, b = w4.heap.size := ⟨_, rfl⟩
  rw [← hsb] at R5 ⊢
  have HSB : Hid (¬ y.M sb ∧ sb ≠ y.u.g ∧ y.u.w0.heap.size ≤ sb ∧ sb ≠ kb) := by
    have h1 := heap_lt L4.out.yd.au.obj
    have h2 := L4.out.yd.au.bel.size
    exact ⟨fun h => by have := (L4.out.yd.M_ge _ h).2; omega, by omega, by omega, by omega⟩
  have L5 := Lib.hid (L4.out.below B45.out)
  have RS5 : Hid (RowAt w5 sb 5 M (fun i => .int .u8 ((if i < 0 then pointI M ys0.pn (i : Int) else 0 : Nat) : Int))) := R5.out
  clear hsb HW5 R5 hmk c1 lk B45 L4
  go_upto_region 10 with fail
  go_loopw [39] (fun i wr => ∃ k : Nat, k ≤ M ∧ i = .int .i64 k ∧ LwAt w kb #[.int .i64 T.tracks, .slice va T.pts.length vc, .int .i64 T.sigs, .slice a T.rts.length c] y ys0 wr ∧ RowAt wr sb 5 M (fun i => .int .u8 ((if i < k then pointI M ys0.pn (i : Int) else 0 : Nat) : Int))) (fun i _ => M - (intOf i).toNat)
  case atStart => exact ⟨0, Nat.zero_le _, rfl, L5.out, RS5.out⟩
  case round =>
    clear L5 RS5
    obtain ⟨k, hk, rfl, h1, h2⟩ := hrel
    have L5 := Lib.hid h1; have R5 := Lib.hid h2
    clear h1 h2
    obtain ⟨w5, rfl⟩ : ∃ w5 : World, w5 = wr := ⟨_, rfl⟩
    by_cases hlt : k < M
    case pos =>
      have HPC := Lib.hid (ypoint_any y ys0 (k : Int) w5 L5.out.yd (by rw [HYT.out, ← HM.out]; omega))
      rw [HYT.out, ← HM.out] at HPC
      have hp3 := pointI_lt (T := T) (yfine0 T) M (k : Int)
      obtain ⟨p, hp⟩ : ∃ p, p = pointI M ys0.pn (k : Int) := ⟨_, rfl⟩
      rw [← hp] at HPC hp3
      have r0 := R5.out.cell (i := k) hlt
      have rf := R5.out.frozen k
      have lr := R5.out.lt
      have R6 : Hid (RowAt (w5.setCell ⟨sb, k, none⟩ (.int .u8 (p : Int))) sb 5 M (fun i => .int .u8 ((if i < k + 1 then pointI M ys0.pn (i : Int) else 0 : Nat) : Int))) := (R5.out.set (i := k) _).congr (fun j hj => by
        show (if j = k then _ else _) = _
        by_cases e : j = k
        · rw [if_pos e, e, if_pos (by omega), hp]
        · rw [if_neg e]
          by_cases h : j < k
          · rw [if_pos h, if_pos (by omega)]
          · rw [if_neg h, if_neg (by omega)])
      have L6 : Hid (LwAt w kb #[.int .i64 T.tracks, .slice va T.pts.length vc, .int .i64 T.sigs, .slice a T.rts.length c] y ys0 (w5.setCell ⟨sb, k, none⟩ (.int .u8 (p : Int)))) := L5.out.own (M := fun b => b = sb) (fun b hb => by rw [hb]; exact ⟨HSB.out.1, HSB.out.2.1, HSB.out.2.2.1⟩) ((Only.refl _ w5).set _ _ (.inr rfl))
      clear hp
      go_wp2_with fail
      refine HPC.out.mono ?_
      rintro e w6 ⟨rfl, rfl⟩
      go_wp2_with fail
      go_roundw
      case rel => exact ⟨k + 1, by omega, by go_num, L6.out, R6.out⟩
      case measure => simp [intOf]; omega
    case neg =>
    obtain rfl : M = k := by omega
    have R50 : Hid (RowAt w5 sb 5 M (fun i => .int .u8 ((pointI M (framesY T y.d ys0 (ls.take 0)).pn (i : Int) : Nat) : Int))) := R5.out.congr (fun j hj => by rw [if_pos hj]; rfl)
    have L50 : Hid (LwAt w kb #[.int .i64 T.tracks, .slice va T.pts.length vc, .int .i64 T.sigs, .slice a T.rts.length c] y (framesY T y.d ys0 (ls.take 0)) w5) := L5.out
    clear L5 R5
    have htl := Nat.le_trans (totN_len ls) HTT.out
    go_upto_region 15 with fail
    go_loopw [51] (fun i wr => ∃ k : Nat, k ≤ ls.length ∧ i = .int .i64 k ∧ LwAt w kb #[.int .i64 T.tracks, .slice va T.pts.length vc, .int .i64 T.sigs, .slice a T.rts.length c] y (framesY T y.d ys0 (ls.take k)) wr ∧ RowAt wr sb 5 M (fun i => .int .u8 ((pointI M (framesY T y.d ys0 (ls.take k)).pn (i : Int) : Nat) : Int))) (fun i _ => ls.length - (intOf i).toNat)
    case atStart => exact ⟨0, Nat.zero_le _, rfl, L50.out, R50.out⟩
    case round =>
      clear L50 R50
      obtain ⟨k, hk, rfl, h1, h2⟩ := hrel
      have L5 := Lib.hid h1; have R5 := Lib.hid h2
      clear h1 h2
      obtain ⟨w5, rfl⟩ : ∃ w5 : World, w5 = wr := ⟨_, rfl⟩
      by_cases hlt : k < ls.length
      case neg =>
        have HBB := Lib.hid L5.out.b
        go_wp2_with fail
        refine (yworks_any w5).mono ?_
        rintro e wE ⟨rfl, hbE⟩
        have BE := Lib.hid (HBB.out.trans (hbE.mono (HBB.out).size))
        clear hbE
        go_wp2_with fail
        go_ret
        exact ⟨rfl, BE.out⟩
      case pos =>
      obtain ⟨lb, loff, rfl, hlb, hlx⟩ := (HSL.out.below L5.out.b).at (by omega)
      have x0 := hlx k hlt
      have HMV := Lib.hid (HLV.out k hlt)
      obtain ⟨⟨xa, xc, hxv, _⟩, _⟩ := HMV.out
      have HTS := Lib.hid (framesY_snoc T y.d (ls.getD k []) (ls.take k) ys0)
      have hts := take_snoc ([] : List MV) hlt
      rw [← hts] at HTS
      have hxl := Nat.le_trans (totN_get hlt) HTT.out
      rw [hxv] at x0 HMV
      clear hlx hxv hts
      have HFI := Lib.hid (yfine_frames (d := y.d) HCE.out (by have := HX.out.tok; rw [HYT.out] at this; exact this) HX.out.d (ls.take k) ys0 (yfine0 T))
      obtain ⟨ms, hms⟩ : ∃ x, x = ls.getD k [] := ⟨_, rfl⟩
      rw [← hms] at HMV HTS hxl x0
      clear hms
      obtain ⟨Y, hY⟩ : ∃ x, x = framesY T y.d ys0 (ls.take k) := ⟨_, rfl⟩
      rw [← hY] at HFI HTS L5 R5
      have HYY := Lib.hid hY
      clear hY
      have HFR := Lib.hid (yframe_any y Y ms (.slice xa ms.length xc) w5 L5.out.yd HX.out.hc HX.out.tok HX.out.tk HX.out.d (by rw [HYT.out]; exact HFI.out) (HMV.out.below L5.out.b) (mvs_off HMV.out L5.out.yd L5.out.ge) (by omega))
      rw [HYT.out] at HFR
      have HFI2 : Hid (YFine T (frameY T y.d Y ms)) := HFI.out.frame HCE.out (by have := HX.out.tok; rw [HYT.out] at this; exact this) HX.out.d ms
      have HST := Lib.hid (fun i (hi : i < T.pts.length) h0 => still_none (d := y.d) HCE.out (by have := HX.out.tok; rw [HYT.out] at this; exact this) HFI.out.inv ms hi h0)
      obtain ⟨Z, hZ⟩ : ∃ x, x = frameY T y.d Y ms := ⟨_, rfl⟩
      rw [← hZ] at HFR HFI2 HST HTS
      clear hZ
      go_wp2_with fail
      refine HFR.out.mono ?_
      rintro e w6 ⟨⟨ve, rfl, _, _⟩, hk6⟩
      have L6 := Lib.hid (L5.out.turn hk6)
      have R6 : Hid (RowAt w6 sb 5 M (fun i => .int .u8 ((pointI M Y.pn (i : Int) : Nat) : Int))) := R5.out.same (hk6.2.block _ R5.out.lt HSB.out.1)
      clear hk6 x0 hlb HFR L5 R5
      have HWR := Lib.hid (ywrong_any y Z w6 L6.out.yd HX.out.hc HX.out.tok HX.out.tk (by rw [HYT.out]; exact HFI2.out.inv))
      unfold OD.val
      go_wp2_with fail
      refine HWR.out.mono ?_
      rintro e w7 ⟨rfl, hb7⟩
      have L7 := Lib.hid (L6.out.below hb7)
      have R7 : Hid (RowAt w7 sb 5 M (fun i => .int .u8 ((pointI M Y.pn (i : Int) : Nat) : Int))) := R6.out.same (hb7.block _ R6.out.lt)
      clear hb7 HWR L6 R6
      have c1 : w7.cell? ⟨kb, 1, none⟩ = some (.slice va M vc) := by rw [HM.out]; exact cell_row (j := 1) L7.out.k rfl
      have lk := heap_lt L7.out.k
      go_upto_region 22 with fail
      clear c1 lk
      have R70 : Hid (RowAt w7 sb 5 M (fun i => .int .u8 ((if i < 0 then pointI M Z.pn (i : Int) else pointI M Y.pn (i : Int) : Nat) : Int))) := R7.out
      clear R7
      go_loopw [70] (fun i wr => ∃ j : Nat, j ≤ M ∧ i = .int .i64 j ∧ LwAt w kb #[.int .i64 T.tracks, .slice va T.pts.length vc, .int .i64 T.sigs, .slice a T.rts.length c] y Z wr ∧ RowAt wr sb 5 M (fun i => .int .u8 ((if i < j then pointI M Z.pn (i : Int) else pointI M Y.pn (i : Int) : Nat) : Int))) (fun i _ => M - (intOf i).toNat)
      case atStart => exact ⟨0, Nat.zero_le _, rfl, L7.out, R70.out⟩
      case round =>
        clear L7 R70
        obtain ⟨j, hj, rfl, h1, h2⟩ := hrel
        have L8 := Lib.hid h1; have R8 := Lib.hid h2
        clear h1 h2
        obtain ⟨w8, rfl⟩ : ∃ w8 : World, w8 = wr := ⟨_, rfl⟩
        by_cases hjl : j < M
        case neg =>
          obtain rfl : M = j := by omega
          have R9 : Hid (RowAt w8 sb 5 M (fun i => .int .u8 ((pointI M Z.pn (i : Int) : Nat) : Int))) := R8.out.congr (fun j hj => by rw [if_pos hj])
          go_wp2_with fail
          go_roundw
          case rel => exact ⟨k + 1, by omega, by go_num, by rw [HTS.out]; exact L8.out, by rw [HTS.out]; exact R9.out⟩
          case measure => simp [intOf]; omega
        case pos =>
        have HJL : Hid (j < T.pts.length) := by rw [← HM.out]; exact hjl
        obtain ⟨pa, poff, hpe, hpb, hpx⟩ := (HP.out.below L8.out.b).cell HJL.out
        subst hpe
        have hpl := hpb
        obtain ⟨tr, htr⟩ : ∃ x, x = T.pts.getD j 0 := ⟨_, rfl⟩
        rw [← htr] at hpx
        have HPC := Lib.hid (ypoint_any y Z (j : Int) w8 L8.out.yd (by rw [HYT.out, ← HM.out]; omega))
        rw [HYT.out, ← HM.out] at HPC
        have HCL := Lib.hid (yclear_any y Z tr w8 L8.out.yd HX.out.tok (by rw [HYT.out]; exact HFI2.out.on))
        rw [HYT.out] at HCL
        have HNO : Hid (clearB T Z.tn tr = false → pointI M Z.pn (j : Int) ≠ 0 ∧ pointI M Z.pn (j : Int) = pointI M Y.pn (j : Int)) := fun h => by
          rw [point_at hjl, point_at hjl]
          exact HST.out j HJL.out (clear_no HCE.out HJL.out (by rw [← htr]; exact h))
        have hz3 := pointI_lt HFI2.out M (j : Int)
        obtain ⟨p, hp⟩ : ∃ p, p = pointI M Z.pn (j : Int) := ⟨_, rfl⟩
        rw [← hp] at HPC hz3 HNO
        have HR9 : Hid (∀ W, RowAt W sb 5 M (fun i => .int .u8 ((if i < j then pointI M Z.pn (i : Int) else pointI M Y.pn (i : Int) : Nat) : Int)) → RowAt (W.setCell ⟨sb, j, none⟩ (.int .u8 (p : Int))) sb 5 M (fun i => .int .u8 ((if i < j + 1 then pointI M Z.pn (i : Int) else pointI M Y.pn (i : Int) : Nat) : Int))) := fun W hW => (hW.set (i := j) _).congr (fun i hi => by
          show (if i = j then _ else _) = _
          by_cases e : i = j
          · rw [if_pos e, e, if_pos (by omega), hp]
          · rw [if_neg e]
            by_cases h : i < j
            · rw [if_pos h, if_pos (by omega)]
            · rw [if_neg h, if_neg (by omega)])
        have HOJ : Hid (pointI M Y.pn (j : Int) < 3) := pointI_lt HFI.out M (j : Int)
        clear hp htr
        generalize clearB T Z.tn tr = cl at *
        go_wp2_with fail
        refine HPC.out.mono ?_
        rintro e w9 ⟨rfl, rfl⟩
        go_wp2_with fail
        refine HCL.out.mono ?_
        rintro e w10 ⟨rfl, hb⟩
        have L10 := Lib.hid (L8.out.below hb)
        have R10 := Lib.hid (R8.out.same (hb.block _ R8.out.lt))
        clear hb HCL HPC hpx hpl hpb
        have r0 := R10.out.cell (i := j) hjl
        rw [if_neg (by omega)] at r0
        have rf := R10.out.frozen j
        have lr := R10.out.lt
        have R11 := Lib.hid (HR9.out w10 R10.out)
        have L11 := Lib.hid (L10.out.own (W' := w10.setCell ⟨sb, j, none⟩ (.int .u8 (p : Int))) (M := fun b => b = sb) (fun b hb => by rw [hb]; exact ⟨HSB.out.1, HSB.out.2.1, HSB.out.2.2.1⟩) ((Only.refl _ w10).set _ _ (.inr rfl)))
        have ho3 := HOJ.out
        generalize pointI M Y.pn (j : Int) = o at *
        cases cl
        case true =>
          go_wp2_with fail
          go_roundw
          case rel => exact ⟨j + 1, by omega, by go_num, L11.out, R11.out⟩
          case measure => simp [intOf]; omega
        case false =>
          obtain ⟨hp0, hpo⟩ := HNO.out rfl
          subst hpo
          have e0 : ((p : Int) == 0) = false := by simpa using (show ¬ (p : Int) = 0 by omega)
          go_wp2_with fail
          go_roundw
          case rel => exact ⟨j + 1, by omega, by go_num, L11.out, R11.out⟩
          case measure => simp [intOf]; omega
set_option maxRecDepth 100000 in
theorem ysafe_any (v0 : Value) (a1 : Int) (a2 : Option Addr) (len2 cap2 : Nat) (w : World) (h0 : ReadsW w 25 v0.cells.toList ∧ Value.okWide Try.prog w .any 0 25 v0) (h1 : (Lit.int .i64 a1).wf = true) (h2 : ReadsW w 26 [.slice a2 len2 cap2]) :
    Calls Try.prog 7 #[v0, .int .i64 a1, .slice a2 len2 cap2] w fun e w' => e = .returned (.bool true) ∧ Below w.heap.size w w' := by
  obtain ⟨T, hT⟩ := reads_tab ⟨h0.1.c, h0.2⟩
  obtain ⟨l, hl⟩ := reads_mvss h2
  exact ysafe_walk v0 _ T a1 l w hT (tab_sm h0.1 hT) (i64ok_of h1) hl
end Go.Proofs.Ytnjeiigdfdjccaa
