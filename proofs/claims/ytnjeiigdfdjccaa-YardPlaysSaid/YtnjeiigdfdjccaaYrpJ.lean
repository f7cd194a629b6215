/- YardPlays, walked. -/
import Derived.Test.YtnjeiigdfdjccaaYrpI
import Derived.Deep.AppendLies
namespace Go.Proofs.Ytnjeiigdfdjccaa
open Go.RowKit
set_option linter.unusedVariables false
set_option linter.unusedSimpArgs false
theorem infoU8p : (Try.prog.info? 5).map (fun i => (i.zero, i.size, i.bytes)) = some (some (.int .u8 0), 1, 1) := by kernel_rfl
set_option maxRecDepth 100000 in
set_option maxHeartbeats 16000000 in
theorem yplays_walk (v vl : Value) (T : Tab) (d : Int) (ls : List (List MV)) (w : World) (hT : TabAt w v T) (hsm : TSm T) (hd : i64ok d) (hl : MssAt w vl ls) :
    Calls Try.prog 5 #[v, .int .i64 d, vl] w fun e w' => e = .returned (.bool true) ∧ Below w.heap.size w w' := by
  have HT0 := Lib.hid hT
  obtain ⟨⟨vp, vr, rfl, hP, hr⟩, _, _⟩ := hT
  obtain ⟨a, c, C0, rfl, hlc, hcm, _⟩ := hr.at_
  obtain ⟨⟨va, vc, rfl, hvl, hvm, _⟩, _⟩ := id hP
  have HLS := Lib.hid hl
  obtain ⟨⟨la, lc, V, rfl, hl1, hl2, hls, hlv⟩, hz1, hz2⟩ := hl
  obtain ⟨w1, hw1⟩ : ∃ w1, w1 = w.alloc (.cells #[.int .i64 T.tracks, .slice va T.pts.length vc, .int .i64 T.sigs, .slice a T.rts.length c] 25) := ⟨_, rfl⟩
  have B1 : Hid (Below w.heap.size w w1) := by rw [hw1]; exact tb_alloc_below _ _
  have K1 : Hid (w1.heap[w.heap.size]? = some (.cells #[.int .i64 T.tracks, .slice va T.pts.length vc, .int .i64 T.sigs, .slice a T.rts.length c] 25 (0, 0))) := by rw [hw1]; exact heap_alloc_new _ _
  have HW1 := Lib.hid hw1
  have HSM := Lib.hid hsm; have HD := Lib.hid hd; have HP := Lib.hid hP; have HR := Lib.hid hr
  have HHO : Hid (∀ n, n < T.rts.length → (T.rts.getD n rt0).hold < 65536) := fun n hn => by
    obtain ⟨_, _, _, _, _, _, _, hR⟩ := hr.at_
    exact (hR n hn).holdOk
  have HSL := Lib.hid hls; have HLV := Lib.hid hlv
  have hd0 := hd.1; have hd1 := hd.2
  unfold maxLen at hl2 hcm hvm
  clear hw1 hP hr hls hlv hz2 hsm hd
  go_enter Try.func5, Try.ntmps5
  go_upto_region 1 with fail
  rw [← HW1.out]
  obtain ⟨kb, hkb⟩ : ∃ b, b = w.heap.size := ⟨_, rfl⟩
  have HKB := Lib.hid hkb
  rw [← hkb] at K1 ⊢
  clear hkb HW1
  have c0 := cell_row (j := 0) K1.out rfl; have c1 := cell_row (j := 1) K1.out rfl; have c2 := cell_row (j := 2) K1.out rfl; have c3 := cell_row (j := 3) K1.out rfl
  have lk := heap_lt K1.out
  have HHV := Lib.hid (yheavy_any (.agg #[.int .i64 T.tracks, .slice va T.pts.length vc, .int .i64 T.sigs, .slice a T.rts.length c]) (.slice la ls.length lc) T ls w1 (HT0.out.below B1.out) HSM.out (HLS.out.below B1.out))
  have HHB := Lib.hid (heavy_no (T := T) (ls := ls))
  generalize heavyB T ls = F at *
  go_wp2_with fail
  refine HHV.out.mono ?_
  rintro e w3 ⟨rfl, hb⟩
  have B3 : Hid (Below w.heap.size w w3) := B1.out.trans (hb.mono B1.out.size)
  have K3 := Lib.hid (tb_kept K1.out hb)
  clear hb B1 K1 HHV c0 c1 c2 c3 lk
  cases F
  case true =>
    go_wp2_with fail
    refine (yworks_any w3).mono ?_
    rintro e wE ⟨rfl, hbE⟩
    have BE := Lib.hid (B3.out.trans (hbE.mono (B3.out).size))
    clear hbE
    go_wp2_with fail
    go_ret
    exact ⟨rfl, BE.out⟩
  case false =>
  obtain ⟨hgr, htot⟩ := HHB.out rfl
  have HSS := Lib.hid (small_of hgr)
  have HTT := Lib.hid htot
  clear hgr htot HHB
  have c0 := cell_row (j := 0) K3.out rfl; have c1 := cell_row (j := 1) K3.out rfl; have c2 := cell_row (j := 2) K3.out rfl; have c3 := cell_row (j := 3) K3.out rfl
  have lk := heap_lt K3.out
  have HN := Lib.hid (ynew_any (.agg #[.int .i64 T.tracks, .slice va T.pts.length vc, .int .i64 T.sigs, .slice a T.rts.length c]) T d w3 (HT0.out.below B3.out) HD.out HSS.out.big (fun h => tok_of h HHO.out))
  go_wp2_with fail
  refine HN.out.mono ?_
  rintro e w4 ⟨hb, hif⟩
  have B4 : Hid (Below w.heap.size w w4) := B3.out.trans (hb.mono B3.out.size)
  have K4 := Lib.hid (tb_kept K3.out hb)
  have B34 := Lib.hid hb
  have HCK := Lib.hid (rcheck_any (.agg #[.int .i64 T.tracks, .slice va T.pts.length vc, .int .i64 T.sigs, .slice a T.rts.length c]) T w4 (HT0.out.below B4.out) HSS.out.big)
  clear hb HN c0 c1 c2 c3 lk
  have c0 := cell_row (j := 0) K4.out rfl; have c1 := cell_row (j := 1) K4.out rfl; have c2 := cell_row (j := 2) K4.out rfl; have c3 := cell_row (j := 3) K4.out rfl
  have lk := heap_lt K4.out
  by_cases hE : checkE T = 0
  case neg =>
    rw [if_neg hE] at hif
    subst hif
    have t1 : (checkE T == 0) = false := by simpa using hE
    have t2 : (checkE T != 0) = true := by simpa using hE
    clear hE
    generalize checkE T = E at *
    go_wp2_with fail
    refine HCK.out.mono ?_
    rintro e w5 ⟨rfl, hb⟩
    have B5 : Hid (Below w.heap.size w w5) := B4.out.trans (hb.mono B4.out.size)
    have K5 := Lib.hid (tb_kept K4.out hb)
    have B45 := Lib.hid hb
    clear hb HCK c0 c1 c2 c3 lk
    go_wp2_with fail
    refine (yworks_any w5).mono ?_
    rintro e wE ⟨rfl, hbE⟩
    have BE := Lib.hid (B5.out.trans (hbE.mono (B5.out).size))
    clear hbE
    go_wp2_with fail
    go_ret
    exact ⟨rfl, BE.out⟩
  case pos =>
  rw [if_pos hE] at hif
  have HCE := Lib.hid hE
  rw [hE] at HCK
  by_cases hd2 : 0 ≤ d ∧ d ≤ 100
  case neg =>
    rw [if_neg hd2] at hif
    subst hif
    clear hE
    by_cases hdn : d < 0
    case pos =>
      have t1 : decide (d < 0) = true := decide_eq_true hdn
      clear hd2
      go_wp2_with fail
      refine HCK.out.mono ?_
      rintro e w5 ⟨rfl, hb⟩
      have B5 : Hid (Below w.heap.size w w5) := B4.out.trans (hb.mono B4.out.size)
      have K5 := Lib.hid (tb_kept K4.out hb)
      have B45 := Lib.hid hb
      clear hb HCK c0 c1 c2 c3 lk
      go_wp2_with fail
      refine (yworks_any w5).mono ?_
      rintro e wE ⟨rfl, hbE⟩
      have BE := Lib.hid (B5.out.trans (hbE.mono (B5.out).size))
      clear hbE
      go_wp2_with fail
      go_ret
      exact ⟨rfl, BE.out⟩
    case neg =>
      have t1 : decide (d < 0) = false := decide_eq_false hdn
      have t2 : decide ((100 : Int) < d) = true := decide_eq_true (by omega)
      clear hd2
      go_wp2_with fail
      refine HCK.out.mono ?_
      rintro e w5 ⟨rfl, hb⟩
      have B5 : Hid (Below w.heap.size w w5) := B4.out.trans (hb.mono B4.out.size)
      have K5 := Lib.hid (tb_kept K4.out hb)
      have B45 := Lib.hid hb
      clear hb HCK c0 c1 c2 c3 lk
      go_wp2_with fail
      refine (yworks_any w5).mono ?_
      rintro e wE ⟨rfl, hbE⟩
      have BE := Lib.hid (B5.out.trans (hbE.mono (B5.out).size))
      clear hbE
      go_wp2_with fail
      go_ret
      exact ⟨rfl, BE.out⟩
  case pos =>
  rw [if_pos hd2] at hif
  obtain ⟨y, rfl, hY, hyT, hyd, hyw, _⟩ := hif
  have htk := tok_of hE HHO.out
  have hyd1 : y.d ≤ 100 := by omega
  have hx : YCtx y := ⟨by rw [hyT]; exact hE, by rw [hyT]; exact htk.1, by rw [hyT]; exact tracks_of hE, hyd1, by rw [hyT]; exact htk.2⟩
  have L4 : Hid (LwAt w kb #[.int .i64 T.tracks, .slice va T.pts.length vc, .int .i64 T.sigs, .slice a T.rts.length c] y ys0 w4) := ⟨K4.out, hY, B4.out, by rw [hyw]; exact B3.out.size, by rw [hyw]; exact heap_lt K3.out⟩
  have HX := Lib.hid hx; have HYT := Lib.hid hyT; have HYW := Lib.hid hyw; have HYD := Lib.hid hyd
  have HTKN := Lib.hid htk
  have t1 : decide (d < 0) = false := decide_eq_false (by omega)
  have t2 : decide ((100 : Int) < d) = false := decide_eq_false (by omega)
  have HD2 := Lib.hid hd2
  clear hE hd2 hY hyT hyd hyw htk hyd1 hx
  go_wp2_with fail
  refine HCK.out.mono ?_
  rintro e w5 ⟨rfl, hb⟩
  have B5 : Hid (Below w.heap.size w w5) := B4.out.trans (hb.mono B4.out.size)
  have K5 := Lib.hid (tb_kept K4.out hb)
  have B45 := Lib.hid hb
  clear hb HCK c0 c1 c2 c3 lk
  have L5 := Lib.hid (L4.out.below B45.out)
  have c0 := cell_row (j := 0) K5.out rfl; have c1 := cell_row (j := 1) K5.out rfl; have c2 := cell_row (j := 2) K5.out rfl; have c3 := cell_row (j := 3) K5.out rfl
  have lk := heap_lt K5.out
  have HRN := Lib.hid (ryard_any (.agg #[.int .i64 T.tracks, .slice va T.pts.length vc, .int .i64 T.sigs, .slice a T.rts.length c]) T d w5 (HT0.out.below B5.out) (by have := HTKN.out.1.n; omega) (by have := HTKN.out.1.p; omega) HD2.out)
  go_wp2_with fail
  refine HRN.out.mono ?_
  rintro e w6 ⟨u0, ub, lb, bs, rfl, hu1, hu2, hu3, hu4, hu5, hu6, hu7⟩
  have hvp : u0.r.vp = .slice va T.pts.length vc := by injection hu7 with h; injection h with h; simp at h; exact h.1.symm
  have hvr : u0.r.vr = .slice a T.rts.length c := by injection hu7 with h; injection h with h; simp at h; exact h.2.symm
  have P6 : Hid (PwAt w kb #[.int .i64 T.tracks, .slice va T.pts.length vc, .int .i64 T.sigs, .slice a T.rts.length c] y { u0 with r := { u0.r with w0 := w3 } } ys0 ys0 ub lb bs w6) := rnew_pw L5.out HYW.out (B34.out.trans (B45.out.mono B34.out.size)) hu1 hu3 hu4 (by rw [hvp, hu2]; exact HP.out.below B3.out) (by rw [hvr, hu2]; exact HR.out.below B3.out) hu6
  obtain ⟨u, hu⟩ : ∃ u : Rd, u = { u0 with r := { u0.r with w0 := w3 } } := ⟨_, rfl⟩
  rw [← hu] at P6
  have HUU : Hid (u.r.T = T ∧ (u.d : Int) = d ∧ u.g = u0.g) := by rw [hu]; exact ⟨hu2, hu5, rfl⟩
  have HUD : Hid (u.d = y.d) := by have h1 := HUU.out.2.1; have h2 := HYD.out; show u.d = y.d; omega
  rw [← HUU.out.2.2]
  clear hu hu1 hu2 hu3 hu4 hu5 hu6 hu7 hvp hvr HRN c0 c1 c2 c3 lk K5 K4 K3 L4 L5 t1 t2
  have htl := Nat.le_trans (totN_len ls) HTT.out
  have P60 : Hid (PwAt w kb #[.int .i64 T.tracks, .slice va T.pts.length vc, .int .i64 T.sigs, .slice a T.rts.length c] y u (framesY T y.d ys0 (ls.take 0)) (framesY T y.d ys0 (ls.take 0)) ub lb bs w6) := P6.out
  clear P6
  go_wp2_with fail
  go_loopw [67] (fun i wr => ∃ (k : Nat) (ub' lb' bs' : Nat → Nat), k ≤ ls.length ∧ i = .int .i64 k ∧ PwAt w kb #[.int .i64 T.tracks, .slice va T.pts.length vc, .int .i64 T.sigs, .slice a T.rts.length c] y u (framesY T y.d ys0 (ls.take k)) (framesY T y.d ys0 (ls.take k)) ub' lb' bs' wr) (fun i _ => ls.length - (intOf i).toNat)
  case atStart => exact ⟨0, ub, lb, bs, Nat.zero_le _, rfl, P60.out⟩
  case round =>
    clear P60
    obtain ⟨k, u5, l5, b5, hk, rfl, h1⟩ := hrel
    have P5 := Lib.hid h1
    clear h1
    obtain ⟨w5, rfl⟩ : ∃ w5 : World, w5 = wr := ⟨_, rfl⟩
    by_cases hlt : k < ls.length
    case neg =>
      have HBB := Lib.hid P5.out.l.b
      go_wp2_with fail
      refine (yworks_any w5).mono ?_
      rintro e wE ⟨rfl, hbE⟩
      have BE := Lib.hid (HBB.out.trans (hbE.mono (HBB.out).size))
      clear hbE
      go_wp2_with fail
      go_ret
      exact ⟨rfl, BE.out⟩
    case pos =>
    obtain ⟨lb0, loff, rfl, hlb, hlx⟩ := (HSL.out.below P5.out.l.b).at (by omega)
    have x0 := hlx k hlt
    have HMV := Lib.hid (HLV.out k hlt)
    obtain ⟨⟨xa, xc, hxv, hxl1, hxl2, _⟩, _⟩ := HMV.out
    have HTS := Lib.hid (framesY_snoc T y.d (ls.getD k []) (ls.take k) ys0)
    have hts := take_snoc ([] : List MV) hlt
    rw [← hts] at HTS
    have hxl := Nat.le_trans (totN_get hlt) HTT.out
    rw [hxv] at x0 HMV
    clear hlx hxv hts
    have HFI := Lib.hid (yfine_frames (d := y.d) HCE.out (by have := HX.out.tok; rw [HYT.out] at this; exact this) HX.out.d (ls.take k) ys0 (yfine0 T))
    obtain ⟨ms, hms⟩ : ∃ x, x = ls.getD k [] := ⟨_, rfl⟩
    rw [← hms] at HMV HTS hxl x0 hxl1
    clear hms
    obtain ⟨Y, hY⟩ : ∃ x, x = framesY T y.d ys0 (ls.take k) := ⟨_, rfl⟩
    rw [← hY] at HFI HTS P5
    clear hY
    obtain ⟨C, hC⟩ : ∃ C, C = w5.heap.size := ⟨_, rfl⟩
    have HCC := Lib.hid hC
    clear hC
    obtain ⟨iu, hi, hz0, hz1', hz2'⟩ := tb_info infoU8p
    obtain ⟨ii, ji, jz0, jz1, jz2⟩ := tb_info infoI
    have HI1 := Lib.hid hi; have HI2 := Lib.hid hz0; have HI3 := Lib.hid hz1'; have HI4 := Lib.hid hz2'
    have HJ1 := Lib.hid ji; have HJ2 := Lib.hid jz0; have HJ3 := Lib.hid jz1; have HJ4 := Lib.hid jz2
    clear hi hz0 hz1' hz2' ji jz0 jz1 jz2
    unfold maxLen at hxl2
    go_wp2_with fail
    clear x0 hlb
    go_loopw [73, 13, 14] (fun i s1 s2 wr => ∃ (j : Nat) (v1 v2 : Value), j ≤ ms.length ∧ i = .int .i64 j ∧ v1 = s1 ∧ v2 = s2 ∧ Below C w5 wr ∧ wr.ownsRow C 5 1 v1 j (kdL ms j) ∧ wr.ownsRow C 3 1 v2 j (nnL ms j) ∧ ∀ g, v1.ownBlock = some g → v2.ownBlock ≠ some g) (fun i _ _ _ => ms.length - (intOf i).toNat)
    case atStart => exact ⟨0, _, _, Nat.zero_le _, rfl, rfl, rfl, Below.refl _ _, ⟨rfl, .inl ⟨rfl, rfl⟩⟩, ⟨rfl, .inl ⟨rfl, rfl⟩⟩, fun g hg => by cases hg⟩
    case round =>
      obtain ⟨j, v1, v2, hj, rfl, rfl, rfl, hb6, ho1, ho2, hne⟩ := hrel
      have B6 := Lib.hid hb6; have O1 := Lib.hid ho1; have O2 := Lib.hid ho2; have NE := Lib.hid hne
      clear hb6 ho1 ho2 hne
      obtain ⟨w6, rfl⟩ : ∃ w6 : World, w6 = wr := ⟨_, rfl⟩
      by_cases hjl : j < ms.length
      case pos =>
        obtain ⟨⟨mxa, mxc, hmx, _, _, hmn⟩, hmok⟩ := (HMV.out.below (P5.out.l.b.trans (B6.out.mono (by rw [HCC.out]; exact P5.out.l.b.size))))
        obtain ⟨mb0, mo, rfl, hmb, hmxx⟩ := hmn.at (Nat.lt_of_le_of_lt (Nat.zero_le _) hjl)
        cases hmx
        obtain ⟨kd, hkd⟩ : ∃ x, x = (ms.getD j mv0).kd := ⟨_, rfl⟩
        obtain ⟨z, hz⟩ : ∃ x, x = (ms.getD j mv0).n := ⟨_, rfl⟩
        have x0 : w6.cell? ⟨mb0, mo + j * 2, none⟩ = some (.int .u8 (kd : Int)) := by rw [hkd]; exact hmxx j hjl 0 (by omega)
        have x1 : w6.cell? ⟨mb0, mo + j * 2 + 1, none⟩ = some (.int .i64 z) := by rw [hz]; exact hmxx j hjl 1 (by omega)
        have hmok := hmok j hjl
        rw [← hkd, ← hz] at hmok
        have hk256 := hmok.1
        have HK1 := Lib.hid (kdL_succ hjl); have HK2 := Lib.hid (nnL_succ hjl)
        rw [← hkd] at HK1
        rw [← hz] at HK2
        clear hkd hz hmxx hmok hmn
        obtain ⟨w7, hw7⟩ : ∃ x, x = w6.alloc (.cells #[.int .u8 (kd : Int), .int .i64 z] 56) := ⟨_, rfl⟩
        have HW7 := Lib.hid hw7
        have B67 : Hid (Below w6.heap.size w6 w7) := by rw [hw7]; exact tb_alloc_below _ _
        have M7 : Hid (w7.heap[w6.heap.size]? = some (.cells #[.int .u8 (kd : Int), .int .i64 z] 56 (0, 0))) := by rw [hw7]; exact heap_alloc_new _ _
        have hC6 : C ≤ w5.heap.size := Nat.le_of_eq HCC.out
        have T7 : Hid (Tw C w5 w6.heap.size (.int .u8 (kd : Int)) (.int .i64 z) v1 j (kdL ms j) v2 j (nnL ms j) w7) := ⟨B6.out.trans (B67.out.mono (Nat.le_trans hC6 B6.out.size)), tb_own O1.out (Only.of_below (fun _ => False) B67.out) (fun _ _ h => h), tb_own O2.out (Only.of_below (fun _ => False) B67.out) (fun _ _ h => h), NE.out, M7.out,
          fun e => by have := (own_lt_ O1.out _ e).2; omega, fun e => by have := (own_lt_ O2.out _ e).2; omega, hC6⟩
        clear hw7
        go_upto_region 18 with fail
        rw [← HW7.out]
        obtain ⟨mb, hmb⟩ : ∃ b, b = w6.heap.size := ⟨_, rfl⟩
        rw [← hmb] at T7 ⊢
        clear hmb x0 x1 HW7 M7 B67 O1 O2 B6 NE
        obtain ⟨a1, c1, rfl⟩ := own_slice0 T7.out.o1
        obtain ⟨a2, c2, rfl⟩ := own_slice0 T7.out.o2
        have TD := Lib.hid (T7.out.below (V' := w7.drew) ⟨rfl, rfl, rfl, Nat.le_refl _, fun _ _ => rfl⟩)
        have HSX : Hid (∀ (v1 : Value) n1 X v2 n2 Y V, Tw C w5 mb (.int .u8 (kd : Int)) (.int .i64 z) v1 n1 X v2 n2 Y V → (V.cell? ⟨mb, 0, none⟩ = some (.int .u8 (kd : Int)) ∧ V.cell? ⟨mb, 1, none⟩ = some (.int .i64 z)) ∧ mb < V.heap.size) := fun _ _ _ _ _ _ V h => ⟨⟨cell_row h.bx rfl, cell_row h.bx rfl⟩, heap_lt h.bx⟩
        have L1 := Lib.hid (own_lt_ TD.out.o1); have L2 := Lib.hid (own_lt_ TD.out.o2)
        go_region_held3 (fun V => (V.cell? ⟨mb, 0, none⟩ = some (.int .u8 (kd : Int)) ∧ V.cell? ⟨mb, 1, none⟩ = some (.int .i64 z)) ∧ mb < V.heap.size)
          (first | exact HSX.out _ _ _ _ _ _ _ TD.out | exact HSX.out _ _ _ _ _ _ _ (TD.out.below (tb_alloc_below _ _)) | exact HSX.out _ _ _ _ _ _ _ ((TD.out.below (tb_alloc_below _ _)).below (tb_alloc_below _ _)) | exact HSX.out _ _ _ _ _ _ _ T8.out | exact HSX.out _ _ _ _ _ _ _ (T8.out.below (tb_alloc_below _ _)) | exact HSX.out _ _ _ _ _ _ _ T9.out)
          (first
            | (refine step_append_lies _ (by rfl) _ _ _ (by rfl) C 5 iu (.int .u8 0) 1 1 Try.underlying60 HI1.out HI2.out HI3.out HI4.out rfl (by omega) _ j (kdL ms j) (by rfl)
                 (by first | exact (TD.out.below (tb_alloc_below _ _)).o1 | exact ((TD.out.below (tb_alloc_below _ _)).below (tb_alloc_below _ _)).o1)
                 _ 1 1 [.int .u8 (kd : Int)] (by rfl) (by rfl)
                 (by first | exact cell_one_new _ _ _ | exact news_at (two_at0 _ _ _) | exact news_at (two_at1 _ _ _)) (by simp [Value.oneCell']) (by omega) (by unfold maxLen; omega) (by omega) (by have h1 := T7.out.b.size; have h2 := T7.out.c; simp; omega) _ rfl ?_;
               intro gg cap w8 hown8 hgrow8 hat8 hlt8;
               have T8 : Hid (Tw C w5 mb (.int .u8 (kd : Int)) (.int .i64 z) (.slice (some ⟨gg, 0, none⟩) (j + 1) cap) (j + 1) (kdL ms j ++ [.int .u8 (kd : Int)]) (.slice a2 j c2) j (nnL ms j) w8) := by
                 first
                   | exact (TD.out.below (tb_alloc_below _ _)).app1 hown8 hgrow8 (by rcases hat8 with h | h; (· exact .inl h); (· exact .inr (congrArg some h)))
                   | exact ((TD.out.below (tb_alloc_below _ _)).below (tb_alloc_below _ _)).app1 hown8 hgrow8 (by rcases hat8 with h | h; (· exact .inl h); (· exact .inr (congrArg some h))))
            | (refine step_append_lies _ (by rfl) _ _ _ (by rfl) C 3 ii (.int .i64 0) 1 8 Try.underlying22 HJ1.out HJ2.out HJ3.out HJ4.out rfl (by omega) _ j (nnL ms j) (by rfl)
                 (by first | exact T8.out.o2 | exact (T8.out.below (tb_alloc_below _ _)).o2)
                 _ 1 1 [.int .i64 z] (by rfl) (by rfl)
                 (by first | exact cell_one_new _ _ _ | exact news_old hgrow8 (fun e => by have := (L1.out _ e).2; have e3 : w7.drew.heap.size = w7.heap.size := rfl; omega) (two_at0 _ _ _) | exact news_old hgrow8 (fun e => by have := (L1.out _ e).2; have e3 : w7.drew.heap.size = w7.heap.size := rfl; omega) (two_at1 _ _ _)) (by simp [Value.oneCell']) (by omega) (by unfold maxLen; omega) (by omega) (by have h1 := T8.out.b.size; have h2 := T8.out.c; simp; omega) _ rfl ?_;
               intro gg2 cap2 w9 hown9 hgrow9 hat9 hlt9;
               have T9 : Hid (Tw C w5 mb (.int .u8 (kd : Int)) (.int .i64 z) (.slice (some ⟨gg, 0, none⟩) (j + 1) cap) (j + 1) (kdL ms j ++ [.int .u8 (kd : Int)]) (.slice (some ⟨gg2, 0, none⟩) (j + 1) cap2) (j + 1) (nnL ms j ++ [.int .i64 z]) w9) := by
                 first
                   | exact T8.out.app2 hown9 hgrow9 (by rcases hat9 with h | h; (· exact .inl h); (· exact .inr (congrArg some h)))
                   | exact (T8.out.below (tb_alloc_below _ _)).app2 hown9 hgrow9 (by rcases hat9 with h | h; (· exact .inl h); (· exact .inr (congrArg some h)))))
        all_goals
          rename_i hheld
          have T10 := T9.out
          rw [← HK1.out, ← HK2.out] at T10
          have T10 := Lib.hid T10
          clear hheld T9 T8 TD T7 hown8 hgrow8 hat8 hlt8 hown9 hgrow9 hat9 hlt9 HSX L1 L2
          go_wp2_with fail
          go_roundw
          case rel => exact ⟨j + 1, _, _, by omega, by go_num, rfl, rfl, T10.out.b, T10.out.o1, T10.out.o2, T10.out.ne⟩
          case measure => simp [intOf]; omega
      case neg =>
      obtain rfl : ms.length = j := by omega
      have P6 : Hid (PwAt w kb #[.int .i64 T.tracks, .slice va T.pts.length vc, .int .i64 T.sigs, .slice a T.rts.length c] y u Y Y u5 l5 b5 w6) := P5.out.below (by rw [← HCC.out]; exact B6.out)
      have HALL : Hid (∀ b, AllR u Y u5 l5 b5 b → b < C) := fun b hb => by have := P5.out.r.all_lt hb; rw [HCC.out]; exact this
      have HYM : Hid (∀ b, y.M b → b < C) := fun b hb => by have := (P5.out.l.yd.M_ge b hb).2; rw [HCC.out]; exact this
      have HC6 : Hid (C ≤ w6.heap.size) := by have h := B6.out.size; rw [← HCC.out] at h; exact h
      obtain ⟨k1, kc1, rfl, hs1, hg1⟩ := own_sl (V := kdV ms) O1.out (fun i hi => by unfold kdL kdV; rw [List.take_of_length_le (Nat.le_refl _), List.getElem?_map, List.getElem?_eq_getElem hi, List.getD_eq_getElem?_getD, List.getElem?_eq_getElem hi]; rfl)
      obtain ⟨k2, kc2, rfl, hs2, hg2⟩ := own_sl (V := nnV ms) O2.out (fun i hi => by unfold nnL nnV; rw [List.take_of_length_le (Nat.le_refl _), List.getElem?_map, List.getElem?_eq_getElem hi, List.getD_eq_getElem?_getD, List.getElem?_eq_getElem hi]; rfl)
      have S1 := Lib.hid hs1; have S2 := Lib.hid hs2; have G1 := Lib.hid hg1; have G2 := Lib.hid hg2
      clear hs1 hs2 hg1 hg2 O1 O2 NE P5 B6
      have HFR := Lib.hid (yframe_any y Y ms (.slice xa ms.length xc) w6 P6.out.l.yd HX.out.hc HX.out.tok HX.out.tk HX.out.d (by rw [HYT.out]; exact HFI.out) (HMV.out.below P6.out.l.b) (mvs_off HMV.out P6.out.l.yd P6.out.l.ge) (by omega))
      rw [HYT.out] at HFR
      have HMOK := Lib.hid HMV.out.ok
      have HFI2 : Hid (YFine T (frameY T y.d Y ms)) := HFI.out.frame HCE.out (by have := HX.out.tok; rw [HYT.out] at this; exact this) HX.out.d ms
      have HRF := Lib.hid (fun W (hW : RdAt W u Y u5 l5 b5) (h1 : SliceAt W k1 ms.length (kdV ms)) (h2 : SliceAt W k2 ms.length (nnV ms)) => rframe_any u Y u5 l5 b5 ms k1 k2 kc1 kc2 W hW (by rw [HUU.out.1]; exact HCE.out) (by rw [HUU.out.1]; have := HX.out.tok; rw [HYT.out] at this; exact this) (by rw [HUU.out.1]; have := HX.out.tk; rw [HYT.out] at this; exact this) (by rw [HUD.out]; exact HX.out.d) (by rw [HUU.out.1]; exact HFI.out)
        h1 h2 HMOK.out (fun b o e hb => by have h3 := HALL.out b hb; have h4 := (G1.out b o e).1; omega) (fun b o e hb => by have h3 := HALL.out b hb; have h4 := (G2.out b o e).1; omega) (by omega))
      rw [HUU.out.1, HUD.out] at HRF
      have HLE : Hid ((intE (errsY T Y ms)).length = ms.length) := by show _ = _; unfold intE errsY; rw [List.length_map, movesE_len]
      obtain ⟨Z, hZ⟩ : ∃ x, x = frameY T y.d Y ms := ⟨_, rfl⟩
      rw [← hZ] at HFR HFI2 HTS HRF
      clear hZ
      obtain ⟨Er, hEr⟩ : ∃ x, x = intE (errsY T Y ms) := ⟨_, rfl⟩
      rw [← hEr] at HFR HRF HLE
      clear hEr
      obtain ⟨L, hL⟩ : ∃ x, x = Z.L := ⟨_, rfl⟩
      rw [← hL] at HFR HRF
      clear hL
      unfold OD.val at HFR HRF
      go_wp2_with fail
      refine HFR.out.mono ?_
      rintro e w7 ⟨⟨ve, rfl, hve1, hve2⟩, hk7⟩
      have P7 := Lib.hid (P6.out.turnY hk7)
      have S17 : Hid (SliceAt w7 k1 ms.length (kdV ms)) := S1.out.only hk7.2 (fun b o e hb hm => by have h3 := HYM.out b hm; have h4 := (G1.out b o e).1; omega)
      have S27 : Hid (SliceAt w7 k2 ms.length (nnV ms)) := S2.out.only hk7.2 (fun b o e hb hm => by have h3 := HYM.out b hm; have h4 := (G2.out b o e).1; omega)
      have E7 := Lib.hid hve1
      have EB := Lib.hid hve2
      have HC7 : Hid (C ≤ w7.heap.size) := Nat.le_trans HC6.out hk7.2.size
      clear hve1 hve2 hk7 P6 S1 S2 HFR
      obtain ⟨ea, ec, rfl, hel, hec, _⟩ := E7.out.at_
      rw [HLE.out] at hel E7 EB ⊢
      obtain ⟨w8, hw8⟩ : ∃ x, x = w7.alloc (.cells #[.int .u32 (L.pr : Int), .int .u32 (L.no : Int), .int .u32 (L.re : Int), .int .u32 (L.lo : Int)] 35) := ⟨_, rfl⟩
      have HW8 := Lib.hid hw8
      have B78 : Hid (Below w7.heap.size w7 w8) := by rw [hw8]; exact tb_alloc_below _ _
      have Q8 : Hid (w8.heap[w7.heap.size]? = some (.cells #[.int .u32 (L.pr : Int), .int .u32 (L.no : Int), .int .u32 (L.re : Int), .int .u32 (L.lo : Int)] 35 (0, 0))) := by rw [hw8]; exact heap_alloc_new _ _
      clear hw8
      have P8 := Lib.hid (P7.out.below B78.out)
      have E8 := Lib.hid (E7.out.below B78.out)
      have HRF8 := Lib.hid (HRF.out w8 P8.out.r (S17.out.below B78.out) (S27.out.below B78.out))
      go_wp2_with fail
      rw [← HW8.out]
      refine HRF8.out.mono ?_
      rintro e w9 ⟨⟨vn, rfl, hvn1, hvn2⟩, hk9⟩
      obtain ⟨u7, l7, b7, hp9⟩ := P8.out.turnR hk9
      obtain ⟨u7', l7', b7', _, hon, _⟩ := hk9
      have P9 := Lib.hid hp9
      have E9 : Hid (IntsAt w9 (.slice ea ms.length ec) Er) := E8.out.only hon (fun b o k c e hm => by have h3 := HALL.out b hm; have h4 := EB.out b o k c e; have := HC6.out; omega)
      have N9 := Lib.hid hvn1
      obtain ⟨ob, hob⟩ : ∃ b, b = w7.heap.size := ⟨_, rfl⟩
      rw [← hob] at Q8 ⊢
      have Q9 : Hid (w9.heap[ob]? = some (.cells #[.int .u32 (L.pr : Int), .int .u32 (L.no : Int), .int .u32 (L.re : Int), .int .u32 (L.lo : Int)] 35 (0, 0))) := (hon.block _ (heap_lt Q8.out) (fun hm => by have := HALL.out _ hm; have := HC7.out; omega)).trans Q8.out
      clear hp9 hvn1 hvn2 hon hob P8 E8 Q8 HRF8 HRF E7 P7 S17 S27 HW8 B78
      obtain ⟨na, nc, rfl, hnl, hnc, _⟩ := N9.out.at_
      rw [HLE.out] at hnl N9 ⊢
      obtain ⟨w10, hw10⟩ : ∃ x, x = w9.alloc (.cells #[.int .u32 (L.pr : Int), .int .u32 (L.no : Int), .int .u32 (L.re : Int), .int .u32 (L.lo : Int)] 35) := ⟨_, rfl⟩
      have HW10 := Lib.hid hw10
      have B910 : Hid (Below w9.heap.size w9 w10) := by rw [hw10]; exact tb_alloc_below _ _
      have R10 : Hid (w10.heap[w9.heap.size]? = some (.cells #[.int .u32 (L.pr : Int), .int .u32 (L.no : Int), .int .u32 (L.re : Int), .int .u32 (L.lo : Int)] 35 (0, 0))) := by rw [hw10]; exact heap_alloc_new _ _
      clear hw10
      have P10 := Lib.hid (P9.out.below B910.out)
      have E10 := Lib.hid (E9.out.below B910.out)
      have N10 := Lib.hid (N9.out.below B910.out)
      have Q10 := Lib.hid (tb_kept Q9.out B910.out)
      go_upto_region 22 with fail
      rw [← HW10.out]
      obtain ⟨qb, hqb⟩ : ∃ b, b = w9.heap.size := ⟨_, rfl⟩
      rw [← hqb] at R10 ⊢
      clear hqb HW10 P9 E9 N9 Q9 B910
      have q0 := cell_row (j := 0) Q10.out rfl; have q1 := cell_row (j := 1) Q10.out rfl; have q2 := cell_row (j := 2) Q10.out rfl; have q3 := cell_row (j := 3) Q10.out rfl
      have r0 := cell_row (j := 0) R10.out rfl; have r1 := cell_row (j := 1) R10.out rfl; have r2 := cell_row (j := 2) R10.out rfl; have r3 := cell_row (j := 3) R10.out rfl
      have lq := heap_lt Q10.out; have lr := heap_lt R10.out
      go_wp2_with fail
      clear q0 q1 q2 q3 r0 r1 r2 r3 lq lr
      have HAL := Lib.hid (alike_any y u Z u7 l7 b7 w10 P10.out.l.yd P10.out.r (by rw [HUU.out.1, HYT.out]) HX.out.tok (by rw [HYT.out]; exact HTKN.out.2) HX.out.tk (by rw [HYT.out]; exact fun n hn hi => ⟨(HFI2.out.inv.tr n hn hi).1, (HFI2.out.inv.tr n hn hi).2.1, (HFI2.out.inv.tr n hn hi).2.2.1⟩) (fun p => by have := HFI2.out.inv.t12 p; omega))
      go_loopw [113] (fun i wr => ∃ q : Nat, q ≤ ms.length ∧ i = .int .i64 q ∧ wr = w10) (fun i _ => ms.length - (intOf i).toNat)
      case atStart => exact ⟨0, Nat.zero_le _, rfl, rfl⟩
      case round =>
        obtain ⟨q, hq, rfl, hw⟩ := hrel
        subst hw
        by_cases hql : q < ms.length
        case pos =>
          have hqe : q < Er.length := by rw [HLE.out]; exact hql
          obtain ⟨eb, eo, rfl, heb, hex⟩ := E10.out.cell hqe
          obtain ⟨nb, no, rfl, hnb, hnx⟩ := N10.out.cell hqe
          have hok := E10.out.ok q hqe
          have hok1 := hok.1; have hok2 := hok.2
          clear hqe hok
          generalize Er.getD q 0 = ev at *
          go_wp2_with fail
          go_roundw
          case rel => exact ⟨q + 1, by omega, by go_num, by first | trivial | rfl⟩
          case measure => simp [intOf]; omega
        case neg =>
        obtain rfl : ms.length = q := by omega
        go_wp2_with fail
        refine HAL.out.mono ?_
        rintro e w11 ⟨rfl, hb⟩
        have P11 := Lib.hid (P10.out.below hb)
        clear hb HAL P10 E10 N10 Q10 R10
        go_wp2_with fail
        go_roundw
        case rel => exact ⟨k + 1, u7, l7, b7, by omega, by go_num, by rw [HTS.out]; exact P11.out⟩
        case measure => simp [intOf]; omega
set_option maxRecDepth 100000 in
theorem yplays_any (v0 : Value) (a1 : Int) (a2 : Option Addr) (len2 cap2 : Nat) (w : World) (h0 : ReadsW w 25 v0.cells.toList ∧ Value.okWide Try.prog w .any 0 25 v0) (h1 : (Lit.int .i64 a1).wf = true) (h2 : ReadsW w 26 [.slice a2 len2 cap2]) :
    Calls Try.prog 5 #[v0, .int .i64 a1, .slice a2 len2 cap2] w fun e w' => e = .returned (.bool true) ∧ Below w.heap.size w w' := by
  obtain ⟨T, hT⟩ := reads_tab ⟨h0.1.c, h0.2⟩
  obtain ⟨l, hl⟩ := reads_mvss h2
  exact yplays_walk v0 _ T a1 l w hT (tab_sm h0.1 hT) (i64ok_of h1) hl
end Go.Proofs.Ytnjeiigdfdjccaa
