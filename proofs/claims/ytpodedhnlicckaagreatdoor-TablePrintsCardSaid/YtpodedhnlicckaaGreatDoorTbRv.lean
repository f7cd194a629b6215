/- The document's Print: the walk. -/
import Derived.Test.YtpodedhnlicckaaGreatDoorTbRx
namespace Go.Proofs.YtpodedhnlicckaaGreatDoor
open Go.RowKit
set_option linter.unusedVariables false
set_option linter.unusedSimpArgs false
set_option maxHeartbeats 16000000 in
set_option maxRecDepth 100000 in
theorem rprint_any (v : Value) (T : Tab) (w : World) (hT : TabAt w v T) (hs : grS T T.rts.length ≤ 8000) : Calls Tryz.prog 21 #[v] w (PrintP T w) := by
  obtain ⟨⟨vp, vr, rfl, hP, hr⟩, htr, hsg⟩ := id hT
  obtain ⟨a, c, C0, rfl, hlc, hcm, _⟩ := hr.at_
  obtain ⟨⟨va, vc, rfl, hvl, hvm, _⟩, hPo⟩ := id hP
  have HR0 := Lib.hid hr
  have HTR := Lib.hid htr; have HSG := Lib.hid hsg
  obtain ⟨w1, hw1⟩ : ∃ w1, w1 = w.alloc (.cells #[.int .i64 T.tracks, .slice va T.pts.length vc, .int .i64 T.sigs, .slice a T.rts.length c] 25) := ⟨_, rfl⟩
  have B1 : Hid (Below w.heap.size w w1) := by rw [hw1]; exact tb_alloc_below _ _
  have K1 : Hid (w1.heap[w.heap.size]? = some (.cells #[.int .i64 T.tracks, .slice va T.pts.length vc, .int .i64 T.sigs, .slice a T.rts.length c] 25)) := by rw [hw1]; exact heap_alloc_new _ _
  obtain ⟨w2, hw2⟩ : ∃ w2, w2 = w1.alloc (.cells #[.string ⟨#[]⟩, .bool false] 82) := ⟨_, rfl⟩
  obtain ⟨g, hg⟩ : ∃ g, g = w1.heap.size := ⟨_, rfl⟩
  have Q2 : Hid (QC g w1 w2) := by rw [hw2, hg]; exact ⟨rfl, tb_alloc_below _ _⟩
  have R2 : Hid (RWr g false [] w2) := by
    rw [hw2, hg]
    exact ⟨[], heap_alloc_new _ _, by simp, fun _ => Cap.zero⟩
  have HPT := Lib.hid (hP.below B1.out)
  have HW1 := Lib.hid hw1; have HW2 := Lib.hid hw2; have HG := Lib.hid hg
  clear hw1 hP hr hlc hcm hvl hvm hw2 hg hPo hsg htr hT
  have HS0 : Hid (T.pts.length + T.rts.length ≤ 8000) := by have h0 : grS T 0 ≤ _ := grS_mono T (Nat.zero_le T.rts.length); have h1 : grS T 0 = T.pts.length + T.rts.length := rfl; show _ ≤ _; omega
  have HLS : Hid (∀ k, k < T.rts.length → (T.rts.getD k rt0).tr.length ≤ 8000 ∧ (T.rts.getD k rt0).pts.length ≤ 8000 ∧ (T.rts.getD k rt0).con.length ≤ 8000) := fun k hk => by
    have h1 : grS T (k + 1) ≤ _ := grS_mono T (show k + 1 ≤ T.rts.length by omega)
    have h2 : grS T (k + 1) = grS T k + (T.rts.getD k rt0).tr.length + (T.rts.getD k rt0).pts.length + (T.rts.getD k rt0).con.length := rfl
    omega
  have hm8 : T.rts.length ≤ 8000 := by have := HS0.out; omega
  have hp8 : T.pts.length ≤ 8000 := by have := HS0.out; omega
  have HEND : Hid (badT T = !goodT T) := badT_good (fun r hr => by
    obtain ⟨i, hi, e⟩ := List.mem_iff_getElem.1 hr
    obtain ⟨_, _, C, _, _, _, h⟩ := HR0.out.cells hi
    have := h.holdOk
    rw [List.getD_eq_getElem?_getD, List.getElem?_eq_getElem hi] at this
    rw [← e]; exact this)
  obtain ⟨TK, UK, hT0, hU0, hTS, hUS, hTM, hUM⟩ := loopT (headT T) (false || offR T.tracks || offR T.sigs) T.pts
  obtain ⟨RK, SK, hR0, hS0, hRS, hSS, hRM, hSM⟩ := loopR (ptsX (headT T) T.pts) (false || offR T.tracks || offR T.sigs || T.pts.any offR) T.rts
  have HT0 := Lib.hid hT0; have HU0 := Lib.hid hU0; have HTS := Lib.hid hTS; have HUS := Lib.hid hUS; have HTM := Lib.hid hTM; have HUM := Lib.hid hUM
  have HRR0 := Lib.hid hR0; have HSS0 := Lib.hid hS0; have HRS := Lib.hid hRS; have HSS := Lib.hid hSS; have HRM := Lib.hid hRM; have HSM := Lib.hid hSM
  clear hT0 hU0 hTS hUS hTM hUM hR0 hS0 hRS hSS hRM hSM hs
  have c0 := cell_row (j := 0) (Q2.out.blk K1.out) rfl
  go_enter Tryz.func21, Tryz.ntmps21
  go_upto_region 1 with fail
  rw [← HW1.out]
  go_upto_region 2 with fail
  rw [← HW2.out, ← HG.out]
  clear HW1 HW2
  go_wp2_with fail
  refine (rnumR R2.out _ _ _ HTR.out (of_decide_eq_true rfl) (of_decide_eq_true rfl)).mono ?_
  rintro e w3 ⟨rfl, hr, ho⟩
  have R3 := Lib.hid hr
  have Q3 := Lib.hid (Q2.out.step ho)
  clear hr ho
  clear c0 R2
  have c2 := cell_row (j := 2) (Q3.out.blk K1.out) rfl
  go_wp2_with fail
  refine (rnumR R3.out _ _ _ HSG.out (of_decide_eq_true rfl) (of_decide_eq_true rfl)).mono ?_
  rintro e w4 ⟨rfl, hr, ho⟩
  have R4 := Lib.hid hr
  have Q4 := Lib.hid (Q3.out.step ho)
  clear hr ho
  have RR : Hid (RWr g (UK 0) (TK 0) w4) := by
    show RWr _ _ _ _
    rw [HT0.out, HU0.out, ← refT]
    exact R4.out
  clear c2 R3 R4 Q2 Q3 HT0 HU0
  go_wp2_with fail
  go_loopw [5] (fun i wr => ∃ k : Nat, k ≤ T.pts.length ∧ i = .int .i64 (k : Int) ∧ Hid (RWr g (UK k) (TK k) wr) ∧ Hid (QC g w1 wr)) (fun i _ => T.pts.length - (intOf i).toNat)
  case atStart => exact ⟨0, Nat.zero_le _, rfl, RR, Q4⟩
  case round =>
    clear RR Q4
    obtain ⟨k, hk, rfl, HR, HQ⟩ := hrel
    have c1 := cell_row (j := 1) (HQ.out.blk K1.out) rfl
    rcases Nat.lt_or_ge k T.pts.length with hk2 | hk2
    case inl =>
      have t2 : decide ((k : Int) < (T.pts.length : Int)) = true := decide_eq_true (by omega)
      have HVr := HPT.out.below HQ.out.bel
      obtain ⟨ba, off, rfl, hlt, x0⟩ := HVr.cell hk2
      have HOY := Lib.hid (HPT.out.ok k hk2)
      have HF := Lib.hid (HTS.out k hk2); have HBK := Lib.hid (HUS.out k hk2)
      clear HVr HTS HUS HTM HUM HRR0 HSS0 HRS HSS HRM HSM
      generalize T.pts.getD k 0 = y at *
      go_wp2_with fail
      refine (rnumR HR.out _ _ y HOY.out (of_decide_eq_true rfl) (of_decide_eq_true rfl)).mono ?_
      rintro e w5 ⟨rfl, hr, ho⟩
      have R5 := Lib.hid hr
      have Q5 := Lib.hid (HQ.out.step ho)
      clear hr ho
      have HRE : Hid (RWr g (UK (k + 1)) (TK (k + 1)) w5) := by
        show RWr _ _ _ _
        rw [HF.out, HBK.out]
        have e : lineT [wPt, dI y] = [112, 111, 105, 110, 116, 32] ++ dI y ++ [10] := by unfold lineT; rw [joinB_flat]; simp [wPt]
        rw [e]
        exact R5.out
      clear HR HQ R5 HF HBK c1
      go_wp2_with fail
      go_roundw
      case rel => exact ⟨k + 1, by omega, by go_num, HRE, Q5⟩
      case measure => simp [intOf]; omega
    obtain rfl : k = T.pts.length := by omega
    have t2 : decide ((T.pts.length : Int) < (T.pts.length : Int)) = false := by simp
    have RR : Hid (RWr g (SK 0) (RK 0) wr) := by
      show RWr _ _ _ _
      rw [HRR0.out, HSS0.out, ← HTM.out, ← HUM.out]
      exact HR.out
    clear HTS HUS HTM HUM HRR0 HSS0 HR HPT
    go_wp2_with fail
    clear c1 t2
    go_loopw [6] (fun i wr => ∃ k : Nat, k ≤ T.rts.length ∧ i = .int .i64 (k : Int) ∧ Hid (RWr g (SK k) (RK k) wr) ∧ Hid (QC g w1 wr)) (fun i _ => T.rts.length - (intOf i).toNat)
    case atStart => exact ⟨0, Nat.zero_le _, rfl, RR, HQ⟩
    case round =>
      clear RR HQ
      obtain ⟨k, hk, rfl, HR, HQ⟩ := hrel
      have c3 := cell_row (j := 3) (HQ.out.blk K1.out) rfl
      rcases Nat.lt_or_ge k T.rts.length with hk2 | hk2
      case inl =>
        obtain ⟨n, hn⟩ : ∃ n, n = k := ⟨_, rfl⟩
        have t2 : decide ((k : Int) < (T.rts.length : Int)) = true := decide_eq_true (by omega)
        obtain ⟨rb, roff, C, rfl, hrb, hrc, hrr⟩ := HR0.out.cells hk2
        have BO : Hid (Below w.heap.size w wr) := B1.out.trans (HQ.out.bel.mono B1.out.size)
        have x0 := (BO.out.cell hrb).trans (hrc 0 (by omega)); have x1 := (BO.out.cell hrb).trans (hrc 1 (by omega)); have x2 := (BO.out.cell hrb).trans (hrc 2 (by omega)); have x3 := (BO.out.cell hrb).trans (hrc 3 (by omega)); have x4 := (BO.out.cell hrb).trans (hrc 4 (by omega)); have x5 := (BO.out.cell hrb).trans (hrc 5 (by omega))
        have hbl : rb < wr.heap.size := Nat.lt_of_lt_of_le hrb BO.out.size
        rw [Nat.add_zero] at x0
        have HF := Lib.hid (HRS.out k hk2); have HBK := Lib.hid (HSS.out k hk2)
        obtain ⟨z1, z2, z3⟩ := HLS.out k hk2
        obtain ⟨r, hrd⟩ : ∃ r, r = T.rts.getD k rt0 := ⟨_, rfl⟩
        rw [← hrd] at hrr HF HBK z1 z2 z3
        clear hrd hn
        obtain ⟨⟨ta, tc, ht, _⟩, _⟩ := hrr.tr
        obtain ⟨⟨pa, pc, hp, _⟩, _⟩ := hrr.pts
        obtain ⟨⟨ca, cc, hcn, _⟩, _⟩ := hrr.con
        have HTr := Lib.hid (hrr.tr.below B1.out); have HPt := Lib.hid (hrr.pts.below B1.out); have HCo := Lib.hid (hrr.con.below B1.out)
        rw [ht] at HTr; rw [hp] at HPt; rw [hcn] at HCo
        have HSi := Lib.hid hrr.sigOk; have HAp := Lib.hid hrr.appOk; have hho := hrr.holdOk
        rw [hrr.sig] at x0; rw [ht] at x1; rw [hp] at x2; rw [hrr.app] at x3; rw [hcn] at x4; rw [hrr.hold] at x5
        obtain ⟨w8, hw8⟩ : ∃ w8, w8 = wr.alloc (.cells #[.int .i64 r.sig, .slice ta r.tr.length tc, .slice pa r.pts.length pc, .int .i64 r.app, .slice ca r.con.length cc, .int .u16 (r.hold : Int)] 30) := ⟨_, rfl⟩
        have B8 : Hid (Below wr.heap.size wr w8) := by rw [hw8]; exact tb_alloc_below _ _
        have AB8 : Hid (w8.heap[wr.heap.size]? = some (.cells #[.int .i64 r.sig, .slice ta r.tr.length tc, .slice pa r.pts.length pc, .int .i64 r.app, .slice ca r.con.length cc, .int .u16 (r.hold : Int)] 30 (0, 0))) := by rw [hw8]; exact heap_alloc_new _ _
        have R8 := Lib.hid (HR.out.kept B8.out)
        have Q8 : Hid (QC g w1 w8) := HQ.out.step (Only.of_below _ B8.out)
        have HAB : Hid (wr.heap.size ≠ g) := by have := HR.out.lt; show _ ≠ _; omega
        have HW8 := Lib.hid hw8
        have HHo : Hid (i64ok (r.hold : Int)) := ⟨by omega, by omega⟩
        clear hw8 hrr hrc ht hp hcn hrb HRS HSS HRM HSM B8 BO HR HQ HEND HLS
        go_upto_region 12 with fail
        rw [← HW8.out]
        obtain ⟨ab, hab⟩ : ∃ ab, ab = wr.heap.size := ⟨_, rfl⟩
        rw [← hab] at AB8 HAB ⊢
        clear x0 x1 x2 x3 x4 x5 hbl hab HW8 c3
        have q0 := cell_row (j := 0) AB8.out rfl
        go_wp2_with fail
        refine (rnumR R8.out _ _ _ HSi.out (of_decide_eq_true rfl) (of_decide_eq_true rfl)).mono ?_
        rintro e w9 ⟨rfl, hr, ho⟩
        have R9 := Lib.hid hr
        have Q9 := Lib.hid (Q8.out.step ho)
        have AB9 := Lib.hid ((ho.block ab (heap_lt AB8.out) HAB.out).trans AB8.out)
        clear hr ho
        clear q0 R8 Q8 AB8
        obtain ⟨FK, BK, hF0, hB0, hFS, hBS, hFM, hBM⟩ := loopI (RK k ++ (sRo ++ dI r.sig ++ sTr)) (SK k || offR r.sig) r.tr
        have HF0 := Lib.hid hF0; have HB0 := Lib.hid hB0; have HFS := Lib.hid hFS; have HBS := Lib.hid hBS; have HFM := Lib.hid hFM; have HBM := Lib.hid hBM
        clear hF0 hB0 hFS hBS hFM hBM
        have RR : Hid (RWr g (BK 0) (FK 0) w9) := by show RWr _ _ _ _; rw [HF0.out, HB0.out]; exact R9.out
        clear R9 HF0 HB0
        go_wp2_with fail
        go_loopw [8] (fun i wr => ∃ k : Nat, k ≤ r.tr.length ∧ i = .int .i64 (k : Int) ∧ Hid (RWr g (BK k) (FK k) wr) ∧ Hid (QC g w1 wr) ∧ Hid (wr.heap[ab]? = some (.cells #[.int .i64 r.sig, .slice ta r.tr.length tc, .slice pa r.pts.length pc, .int .i64 r.app, .slice ca r.con.length cc, .int .u16 (r.hold : Int)] 30 (0, 0)))) (fun i _ => r.tr.length - (intOf i).toNat)
        case atStart => exact ⟨0, Nat.zero_le _, rfl, RR, Q9, AB9⟩
        case round =>
          clear RR Q9 AB9
          obtain ⟨k, hk, rfl, HRk, HQk, ABk⟩ := hrel
          have qj := cell_row (j := 1) ABk.out rfl
          rcases Nat.lt_or_ge k r.tr.length with hk2 | hk2
          case inl =>
            have t2 : decide ((k : Int) < (r.tr.length : Int)) = true := decide_eq_true (by omega)
            have HVr := HTr.out.below HQk.out.bel
            obtain ⟨ba, off, rfl, hlt, x0⟩ := HVr.cell hk2
            have HOY := Lib.hid (HTr.out.ok k hk2)
            have HF := Lib.hid (HFS.out k hk2); have HBK := Lib.hid (HBS.out k hk2)
            clear HVr HFS HBS HFM HBM
            generalize r.tr.getD k 0 = y at *
            go_wp2_with fail
            refine (rnumR HRk.out _ _ y HOY.out (of_decide_eq_true rfl) (of_decide_eq_true rfl)).mono ?_
            rintro e w20 ⟨rfl, hr, ho⟩
            have R20 := Lib.hid hr
            have Q20 := Lib.hid (HQk.out.step ho)
            have AB20 := Lib.hid ((ho.block ab (heap_lt ABk.out) HAB.out).trans ABk.out)
            clear hr ho
            have HRE : Hid (RWr g (BK (k + 1)) (FK (k + 1)) w20) := by
              show RWr _ _ _ _
              rw [HF.out, HBK.out]
              have := R20.out
              rw [List.append_nil] at this
              exact this
            clear HRk HQk ABk R20 HF HBK qj
            go_wp2_with fail
            go_roundw
            case rel => exact ⟨k + 1, by omega, by go_num, HRE, Q20, AB20⟩
            case measure => simp [intOf]; omega
          obtain rfl : k = r.tr.length := by omega
          have t2 : decide ((r.tr.length : Int) < (r.tr.length : Int)) = false := by simp
          have R10 := Lib.hid (show RWr g _ _ wr by have := HRk.out; rw [HFM.out, HBM.out] at this; exact this)
          have Q10 := HQk; have AB10 := ABk
          clear HRk HQk ABk HFM HBM HFS HBS
          go_wp2_with fail
          refine (rputR R10.out _ (of_decide_eq_true rfl)).mono ?_
          rintro e w11 ⟨rfl, hr, ho⟩
          have R11 := Lib.hid hr
          have Q11 := Lib.hid (Q10.out.step ho)
          have AB11 := Lib.hid ((ho.block ab (heap_lt AB10.out) HAB.out).trans AB10.out)
          clear hr ho
          clear R10 Q10 AB10
          obtain ⟨FK, BK, hF0, hB0, hFS, hBS, hFM, hBM⟩ := loopP (RK k ++ (sRo ++ dI r.sig ++ sTr) ++ r.tr.flatMap (fun x => 32 :: dI x) ++ sPs) (SK k || offR r.sig || r.tr.any offR) r.pts
          have HF0 := Lib.hid hF0; have HB0 := Lib.hid hB0; have HFS := Lib.hid hFS; have HBS := Lib.hid hBS; have HFM := Lib.hid hFM; have HBM := Lib.hid hBM
          clear hF0 hB0 hFS hBS hFM hBM
          have RR : Hid (RWr g (BK 0) (FK 0) w11) := by show RWr _ _ _ _; rw [HF0.out, HB0.out]; exact R11.out
          clear R11 HF0 HB0
          go_wp2_with fail
          go_loopw [9] (fun i wr => ∃ k : Nat, k ≤ r.pts.length ∧ i = .int .i64 (k : Int) ∧ Hid (RWr g (BK k) (FK k) wr) ∧ Hid (QC g w1 wr) ∧ Hid (wr.heap[ab]? = some (.cells #[.int .i64 r.sig, .slice ta r.tr.length tc, .slice pa r.pts.length pc, .int .i64 r.app, .slice ca r.con.length cc, .int .u16 (r.hold : Int)] 30 (0, 0)))) (fun i _ => r.pts.length - (intOf i).toNat)
          case atStart => exact ⟨0, Nat.zero_le _, rfl, RR, Q11, AB11⟩
          case round =>
            clear RR Q11 AB11
            obtain ⟨k, hk, rfl, HRk, HQk, ABk⟩ := hrel
            have qj := cell_row (j := 2) ABk.out rfl
            rcases Nat.lt_or_ge k r.pts.length with hk2 | hk2
            case inl =>
              have t2 : decide ((k : Int) < (r.pts.length : Int)) = true := decide_eq_true (by omega)
              have HVr := HPt.out.below HQk.out.bel
              obtain ⟨ba, off, rfl, hlt, x0, x1⟩ := HVr.cell hk2
              have HOY := Lib.hid (HPt.out.ok k hk2)
              have HF := Lib.hid (HFS.out k hk2); have HBK := Lib.hid (HBS.out k hk2)
              clear HVr HFS HBS HFM HBM
              obtain ⟨y, sg, hy⟩ : ∃ y sg, r.pts.getD k (0, false) = (y, sg) := ⟨_, _, rfl⟩
              rw [hy] at x0 x1 HOY HF HBK
              clear hy
              simp only at x0 x1
              have HOY : Hid (i64ok y) := HOY.out
              have HF : Hid (FK (k + 1) = FK k ++ (32 :: (dI y ++ [if sg then 45 else 43]))) := HF.out
              have HBK : Hid (BK (k + 1) = (BK k || offR y)) := HBK.out
              cases sg with
              | true =>
                go_wp2_with fail
                refine (rnumR HRk.out _ _ y HOY.out (of_decide_eq_true rfl) (of_decide_eq_true rfl)).mono ?_
                rintro e w20 ⟨rfl, hr, ho⟩
                have R20 := Lib.hid hr
                have Q20 := Lib.hid (HQk.out.step ho)
                have AB20 := Lib.hid ((ho.block ab (heap_lt ABk.out) HAB.out).trans ABk.out)
                clear hr ho
                have HRE : Hid (RWr g (BK (k + 1)) (FK (k + 1)) w20) := by
                  show RWr _ _ _ _
                  rw [HF.out, HBK.out]
                  exact R20.out
                clear HRk HQk ABk R20 HF HBK qj
                go_wp2_with fail
                go_roundw
                case rel => exact ⟨k + 1, by omega, by go_num, HRE, Q20, AB20⟩
                case measure => simp [intOf]; omega
              | false =>
                go_wp2_with fail
                refine (rnumR HRk.out _ _ y HOY.out (of_decide_eq_true rfl) (of_decide_eq_true rfl)).mono ?_
                rintro e w20 ⟨rfl, hr, ho⟩
                have R20 := Lib.hid hr
                have Q20 := Lib.hid (HQk.out.step ho)
                have AB20 := Lib.hid ((ho.block ab (heap_lt ABk.out) HAB.out).trans ABk.out)
                clear hr ho
                have HRE : Hid (RWr g (BK (k + 1)) (FK (k + 1)) w20) := by
                  show RWr _ _ _ _
                  rw [HF.out, HBK.out]
                  exact R20.out
                clear HRk HQk ABk R20 HF HBK qj
                go_wp2_with fail
                go_roundw
                case rel => exact ⟨k + 1, by omega, by go_num, HRE, Q20, AB20⟩
                case measure => simp [intOf]; omega
            obtain rfl : k = r.pts.length := by omega
            have t2 : decide ((r.pts.length : Int) < (r.pts.length : Int)) = false := by simp
            have R12 := Lib.hid (show RWr g _ _ wr by have := HRk.out; rw [HFM.out, HBM.out] at this; exact this)
            have Q12 := HQk; have AB12 := ABk
            clear HRk HQk ABk HFM HBM HFS HBS
            have q3 := cell_row (j := 3) AB12.out rfl
            by_cases happ : r.app = -1
            · have t7 : (r.app != -1) = false := by rw [happ]; rfl
              have HAPP := Lib.hid happ
              clear happ
              have q5 := cell_row (j := 5) AB12.out rfl
              go_wp2_with fail
              refine (rnumR R12.out _ _ _ HHo.out (of_decide_eq_true rfl) (of_decide_eq_true rfl)).mono ?_
              rintro e w14 ⟨rfl, hr, ho⟩
              have R14 := Lib.hid hr
              have Q14 := Lib.hid (Q12.out.step ho)
              have AB14 := Lib.hid ((ho.block ab (heap_lt AB12.out) HAB.out).trans AB12.out)
              clear hr ho
              clear q5 R12 Q12 AB12
              obtain ⟨FK, BK, hF0, hB0, hFS, hBS, hFM, hBM⟩ := loopI (RK k ++ (sRo ++ dI r.sig ++ sTr) ++ r.tr.flatMap (fun x => 32 :: dI x) ++ sPs ++ r.pts.flatMap (fun x => 32 :: ptW x) ++ (sHo ++ dI (r.hold : Int) ++ sCo)) (SK k || offR r.sig || r.tr.any offR || r.pts.any offP || offR (r.hold : Int)) r.con
              have HF0 := Lib.hid hF0; have HB0 := Lib.hid hB0; have HFS := Lib.hid hFS; have HBS := Lib.hid hBS; have HFM := Lib.hid hFM; have HBM := Lib.hid hBM
              clear hF0 hB0 hFS hBS hFM hBM
              have RR : Hid (RWr g (BK 0) (FK 0) w14) := by show RWr _ _ _ _; rw [HF0.out, HB0.out]; exact R14.out
              clear R14 HF0 HB0
              go_wp2_with fail
              go_loopw [10] (fun i wr => ∃ k : Nat, k ≤ r.con.length ∧ i = .int .i64 (k : Int) ∧ Hid (RWr g (BK k) (FK k) wr) ∧ Hid (QC g w1 wr) ∧ Hid (wr.heap[ab]? = some (.cells #[.int .i64 r.sig, .slice ta r.tr.length tc, .slice pa r.pts.length pc, .int .i64 r.app, .slice ca r.con.length cc, .int .u16 (r.hold : Int)] 30 (0, 0)))) (fun i _ => r.con.length - (intOf i).toNat)
              case atStart => exact ⟨0, Nat.zero_le _, rfl, RR, Q14, AB14⟩
              case round =>
                clear RR Q14 AB14
                obtain ⟨k, hk, rfl, HRk, HQk, ABk⟩ := hrel
                have qj := cell_row (j := 4) ABk.out rfl
                rcases Nat.lt_or_ge k r.con.length with hk2 | hk2
                case inl =>
                  have t2 : decide ((k : Int) < (r.con.length : Int)) = true := decide_eq_true (by omega)
                  have HVr := HCo.out.below HQk.out.bel
                  obtain ⟨ba, off, rfl, hlt, x0⟩ := HVr.cell hk2
                  have HOY := Lib.hid (HCo.out.ok k hk2)
                  have HF := Lib.hid (HFS.out k hk2); have HBK := Lib.hid (HBS.out k hk2)
                  clear HVr HFS HBS HFM HBM
                  generalize r.con.getD k 0 = y at *
                  go_wp2_with fail
                  refine (rnumR HRk.out _ _ y HOY.out (of_decide_eq_true rfl) (of_decide_eq_true rfl)).mono ?_
                  rintro e w20 ⟨rfl, hr, ho⟩
                  have R20 := Lib.hid hr
                  have Q20 := Lib.hid (HQk.out.step ho)
                  have AB20 := Lib.hid ((ho.block ab (heap_lt ABk.out) HAB.out).trans ABk.out)
                  clear hr ho
                  have HRE : Hid (RWr g (BK (k + 1)) (FK (k + 1)) w20) := by
                    show RWr _ _ _ _
                    rw [HF.out, HBK.out]
                    have := R20.out
                    rw [List.append_nil] at this
                    exact this
                  clear HRk HQk ABk R20 HF HBK qj
                  go_wp2_with fail
                  go_roundw
                  case rel => exact ⟨k + 1, by omega, by go_num, HRE, Q20, AB20⟩
                  case measure => simp [intOf]; omega
                obtain rfl : k = r.con.length := by omega
                have t2 : decide ((r.con.length : Int) < (r.con.length : Int)) = false := by simp
                have R15 := Lib.hid (show RWr g _ _ wr by have := HRk.out; rw [HFM.out, HBM.out] at this; exact this)
                have Q15 := HQk; have AB15 := ABk
                clear HRk HQk ABk HFM HBM HFS HBS
                go_wp2_with fail
                refine (rputR R15.out _ (of_decide_eq_true rfl)).mono ?_
                rintro e w16 ⟨rfl, hr, ho⟩
                have R16 := Lib.hid hr
                have Q16 := Lib.hid (Q15.out.step ho)
                have AB16 := Lib.hid ((ho.block ab (heap_lt AB15.out) HAB.out).trans AB15.out)
                clear hr ho
                have HRE : Hid (RWr g (SK (k + 1)) (RK (k + 1)) w16) := by
                  show RWr _ _ _ _
                  rw [HF.out, HBK.out, ← refR _ _ HAPP.out, ← badR_chain _ _ HAPP.out]
                  exact R16.out
                clear R15 R16 Q15 AB15 AB16 HF HBK HAPP
                go_wp2_with fail
                go_roundw
                case rel => exact ⟨k + 1, by omega, by go_num, HRE, Q16⟩
                case measure => simp [intOf]; omega
            · have t7 : (r.app != -1) = true := bne_iff_ne.2 happ
              have HAPP := Lib.hid happ
              clear happ
              go_wp2_with fail
              refine (rnumR R12.out _ _ _ HAp.out (of_decide_eq_true rfl) (of_decide_eq_true rfl)).mono ?_
              rintro e w13 ⟨rfl, hr, ho⟩
              have R13 := Lib.hid hr
              have Q13 := Lib.hid (Q12.out.step ho)
              have AB13 := Lib.hid ((ho.block ab (heap_lt AB12.out) HAB.out).trans AB12.out)
              clear hr ho
              clear q3 R12 Q12 AB12
              have q5 := cell_row (j := 5) AB13.out rfl
              go_wp2_with fail
              refine (rnumR R13.out _ _ _ HHo.out (of_decide_eq_true rfl) (of_decide_eq_true rfl)).mono ?_
              rintro e w14 ⟨rfl, hr, ho⟩
              have R14 := Lib.hid hr
              have Q14 := Lib.hid (Q13.out.step ho)
              have AB14 := Lib.hid ((ho.block ab (heap_lt AB13.out) HAB.out).trans AB13.out)
              clear hr ho
              clear q5 R13 Q13 AB13
              obtain ⟨FK, BK, hF0, hB0, hFS, hBS, hFM, hBM⟩ := loopI (RK k ++ (sRo ++ dI r.sig ++ sTr) ++ r.tr.flatMap (fun x => 32 :: dI x) ++ sPs ++ r.pts.flatMap (fun x => 32 :: ptW x) ++ (sAp ++ dI r.app ++ []) ++ (sHo ++ dI (r.hold : Int) ++ sCo)) (SK k || offR r.sig || r.tr.any offR || r.pts.any offP || offR r.app || offR (r.hold : Int)) r.con
              have HF0 := Lib.hid hF0; have HB0 := Lib.hid hB0; have HFS := Lib.hid hFS; have HBS := Lib.hid hBS; have HFM := Lib.hid hFM; have HBM := Lib.hid hBM
              clear hF0 hB0 hFS hBS hFM hBM
              have RR : Hid (RWr g (BK 0) (FK 0) w14) := by show RWr _ _ _ _; rw [HF0.out, HB0.out]; exact R14.out
              clear R14 HF0 HB0
              go_wp2_with fail
              go_loopw [10] (fun i wr => ∃ k : Nat, k ≤ r.con.length ∧ i = .int .i64 (k : Int) ∧ Hid (RWr g (BK k) (FK k) wr) ∧ Hid (QC g w1 wr) ∧ Hid (wr.heap[ab]? = some (.cells #[.int .i64 r.sig, .slice ta r.tr.length tc, .slice pa r.pts.length pc, .int .i64 r.app, .slice ca r.con.length cc, .int .u16 (r.hold : Int)] 30 (0, 0)))) (fun i _ => r.con.length - (intOf i).toNat)
              case atStart => exact ⟨0, Nat.zero_le _, rfl, RR, Q14, AB14⟩
              case round =>
                clear RR Q14 AB14
                obtain ⟨k, hk, rfl, HRk, HQk, ABk⟩ := hrel
                have qj := cell_row (j := 4) ABk.out rfl
                rcases Nat.lt_or_ge k r.con.length with hk2 | hk2
                case inl =>
                  have t2 : decide ((k : Int) < (r.con.length : Int)) = true := decide_eq_true (by omega)
                  have HVr := HCo.out.below HQk.out.bel
                  obtain ⟨ba, off, rfl, hlt, x0⟩ := HVr.cell hk2
                  have HOY := Lib.hid (HCo.out.ok k hk2)
                  have HF := Lib.hid (HFS.out k hk2); have HBK := Lib.hid (HBS.out k hk2)
                  clear HVr HFS HBS HFM HBM
                  generalize r.con.getD k 0 = y at *
                  go_wp2_with fail
                  refine (rnumR HRk.out _ _ y HOY.out (of_decide_eq_true rfl) (of_decide_eq_true rfl)).mono ?_
                  rintro e w20 ⟨rfl, hr, ho⟩
                  have R20 := Lib.hid hr
                  have Q20 := Lib.hid (HQk.out.step ho)
                  have AB20 := Lib.hid ((ho.block ab (heap_lt ABk.out) HAB.out).trans ABk.out)
                  clear hr ho
                  have HRE : Hid (RWr g (BK (k + 1)) (FK (k + 1)) w20) := by
                    show RWr _ _ _ _
                    rw [HF.out, HBK.out]
                    have := R20.out
                    rw [List.append_nil] at this
                    exact this
                  clear HRk HQk ABk R20 HF HBK qj
                  go_wp2_with fail
                  go_roundw
                  case rel => exact ⟨k + 1, by omega, by go_num, HRE, Q20, AB20⟩
                  case measure => simp [intOf]; omega
                obtain rfl : k = r.con.length := by omega
                have t2 : decide ((r.con.length : Int) < (r.con.length : Int)) = false := by simp
                have R15 := Lib.hid (show RWr g _ _ wr by have := HRk.out; rw [HFM.out, HBM.out] at this; exact this)
                have Q15 := HQk; have AB15 := ABk
                clear HRk HQk ABk HFM HBM HFS HBS
                go_wp2_with fail
                refine (rputR R15.out _ (of_decide_eq_true rfl)).mono ?_
                rintro e w16 ⟨rfl, hr, ho⟩
                have R16 := Lib.hid hr
                have Q16 := Lib.hid (Q15.out.step ho)
                have AB16 := Lib.hid ((ho.block ab (heap_lt AB15.out) HAB.out).trans AB15.out)
                clear hr ho
                have HRE : Hid (RWr g (SK (k + 1)) (RK (k + 1)) w16) := by
                  show RWr _ _ _ _
                  rw [HF.out, HBK.out, ← refR' _ _ HAPP.out, ← badR_chain' _ _ HAPP.out]
                  exact R16.out
                clear R15 R16 Q15 AB15 AB16 HF HBK HAPP
                go_wp2_with fail
                go_roundw
                case rel => exact ⟨k + 1, by omega, by go_num, HRE, Q16⟩
                case measure => simp [intOf]; omega
      obtain rfl : k = T.rts.length := by omega
      have t2 : decide ((T.rts.length : Int) < (T.rts.length : Int)) = false := by simp
      have BO : Hid (Below w.heap.size w wr) := B1.out.trans (HQ.out.bel.mono B1.out.size)
      obtain ⟨S, hS, hl, hC⟩ := HR.out
      rw [HSM.out, HRM.out] at hC
      rw [HSM.out] at hS
      have hbt : (false || offR T.tracks || offR T.sigs || T.pts.any offR || T.rts.any badR) = badT T := by unfold badT; simp only [Bool.or_assoc, Bool.false_or]
      rw [hbt] at hC hS
      have d0 : wr.cell? ⟨g, 0, none⟩ = some (.string ⟨S.toArray⟩) := cell_row hS rfl
      have d1 := cell_row (j := 1) hS rfl
      have hsz : (⟨S.toArray⟩ : ByteArray).size = S.length := by show S.toArray.size = _; simp
      cases hg : goodT T with
      | false =>
        have hbd : badT T = true := by rw [HEND.out, hg]; rfl
        have HPR : Hid (printT T = ([], 2)) := by show _ = _; unfold printT; rw [if_pos hg]
        rw [hbd] at d1
        clear hC hS hl hg hbd hbt HR HRM HSM HRS HSS HEND hsz d0
        go_wp2_with fail
        go_ret2
        exact ⟨by rw [HPR.out]; rfl, BO.out⟩
      | true =>
        have hbd : badT T = false := by rw [HEND.out, hg]; rfl
        have hcp := hC hbd
        rw [← textT_eq] at hcp
        obtain ⟨k1, k2⟩ := hcp.full
        have hP1 : (if 8000 < (textT T).length then ([], 3) else (textT T, 0)) = printT T := by unfold printT; rw [if_neg (show ¬ goodT T = false by rw [hg]; decide)]
        rw [hbd] at d1
        by_cases h8 : 8000 < S.length
        · have HPR : Hid (printT T = ([], 3)) := by show _ = _; rw [← hP1, if_pos (k1.1 h8)]
          clear hC hS hg hbd hbt HR HRM HSM HRS HSS HEND hP1 k1 k2 hcp
          generalize (⟨S.toArray⟩ : ByteArray) = SS at *
          have t8 : decide ((8000 : Int) < (SS.size : Int)) = true := decide_eq_true (by omega)
          clear hsz h8
          go_wp2_with fail
          go_ret2
          exact ⟨by rw [HPR.out]; rfl, BO.out⟩
        · have HPR : Hid (printT T = (S, 0)) := by show _ = _; rw [← hP1, if_neg (fun h => h8 (k1.2 h)), k2 (by have := fun h => h8 (k1.2 h); omega)]
          clear hC hS hg hbd hbt HR HRM HSM HRS HSS HEND hP1 k1 k2 hcp
          have HFIN : Hid (PrintP T w (.returned (.tuple #[.string ⟨S.toArray⟩, .int .i64 0])) wr) := ⟨by rw [HPR.out]; rfl, BO.out⟩
          generalize (⟨S.toArray⟩ : ByteArray) = SS at *
          have t8 : decide ((8000 : Int) < (SS.size : Int)) = false := decide_eq_false (by omega)
          clear hsz h8
          go_wp2_with fail
          go_ret2
          exact HFIN.out
end Go.Proofs.YtpodedhnlicckaaGreatDoor
