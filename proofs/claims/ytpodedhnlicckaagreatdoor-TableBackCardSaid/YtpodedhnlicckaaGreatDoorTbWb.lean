/- TableBack. -/
import Derived.Test.YtpodedhnlicckaaGreatDoorTbLd
import Derived.Test.YtpodedhnlicckaaGreatDoorTbBp
namespace Go.Proofs.YtpodedhnlicckaaGreatDoor
open Go.RowKit
set_option linter.unusedVariables false
set_option linter.unusedSimpArgs false
theorem great_small {T : Tab} (h : greatB T = false) : grS T T.rts.length ≤ 8000 := by
  unfold greatB at h
  rw [Bool.or_eq_false_iff] at h
  have := of_decide_eq_false h.1
  omega
theorem tab_hold {w : World} {v : Value} {T : Tab} (h : TabAt w v T) : ∀ r ∈ T.rts, r.hold ≤ 65535 := by
  intro r hr
  obtain ⟨⟨vp, vr, _, _, hR⟩, _, _⟩ := h
  obtain ⟨a, c, C, _, _, _, _, hh⟩ := hR.at_
  obtain ⟨i, hi, rfl⟩ := List.mem_iff_getElem.1 hr
  have := (hh i hi).holdOk
  rw [List.getD_eq_getElem?_getD, List.getElem?_eq_getElem hi] at this
  exact Nat.le_of_lt_succ this
theorem bytes_self (s : ByteArray) : (⟨s.data.toList.toArray⟩ : ByteArray) = s := by
  cases s; simp
set_option maxRecDepth 100000 in
set_option maxHeartbeats 8000000 in
theorem back_any (v : Value) (s : ByteArray) (T : Tab) (w : World) (hT : TabAt w v T) (hsm : TSm T) (hs : s.size ≤ maxLen) (hL : LibW w) :
    Calls Tryz.prog 6 #[v, .string s] w fun e w' => e = .returned (.bool true) ∧ Below w.heap.size w w' := by
  have HT := Lib.hid hT; have HL := Lib.hid hL; have HSM := Lib.hid hsm
  obtain ⟨⟨vp, vr, rfl, hP, hr⟩, _, _⟩ := hT
  obtain ⟨a, c, C0, rfl, _, _, _⟩ := hr.at_
  obtain ⟨⟨va, vc, rfl, _, _, _⟩, _⟩ := id hP
  clear hP hr hL hsm
  unfold maxLen at hs
  obtain ⟨n, hn⟩ : ∃ x, x = T.rts.length := ⟨_, rfl⟩
  obtain ⟨m, hm⟩ : ∃ x, x = T.pts.length := ⟨_, rfl⟩
  obtain ⟨trk, htrk⟩ : ∃ x, x = T.tracks := ⟨_, rfl⟩
  obtain ⟨sg, hsg⟩ : ∃ x, x = T.sigs := ⟨_, rfl⟩
  rw [← hn, ← hm, ← htrk, ← hsg] at HT
  rw [← hn, ← hm, ← htrk, ← hsg]
  clear hn hm htrk hsg
  obtain ⟨w1, hw1⟩ : ∃ x, x = w.alloc (.cells #[.int .i64 trk, .slice va m vc, .int .i64 sg, .slice a n c] 25) := ⟨_, rfl⟩
  have B1 : Hid (Below w.heap.size w w1) := by rw [hw1]; exact tb_alloc_below _ _
  have K1 : Hid (w1.heap[w.heap.size]? = some (.cells #[.int .i64 trk, .slice va m vc, .int .i64 sg, .slice a n c] 25 (0, 0))) := by rw [hw1]; exact heap_alloc_new _ _
  have HW1 := Lib.hid hw1
  clear hw1
  have HWK := Lib.hid (fun (W : World) (hW : Below w.heap.size w W) => works_any W (HL.out.below hW).tab (HL.out.below hW).max)
  go_enter Tryz.func6, Tryz.ntmps6
  go_upto_region 1 with fail
  rw [← HW1.out]
  clear HW1
  have HG := Lib.hid (great_any _ T w1 (HT.out.below B1.out) HSM.out)
  obtain ⟨tb, htb⟩ : ∃ x, x = w.heap.size := ⟨_, rfl⟩
  rw [← htb] at K1 ⊢
  clear htb
  have c0 := cell_row (j := 0) K1.out rfl
  have c1 := cell_row (j := 1) K1.out rfl
  have c2 := cell_row (j := 2) K1.out rfl
  have c3 := cell_row (j := 3) K1.out rfl
  have lc := heap_lt K1.out
  go_wp2_with fail
  (with_reducible refine HG.out.mono ?_)
  rintro e w2 ⟨rfl, hb2⟩
  have B2 := Lib.hid (B1.out.trans (hb2.mono B1.out.size))
  have K2 := Lib.hid (tb_kept K1.out hb2)
  clear hb2 K1 HG
  clear c0 c1 c2 c3 lc
  cases hgr : greatB T with
  | true =>
    have H := Lib.hid (HWK.out w2 B2.out)
    go_wp2_with fail
    (with_reducible refine H.out.mono ?_)
    rintro e w9 ⟨rfl, hb9⟩
    have B9 := Lib.hid (B2.out.trans (hb9.mono B2.out.size))
    go_wp2_with fail
    go_ret
    exact ⟨rfl, B9.out⟩
  | false =>
    by_cases hbig : 10000 < s.size
    · have t1 : decide ((10000 : Int) < (s.size : Int)) = true := decide_eq_true (by omega)
      have H := Lib.hid (HWK.out w2 B2.out)
      go_wp2_with fail
      (with_reducible refine H.out.mono ?_)
      rintro e w9 ⟨rfl, hb9⟩
      have B9 := Lib.hid (B2.out.trans (hb9.mono B2.out.size))
      go_wp2_with fail
      go_ret
      exact ⟨rfl, B9.out⟩
    have t1 : decide ((10000 : Int) < (s.size : Int)) = false := decide_eq_false (by omega)
    have HP := Lib.hid (print_any _ T w2 (HT.out.below B2.out) (HL.out.below B2.out).tab (great_small hgr))
    have hs2 : s.size ≤ 9223372036854775807 := by omega
    have HSZ := Lib.hid hs2
    clear hgr hbig
    have c0 := cell_row (j := 0) K2.out rfl
    have c1 := cell_row (j := 1) K2.out rfl
    have c2 := cell_row (j := 2) K2.out rfl
    have c3 := cell_row (j := 3) K2.out rfl
    have lc := heap_lt K2.out
    go_wp2_with fail
    (with_reducible refine HP.out.mono ?_)
    rintro e w3 ⟨rfl, hb3⟩
    have B3 := Lib.hid (B2.out.trans (hb3.mono B2.out.size))
    have K3 := Lib.hid (tb_kept K2.out hb3)
    clear hb3 K2 HP t1 hs hs2
    clear c0 c1 c2 c3 lc
    by_cases hc1 : (printT T).2 = 0
    · obtain ⟨q1, q2, q3⟩ := print_ok hc1
      have HPA : Hid (Calls Tryz.prog 10 #[.string ⟨(printT T).1.toArray⟩] w3 (ParseP (T, 0, 0) w3)) := by
        have h := parse_any ⟨(printT T).1.toArray⟩ w3 (by rw [q1]; show (textT T).toArray.size ≤ _; simp; omega) (HL.out.below B3.out).max
        rw [show parseT (⟨(printT T).1.toArray⟩ : ByteArray).data.toList = (T, 0, 0) by rw [q1]; show parseT (textT T).toArray.toList = _; rw [List.toList_toArray]; exact tback1 q2 (tab_hold HT.out) q3] at h
        exact h
      rw [hc1]
      generalize (printT T).1 = l1 at *
      clear q1 q2 q3 hc1
      go_wp2_with fail
      refine HPA.out.mono ?_
      rintro e w4 ⟨⟨u, rfl, hu⟩, hb4⟩
      have B4 := Lib.hid (B3.out.trans (hb4.mono B3.out.size))
      have K4 := Lib.hid (tb_kept K3.out hb4)
      clear hb4 HPA K3
      simp only at hu ⊢
      have HU0 := Lib.hid hu
      obtain ⟨⟨up, ur, rfl, hup, hur⟩, htr, hsg⟩ := hu
      obtain ⟨pa, pc, rfl, _, _, _⟩ := hup.at_
      obtain ⟨ra, rc, _, rfl, _, _, _⟩ := hur.at_
      clear hup hur htr hsg
      obtain ⟨ul, hul⟩ : ∃ x, x = T.pts.length := ⟨_, rfl⟩
      obtain ⟨ur, hur⟩ : ∃ x, x = T.rts.length := ⟨_, rfl⟩
      obtain ⟨ut, hut⟩ : ∃ x, x = T.tracks := ⟨_, rfl⟩
      obtain ⟨us, hus⟩ : ∃ x, x = T.sigs := ⟨_, rfl⟩
      rw [← hul, ← hur, ← hut, ← hus] at HU0
      rw [← hul, ← hur, ← hut, ← hus]
      clear hul hur hut hus
      obtain ⟨w5, hw5⟩ : ∃ x, x = w4.alloc (.cells #[.int .i64 ut, .slice pa ul pc, .int .i64 us, .slice ra ur rc] 25) := ⟨_, rfl⟩
      have BX : Hid (Below w4.heap.size w4 w5) := by rw [hw5]; exact tb_alloc_below _ _
      have KX : Hid (w5.heap[w4.heap.size]? = some (.cells #[.int .i64 ut, .slice pa ul pc, .int .i64 us, .slice ra ur rc] 25 (0, 0))) := by rw [hw5]; exact heap_alloc_new _ _
      have B5 := Lib.hid (B4.out.trans (BX.out.mono B4.out.size))
      have K5 := Lib.hid (tb_kept K4.out BX.out)
      have HSA := Lib.hid (Same_any _ _ T w5 (HT.out.below B5.out) (HU0.out.below BX.out))
      have HW5 := Lib.hid hw5
      clear hw5 HU0
      go_upto_region 6 with fail
      rw [← HW5.out]
      clear HW5
      obtain ⟨ub, hub⟩ : ∃ x, x = w4.heap.size := ⟨_, rfl⟩
      rw [← hub] at KX ⊢
      clear hub BX K4 B4
      have c0 := cell_row (j := 0) K5.out rfl
      have c1 := cell_row (j := 1) K5.out rfl
      have c2 := cell_row (j := 2) K5.out rfl
      have c3 := cell_row (j := 3) K5.out rfl
      have lc := heap_lt K5.out
      have d0 := cell_row (j := 0) KX.out rfl
      have d1 := cell_row (j := 1) KX.out rfl
      have d2 := cell_row (j := 2) KX.out rfl
      have d3 := cell_row (j := 3) KX.out rfl
      have ld := heap_lt KX.out
      go_wp2_with fail
      (with_reducible refine HSA.out.mono ?_)
      rintro e w6 ⟨rfl, hb6⟩
      have B6 := Lib.hid (B5.out.trans (hb6.mono B5.out.size))
      clear hb6 KX K5 HSA
      clear c0 c1 c2 c3 lc
      clear d0 d1 d2 d3 ld
      have HQ := Lib.hid (parse_any s w6 HSZ.out (HL.out.below B6.out).max)
      go_wp2_with fail
      refine HQ.out.mono ?_
      rintro e x1 ⟨⟨u, rfl, hu⟩, hbx1⟩
      have X1 := Lib.hid (B6.out.trans (hbx1.mono B6.out.size))
      clear hbx1 HQ
      have HPB := Lib.hid (@parseT_bad s.data.toList)
      have HPK := Lib.hid (fun T k h => @tback2 s.data.toList T k h)
      generalize hR : parseT s.data.toList = R at *
      obtain ⟨U, ku, cu⟩ := R
      clear hR
      simp only at hu HPB ⊢
      have HU0 := Lib.hid hu
      obtain ⟨⟨up, ur, rfl, hup, hur⟩, htr, hsg⟩ := hu
      obtain ⟨pa, pc, rfl, _, _, _⟩ := hup.at_
      obtain ⟨ra, rc, _, rfl, _, _, _⟩ := hur.at_
      clear hup hur htr hsg
      obtain ⟨ul, hul⟩ : ∃ x, x = U.pts.length := ⟨_, rfl⟩
      obtain ⟨ur, hur⟩ : ∃ x, x = U.rts.length := ⟨_, rfl⟩
      obtain ⟨ut, hut⟩ : ∃ x, x = U.tracks := ⟨_, rfl⟩
      obtain ⟨us, hus⟩ : ∃ x, x = U.sigs := ⟨_, rfl⟩
      rw [← hul, ← hur, ← hut, ← hus] at HU0
      rw [← hul, ← hur, ← hut, ← hus]
      clear hul hur hut hus
      obtain ⟨x2, hx2⟩ : ∃ x, x = x1.alloc (.cells #[.int .i64 ut, .slice pa ul pc, .int .i64 us, .slice ra ur rc] 25) := ⟨_, rfl⟩
      have BX2 : Hid (Below x1.heap.size x1 x2) := by rw [hx2]; exact tb_alloc_below _ _
      have KX2 : Hid (x2.heap[x1.heap.size]? = some (.cells #[.int .i64 ut, .slice pa ul pc, .int .i64 us, .slice ra ur rc] 25 (0, 0))) := by rw [hx2]; exact heap_alloc_new _ _
      have X2 := Lib.hid (X1.out.trans (BX2.out.mono X1.out.size))
      have HU2 := Lib.hid (HU0.out.below BX2.out)
      have HX2 := Lib.hid hx2
      clear hx2 HU0
      go_upto_region 9 with fail
      rw [← HX2.out]
      clear HX2
      obtain ⟨ub, hub⟩ : ∃ x, x = x1.heap.size := ⟨_, rfl⟩
      rw [← hub] at KX2 ⊢
      clear hub BX2 X1
      have d0 := cell_row (j := 0) KX2.out rfl
      have d1 := cell_row (j := 1) KX2.out rfl
      have d2 := cell_row (j := 2) KX2.out rfl
      have d3 := cell_row (j := 3) KX2.out rfl
      have ld := heap_lt KX2.out
      by_cases hc : cu = 0
      · subst hc
        obtain ⟨rfl, p1, p2, p3, p4⟩ := HPK.out _ _ rfl
        have hgs : grS U U.rts.length ≤ 8000 := by
          have := grS_text U
          rw [p1] at this; omega
        have HPP := Lib.hid (print_any _ U x2 HU2.out (HL.out.below X2.out).tab hgs)
        have HPG : printT U = (s.data.toList, 0) := by rw [print_good p2 (by rw [p1]; exact p3), p1]
        have HPP2 : Hid (Calls Tryz.prog 20 #[.agg #[.int .i64 ut, .slice pa ul pc, .int .i64 us, .slice ra ur rc]] x2 fun e w' => e = .returned (.tuple #[.string s, .int .i64 0]) ∧ Below x2.heap.size x2 w') := HPP.out.mono fun e w' h => by
          obtain ⟨h1, h2⟩ := h
          rw [HPG] at h1
          exact ⟨by rw [h1]; show Ending.returned (.tuple #[.string ⟨s.data.toList.toArray⟩, _]) = _; rw [bytes_self]; rfl, h2⟩
        clear HPP HPG p1 p2 p3 p4 hgs HPK HPB
        go_wp2_with fail
        (with_reducible refine HPP2.out.mono ?_)
        rintro e x3 ⟨rfl, hx3⟩
        have X3 := Lib.hid (X2.out.trans (hx3.mono X2.out.size))
        clear hx3 HPP2 KX2 HU2
        clear d0 d1 d2 d3 ld
        have H := Lib.hid (HWK.out x3 X3.out)
        go_wp2_with fail
        (with_reducible refine H.out.mono ?_)
        rintro e w9 ⟨rfl, hb9⟩
        have B9 := Lib.hid (X3.out.trans (hb9.mono X3.out.size))
        go_wp2_with fail
        go_ret
        exact ⟨rfl, B9.out⟩
      · have t2 : ((cu : Int) == 0) = false := beq_eq_false_iff_ne.2 (by omega)
        have t3 : decide ((0 : Int) ≤ (ku : Int)) = true := decide_eq_true (by omega)
        have t4 : ((cu : Int) != 0) = true := by rw [bne, t2]; rfl
        have hu0 : U = tab0 := HPB.out hc
        have HSA := Lib.hid (Same_any _ (.agg #[.int .i64 0, .slice none 0 0, .int .i64 0, .slice none 0 0]) U x2 HU2.out (by rw [hu0]; exact tab0_at x2))
        clear hc hu0 HPK HPB
        go_wp2_with fail
        (with_reducible refine HSA.out.mono ?_)
        rintro e x3 ⟨rfl, hx3⟩
        have X3 := Lib.hid (X2.out.trans (hx3.mono X2.out.size))
        clear hx3 HSA KX2 HU2
        clear d0 d1 d2 d3 ld
        have H := Lib.hid (HWK.out x3 X3.out)
        go_wp2_with fail
        (with_reducible refine H.out.mono ?_)
        rintro e w9 ⟨rfl, hb9⟩
        have B9 := Lib.hid (X3.out.trans (hb9.mono X3.out.size))
        go_wp2_with fail
        go_ret
        exact ⟨rfl, B9.out⟩
    · have t5 : (((printT T).2 : Int) == 0) = false := beq_eq_false_iff_ne.2 (by omega)
      generalize (printT T).1 = l1 at *
      generalize (printT T).2 = l2 at *
      clear hc1 K3
      have HQ := Lib.hid (parse_any s w3 HSZ.out (HL.out.below B3.out).max)
      go_wp2_with fail
      refine HQ.out.mono ?_
      rintro e x1 ⟨⟨u, rfl, hu⟩, hbx1⟩
      have X1 := Lib.hid (B3.out.trans (hbx1.mono B3.out.size))
      clear hbx1 HQ
      have HPB := Lib.hid (@parseT_bad s.data.toList)
      have HPK := Lib.hid (fun T k h => @tback2 s.data.toList T k h)
      generalize hR : parseT s.data.toList = R at *
      obtain ⟨U, ku, cu⟩ := R
      clear hR
      simp only at hu HPB ⊢
      have HU0 := Lib.hid hu
      obtain ⟨⟨up, ur, rfl, hup, hur⟩, htr, hsg⟩ := hu
      obtain ⟨pa, pc, rfl, _, _, _⟩ := hup.at_
      obtain ⟨ra, rc, _, rfl, _, _, _⟩ := hur.at_
      clear hup hur htr hsg
      obtain ⟨ul, hul⟩ : ∃ x, x = U.pts.length := ⟨_, rfl⟩
      obtain ⟨ur, hur⟩ : ∃ x, x = U.rts.length := ⟨_, rfl⟩
      obtain ⟨ut, hut⟩ : ∃ x, x = U.tracks := ⟨_, rfl⟩
      obtain ⟨us, hus⟩ : ∃ x, x = U.sigs := ⟨_, rfl⟩
      rw [← hul, ← hur, ← hut, ← hus] at HU0
      rw [← hul, ← hur, ← hut, ← hus]
      clear hul hur hut hus
      obtain ⟨x2, hx2⟩ : ∃ x, x = x1.alloc (.cells #[.int .i64 ut, .slice pa ul pc, .int .i64 us, .slice ra ur rc] 25) := ⟨_, rfl⟩
      have BX2 : Hid (Below x1.heap.size x1 x2) := by rw [hx2]; exact tb_alloc_below _ _
      have KX2 : Hid (x2.heap[x1.heap.size]? = some (.cells #[.int .i64 ut, .slice pa ul pc, .int .i64 us, .slice ra ur rc] 25 (0, 0))) := by rw [hx2]; exact heap_alloc_new _ _
      have X2 := Lib.hid (X1.out.trans (BX2.out.mono X1.out.size))
      have HU2 := Lib.hid (HU0.out.below BX2.out)
      have HX2 := Lib.hid hx2
      clear hx2 HU0
      go_upto_region 9 with fail
      rw [← HX2.out]
      clear HX2
      obtain ⟨ub, hub⟩ : ∃ x, x = x1.heap.size := ⟨_, rfl⟩
      rw [← hub] at KX2 ⊢
      clear hub BX2 X1
      have d0 := cell_row (j := 0) KX2.out rfl
      have d1 := cell_row (j := 1) KX2.out rfl
      have d2 := cell_row (j := 2) KX2.out rfl
      have d3 := cell_row (j := 3) KX2.out rfl
      have ld := heap_lt KX2.out
      by_cases hc : cu = 0
      · subst hc
        obtain ⟨rfl, p1, p2, p3, p4⟩ := HPK.out _ _ rfl
        have hgs : grS U U.rts.length ≤ 8000 := by
          have := grS_text U
          rw [p1] at this; omega
        have HPP := Lib.hid (print_any _ U x2 HU2.out (HL.out.below X2.out).tab hgs)
        have HPG : printT U = (s.data.toList, 0) := by rw [print_good p2 (by rw [p1]; exact p3), p1]
        have HPP2 : Hid (Calls Tryz.prog 20 #[.agg #[.int .i64 ut, .slice pa ul pc, .int .i64 us, .slice ra ur rc]] x2 fun e w' => e = .returned (.tuple #[.string s, .int .i64 0]) ∧ Below x2.heap.size x2 w') := HPP.out.mono fun e w' h => by
          obtain ⟨h1, h2⟩ := h
          rw [HPG] at h1
          exact ⟨by rw [h1]; show Ending.returned (.tuple #[.string ⟨s.data.toList.toArray⟩, _]) = _; rw [bytes_self]; rfl, h2⟩
        clear HPP HPG p1 p2 p3 p4 hgs HPK HPB
        go_wp2_with fail
        (with_reducible refine HPP2.out.mono ?_)
        rintro e x3 ⟨rfl, hx3⟩
        have X3 := Lib.hid (X2.out.trans (hx3.mono X2.out.size))
        clear hx3 HPP2 KX2 HU2
        clear d0 d1 d2 d3 ld
        have H := Lib.hid (HWK.out x3 X3.out)
        go_wp2_with fail
        (with_reducible refine H.out.mono ?_)
        rintro e w9 ⟨rfl, hb9⟩
        have B9 := Lib.hid (X3.out.trans (hb9.mono X3.out.size))
        go_wp2_with fail
        go_ret
        exact ⟨rfl, B9.out⟩
      · have t2 : ((cu : Int) == 0) = false := beq_eq_false_iff_ne.2 (by omega)
        have t3 : decide ((0 : Int) ≤ (ku : Int)) = true := decide_eq_true (by omega)
        have t4 : ((cu : Int) != 0) = true := by rw [bne, t2]; rfl
        have hu0 : U = tab0 := HPB.out hc
        have HSA := Lib.hid (Same_any _ (.agg #[.int .i64 0, .slice none 0 0, .int .i64 0, .slice none 0 0]) U x2 HU2.out (by rw [hu0]; exact tab0_at x2))
        clear hc hu0 HPK HPB
        go_wp2_with fail
        (with_reducible refine HSA.out.mono ?_)
        rintro e x3 ⟨rfl, hx3⟩
        have X3 := Lib.hid (X2.out.trans (hx3.mono X2.out.size))
        clear hx3 HSA KX2 HU2
        clear d0 d1 d2 d3 ld
        have H := Lib.hid (HWK.out x3 X3.out)
        go_wp2_with fail
        (with_reducible refine H.out.mono ?_)
        rintro e w9 ⟨rfl, hb9⟩
        have B9 := Lib.hid (X3.out.trans (hb9.mono X3.out.size))
        go_wp2_with fail
        go_ret
        exact ⟨rfl, B9.out⟩
set_option maxRecDepth 100000 in
theorem back_walk (v0 : Value) (a1 : ByteArray) (w : World) (h0 : ReadsW w 25 v0.cells.toList ∧ Value.okWide Tryz.prog w .any 0 25 v0) (h1 : a1.size ≤ maxLen) (hL : LibW w) :
    Calls Tryz.prog 6 #[v0, .string a1] w fun e w' => e = .returned (.bool true) ∧ Below w.heap.size w w' := by
  obtain ⟨T, hT⟩ := reads_tab ⟨h0.1.c, h0.2⟩
  exact back_any v0 a1 T w hT (tab_sm h0.1 hT) h1 hL
end Go.Proofs.YtpodedhnlicckaaGreatDoor
