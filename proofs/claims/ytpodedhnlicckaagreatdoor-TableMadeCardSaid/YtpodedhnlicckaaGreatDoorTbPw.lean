/- Print: the walk. -/
import Derived.Test.YtpodedhnlicckaaGreatDoorTbPt
namespace Go.Proofs.YtpodedhnlicckaaGreatDoor
open Go.Shelf Go.RowKit
set_option linter.unusedVariables false
set_option linter.unusedSimpArgs false
def PrintP (T : Tab) (w : World) (e : Ending) (w' : World) : Prop := e = .returned (.tuple #[.string ⟨(printT T).1.toArray⟩, .int .i64 ((printT T).2 : Int)]) ∧ Below w.heap.size w w'
theorem TabW.same {w w' : World} (h : TabW w) (hb : Below w.heap.size w w') : TabW w' := h.below hb
theorem foldl_take {α β : Type} {l : List α} {k : Nat} {d : α} (f : β → α → β) (a : β) (h : k < l.length) : (l.take (k + 1)).foldl f a = f ((l.take k).foldl f a) (l.getD k d) := by
  rw [take_snocG (d := d) h, List.foldl_append]; rfl
theorem rtI_chain (G : List UInt8) (r : Rt) (h : r.app = -1) : putW (putW (putW (putW (putW G [wRo, Lib.itoa r.sig]) (wTr :: r.tr.map Lib.itoa)) (wPs :: r.pts.map itoaP)) [wHo, Lib.itoa (r.hold : Int)]) (wCo :: r.con.map Lib.itoa) ++ [10] = rtI G r := by
  unfold rtI
  simp only [putW_app]
  unfold rtWi appI
  rw [if_pos h]
  simp
theorem rtI_chain' (G : List UInt8) (r : Rt) (h : ¬ r.app = -1) : putW (putW (putW (putW (putW (putW G [wRo, Lib.itoa r.sig]) (wTr :: r.tr.map Lib.itoa)) (wPs :: r.pts.map itoaP)) [wAp, Lib.itoa r.app]) [wHo, Lib.itoa (r.hold : Int)]) (wCo :: r.con.map Lib.itoa) ++ [10] = rtI G r := by
  unfold rtI
  simp only [putW_app]
  unfold rtWi appI
  rw [if_neg h]
  simp
theorem badR_chain (x : Bool) (r : Rt) (h : r.app = -1) : (((((x || offR r.sig) || r.tr.any offR) || r.pts.any offP) || offR (r.hold : Int)) || r.con.any offR) = (x || badR r) := by
  unfold badR
  rw [decide_eq_true h]
  simp [Bool.or_assoc]
theorem badR_chain' (x : Bool) (r : Rt) (h : ¬ r.app = -1) : ((((((x || offR r.sig) || r.tr.any offR) || r.pts.any offP) || offR r.app) || offR (r.hold : Int)) || r.con.any offR) = (x || badR r) := by
  unfold badR
  rw [decide_eq_false h]
  simp [Bool.or_assoc]
structure RtC (w : World) (ab : Nat) (r : Rt) (ta pa ca : Option Addr) (tc pc cc : Nat) : Prop where
  blk : w.heap[ab]? = some (.cells #[.int .i64 r.sig, .slice ta r.tr.length tc, .slice pa r.pts.length pc, .int .i64 r.app, .slice ca r.con.length cc, .int .u16 (r.hold : Int)] 30 (0, 0))
set_option maxHeartbeats 16000000 in
set_option maxRecDepth 100000 in
theorem print_any (v : Value) (T : Tab) (w : World) (hT : TabAt w v T) (hTab : TabW w) (hs : grS T T.rts.length ≤ 8000) : Calls Tryz.prog 20 #[v] w (PrintP T w) := by
  have hLG := long_no v T
  obtain ⟨⟨vp, vr, rfl, hP, hr⟩, htr, hsg⟩ := id hT
  have HT := Lib.hid hT
  obtain ⟨a, c, C0, rfl, hlc, hcm, _⟩ := hr.at_
  obtain ⟨⟨va, vc, rfl, hvl, hvm, _⟩, hPo⟩ := id hP
  have HR0 := Lib.hid hr; have HPT := Lib.hid hP; have HOP := Lib.hid hPo
  have HTR := Lib.hid htr; have HSG := Lib.hid hsg
  obtain ⟨w1, hw1⟩ : ∃ w1, w1 = w.alloc (.cells #[.int .i64 T.tracks, .slice va T.pts.length vc, .int .i64 T.sigs, .slice a T.rts.length c] 25) := ⟨_, rfl⟩
  have B1 : Hid (Below w.heap.size w w1) := by rw [hw1]; exact tb_alloc_below _ _
  have K1 : Hid (w1.heap[w.heap.size]? = some (.cells #[.int .i64 T.tracks, .slice va T.pts.length vc, .int .i64 T.sigs, .slice a T.rts.length c] 25 (0, 0))) := by rw [hw1]; exact heap_alloc_new _ _
  obtain ⟨w2, hw2⟩ : ∃ w2, w2 = w1.alloc (.cells #[.pointer none, .slice none 0 0, .bool false] 71) := ⟨_, rfl⟩
  obtain ⟨b, hbb⟩ : ∃ b, b = w1.heap.size := ⟨_, rfl⟩
  obtain ⟨B, hBB⟩ : ∃ B, B = w1.heap.size := ⟨_, rfl⟩
  have P2 : Hid (PC B w1 w2) := by
    rw [hw2, hBB]
    exact ⟨hTab.same B1.out, Nat.le_refl _, tb_alloc_below _ _, (tb_alloc_below _ _).size⟩
  have R2 : Hid (WrR B b false [] 0 w2) := by
    rw [hw2, hBB, hbb]
    exact ⟨[], ⟨Nat.le_refl _, _, _, .inl rfl, heap_alloc_new _ _, ⟨rfl, .inl ⟨rfl, rfl⟩⟩, by simp [Value.ownBlock]⟩, Nat.le_refl _, fun _ => rfl⟩
  have HBW : Hid (w.heap.size ≤ B) := by rw [hBB]; exact B1.out.size
  have HW1 := Lib.hid hw1; have HW2 := Lib.hid hw2; have HBB := Lib.hid hbb
  have HLO : Hid (∀ W, PC B w1 W → Calls Tryz.prog 45 #[.agg #[.int .i64 T.tracks, .slice va T.pts.length vc, .int .i64 T.sigs, .slice a T.rts.length c]] W fun e w' => e = .returned (.bool false) ∧ Below W.heap.size W w') := fun W hW => hLG W ((HT.out.below B1.out).below hW.old) hs
  clear hw1 hP hr hlc hcm hvl hvm hw2 hbb hBB hTab hPo hsg htr hLG hT
  obtain ⟨s, hsd⟩ : ∃ s : Nat → Nat, s = grS T := ⟨_, rfl⟩
  rw [← hsd] at hs
  have H0 : s 0 = T.pts.length + T.rts.length := by rw [hsd]; rfl
  have HM : Hid (∀ i j, i ≤ j → s i ≤ s j) := fun i j h => by rw [hsd]; exact grS_mono T h
  have HN : Hid (∀ k, s (k + 1) = s k + (T.rts.getD k rt0).tr.length + (T.rts.getD k rt0).pts.length + (T.rts.getD k rt0).con.length) := fun k => by rw [hsd]; rfl
  clear hsd
  have h0m := HM.out 0 T.rts.length (Nat.zero_le _)
  obtain ⟨FK, hFK⟩ : ∃ FK : Nat → List UInt8, FK = fun k => (T.pts.take k).foldl ptI (headI T) := ⟨_, rfl⟩
  obtain ⟨BK, hBK⟩ : ∃ BK : Nat → Bool, BK = fun k => offR T.tracks || offR T.sigs || (T.pts.take k).any offR := ⟨_, rfl⟩
  have HF0 : Hid (FK 0 = headI T) := by show _ = _; rw [hFK]; rfl
  have HB0 : Hid (BK 0 = (offR T.tracks || offR T.sigs)) := by show _ = _; rw [hBK]; simp
  have HFS : Hid (∀ k, k < T.pts.length → FK (k + 1) = ptI (FK k) (T.pts.getD k 0)) := fun k hk => by rw [hFK]; exact foldl_take ptI _ hk
  have HBS : Hid (∀ k, k < T.pts.length → BK (k + 1) = (BK k || offR (T.pts.getD k 0))) := fun k hk => by rw [hBK]; show (_ || (T.pts.take (k + 1)).any offR) = (_ || (T.pts.take k).any offR || offR (T.pts.getD k 0)); rw [any_take (d := 0) offR hk, ← Bool.or_assoc]
  have HFM : Hid (FK T.pts.length = T.pts.foldl ptI (headI T)) := by show _ = _; rw [hFK]; show (T.pts.take T.pts.length).foldl _ _ = _; rw [List.take_length]
  have HBM : Hid (BK T.pts.length = (offR T.tracks || offR T.sigs || T.pts.any offR)) := by show _ = _; rw [hBK]; show (_ || (T.pts.take T.pts.length).any _) = _; rw [List.take_length]
  clear hFK hBK
  obtain ⟨FR, hFR⟩ : ∃ FR : Nat → List UInt8, FR = fun k => (T.rts.take k).foldl rtI (T.pts.foldl ptI (headI T)) := ⟨_, rfl⟩
  obtain ⟨BR, hBR⟩ : ∃ BR : Nat → Bool, BR = fun k => offR T.tracks || offR T.sigs || T.pts.any offR || (T.rts.take k).any badR := ⟨_, rfl⟩
  have HG0 : Hid (FR 0 = T.pts.foldl ptI (headI T)) := by show _ = _; rw [hFR]; rfl
  have HC0 : Hid (BR 0 = (offR T.tracks || offR T.sigs || T.pts.any offR)) := by show _ = _; rw [hBR]; simp
  have HGS : Hid (∀ k, k < T.rts.length → FR (k + 1) = rtI (FR k) (T.rts.getD k rt0)) := fun k hk => by rw [hFR]; exact foldl_take rtI _ hk
  have HCS : Hid (∀ k, k < T.rts.length → BR (k + 1) = (BR k || badR (T.rts.getD k rt0))) := fun k hk => by rw [hBR]; show (_ || (T.rts.take (k + 1)).any badR) = (_ || (T.rts.take k).any badR || badR (T.rts.getD k rt0)); rw [any_take (d := rt0) badR hk, ← Bool.or_assoc]
  have HGM : Hid (FR T.rts.length = allI T) := by show _ = _; rw [hFR]; show (T.rts.take T.rts.length).foldl _ _ = _; rw [List.take_length]; rfl
  have HCM : Hid (BR T.rts.length = badT T) := by show _ = _; rw [hBR]; show (_ || (T.rts.take T.rts.length).any _) = _; rw [List.take_length]; unfold badT; simp only [Bool.or_assoc]
  clear hFR hBR
  have HEND : Hid (badT T = !goodT T) := badT_good (fun r hr => by
    obtain ⟨i, hi, e⟩ := List.mem_iff_getElem.1 hr
    obtain ⟨_, _, C, _, _, _, h⟩ := HR0.out.cells hi
    have := h.holdOk
    rw [List.getD_eq_getElem?_getD, List.getElem?_eq_getElem hi] at this
    rw [← e]; exact this)
  have hm8 : T.rts.length ≤ 8000 := by omega
  have hp8 : T.pts.length ≤ 8000 := by omega
  have hps : 200 + 60 * T.pts.length ≤ 1000 + 60 * s 0 := by omega
  clear H0
  have c0 := cell_row (j := 0) (P2.out.blk K1.out) rfl
  go_enter Tryz.func20, Tryz.ntmps20
  go_upto_region 1 with fail
  rw [← HW1.out]
  go_upto_region 3 with fail
  rw [← HW2.out, ← HBB.out]
  clear HW1 HW2 HBB
  go_wp2_with fail
  refine (numP_any R2.out P2.out (by omega) _ (of_decide_eq_true rfl) _ HTR.out).mono ?_
  rintro e w3 ⟨rfl, hr, hb⟩
  have R3 := Lib.hid hr
  have P3 := Lib.hid (P2.out.step hb)
  clear hr hb
  go_wp2_with fail
  refine (endP_any R3.out P3.out (by omega)).mono ?_
  rintro e w4 ⟨rfl, hr, hb⟩
  have R4 := Lib.hid hr
  have P4 := Lib.hid (P3.out.step hb)
  clear hr hb
  clear c0 R2 R3
  have c2 := cell_row (j := 2) (P4.out.blk K1.out) rfl
  go_wp2_with fail
  refine (numP_any R4.out P4.out (by omega) _ (of_decide_eq_true rfl) _ HSG.out).mono ?_
  rintro e w5 ⟨rfl, hr, hb⟩
  have R5 := Lib.hid hr
  have P5 := Lib.hid (P4.out.step hb)
  clear hr hb
  go_wp2_with fail
  refine (endP_any R5.out P5.out (by omega)).mono ?_
  rintro e w6 ⟨rfl, hr, hb⟩
  have R6 := Lib.hid hr
  have P6 := Lib.hid (P5.out.step hb)
  clear hr hb
  have R6 : Hid (WrR B b (BK 0) (FK 0) (200 + 60 * 0) w6) := by
    show WrR _ _ _ _ _ _
    rw [HF0.out, HB0.out]
    exact R6.out.le (by omega)
  clear c2 R4 R5 HF0 HB0 P2 P3 P4 P5
  have c0 := cell_row (j := 0) (P6.out.blk K1.out) rfl
  have c1 := cell_row (j := 1) (P6.out.blk K1.out) rfl
  have c2 := cell_row (j := 2) (P6.out.blk K1.out) rfl
  have c3 := cell_row (j := 3) (P6.out.blk K1.out) rfl
  go_wp2_with fail
  refine (HLO.out _ P6.out).mono ?_
  rintro e w7 ⟨rfl, hb7⟩
  have P7 : Hid (PC B w1 w7) := P6.out.step (b := b) (Stp.of_below P6.out.sz hb7)
  have R7 := Lib.hid (R6.out.kept hb7)
  clear hb7 c0 c1 c2 c3 P6 R6 HLO
  have c1 := cell_row (j := 1) (P7.out.blk K1.out) rfl
  go_wp2_with fail
  clear c1
  go_loopw [31] (fun i wr => ∃ k : Nat, k ≤ T.pts.length ∧ i = .int .i64 (k : Int) ∧ Hid (WrR B b (BK k) (FK k) (200 + 60 * k) wr) ∧ Hid (PC B w1 wr)) (fun i _ => T.pts.length - (intOf i).toNat)
  case atStart => exact ⟨0, Nat.zero_le _, rfl, R7, P7⟩
  case round =>
    obtain ⟨k, hk, rfl, HR, HP⟩ := hrel
    rcases Nat.lt_or_ge k T.pts.length with hk2 | hk2
    case inl =>
      have t2 : decide ((k : Int) < (T.pts.length : Int)) = true := decide_eq_true (by omega)
      have HVr := HPT.out.below (B1.out.trans (HP.out.old.mono B1.out.size))
      obtain ⟨ba, off, rfl, hlt, x0⟩ := HVr.cell hk2
      have HOY := Lib.hid (HOP.out k hk2)
      have HF := Lib.hid (HFS.out k hk2); have HBK := Lib.hid (HBS.out k hk2)
      obtain ⟨c2, e2⟩ := HR.out.bad
      obtain ⟨y0, y1⟩ := HOY.out
      clear HVr HFS HBS HFM HBM R7 P7 HG0 HC0 HGS HCS HGM HCM
      generalize T.pts.getD k 0 = y at *
      generalize hBk : BK k = bd at *
      clear hBk
      cases bd with
      | true =>
        have HST := HR.out.setBad true (by first | (intro _; rfl) | (intro e; cases e))
        have HR9 := Lib.hid HST.1; have HP9 := Lib.hid (HP.out.step HST.2)
        clear HST
        go_upto_region 12 with fail
        generalize wr.setCell ⟨b, 2, none⟩ (.bool true) = w9 at *
        clear c2 e2 HR HP
        go_wp2_with fail
        refine (numP_any HR9.out HP9.out (by omega) _ (of_decide_eq_true rfl) y HOY.out).mono ?_
        rintro e w10 ⟨rfl, hr, hb⟩
        have HR10 := Lib.hid hr
        have HP10 := Lib.hid (HP9.out.step hb)
        clear hr hb
        go_wp2_with fail
        refine (endP_any HR10.out HP10.out (by omega)).mono ?_
        rintro e w11 ⟨rfl, hr, hb⟩
        have HR11 := Lib.hid hr
        have HP11 := Lib.hid (HP10.out.step hb)
        clear hr hb
        have HRE : Hid (WrR B b (BK (k + 1)) (FK (k + 1)) (200 + 60 * (k + 1)) w11) := by
          show WrR _ _ _ _ _ _
          rw [HF.out, HBK.out]
          have := HR11.out
          rw [show (true || offR y) = (true || offR y) by first | rfl | (unfold offR; rw [t3]; rfl) | (unfold offR; rw [t3, t4]; rfl)] at this
          exact this.le (by omega)
        clear HF HBK HR9 HP9 HR10 HP10 HR11
        go_wp2_with fail
        go_roundw
        case rel => exact ⟨k + 1, by omega, by go_num, HRE, HP11⟩
        case measure => simp [intOf]; omega
      | false =>
        by_cases n0 : y < 0
        · have t3 : decide (y < 0) = true := decide_eq_true n0
          clear n0
          have HST := HR.out.setBad true (by first | (intro _; rfl) | (intro e; cases e))
          have HR9 := Lib.hid HST.1; have HP9 := Lib.hid (HP.out.step HST.2)
          clear HST
          go_upto_region 12 with fail
          generalize wr.setCell ⟨b, 2, none⟩ (.bool true) = w9 at *
          clear c2 e2 HR HP
          go_wp2_with fail
          refine (numP_any HR9.out HP9.out (by omega) _ (of_decide_eq_true rfl) y HOY.out).mono ?_
          rintro e w10 ⟨rfl, hr, hb⟩
          have HR10 := Lib.hid hr
          have HP10 := Lib.hid (HP9.out.step hb)
          clear hr hb
          go_wp2_with fail
          refine (endP_any HR10.out HP10.out (by omega)).mono ?_
          rintro e w11 ⟨rfl, hr, hb⟩
          have HR11 := Lib.hid hr
          have HP11 := Lib.hid (HP10.out.step hb)
          clear hr hb
          have HRE : Hid (WrR B b (BK (k + 1)) (FK (k + 1)) (200 + 60 * (k + 1)) w11) := by
            show WrR _ _ _ _ _ _
            rw [HF.out, HBK.out]
            have := HR11.out
            rw [show (true || offR y) = (false || offR y) by first | rfl | (unfold offR; rw [t3]; rfl) | (unfold offR; rw [t3, t4]; rfl)] at this
            exact this.le (by omega)
          clear HF HBK HR9 HP9 HR10 HP10 HR11
          go_wp2_with fail
          go_roundw
          case rel => exact ⟨k + 1, by omega, by go_num, HRE, HP11⟩
          case measure => simp [intOf]; omega
        have t3 : decide (y < 0) = false := decide_eq_false n0
        by_cases n1 : 65535 < y
        · have t4 : decide (65535 < y) = true := decide_eq_true n1
          clear n0 n1
          have HST := HR.out.setBad true (by first | (intro _; rfl) | (intro e; cases e))
          have HR9 := Lib.hid HST.1; have HP9 := Lib.hid (HP.out.step HST.2)
          clear HST
          go_upto_region 12 with fail
          generalize wr.setCell ⟨b, 2, none⟩ (.bool true) = w9 at *
          clear c2 e2 HR HP
          go_wp2_with fail
          refine (numP_any HR9.out HP9.out (by omega) _ (of_decide_eq_true rfl) y HOY.out).mono ?_
          rintro e w10 ⟨rfl, hr, hb⟩
          have HR10 := Lib.hid hr
          have HP10 := Lib.hid (HP9.out.step hb)
          clear hr hb
          go_wp2_with fail
          refine (endP_any HR10.out HP10.out (by omega)).mono ?_
          rintro e w11 ⟨rfl, hr, hb⟩
          have HR11 := Lib.hid hr
          have HP11 := Lib.hid (HP10.out.step hb)
          clear hr hb
          have HRE : Hid (WrR B b (BK (k + 1)) (FK (k + 1)) (200 + 60 * (k + 1)) w11) := by
            show WrR _ _ _ _ _ _
            rw [HF.out, HBK.out]
            have := HR11.out
            rw [show (true || offR y) = (false || offR y) by first | rfl | (unfold offR; rw [t3]; rfl) | (unfold offR; rw [t3, t4]; rfl)] at this
            exact this.le (by omega)
          clear HF HBK HR9 HP9 HR10 HP10 HR11
          go_wp2_with fail
          go_roundw
          case rel => exact ⟨k + 1, by omega, by go_num, HRE, HP11⟩
          case measure => simp [intOf]; omega
        · have t4 : decide (65535 < y) = false := decide_eq_false n1
          clear n0 n1
          have HST := HR.out.setBad false (by first | (intro _; rfl) | (intro e; cases e))
          have HR9 := Lib.hid HST.1; have HP9 := Lib.hid (HP.out.step HST.2)
          clear HST
          go_upto_region 12 with fail
          generalize wr.setCell ⟨b, 2, none⟩ (.bool false) = w9 at *
          clear c2 e2 HR HP
          go_wp2_with fail
          refine (numP_any HR9.out HP9.out (by omega) _ (of_decide_eq_true rfl) y HOY.out).mono ?_
          rintro e w10 ⟨rfl, hr, hb⟩
          have HR10 := Lib.hid hr
          have HP10 := Lib.hid (HP9.out.step hb)
          clear hr hb
          go_wp2_with fail
          refine (endP_any HR10.out HP10.out (by omega)).mono ?_
          rintro e w11 ⟨rfl, hr, hb⟩
          have HR11 := Lib.hid hr
          have HP11 := Lib.hid (HP10.out.step hb)
          clear hr hb
          have HRE : Hid (WrR B b (BK (k + 1)) (FK (k + 1)) (200 + 60 * (k + 1)) w11) := by
            show WrR _ _ _ _ _ _
            rw [HF.out, HBK.out]
            have := HR11.out
            rw [show (false || offR y) = (false || offR y) by first | rfl | (unfold offR; rw [t3]; rfl) | (unfold offR; rw [t3, t4]; rfl)] at this
            exact this.le (by omega)
          clear HF HBK HR9 HP9 HR10 HP10 HR11
          go_wp2_with fail
          go_roundw
          case rel => exact ⟨k + 1, by omega, by go_num, HRE, HP11⟩
          case measure => simp [intOf]; omega
    obtain rfl : k = T.pts.length := by omega
    have t2 : decide ((T.pts.length : Int) < (T.pts.length : Int)) = false := by simp
    have RR : Hid (WrR B b (BR 0) (FR 0) (1000 + 60 * s 0 + 400 * 0) wr) := by
      show WrR _ _ _ _ _ _
      rw [HG0.out, HC0.out, ← HFM.out, ← HBM.out]
      exact HR.out.le (by omega)
    have c3 := cell_row (j := 3) (HP.out.blk K1.out) rfl
    clear HFS HBS HFM HBM R7 P7 HG0 HC0 HR HOP
    go_wp2_with fail
    clear c3 t2
    go_loopw [60] (fun i wr => ∃ k : Nat, k ≤ T.rts.length ∧ i = .int .i64 (k : Int) ∧ Hid (WrR B b (BR k) (FR k) (1000 + 60 * s k + 400 * k) wr) ∧ Hid (PC B w1 wr)) (fun i _ => T.rts.length - (intOf i).toNat)
    case atStart => exact ⟨0, Nat.zero_le _, rfl, RR, HP⟩
    case round =>
      clear RR HP
      obtain ⟨k, hk, rfl, HR, HP⟩ := hrel
      rcases Nat.lt_or_ge k T.rts.length with hk2 | hk2
      case inl =>
        have t2 : decide ((k : Int) < (T.rts.length : Int)) = true := decide_eq_true (by omega)
        obtain ⟨rb, roff, C, rfl, hrb, hrc, hrr⟩ := HR0.out.cells hk2
        have BO : Hid (Below w.heap.size w wr) := B1.out.trans (HP.out.old.mono B1.out.size)
        have x0 := (BO.out.cell hrb).trans (hrc 0 (by omega)); have x1 := (BO.out.cell hrb).trans (hrc 1 (by omega)); have x2 := (BO.out.cell hrb).trans (hrc 2 (by omega)); have x3 := (BO.out.cell hrb).trans (hrc 3 (by omega)); have x4 := (BO.out.cell hrb).trans (hrc 4 (by omega)); have x5 := (BO.out.cell hrb).trans (hrc 5 (by omega))
        have hbl : rb < wr.heap.size := Nat.lt_of_lt_of_le hrb BO.out.size
        rw [Nat.add_zero] at x0
        have HF := Lib.hid (HGS.out k hk2); have HBK := Lib.hid (HCS.out k hk2); have HNk := Lib.hid (HN.out k)
        have hsk := HM.out (k + 1) T.rts.length (by omega)
        rw [HNk.out] at hsk
        obtain ⟨r, hrd⟩ : ∃ r, r = T.rts.getD k rt0 := ⟨_, rfl⟩
        rw [← hrd] at hrr HF HBK HNk hsk
        clear hrd
        obtain ⟨⟨ta, tc, ht, _⟩, _⟩ := hrr.tr
        obtain ⟨⟨pa, pc, hp, _⟩, _⟩ := hrr.pts
        obtain ⟨⟨ca, cc, hcn, _⟩, _⟩ := hrr.con
        have HTr := Lib.hid (hrr.tr.below B1.out); have HPt := Lib.hid (hrr.pts.below B1.out); have HCo := Lib.hid (hrr.con.below B1.out)
        rw [ht] at HTr; rw [hp] at HPt; rw [hcn] at HCo
        have HSi := Lib.hid hrr.sigOk; have HAp := Lib.hid hrr.appOk; have hho := hrr.holdOk
        rw [hrr.sig] at x0; rw [ht] at x1; rw [hp] at x2; rw [hrr.app] at x3; rw [hcn] at x4; rw [hrr.hold] at x5
        obtain ⟨w8, hw8⟩ : ∃ w8, w8 = wr.alloc (.cells #[.int .i64 r.sig, .slice ta r.tr.length tc, .slice pa r.pts.length pc, .int .i64 r.app, .slice ca r.con.length cc, .int .u16 (r.hold : Int)] 30) := ⟨_, rfl⟩
        have B8 : Hid (Below wr.heap.size wr w8) := by rw [hw8]; exact tb_alloc_below _ _
        have AB8 : Hid (w8.heap[wr.heap.size]? = some (.cells #[.int .i64 r.sig, .slice ta r.tr.length tc, .slice pa r.pts.length pc, .int .i64 r.app, .slice ca r.con.length cc, .int .u16 (r.hold : Int)] 30 (0, 0))) := by rw [hw8]; exact heap_alloc_new _ _
        have R8 := Lib.hid (HR.out.kept B8.out)
        have P8 : Hid (PC B w1 w8) := HP.out.step (b := b) (Stp.of_below HP.out.sz B8.out)
        have HAB : Hid (wr.heap.size ≠ b) := by have := HR.out.lt; show _ ≠ _; omega
        have HW8 := Lib.hid hw8
        clear hw8 hrr hrc ht hp hcn hrb HGS HCS HGM HCM HM HN B8 BO HR HP HEND
        go_upto_region 19 with fail
        rw [← HW8.out]
        obtain ⟨ab, hab⟩ : ∃ ab, ab = wr.heap.size := ⟨_, rfl⟩
        rw [← hab] at AB8 HAB ⊢
        clear x0 x1 x2 x3 x4 x5 hbl hab HW8
        have HHo : Hid (i64ok (r.hold : Int)) := ⟨by omega, by omega⟩
        have q0 := cell_row (j := 0) AB8.out rfl
        go_wp2_with fail
        refine (numP_any R8.out P8.out (by omega) _ (of_decide_eq_true rfl) _ HSi.out).mono ?_
        rintro e w9 ⟨rfl, hr, hb⟩
        have R9 := Lib.hid hr
        have P9 := Lib.hid (P8.out.step hb)
        have AB9 : Hid (w9.heap[ab]? = some (.cells #[.int .i64 r.sig, .slice ta r.tr.length tc, .slice pa r.pts.length pc, .int .i64 r.app, .slice ca r.con.length cc, .int .u16 (r.hold : Int)] 30 (0, 0))) := hb.kep ab _ AB8.out (by intro e; exact HAB.out (Option.some.inj e)) (by intro c fz e; injection e with _ e2 _; exact absurd e2 (by decide))
        clear hr hb
        clear q0 R8 P8 AB8
        have q1 := cell_row (j := 1) AB9.out rfl
        go_wp2_with fail
        refine (listI_any _ _ _ _ _ _ _ _ _ _ R9.out HTr.out P9.out (by omega) (of_decide_eq_true rfl)).mono ?_
        rintro e w10 ⟨rfl, hr, hb⟩
        have R10 := Lib.hid hr
        have P10 := Lib.hid (P9.out.step hb)
        have AB10 : Hid (w10.heap[ab]? = some (.cells #[.int .i64 r.sig, .slice ta r.tr.length tc, .slice pa r.pts.length pc, .int .i64 r.app, .slice ca r.con.length cc, .int .u16 (r.hold : Int)] 30 (0, 0))) := hb.kep ab _ AB9.out (by intro e; exact HAB.out (Option.some.inj e)) (by intro c fz e; injection e with _ e2 _; exact absurd e2 (by decide))
        clear hr hb
        clear q1 R9 P9 AB9
        have q2 := cell_row (j := 2) AB10.out rfl
        go_wp2_with fail
        refine (listP_any _ _ _ _ _ _ _ _ _ _ R10.out HPt.out P10.out (by omega) (of_decide_eq_true rfl)).mono ?_
        rintro e w11 ⟨rfl, hr, hb⟩
        have R11 := Lib.hid hr
        have P11 := Lib.hid (P10.out.step hb)
        have AB11 : Hid (w11.heap[ab]? = some (.cells #[.int .i64 r.sig, .slice ta r.tr.length tc, .slice pa r.pts.length pc, .int .i64 r.app, .slice ca r.con.length cc, .int .u16 (r.hold : Int)] 30 (0, 0))) := hb.kep ab _ AB10.out (by intro e; exact HAB.out (Option.some.inj e)) (by intro c fz e; injection e with _ e2 _; exact absurd e2 (by decide))
        clear hr hb
        clear q2 R10 P10 AB10
        have q3 := cell_row (j := 3) AB11.out rfl
        by_cases happ : r.app = -1
        · have t7 : (r.app != -1) = false := by rw [happ]; rfl
          have HAPP := Lib.hid happ
          clear happ
          have q5 := cell_row (j := 5) AB11.out rfl
          go_wp2_with fail
          refine (numP_any R11.out P11.out (by omega) _ (of_decide_eq_true rfl) _ HHo.out).mono ?_
          rintro e w13 ⟨rfl, hr, hb⟩
          have R13 := Lib.hid hr
          have P13 := Lib.hid (P11.out.step hb)
          have AB13 : Hid (w13.heap[ab]? = some (.cells #[.int .i64 r.sig, .slice ta r.tr.length tc, .slice pa r.pts.length pc, .int .i64 r.app, .slice ca r.con.length cc, .int .u16 (r.hold : Int)] 30 (0, 0))) := hb.kep ab _ AB11.out (by intro e; exact HAB.out (Option.some.inj e)) (by intro c fz e; injection e with _ e2 _; exact absurd e2 (by decide))
          clear hr hb
          clear q5
          have q4 := cell_row (j := 4) AB13.out rfl
          go_wp2_with fail
          refine (listI_any _ _ _ _ _ _ _ _ _ _ R13.out HCo.out P13.out (by omega) (of_decide_eq_true rfl)).mono ?_
          rintro e w14 ⟨rfl, hr, hb⟩
          have R14 := Lib.hid hr
          have P14 := Lib.hid (P13.out.step hb)
          have AB14 : Hid (w14.heap[ab]? = some (.cells #[.int .i64 r.sig, .slice ta r.tr.length tc, .slice pa r.pts.length pc, .int .i64 r.app, .slice ca r.con.length cc, .int .u16 (r.hold : Int)] 30 (0, 0))) := hb.kep ab _ AB13.out (by intro e; exact HAB.out (Option.some.inj e)) (by intro c fz e; injection e with _ e2 _; exact absurd e2 (by decide))
          clear hr hb
          clear q4
          go_wp2_with fail
          refine (endP_any R14.out P14.out (by omega)).mono ?_
          rintro e w15 ⟨rfl, hr, hb⟩
          have R15 := Lib.hid hr
          have P15 := Lib.hid (P14.out.step hb)
          have AB15 : Hid (w15.heap[ab]? = some (.cells #[.int .i64 r.sig, .slice ta r.tr.length tc, .slice pa r.pts.length pc, .int .i64 r.app, .slice ca r.con.length cc, .int .u16 (r.hold : Int)] 30 (0, 0))) := hb.kep ab _ AB14.out (by intro e; exact HAB.out (Option.some.inj e)) (by intro c fz e; injection e with _ e2 _; exact absurd e2 (by decide))
          clear hr hb
          have HRE : Hid (WrR B b (BR (k + 1)) (FR (k + 1)) (1000 + 60 * s (k + 1) + 400 * (k + 1)) w15) := by
            show WrR _ _ _ _ _ _
            rw [HF.out, HBK.out, ← rtI_chain _ _ HAPP.out, ← badR_chain _ _ HAPP.out]
            exact R15.out.le (by have := HNk.out; omega)
          clear HF HBK HNk R13 R14 R15 AB13 AB14 AB15 P13 P14 P11 R11 AB11 HAPP
          go_wp2_with fail
          go_roundw
          case rel => exact ⟨k + 1, by omega, by go_num, HRE, P15⟩
          case measure => simp [intOf]; omega
        · have t7 : (r.app != -1) = true := bne_iff_ne.2 happ
          have HAPP := Lib.hid happ
          clear happ
          go_wp2_with fail
          refine (numP_any R11.out P11.out (by omega) _ (of_decide_eq_true rfl) _ HAp.out).mono ?_
          rintro e w12 ⟨rfl, hr, hb⟩
          have R12 := Lib.hid hr
          have P12 := Lib.hid (P11.out.step hb)
          have AB12 : Hid (w12.heap[ab]? = some (.cells #[.int .i64 r.sig, .slice ta r.tr.length tc, .slice pa r.pts.length pc, .int .i64 r.app, .slice ca r.con.length cc, .int .u16 (r.hold : Int)] 30 (0, 0))) := hb.kep ab _ AB11.out (by intro e; exact HAB.out (Option.some.inj e)) (by intro c fz e; injection e with _ e2 _; exact absurd e2 (by decide))
          clear hr hb
          clear q3 R11 P11 AB11
          have q5 := cell_row (j := 5) AB12.out rfl
          go_wp2_with fail
          refine (numP_any R12.out P12.out (by omega) _ (of_decide_eq_true rfl) _ HHo.out).mono ?_
          rintro e w13 ⟨rfl, hr, hb⟩
          have R13 := Lib.hid hr
          have P13 := Lib.hid (P12.out.step hb)
          have AB13 : Hid (w13.heap[ab]? = some (.cells #[.int .i64 r.sig, .slice ta r.tr.length tc, .slice pa r.pts.length pc, .int .i64 r.app, .slice ca r.con.length cc, .int .u16 (r.hold : Int)] 30 (0, 0))) := hb.kep ab _ AB12.out (by intro e; exact HAB.out (Option.some.inj e)) (by intro c fz e; injection e with _ e2 _; exact absurd e2 (by decide))
          clear hr hb
          clear q5
          have q4 := cell_row (j := 4) AB13.out rfl
          go_wp2_with fail
          refine (listI_any _ _ _ _ _ _ _ _ _ _ R13.out HCo.out P13.out (by omega) (of_decide_eq_true rfl)).mono ?_
          rintro e w14 ⟨rfl, hr, hb⟩
          have R14 := Lib.hid hr
          have P14 := Lib.hid (P13.out.step hb)
          have AB14 : Hid (w14.heap[ab]? = some (.cells #[.int .i64 r.sig, .slice ta r.tr.length tc, .slice pa r.pts.length pc, .int .i64 r.app, .slice ca r.con.length cc, .int .u16 (r.hold : Int)] 30 (0, 0))) := hb.kep ab _ AB13.out (by intro e; exact HAB.out (Option.some.inj e)) (by intro c fz e; injection e with _ e2 _; exact absurd e2 (by decide))
          clear hr hb
          clear q4
          go_wp2_with fail
          refine (endP_any R14.out P14.out (by omega)).mono ?_
          rintro e w15 ⟨rfl, hr, hb⟩
          have R15 := Lib.hid hr
          have P15 := Lib.hid (P14.out.step hb)
          have AB15 : Hid (w15.heap[ab]? = some (.cells #[.int .i64 r.sig, .slice ta r.tr.length tc, .slice pa r.pts.length pc, .int .i64 r.app, .slice ca r.con.length cc, .int .u16 (r.hold : Int)] 30 (0, 0))) := hb.kep ab _ AB14.out (by intro e; exact HAB.out (Option.some.inj e)) (by intro c fz e; injection e with _ e2 _; exact absurd e2 (by decide))
          clear hr hb
          have HRE : Hid (WrR B b (BR (k + 1)) (FR (k + 1)) (1000 + 60 * s (k + 1) + 400 * (k + 1)) w15) := by
            show WrR _ _ _ _ _ _
            rw [HF.out, HBK.out, ← rtI_chain' _ _ HAPP.out, ← badR_chain' _ _ HAPP.out]
            exact R15.out.le (by have := HNk.out; omega)
          clear HF HBK HNk R13 R14 R15 AB13 AB14 AB15 P13 P14 P12 R12 AB12 HAPP
          go_wp2_with fail
          go_roundw
          case rel => exact ⟨k + 1, by omega, by go_num, HRE, P15⟩
          case measure => simp [intOf]; omega
      obtain rfl : k = T.rts.length := by omega
      have t2 : decide ((T.rts.length : Int) < (T.rts.length : Int)) = false := by simp
      have BO : Hid (Below w.heap.size w wr) := B1.out.trans (HP.out.old.mono B1.out.size)
      obtain ⟨l, hl, hn, hf⟩ := HR.out
      obtain ⟨c2, e2⟩ := HR.out.bad
      rw [HCM.out, HGM.out] at hf
      rw [HCM.out] at hl c2
      have HL := Lib.hid hl
      cases hg : goodT T with
      | false =>
        have hbd : badT T = true := by rw [HEND.out, hg]; rfl
        have HPR : Hid (printT T = ([], 2)) := by show _ = _; unfold printT; rw [if_pos hg]
        rw [hbd] at c2
        clear hf hl hn hg hbd HR HGM HCM HGS HCS HEND HM HN HL
        go_wp2_with fail
        go_ret2
        exact ⟨by rw [HPR.out]; rfl, BO.out⟩
      | true =>
        have hbd : badT T = false := by rw [HEND.out, hg]; rfl
        have HLT : Hid (l = textT T) := by show _ = _; rw [hf hbd, allI_good hg]
        have HNE : Hid (l ≠ []) := by
          show _ ≠ _
          rw [HLT.out]; unfold textT linesT lineT
          simp
        have hP1 : (if 8000 < (textT T).length then ([], 3) else (textT T, 0)) = printT T := by unfold printT; rw [if_neg (show ¬ goodT T = false by rw [hg]; decide)]
        have HP1 := Lib.hid hP1
        rw [hbd] at c2 HL
        have hln : l.length ≤ 10000000 := by omega
        have HPP := Lib.hid HP.out.sz
        clear hf hl hn hg hbd HR HGM HCM HGS HCS HEND HM HN hP1
        by_cases h8 : 8000 < l.length
        · have HPR : Hid (printT T = ([], 3)) := by show _ = _; rw [← HP1.out, if_pos (by rw [← HLT.out]; exact h8)]
          have t8 : decide ((8000 : Int) < (l.length : Int)) = true := decide_eq_true (by omega)
          clear HP1 h8 HLT HNE
          go_wp2_with fail
          refine (wl_any B b l false wr HL.out).mono ?_
          rintro e w16 ⟨rfl, hw16⟩
          obtain rfl : wr = w16 := hw16.symm
          go_wp2_with fail
          go_ret2
          exact ⟨by rw [HPR.out]; rfl, BO.out⟩
        · have HPR : Hid (printT T = (l, 0)) := by show _ = _; rw [← HP1.out, if_neg (by rw [← HLT.out]; exact h8), ← HLT.out]
          have t8 : decide ((8000 : Int) < (l.length : Int)) = false := decide_eq_false (by omega)
          clear HP1 h8 HLT
          go_wp2_with fail
          refine (wl_any B b l false wr HL.out).mono ?_
          rintro e w16 ⟨rfl, hw16⟩
          obtain rfl : wr = w16 := hw16.symm
          go_wp2_with fail
          refine (wstr_any B b l false wr HL.out HNE.out (by omega)).mono ?_
          rintro e w17 ⟨rfl, _, hb17, _⟩
          have B17 : Hid (Below w.heap.size w w17) := BO.out.trans (hb17.mono HBW.out)
          clear hb17
          go_wp2_with fail
          go_ret2
          exact ⟨by rw [HPR.out]; rfl, B17.out⟩
end Go.Proofs.YtpodedhnlicckaaGreatDoor
