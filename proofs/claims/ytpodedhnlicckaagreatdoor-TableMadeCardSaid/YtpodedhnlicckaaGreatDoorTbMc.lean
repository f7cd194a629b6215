/- TableMade. -/
import Derived.Test.YtpodedhnlicckaaGreatDoorTbLd
import Derived.Test.YtpodedhnlicckaaGreatDoorTbMb
import Derived.Test.YtpodedhnlicckaaGreatDoorTbCf
import Derived.BigRegion
namespace Go.Proofs.YtpodedhnlicckaaGreatDoor
open Go.RowKit
set_option linter.unusedVariables false
set_option linter.unusedSimpArgs false
theorem big_small {T : Tab} (h : greatB T = false) : ∀ r ∈ T.rts, r.pts.length ≤ 1000000 := by
  intro r hr
  obtain ⟨i, hi, rfl⟩ := List.mem_iff_getElem.1 hr
  have := (small_of h).pt i hi
  rw [List.getD_eq_getElem?_getD, List.getElem?_eq_getElem hi] at this
  exact Nat.le_trans this (by omega)
theorem big_with {T : Tab} (c : Nat → List Int) (h : ∀ r ∈ T.rts, r.pts.length ≤ 1000000) : ∀ r ∈ (withC T c).rts, r.pts.length ≤ 1000000 := by
  intro r hr
  unfold withC at hr
  obtain ⟨i, hi, rfl⟩ := List.mem_map.1 hr
  show (T.rts.getD i rt0).pts.length ≤ _
  have hi := List.mem_range.1 hi
  exact h _ (by rw [List.getD_eq_getElem?_getD, List.getElem?_eq_getElem hi]; exact List.getElem_mem hi)
/-- What the loop has stored. -/
def upC (T : Tab) (i k : Nat) : List Int := if k < i then confL T k T.rts.length else (T.rts.getD k rt0).con
theorem cOf_len (m : Nat) (R : Nat → Nat → Bool) (n : Nat) : (cOf m R n).length ≤ m := by
  unfold cOf
  rw [List.length_map]
  have := List.length_filter_le (R n) (List.range m)
  rw [List.length_range] at this
  exact this
theorem Made.congr {W : World} {T : Tab} {mb rb : Nat} {vp rv : Value} {VV : Nat → Value} {c c' : Nat → List Int} (h : Made W T mb rb vp rv VV c) (hc : ∀ k, k < T.rts.length → c k = c' k) : Made W T mb rb vp rv VV c' :=
  ⟨h.box, h.pts, h.row, fun i hi => by
    have := h.rts i hi
    unfold rtN at this ⊢
    rw [← hc i hi]; exact this, h.offP, h.offR, h.ne, h.trOk, h.sgOk⟩
theorem upC_all (T : Tab) : ∀ k, k < T.rts.length → upC T T.rts.length k = cOf T.rts.length (mustR T) k := fun k hk => by
  unfold upC
  rw [if_pos hk, confL_cOf]
theorem upC_succ (T : Tab) {q : Nat} : (fun k => if k = q then confL T q T.rts.length else upC T q k) = upC T (q + 1) := by
  funext k
  show (if k = q then _ else if k < q then _ else _) = (if k < q + 1 then _ else _)
  by_cases e : k = q
  · subst e; rw [if_pos rfl, if_pos (by omega)]
  · rw [if_neg e]
    by_cases h : k < q
    · rw [if_pos h, if_pos (by omega)]
    · rw [if_neg h, if_neg (by omega)]
theorem clone_made (w0 w : World) (T : Tab) (mb : Nat) (vp : Value) (a : Option Addr) (cp : Nat) (hP : IntsAt w0 vp T.pts) (hr : RtsAt w0 (.slice a T.rts.length cp) T.rts) (ht : i64ok T.tracks) (hg : i64ok T.sigs) (hn : T.rts.length ≤ 60) (hmb : mb < w.heap.size) (hk : ∃ rv0, w.heap[mb]? = some (.cells #[.int .i64 T.tracks, vp, .int .i64 T.sigs, rv0] 25 (0, 0))) (hB0 : Below w0.heap.size w0 w) (hlo : w0.heap.size ≤ mb) :
    Calls Tryz.prog 23 #[.slice a T.rts.length cp] w fun e w' => ∃ rv rb VV, e = .returned rv ∧ rv.oneCell' = true ∧ Made (w'.setCell ⟨mb, 3, none⟩ rv) T mb rb vp rv VV (upC T 0) ∧ Below w.heap.size w w' ∧ mb < rb ∧ (0 < T.rts.length → w.heap.size ≤ rb ∧ rb < w'.heap.size) := by
  obtain ⟨a', c', C, e, h1, h2, hs, hR⟩ := hr.at_
  cases e
  have hone : ∀ q, q < T.rts.length * 6 → (C (q / 6) (q % 6)).oneCell' = true := fun q hq => rt_one (hR (q / 6) (by omega)) (q % 6) (by omega)
  have hsw : SliceN w a T.rts.length 6 C := hs.below hB0
  refine (clone_rt a T.rts.length cp (fun q => C (q / 6) (q % 6)) w hone (by omega) (SliceN.flat (by decide) hsw)).mono ?_
  rintro e w' ⟨v, rfl, ⟨b, hS, hb⟩, hB⟩
  obtain ⟨rb, hS, hne, hb⟩ : ∃ rb, SlN w' v rb 30 T.rts.length 6 (fun q => C (q / 6) (q % 6)) ∧ mb < rb ∧ (0 < T.rts.length → w.heap.size ≤ rb ∧ rb < w'.heap.size) := by
    by_cases h0 : 0 < T.rts.length
    · exact ⟨b, hS, by have := hb h0; omega, hb⟩
    · obtain ⟨x, y, k1, k2, k3, k4⟩ := hS
      exact ⟨mb + 1, ⟨x, y, k1, k2, k3, fun hp => absurd hp h0⟩, by omega, fun hp => absurd hp h0⟩
  have hlt := hne
  have hne : mb ≠ rb := by omega
  obtain ⟨rv0, hk⟩ := hk
  have hBW : Below w0.heap.size w0 w' := hB0.trans (hB.mono hB0.size)
  refine ⟨v, rb, (fun q => C (q / 6) (q % 6)), rfl, ?_, ⟨?_, ?_, ?_, fun i hi => ?_, ?_, ?_, hne, ht, hg⟩, hB, hlt, hb⟩
  · obtain ⟨x, y, k1, _⟩ := hS; rw [k1]; rfl
  · exact heap_setCell_same _ _ _ _ _ _ (tb_kept hk hB)
  · exact ints_set (hP.below hBW) (fun b o k d e hk0 => by have := ints_low hP b o k d e hk0; omega)
  · obtain ⟨x, y, k1, k2, k3, k4⟩ := hS
    exact ⟨x, y, k1, k2, k3, fun hp => ⟨(k4 hp).1, (k4 hp).2.other (Ne.symm hne) _⟩⟩
  · have h := (hR i hi).below hBW
    have hl := rt_low (hR i hi)
    have q : ∀ j, j < 6 → C ((i * 6 + j) / 6) ((i * 6 + j) % 6) = C i j := fun j hj => by
      rw [show (i * 6 + j) / 6 = i by omega, show (i * 6 + j) % 6 = j by omega]
    have hc : upC T 0 i = (T.rts.getD i rt0).con := by unfold upC; rw [if_neg (by omega)]
    refine ⟨?_, ?_, ?_, ?_, ?_, ?_, h.sigOk, h.appOk, h.holdOk⟩
    · show C ((i * 6 + 0) / 6) ((i * 6 + 0) % 6) = _; rw [q 0 (by omega)]; exact h.sig
    · show IntsAt _ (C ((i * 6 + 1) / 6) ((i * 6 + 1) % 6)) _; rw [q 1 (by omega)]; exact ints_set h.tr (fun b o k d e hk0 => by have := hl 1 (by omega) b o k d e hk0; omega)
    · show PtsAt _ (C ((i * 6 + 2) / 6) ((i * 6 + 2) % 6)) _; rw [q 2 (by omega)]; exact pts_set h.pts (fun b o k d e hk0 => by have := hl 2 (by omega) b o k d e hk0; omega)
    · show C ((i * 6 + 3) / 6) ((i * 6 + 3) % 6) = _; rw [q 3 (by omega)]; exact h.app
    · show IntsAt _ (C ((i * 6 + 4) / 6) ((i * 6 + 4) % 6)) (upC T 0 i); rw [q 4 (by omega), hc]; exact ints_set h.con (fun b o k d e hk0 => by have := hl 4 (by omega) b o k d e hk0; omega)
    · show C ((i * 6 + 5) / 6) ((i * 6 + 5) % 6) = _; rw [q 5 (by omega)]; exact h.hold
  · intro b o k d e hk0
    have h1 := ints_low hP b o k d e hk0
    omega
  · intro q hq b o k d e hk0
    have h1 := rt_low (hR (q / 6) (by omega)) (q % 6) (by omega) b o k d e hk0
    have := hb (by omega)
    omega
set_option maxRecDepth 100000 in
set_option maxHeartbeats 8000000 in
theorem made_any (v : Value) (less : Int) (T : Tab) (w : World) (hT : TabAt w v T) (hsm : TSm T) (hless : i64ok less) (hL : LibW w) :
    Calls Tryz.prog 7 #[v, .int .i64 less] w fun e w' => e = .returned (.bool true) ∧ Below w.heap.size w w' := by
  have HT := Lib.hid hT; have HL := Lib.hid hL; have HSM := Lib.hid hsm
  obtain ⟨⟨vp, vr, rfl, hP, hr⟩, htk, hsgk⟩ := hT
  obtain ⟨a, c, C0, rfl, hac, hcm, _⟩ := hr.at_
  have HP := Lib.hid hP; have HR := Lib.hid hr; have HTK := Lib.hid htk; have HSK := Lib.hid hsgk
  obtain ⟨⟨va, vc, hvp, _, _, _⟩, _⟩ := id hP
  have hvo : vp.oneCell' = true := by rw [hvp]; rfl
  have HWK := Lib.hid (fun (W : World) (hW : Below w.heap.size w W) => works_any W (HL.out.below hW).tab (HL.out.below hW).max)
  obtain ⟨n, hn⟩ : ∃ x, x = T.rts.length := ⟨_, rfl⟩
  obtain ⟨m, hm⟩ : ∃ x, x = T.pts.length := ⟨_, rfl⟩
  obtain ⟨trk, htrk⟩ : ∃ x, x = T.tracks := ⟨_, rfl⟩
  obtain ⟨sg, hsg⟩ : ∃ x, x = T.sigs := ⟨_, rfl⟩
  rw [← hm] at hvp
  subst hvp
  have HN := Lib.hid hn; have HTR := Lib.hid htrk; have HSG := Lib.hid hsg
  rw [← hn, ← htrk, ← hsg] at HT
  rw [← hn, ← htrk, ← hsg]
  unfold maxLen at hcm
  clear hP hr hL hsm htk hsgk hm hn htrk hsg hvo
  obtain ⟨w1, hw1⟩ : ∃ x, x = w.alloc (.cells #[.int .i64 trk, .slice va m vc, .int .i64 sg, .slice a n c] 25) := ⟨_, rfl⟩
  have B1 : Hid (Below w.heap.size w w1) := by rw [hw1]; exact tb_alloc_below _ _
  have K1 : Hid (w1.heap[w.heap.size]? = some (.cells #[.int .i64 trk, .slice va m vc, .int .i64 sg, .slice a n c] 25 (0, 0))) := by rw [hw1]; exact heap_alloc_new _ _
  have HW1 := Lib.hid hw1
  clear hw1
  go_enter Tryz.func7, Tryz.ntmps7
  go_upto_region 1 with fail
  rw [← HW1.out]
  clear HW1
  have HG := Lib.hid (great_any _ T w1 (HT.out.below B1.out) HSM.out)
  have HZ0 : Hid (w.heap.size ≤ w.heap.size) := Nat.le_refl _
  obtain ⟨tb, htb⟩ : ∃ x, x = w.heap.size := ⟨_, rfl⟩
  rw [← htb] at K1 ⊢
  have HTB := Lib.hid htb
  clear htb HZ0
  have c0 := cell_row (j := 0) K1.out rfl
  have c1 := cell_row (j := 1) K1.out rfl
  have c2 := cell_row (j := 2) K1.out rfl
  have c3 := cell_row (j := 3) K1.out rfl
  have lc := heap_lt K1.out
  go_wp2_with fail
  (with_reducible refine HG.out.mono ?_)
  rintro e w2 ⟨rfl, hb2⟩
  have B2 := Lib.hid (B1.out.trans (hb2.mono B1.out.size))
  have K2 := Lib.hid (tb_kept K1.out hb2)
  clear hb2 K1 HG
  clear c0 c1 c2 c3 lc
  cases hgr : greatB T with
  | true =>
    have H := Lib.hid (HWK.out w2 B2.out)
    go_wp2_with fail
    (with_reducible refine H.out.mono ?_)
    rintro e w9 ⟨rfl, hb9⟩
    have B9 := Lib.hid (B2.out.trans (hb9.mono B2.out.size))
    go_wp2_with fail
    go_ret
    exact ⟨rfl, B9.out⟩
  | false =>
    have HBG := Lib.hid (big_small hgr)
    have HN60 := Lib.hid (small_of hgr).n
    clear hgr
    obtain ⟨w3, hw3⟩ : ∃ x, x = w2.alloc (.cells #[.int .i64 trk, .slice va m vc, .int .i64 sg, .slice a n c] 25) := ⟨_, rfl⟩
    have B23 : Hid (Below w2.heap.size w2 w3) := by rw [hw3]; exact tb_alloc_below _ _
    have B3 := Lib.hid (B2.out.trans (B23.out.mono B2.out.size))
    have K3 := Lib.hid (tb_kept K2.out B23.out)
    have KM3 : Hid (w3.heap[w2.heap.size]? = some (.cells #[.int .i64 trk, .slice va m vc, .int .i64 sg, .slice a n c] 25 (0, 0))) := by rw [hw3]; exact heap_alloc_new _ _
    have HW3 := Lib.hid hw3
    clear hw3
    have c0 := cell_row (j := 0) K2.out rfl
    have c1 := cell_row (j := 1) K2.out rfl
    have c2 := cell_row (j := 2) K2.out rfl
    have c3 := cell_row (j := 3) K2.out rfl
    have lc := heap_lt K2.out
    go_upto_region 4 with fail
    rw [← HW3.out]
    clear HW3
    have HMT : Hid (tb < w2.heap.size) := heap_lt K2.out
    have HBS := Lib.hid B2.out.size
    obtain ⟨mb, hmb⟩ : ∃ x, x = w2.heap.size := ⟨_, rfl⟩
    rw [← hmb] at KM3 HMT HBS ⊢
    clear hmb
    clear c0 c1 c2 c3 lc
    have c0 := cell_row (j := 0) K3.out rfl
    have c1 := cell_row (j := 1) K3.out rfl
    have c2 := cell_row (j := 2) K3.out rfl
    have c3 := cell_row (j := 3) K3.out rfl
    have lc := heap_lt K3.out
    have HCL := Lib.hid (clone_made w w3 T mb _ a c HP.out HR.out HTK.out HSK.out HN60.out (heap_lt KM3.out) ⟨_, by rw [← HTR.out, ← HSG.out]; exact KM3.out⟩ B3.out HBS.out)
    rw [← HN.out] at HCL
    go_wp2_with fail
    refine HCL.out.mono ?_
    rintro e w4 ⟨rv, rb, VV, rfl, hone, hM, hb4, hne, hrb⟩
    obtain ⟨ra, rcp, hrv, hr2, hr3, hr4⟩ := hM.row
    rw [← HN.out] at hrv hr2
    subst hrv
    have HR4 := Lib.hid hr4
    have HRB := Lib.hid hrb; have HNE := Lib.hid hne
    have M5 := Lib.hid hM
    have B4 := Lib.hid (B3.out.trans (hb4.mono B3.out.size))
    have KM4 := Lib.hid (tb_kept KM3.out hb4)
    have K4 := Lib.hid (tb_kept K3.out hb4)
    unfold maxLen at hr3
    clear hM hb4 hr4 hrb hne hone HCL KM3 K3
    clear c0 c1 c2 c3 lc
    have e3 := cell_row (j := 3) KM4.out rfl
    have g3 : w4.frozen? ⟨mb, 3, none⟩ = false := frozen_of_row _ _ _ _ _ KM4.out
    have le := heap_lt KM4.out
    have K5 : Hid ((w4.setCell ⟨mb, 3, none⟩ (.slice ra n rcp)).heap[tb]? = some (.cells #[.int .i64 trk, .slice va m vc, .int .i64 sg, .slice a n c] 25 (0, 0))) := (heap_setCell_other _ _ _ _ (by have := HMT.out; show tb ≠ mb; omega)).trans K4.out
    have B5 : Hid (Below w.heap.size w (w4.setCell ⟨mb, 3, none⟩ (.slice ra n rcp))) := B4.out.setCell (p := ⟨mb, 3, none⟩) HBS.out _
    obtain ⟨w5, hw5⟩ : ∃ x, x = w4.setCell ⟨mb, 3, none⟩ (.slice ra n rcp) := ⟨_, rfl⟩
    rw [← hw5] at K5 B5 M5
    have HW5 := Lib.hid hw5
    clear hw5
    go_upto_region 5 with fail
    rw [← HW5.out]
    clear e3 g3 le HW5 KM4 K4
    have HCF := Lib.hid (conflicts_fresh _ T w5 (HT.out.below B5.out) (by have := HN60.out; omega))
    rw [← HN.out] at HCF
    have c0 := cell_row (j := 0) K5.out rfl
    have c1 := cell_row (j := 1) K5.out rfl
    have c2 := cell_row (j := 2) K5.out rfl
    have c3 := cell_row (j := 3) K5.out rfl
    have lc := heap_lt K5.out
    go_wp2_with fail
    refine HCF.out.mono ?_
    rintro e w6 ⟨⟨ob, V, rfl, hob, hRW, hfr⟩, hb6⟩
    have B6 := Lib.hid (B5.out.trans (hb6.mono B5.out.size))
    have K6 := Lib.hid (tb_kept K5.out hb6)
    have HRL : Hid (0 < n → rb < w5.heap.size) := fun h => by
      obtain ⟨_, h2⟩ := (M5.out.row.choose_spec.choose_spec).2.2.2 (by rw [← HN.out]; exact h)
      exact h2.lt
    have M6 := Lib.hid (M5.out.below hb6)
    have RW6 := Lib.hid hRW
    have HFR : Hid (0 < n → ∀ j, j < n → ∀ b o k d, V j = .slice (some ⟨b, o, none⟩) k d → b ≠ rb) := fun h j hj b o k d e => by have h1 := hfr j hj b o k d e; have h2 := HRL.out h; omega
    have HOB : Hid (0 < n → ob ≠ rb) := fun h => by have h2 := HRL.out h; have := hob; omega
    clear hob hRW hfr hb6 K5 M5 B5 HCF HRL
    clear c0 c1 c2 c3 lc
    have c0 := cell_row (j := 0) K6.out rfl
    have c1 := cell_row (j := 1) K6.out rfl
    have c2 := cell_row (j := 2) K6.out rfl
    have c3 := cell_row (j := 3) K6.out rfl
    have lc := heap_lt K6.out
    have KM6 : Hid (w6.heap[mb]? = some (.cells #[.int .i64 trk, .slice va m vc, .int .i64 sg, .slice ra n rcp] 25 (0, 0))) := by have h := M6.out.box; rw [← HTR.out, ← HSG.out] at h; exact h
    have d3 := cell_row (j := 3) KM6.out rfl
    have ld := heap_lt KM6.out
    go_wp2_with fail
    clear c0 c1 c2 c3 lc
    clear d3 ld
    have M60 : Hid (∃ VV, Made w6 T mb rb (.slice va m vc) (.slice ra n rcp) VV (upC T 0)) := ⟨VV, M6.out⟩
    clear M6 HR4 HRB
    go_loopw [31] (fun i wr => ∃ q : Nat, q ≤ n ∧ i = .int .i64 (q : Int) ∧ Hid (∃ VV, Made wr T mb rb (.slice va m vc) (.slice ra n rcp) VV (upC T q)) ∧ Hid (Only (fun b => b = rb) w6 wr)) (fun i _ => n - (intOf i).toNat)
    case atStart => exact ⟨0, Nat.zero_le _, rfl, M60.out, Only.refl _ _⟩
    case round =>
      clear M60
      obtain ⟨q, hqn, rfl, HMD, HO⟩ := hrel
      rcases Nat.lt_or_ge q n with hq | hq
      case inl =>
        have t2 : decide (q < n) = true := decide_eq_true hq
        obtain ⟨VV, hM⟩ := HMD.out
        have M7 := Lib.hid hM
        have hq' : q < T.rts.length := by rw [← HN.out]; exact hq
        have HQ' := Lib.hid hq'
        obtain ⟨x1, x2, x3, _, _, x4⟩ := hM.row
        obtain ⟨xa, hrow⟩ := x4 (by omega)
        have hra : ra = some ⟨rb, 0, none⟩ := by rw [xa] at x3; cases x3; rfl
        subst hra
        have e3 : wr.cell? ⟨mb, 3, none⟩ = some (.slice (some ⟨rb, 0, none⟩) n rcp) := cell_row (j := 3) hM.box rfl
        have le := heap_lt hM.box
        have HRO := Lib.hid (RW6.out.row.same (HO.out.block ob RW6.out.row.lt (HOB.out (by omega))))
        have v0 : wr.cell? ⟨ob, q, none⟩ = some (V q) := HRO.out.cell hq
        have lo := HRO.out.lt
        have HIQ : Hid (IntsAt wr (V q) (confL T q n)) := (RW6.out.ints q hq).only HO.out (fun b o k d e hb => HFR.out (by omega) q hq b o k d e hb)
        obtain ⟨qa, qc, hvq, _, hq2, _⟩ := HIQ.out.at_
        have HVQ := Lib.hid hvq
        rw [hvq] at v0
        have r4 : wr.cell? ⟨rb, q * 6 + 4, none⟩ = some (VV (q * 6 + 4)) := hrow.cell (by omega)
        have f4 : wr.frozen? ⟨rb, q * 6 + 4, none⟩ = false := hrow.frozen _
        have lr := hrow.lt
        obtain ⟨ql, hql⟩ : ∃ z, z = (confL T q n).length := ⟨_, rfl⟩
        rw [← hql] at v0 HVQ
        have hnn : n ≤ 60 := by rw [HN.out]; exact HN60.out
        clear hM x4 hrow hvq hq2 hql HMD hq' x3 xa
        go_upto_region 11 with fail
        go_region
        have HXI : Hid (IntsAt wr (.slice qa ql qc) (confL T q T.rts.length)) := by
          show IntsAt _ _ _
          rw [← HVQ.out, ← HN.out]; exact HIQ.out
        have MP := Lib.hid ((M7.out.put HQ'.out HXI.out (fun b o k d e hk => HFR.out (by omega) q hq b o k d (by rw [HVQ.out]; exact e))).below (Below.drew (Below.refl _ _)))
        have OP : Hid (Only (fun b => b = rb) w6 (wr.setCell ⟨rb, q * 6 + 4, none⟩ (.slice qa ql qc)).drew) := (HO.out.set _ _ (.inr rfl)).drew
        rw [upC_succ] at MP
        clear e3 le v0 lo r4 f4 lr
        generalize (wr.setCell ⟨rb, q * 6 + 4, none⟩ (.slice qa ql qc)).drew = w7 at *
        go_wp2_with fail
        refine ⟨⟨q + 1, by omega, by go_num, ⟨_, MP.out⟩, OP⟩, ?_⟩
        simp [intOf]; omega
      case inr =>
        obtain rfl : q = n := by omega
        have t2 : decide (q < q) = false := decide_eq_false (by omega)
        obtain ⟨VV7, hM⟩ := HMD.out
        have M7 : Hid (Made wr T mb rb (.slice va m vc) (.slice ra q rcp) VV7 (cOf T.rts.length (mustR T))) := (show Made wr T mb rb (.slice va m vc) (.slice ra q rcp) VV7 (upC T T.rts.length) by rw [← HN.out]; exact hM).congr (upC_all T)
        have B7 : Hid (Below w.heap.size w wr) := B6.out.trans (HO.out.below B6.out.size (fun i hi hm => by have := HNE.out; have := HBS.out; omega))
        have K7 : Hid (wr.heap[tb]? = some (.cells #[.int .i64 trk, .slice va m vc, .int .i64 sg, .slice a q c] 25 (0, 0))) := (HO.out.block tb (heap_lt K6.out) (by have := HNE.out; have := HMT.out; omega)).trans K6.out
        have HRO : Hid (0 < q → RowAt wr ob 22 q V) := fun h => RW6.out.row.same (HO.out.block ob RW6.out.row.lt (HOB.out h))
        have HVI : Hid (∀ j, j < q → IntsAt wr (V j) (confL T j q)) := fun j hj => (RW6.out.ints j hj).only HO.out (fun b o k d e hb => HFR.out (by omega) j hj b o k d e hb)
        clear hM HMD HO RW6 HOB HFR K6 B6 KM6
        have HC1 := Lib.hid (check_any _ T wr (HT.out.below B7.out) HBG.out)
        have c0 := cell_row (j := 0) K7.out rfl
        have c1 := cell_row (j := 1) K7.out rfl
        have c2 := cell_row (j := 2) K7.out rfl
        have c3 := cell_row (j := 3) K7.out rfl
        have lc := heap_lt K7.out
        go_wp2_with fail
        (with_reducible refine HC1.out.mono ?_)
        rintro e w8 ⟨rfl, hb8⟩
        have B8 := Lib.hid (B7.out.trans (hb8.mono B7.out.size))
        have M8 := Lib.hid (M7.out.below hb8)
        have HRO8 : Hid (0 < q → RowAt w8 ob 22 q V) := fun h => (HRO.out h).same (hb8.block ob (HRO.out h).lt)
        have HVI8 : Hid (∀ j, j < q → IntsAt w8 (V j) (confL T j q)) := fun j hj => (HVI.out j hj).below hb8
        have hbx := M8.out.box
        have htab := M8.out.tab
        rw [← HTR.out, ← HSG.out] at hbx htab
        have KM8 := Lib.hid hbx
        have HC2 := Lib.hid (check_any _ _ w8 htab (big_with _ HBG.out))
        clear c0 c1 c2 c3 lc
        clear hb8 HC1 K7 B7 M7 HRO HVI hbx htab
        have HE1 : Hid (checkE T ≠ 260 → checkE (withC T (cOf T.rts.length (mustR T))) = 0) := fun h => made_ok (sound_of h)
        obtain ⟨E1, hE1⟩ : ∃ z, z = checkE T := ⟨_, rfl⟩
        obtain ⟨E2, hE2⟩ : ∃ z, z = checkE (withC T (cOf T.rts.length (mustR T))) := ⟨_, rfl⟩
        rw [← hE1, ← hE2] at HE1
        rw [← hE2] at HC2
        rw [← hE1]
        have HE2 := Lib.hid hE2
        clear hE1 hE2
        have c0 := cell_row (j := 0) KM8.out rfl
        have c1 := cell_row (j := 1) KM8.out rfl
        have c2 := cell_row (j := 2) KM8.out rfl
        have c3 := cell_row (j := 3) KM8.out rfl
        have lc := heap_lt KM8.out
        go_wp2_with fail
        (with_reducible refine HC2.out.mono ?_)
        rintro e w9 ⟨rfl, hb9⟩
        have B9 := Lib.hid (B8.out.trans (hb9.mono B8.out.size))
        have M9 := Lib.hid (M8.out.below hb9)
        have HRO9 : Hid (0 < q → RowAt w9 ob 22 q V) := fun h => (HRO8.out h).same (hb9.block ob (HRO8.out h).lt)
        have HVI9 : Hid (∀ j, j < q → IntsAt w9 (V j) (confL T j q)) := fun j hj => (HVI8.out j hj).below hb9
        clear c0 c1 c2 c3 lc
        clear hb9 HC2 KM8 B8 M8 HRO8 HVI8
        by_cases he : E2 = 0
        case neg =>
          have h260 : E1 = 260 := Classical.byContradiction fun h => he (HE1.out h)
          subst h260
          have t3 : (E2 == 0) = false := beq_eq_false_iff_ne.2 he
          have t4 : (E2 != 0) = true := by rw [bne, t3]; rfl
          clear he
          have H := Lib.hid (HWK.out w9 B9.out)
          go_wp2_with fail
          (with_reducible refine H.out.mono ?_)
          rintro e w9 ⟨rfl, hb9⟩
          have B9 := Lib.hid (B9.out.trans (hb9.mono B9.out.size))
          go_wp2_with fail
          go_ret
          exact ⟨rfl, B9.out⟩
        case pos =>
          subst he
          have HSO : Hid (Sound T) := sound_with (by rw [← HE2.out]; decide)
          clear HE1
          cases t3 : (E1 == 0)
          case true =>
            have hE : E1 = 0 := beq_iff_eq.1 t3
            subst hE
            clear t3
            by_cases h0 : less < 0
            · have t5 : decide (less < 0) = true := decide_eq_true h0
              have H := Lib.hid (HWK.out w9 B9.out)
              go_wp2_with fail
              (with_reducible refine H.out.mono ?_)
              rintro e w9 ⟨rfl, hb9⟩
              have B9 := Lib.hid (B9.out.trans (hb9.mono B9.out.size))
              go_wp2_with fail
              go_ret
              exact ⟨rfl, B9.out⟩
            · have t5 : decide (less < 0) = false := decide_eq_false h0
              obtain ⟨x, rfl⟩ := Int.eq_ofNat_of_zero_le (show 0 ≤ less by omega)
              rcases Nat.lt_or_ge x q with hx | hx
              case inr =>
                have t6 : decide (q ≤ x) = true := decide_eq_true hx
                have H := Lib.hid (HWK.out w9 B9.out)
                go_wp2_with fail
                (with_reducible refine H.out.mono ?_)
                rintro e w9 ⟨rfl, hb9⟩
                have B9 := Lib.hid (B9.out.trans (hb9.mono B9.out.size))
                go_wp2_with fail
                go_ret
                exact ⟨rfl, B9.out⟩
              have t6 : decide (q ≤ x) = false := decide_eq_false (by omega)
              have HXQ := Lib.hid hx
              obtain ⟨qa, qc, hvq, _, hq2, _⟩ := (HVI9.out x hx).at_
              have v0 : w9.cell? ⟨ob, x, none⟩ = some (V x) := (HRO9.out (by omega)).cell hx
              have lo := (HRO9.out (by omega)).lt
              rw [hvq] at v0
              obtain ⟨ql, hql⟩ : ∃ z, z = (confL T x q).length := ⟨_, rfl⟩
              rw [← hql] at v0
              have HVQ := Lib.hid hvq; have HQL := Lib.hid hql
              clear h0 hvq hql
              by_cases hz : ql = 0
              · subst hz
                have hnn : q ≤ 60 := by rw [HN.out]; exact HN60.out
                have H := Lib.hid (HWK.out w9 B9.out)
                go_wp2_with fail
                (with_reducible refine H.out.mono ?_)
                rintro e w9 ⟨rfl, hb9⟩
                have B9 := Lib.hid (B9.out.trans (hb9.mono B9.out.size))
                go_wp2_with fail
                go_ret
                exact ⟨rfl, B9.out⟩
              · have t7 : (ql == 0) = false := beq_eq_false_iff_ne.2 hz
                have t7' : ((ql : Int) == 0) = false := beq_eq_false_iff_ne.2 (by omega)
                have hnn : q ≤ 60 := by rw [HN.out]; exact HN60.out
                have HIX : Hid (IntsAt w9 (.slice qa ql qc) (confL T x q)) := by show IntsAt _ _ _; rw [HQL.out, ← HVQ.out]; exact HVI9.out x HXQ.out
                have hl0 : 0 < (confL T x q).length := by rw [← HQL.out]; omega
                obtain ⟨y, hy, hmu, hgy⟩ : ∃ y, y < q ∧ mustR T x y = true ∧ (confL T x q).getD 0 0 = (y : Int) := by
                  have h := getD_mem hl0
                  rw [confL_cOf] at h
                  obtain ⟨y, k1, k2, k3⟩ := cOf_mem.1 h
                  exact ⟨y, k1, k2, by rw [confL_cOf]; exact k3⟩
                obtain ⟨gb, go, rfl, hgb, hg0⟩ := HIX.out.cell hl0
                rw [hgy, Nat.add_zero] at hg0
                have hxT : x < T.rts.length := by rw [← HN.out]; exact HXQ.out
                have hyT : y < T.rts.length := by rw [← HN.out]; exact hy
                have hne : x ≠ y := by rintro rfl; rw [mustR_irr] at hmu; cases hmu
                have h1l : 0 < (cOf T.rts.length (mustR T) x).length := List.length_pos_of_mem (cOf_mem.2 ⟨y, hyT, hmu, rfl⟩)
                have h2l : 0 < (cOf T.rts.length (dropR (mustR T) x y) y).length := List.length_pos_of_mem (cOf_mem.2 ⟨x, hxT, by rw [dropR_miss _ (.inl (Ne.symm hne)), mustR_comm]; exact hmu, rfl⟩)
                have HD1 := Lib.hid (drop_any w9 T mb rb _ _ VV7 _ x (y : Int) M9.out hxT HN60.out h1l (Nat.le_trans (cOf_len _ _ _) HN60.out))
                have HD2 : Hid (∀ W VV, Made W T mb rb (.slice va m vc) (.slice ra q rcp) VV (cOf T.rts.length (dropR (mustR T) x y)) → Calls Tryz.prog 24 #[.int .i64 (y : Int), .int .i64 (x : Int), .pointer (some ⟨mb, 0, none⟩)] W fun e w' => (e = .returned (.tuple #[]) ∧ ∃ VV', Made w' T mb rb (.slice va m vc) (.slice ra q rcp) VV' (fun k => if k = y then outOf (cOf T.rts.length (dropR (mustR T) x y) y) (x : Int) else cOf T.rts.length (dropR (mustR T) x y) k)) ∧ Only (fun b => b = rb) W w') :=
                  fun W VV hM => drop_any W T mb rb _ _ VV _ y (x : Int) hM hyT HN60.out h2l (Nat.le_trans (cOf_len _ _ _) HN60.out)
                have HC3 := Lib.hid (made_one HSO.out hxT hyT hmu)
                have HC4 := Lib.hid (made_two HSO.out hxT hyT hmu)
                clear hl0 hgy hxT hyT hne h1l h2l hmu
                go_wp2_with fail
                refine HD1.out.mono ?_
                rintro e w10 ⟨⟨rfl, VV10, hM10⟩, hO10⟩
                have B10 : Hid (Below w.heap.size w w10) := B9.out.trans (hO10.below B9.out.size (fun i hi hm => by have := HNE.out; have := HBS.out; omega))
                have M10 : Hid (Made w10 T mb rb (.slice va m vc) (.slice ra q rcp) VV10 (cOf T.rts.length (dropR (mustR T) x y))) := hM10.congr (fun k _ => cOf_drop2 _ _ x y k)
                have hbx := M10.out.box
                have htab := M10.out.tab
                rw [← HTR.out, ← HSG.out] at hbx htab
                have KM10 := Lib.hid hbx
                have HK1 := Lib.hid (check_any _ _ w10 htab (big_with _ HBG.out))
                rw [HC3.out] at HK1
                clear hM10 hO10 HD1 hbx htab v0 lo hg0 hgb
                have c0 := cell_row (j := 0) KM10.out rfl
                have c1 := cell_row (j := 1) KM10.out rfl
                have c2 := cell_row (j := 2) KM10.out rfl
                have c3 := cell_row (j := 3) KM10.out rfl
                have lc := heap_lt KM10.out
                go_wp2_with fail
                (with_reducible refine HK1.out.mono ?_)
                rintro e w11 ⟨rfl, hb11⟩
                have B11 := Lib.hid (B10.out.trans (hb11.mono B10.out.size))
                have HD3 := Lib.hid (HD2.out w11 VV10 (M10.out.below hb11))
                clear c0 c1 c2 c3 lc
                clear hb11 HK1 KM10 M10 HD2
                go_wp2_with fail
                refine HD3.out.mono ?_
                rintro e w12 ⟨⟨rfl, VV12, hM12⟩, hO12⟩
                have B12 : Hid (Below w.heap.size w w12) := B11.out.trans (hO12.below B11.out.size (fun i hi hm => by have := HNE.out; have := HBS.out; omega))
                have M12 : Hid (Made w12 T mb rb (.slice va m vc) (.slice ra q rcp) VV12 (cOf T.rts.length (dropR (dropR (mustR T) x y) y x))) := hM12.congr (fun k _ => cOf_drop2 _ _ y x k)
                have hbx := M12.out.box
                have htab := M12.out.tab
                rw [← HTR.out, ← HSG.out] at hbx htab
                have KM12 := Lib.hid hbx
                have HK2 := Lib.hid (check_any _ _ w12 htab (big_with _ HBG.out))
                rw [HC4.out] at HK2
                clear hM12 hO12 HD3 hbx htab
                have c0 := cell_row (j := 0) KM12.out rfl
                have c1 := cell_row (j := 1) KM12.out rfl
                have c2 := cell_row (j := 2) KM12.out rfl
                have c3 := cell_row (j := 3) KM12.out rfl
                have lc := heap_lt KM12.out
                go_wp2_with fail
                (with_reducible refine HK2.out.mono ?_)
                rintro e w13 ⟨rfl, hb13⟩
                have B13 := Lib.hid (B12.out.trans (hb13.mono B12.out.size))
                clear c0 c1 c2 c3 lc
                clear hb13 HK2 KM12 M12
                have H := Lib.hid (HWK.out w13 B13.out)
                go_wp2_with fail
                (with_reducible refine H.out.mono ?_)
                rintro e w9 ⟨rfl, hb9⟩
                have B9 := Lib.hid (B13.out.trans (hb9.mono B13.out.size))
                go_wp2_with fail
                go_ret
                exact ⟨rfl, B9.out⟩
          case false =>
            cases t4 : (E1 == 261)
            case true =>
              have hE : E1 = 261 := beq_iff_eq.1 t4
              subst hE
              clear t3 t4
              by_cases h0 : less < 0
              · have t5 : decide (less < 0) = true := decide_eq_true h0
                have H := Lib.hid (HWK.out w9 B9.out)
                go_wp2_with fail
                (with_reducible refine H.out.mono ?_)
                rintro e w9 ⟨rfl, hb9⟩
                have B9 := Lib.hid (B9.out.trans (hb9.mono B9.out.size))
                go_wp2_with fail
                go_ret
                exact ⟨rfl, B9.out⟩
              · have t5 : decide (less < 0) = false := decide_eq_false h0
                obtain ⟨x, rfl⟩ := Int.eq_ofNat_of_zero_le (show 0 ≤ less by omega)
                rcases Nat.lt_or_ge x q with hx | hx
                case inr =>
                  have t6 : decide (q ≤ x) = true := decide_eq_true hx
                  have H := Lib.hid (HWK.out w9 B9.out)
                  go_wp2_with fail
                  (with_reducible refine H.out.mono ?_)
                  rintro e w9 ⟨rfl, hb9⟩
                  have B9 := Lib.hid (B9.out.trans (hb9.mono B9.out.size))
                  go_wp2_with fail
                  go_ret
                  exact ⟨rfl, B9.out⟩
                have t6 : decide (q ≤ x) = false := decide_eq_false (by omega)
                have HXQ := Lib.hid hx
                obtain ⟨qa, qc, hvq, _, hq2, _⟩ := (HVI9.out x hx).at_
                have v0 : w9.cell? ⟨ob, x, none⟩ = some (V x) := (HRO9.out (by omega)).cell hx
                have lo := (HRO9.out (by omega)).lt
                rw [hvq] at v0
                obtain ⟨ql, hql⟩ : ∃ z, z = (confL T x q).length := ⟨_, rfl⟩
                rw [← hql] at v0
                have HVQ := Lib.hid hvq; have HQL := Lib.hid hql
                clear h0 hvq hql
                by_cases hz : ql = 0
                · subst hz
                  have hnn : q ≤ 60 := by rw [HN.out]; exact HN60.out
                  have H := Lib.hid (HWK.out w9 B9.out)
                  go_wp2_with fail
                  (with_reducible refine H.out.mono ?_)
                  rintro e w9 ⟨rfl, hb9⟩
                  have B9 := Lib.hid (B9.out.trans (hb9.mono B9.out.size))
                  go_wp2_with fail
                  go_ret
                  exact ⟨rfl, B9.out⟩
                · have t7 : (ql == 0) = false := beq_eq_false_iff_ne.2 hz
                  have t7' : ((ql : Int) == 0) = false := beq_eq_false_iff_ne.2 (by omega)
                  have hnn : q ≤ 60 := by rw [HN.out]; exact HN60.out
                  have HIX : Hid (IntsAt w9 (.slice qa ql qc) (confL T x q)) := by show IntsAt _ _ _; rw [HQL.out, ← HVQ.out]; exact HVI9.out x HXQ.out
                  have hl0 : 0 < (confL T x q).length := by rw [← HQL.out]; omega
                  obtain ⟨y, hy, hmu, hgy⟩ : ∃ y, y < q ∧ mustR T x y = true ∧ (confL T x q).getD 0 0 = (y : Int) := by
                    have h := getD_mem hl0
                    rw [confL_cOf] at h
                    obtain ⟨y, k1, k2, k3⟩ := cOf_mem.1 h
                    exact ⟨y, k1, k2, by rw [confL_cOf]; exact k3⟩
                  obtain ⟨gb, go, rfl, hgb, hg0⟩ := HIX.out.cell hl0
                  rw [hgy, Nat.add_zero] at hg0
                  have hxT : x < T.rts.length := by rw [← HN.out]; exact HXQ.out
                  have hyT : y < T.rts.length := by rw [← HN.out]; exact hy
                  have hne : x ≠ y := by rintro rfl; rw [mustR_irr] at hmu; cases hmu
                  have h1l : 0 < (cOf T.rts.length (mustR T) x).length := List.length_pos_of_mem (cOf_mem.2 ⟨y, hyT, hmu, rfl⟩)
                  have h2l : 0 < (cOf T.rts.length (dropR (mustR T) x y) y).length := List.length_pos_of_mem (cOf_mem.2 ⟨x, hxT, by rw [dropR_miss _ (.inl (Ne.symm hne)), mustR_comm]; exact hmu, rfl⟩)
                  have HD1 := Lib.hid (drop_any w9 T mb rb _ _ VV7 _ x (y : Int) M9.out hxT HN60.out h1l (Nat.le_trans (cOf_len _ _ _) HN60.out))
                  have HD2 : Hid (∀ W VV, Made W T mb rb (.slice va m vc) (.slice ra q rcp) VV (cOf T.rts.length (dropR (mustR T) x y)) → Calls Tryz.prog 24 #[.int .i64 (y : Int), .int .i64 (x : Int), .pointer (some ⟨mb, 0, none⟩)] W fun e w' => (e = .returned (.tuple #[]) ∧ ∃ VV', Made w' T mb rb (.slice va m vc) (.slice ra q rcp) VV' (fun k => if k = y then outOf (cOf T.rts.length (dropR (mustR T) x y) y) (x : Int) else cOf T.rts.length (dropR (mustR T) x y) k)) ∧ Only (fun b => b = rb) W w') :=
                    fun W VV hM => drop_any W T mb rb _ _ VV _ y (x : Int) hM hyT HN60.out h2l (Nat.le_trans (cOf_len _ _ _) HN60.out)
                  have HC3 := Lib.hid (made_one HSO.out hxT hyT hmu)
                  have HC4 := Lib.hid (made_two HSO.out hxT hyT hmu)
                  clear hl0 hgy hxT hyT hne h1l h2l hmu
                  go_wp2_with fail
                  refine HD1.out.mono ?_
                  rintro e w10 ⟨⟨rfl, VV10, hM10⟩, hO10⟩
                  have B10 : Hid (Below w.heap.size w w10) := B9.out.trans (hO10.below B9.out.size (fun i hi hm => by have := HNE.out; have := HBS.out; omega))
                  have M10 : Hid (Made w10 T mb rb (.slice va m vc) (.slice ra q rcp) VV10 (cOf T.rts.length (dropR (mustR T) x y))) := hM10.congr (fun k _ => cOf_drop2 _ _ x y k)
                  have hbx := M10.out.box
                  have htab := M10.out.tab
                  rw [← HTR.out, ← HSG.out] at hbx htab
                  have KM10 := Lib.hid hbx
                  have HK1 := Lib.hid (check_any _ _ w10 htab (big_with _ HBG.out))
                  rw [HC3.out] at HK1
                  clear hM10 hO10 HD1 hbx htab v0 lo hg0 hgb
                  have c0 := cell_row (j := 0) KM10.out rfl
                  have c1 := cell_row (j := 1) KM10.out rfl
                  have c2 := cell_row (j := 2) KM10.out rfl
                  have c3 := cell_row (j := 3) KM10.out rfl
                  have lc := heap_lt KM10.out
                  go_wp2_with fail
                  (with_reducible refine HK1.out.mono ?_)
                  rintro e w11 ⟨rfl, hb11⟩
                  have B11 := Lib.hid (B10.out.trans (hb11.mono B10.out.size))
                  have HD3 := Lib.hid (HD2.out w11 VV10 (M10.out.below hb11))
                  clear c0 c1 c2 c3 lc
                  clear hb11 HK1 KM10 M10 HD2
                  go_wp2_with fail
                  refine HD3.out.mono ?_
                  rintro e w12 ⟨⟨rfl, VV12, hM12⟩, hO12⟩
                  have B12 : Hid (Below w.heap.size w w12) := B11.out.trans (hO12.below B11.out.size (fun i hi hm => by have := HNE.out; have := HBS.out; omega))
                  have M12 : Hid (Made w12 T mb rb (.slice va m vc) (.slice ra q rcp) VV12 (cOf T.rts.length (dropR (dropR (mustR T) x y) y x))) := hM12.congr (fun k _ => cOf_drop2 _ _ y x k)
                  have hbx := M12.out.box
                  have htab := M12.out.tab
                  rw [← HTR.out, ← HSG.out] at hbx htab
                  have KM12 := Lib.hid hbx
                  have HK2 := Lib.hid (check_any _ _ w12 htab (big_with _ HBG.out))
                  rw [HC4.out] at HK2
                  clear hM12 hO12 HD3 hbx htab
                  have c0 := cell_row (j := 0) KM12.out rfl
                  have c1 := cell_row (j := 1) KM12.out rfl
                  have c2 := cell_row (j := 2) KM12.out rfl
                  have c3 := cell_row (j := 3) KM12.out rfl
                  have lc := heap_lt KM12.out
                  go_wp2_with fail
                  (with_reducible refine HK2.out.mono ?_)
                  rintro e w13 ⟨rfl, hb13⟩
                  have B13 := Lib.hid (B12.out.trans (hb13.mono B12.out.size))
                  clear c0 c1 c2 c3 lc
                  clear hb13 HK2 KM12 M12
                  have H := Lib.hid (HWK.out w13 B13.out)
                  go_wp2_with fail
                  (with_reducible refine H.out.mono ?_)
                  rintro e w9 ⟨rfl, hb9⟩
                  have B9 := Lib.hid (B13.out.trans (hb9.mono B13.out.size))
                  go_wp2_with fail
                  go_ret
                  exact ⟨rfl, B9.out⟩
            case false =>
              by_cases h0 : less < 0
              · have t5 : decide (less < 0) = true := decide_eq_true h0
                have H := Lib.hid (HWK.out w9 B9.out)
                go_wp2_with fail
                (with_reducible refine H.out.mono ?_)
                rintro e w9 ⟨rfl, hb9⟩
                have B9 := Lib.hid (B9.out.trans (hb9.mono B9.out.size))
                go_wp2_with fail
                go_ret
                exact ⟨rfl, B9.out⟩
              · have t5 : decide (less < 0) = false := decide_eq_false h0
                obtain ⟨x, rfl⟩ := Int.eq_ofNat_of_zero_le (show 0 ≤ less by omega)
                rcases Nat.lt_or_ge x q with hx | hx
                case inr =>
                  have t6 : decide (q ≤ x) = true := decide_eq_true hx
                  have H := Lib.hid (HWK.out w9 B9.out)
                  go_wp2_with fail
                  (with_reducible refine H.out.mono ?_)
                  rintro e w9 ⟨rfl, hb9⟩
                  have B9 := Lib.hid (B9.out.trans (hb9.mono B9.out.size))
                  go_wp2_with fail
                  go_ret
                  exact ⟨rfl, B9.out⟩
                have t6 : decide (q ≤ x) = false := decide_eq_false (by omega)
                have HXQ := Lib.hid hx
                obtain ⟨qa, qc, hvq, _, hq2, _⟩ := (HVI9.out x hx).at_
                have v0 : w9.cell? ⟨ob, x, none⟩ = some (V x) := (HRO9.out (by omega)).cell hx
                have lo := (HRO9.out (by omega)).lt
                rw [hvq] at v0
                obtain ⟨ql, hql⟩ : ∃ z, z = (confL T x q).length := ⟨_, rfl⟩
                rw [← hql] at v0
                have HVQ := Lib.hid hvq; have HQL := Lib.hid hql
                clear h0 hvq hql
                by_cases hz : ql = 0
                · subst hz
                  have hnn : q ≤ 60 := by rw [HN.out]; exact HN60.out
                  have H := Lib.hid (HWK.out w9 B9.out)
                  go_wp2_with fail
                  (with_reducible refine H.out.mono ?_)
                  rintro e w9 ⟨rfl, hb9⟩
                  have B9 := Lib.hid (B9.out.trans (hb9.mono B9.out.size))
                  go_wp2_with fail
                  go_ret
                  exact ⟨rfl, B9.out⟩
                · have t7 : (ql == 0) = false := beq_eq_false_iff_ne.2 hz
                  have t7' : ((ql : Int) == 0) = false := beq_eq_false_iff_ne.2 (by omega)
                  have hnn : q ≤ 60 := by rw [HN.out]; exact HN60.out
                  have HIX : Hid (IntsAt w9 (.slice qa ql qc) (confL T x q)) := by show IntsAt _ _ _; rw [HQL.out, ← HVQ.out]; exact HVI9.out x HXQ.out
                  have hl0 : 0 < (confL T x q).length := by rw [← HQL.out]; omega
                  obtain ⟨y, hy, hmu, hgy⟩ : ∃ y, y < q ∧ mustR T x y = true ∧ (confL T x q).getD 0 0 = (y : Int) := by
                    have h := getD_mem hl0
                    rw [confL_cOf] at h
                    obtain ⟨y, k1, k2, k3⟩ := cOf_mem.1 h
                    exact ⟨y, k1, k2, by rw [confL_cOf]; exact k3⟩
                  obtain ⟨gb, go, rfl, hgb, hg0⟩ := HIX.out.cell hl0
                  rw [hgy, Nat.add_zero] at hg0
                  have hxT : x < T.rts.length := by rw [← HN.out]; exact HXQ.out
                  have hyT : y < T.rts.length := by rw [← HN.out]; exact hy
                  have hne : x ≠ y := by rintro rfl; rw [mustR_irr] at hmu; cases hmu
                  have h1l : 0 < (cOf T.rts.length (mustR T) x).length := List.length_pos_of_mem (cOf_mem.2 ⟨y, hyT, hmu, rfl⟩)
                  have h2l : 0 < (cOf T.rts.length (dropR (mustR T) x y) y).length := List.length_pos_of_mem (cOf_mem.2 ⟨x, hxT, by rw [dropR_miss _ (.inl (Ne.symm hne)), mustR_comm]; exact hmu, rfl⟩)
                  have HD1 := Lib.hid (drop_any w9 T mb rb _ _ VV7 _ x (y : Int) M9.out hxT HN60.out h1l (Nat.le_trans (cOf_len _ _ _) HN60.out))
                  have HD2 : Hid (∀ W VV, Made W T mb rb (.slice va m vc) (.slice ra q rcp) VV (cOf T.rts.length (dropR (mustR T) x y)) → Calls Tryz.prog 24 #[.int .i64 (y : Int), .int .i64 (x : Int), .pointer (some ⟨mb, 0, none⟩)] W fun e w' => (e = .returned (.tuple #[]) ∧ ∃ VV', Made w' T mb rb (.slice va m vc) (.slice ra q rcp) VV' (fun k => if k = y then outOf (cOf T.rts.length (dropR (mustR T) x y) y) (x : Int) else cOf T.rts.length (dropR (mustR T) x y) k)) ∧ Only (fun b => b = rb) W w') :=
                    fun W VV hM => drop_any W T mb rb _ _ VV _ y (x : Int) hM hyT HN60.out h2l (Nat.le_trans (cOf_len _ _ _) HN60.out)
                  have HC3 := Lib.hid (made_one HSO.out hxT hyT hmu)
                  have HC4 := Lib.hid (made_two HSO.out hxT hyT hmu)
                  clear hl0 hgy hxT hyT hne h1l h2l hmu
                  go_wp2_with fail
                  refine HD1.out.mono ?_
                  rintro e w10 ⟨⟨rfl, VV10, hM10⟩, hO10⟩
                  have B10 : Hid (Below w.heap.size w w10) := B9.out.trans (hO10.below B9.out.size (fun i hi hm => by have := HNE.out; have := HBS.out; omega))
                  have M10 : Hid (Made w10 T mb rb (.slice va m vc) (.slice ra q rcp) VV10 (cOf T.rts.length (dropR (mustR T) x y))) := hM10.congr (fun k _ => cOf_drop2 _ _ x y k)
                  have hbx := M10.out.box
                  have htab := M10.out.tab
                  rw [← HTR.out, ← HSG.out] at hbx htab
                  have KM10 := Lib.hid hbx
                  have HK1 := Lib.hid (check_any _ _ w10 htab (big_with _ HBG.out))
                  rw [HC3.out] at HK1
                  clear hM10 hO10 HD1 hbx htab v0 lo hg0 hgb
                  have c0 := cell_row (j := 0) KM10.out rfl
                  have c1 := cell_row (j := 1) KM10.out rfl
                  have c2 := cell_row (j := 2) KM10.out rfl
                  have c3 := cell_row (j := 3) KM10.out rfl
                  have lc := heap_lt KM10.out
                  go_wp2_with fail
                  (with_reducible refine HK1.out.mono ?_)
                  rintro e w11 ⟨rfl, hb11⟩
                  have B11 := Lib.hid (B10.out.trans (hb11.mono B10.out.size))
                  have HD3 := Lib.hid (HD2.out w11 VV10 (M10.out.below hb11))
                  clear c0 c1 c2 c3 lc
                  clear hb11 HK1 KM10 M10 HD2
                  go_wp2_with fail
                  refine HD3.out.mono ?_
                  rintro e w12 ⟨⟨rfl, VV12, hM12⟩, hO12⟩
                  have B12 : Hid (Below w.heap.size w w12) := B11.out.trans (hO12.below B11.out.size (fun i hi hm => by have := HNE.out; have := HBS.out; omega))
                  have M12 : Hid (Made w12 T mb rb (.slice va m vc) (.slice ra q rcp) VV12 (cOf T.rts.length (dropR (dropR (mustR T) x y) y x))) := hM12.congr (fun k _ => cOf_drop2 _ _ y x k)
                  have hbx := M12.out.box
                  have htab := M12.out.tab
                  rw [← HTR.out, ← HSG.out] at hbx htab
                  have KM12 := Lib.hid hbx
                  have HK2 := Lib.hid (check_any _ _ w12 htab (big_with _ HBG.out))
                  rw [HC4.out] at HK2
                  clear hM12 hO12 HD3 hbx htab
                  have c0 := cell_row (j := 0) KM12.out rfl
                  have c1 := cell_row (j := 1) KM12.out rfl
                  have c2 := cell_row (j := 2) KM12.out rfl
                  have c3 := cell_row (j := 3) KM12.out rfl
                  have lc := heap_lt KM12.out
                  go_wp2_with fail
                  (with_reducible refine HK2.out.mono ?_)
                  rintro e w13 ⟨rfl, hb13⟩
                  have B13 := Lib.hid (B12.out.trans (hb13.mono B12.out.size))
                  clear c0 c1 c2 c3 lc
                  clear hb13 HK2 KM12 M12
                  have H := Lib.hid (HWK.out w13 B13.out)
                  go_wp2_with fail
                  (with_reducible refine H.out.mono ?_)
                  rintro e w9 ⟨rfl, hb9⟩
                  have B9 := Lib.hid (B13.out.trans (hb9.mono B13.out.size))
                  go_wp2_with fail
                  go_ret
                  exact ⟨rfl, B9.out⟩
set_option maxRecDepth 100000 in
theorem made_walk (v0 : Value) (a1 : Int) (w : World) (h0 : ReadsW w 25 v0.cells.toList ∧ Value.okWide Tryz.prog w .any 0 25 v0) (h1 : (Lit.int .i64 a1).wf = true) (hL : LibW w) :
    Calls Tryz.prog 7 #[v0, .int .i64 a1] w fun e w' => e = .returned (.bool true) ∧ Below w.heap.size w w' := by
  obtain ⟨T, hT⟩ := reads_tab ⟨h0.1.c, h0.2⟩
  exact made_any v0 a1 T w hT (tab_sm h0.1 hT) (i64ok_of h1) hL
end Go.Proofs.YtpodedhnlicckaaGreatDoor
