/- The law AutoSteps, walked. -/
import Derived.Test.YtlfcmedhadfheaaAutStP
import Derived.Test.YtlfcmedhadfheaaAutKn
namespace Go.Proofs.Ytlfcmedhadfheaa
open Go.RowKit
set_option linter.unusedVariables false
set_option linter.unusedSimpArgs false
set_option maxRecDepth 100000 in
set_option maxHeartbeats 8000000 in
theorem autosteps_walk (v vl : Value) (T : Tab) (l : List FD) (w : World) (hT : TabAt w v T) (hsm : TSm T) (hl : FdsAt w vl l) :
    Calls Try.prog 8 #[v, vl] w fun e w' => e = .returned (.bool true) ∧ Below w.heap.size w w' := by
  have HT0 := Lib.hid hT
  obtain ⟨⟨vp, vr, rfl, hP, hr⟩, _, _⟩ := hT
  obtain ⟨a, c, C0, rfl, hlc, hcm, _⟩ := hr.at_
  obtain ⟨⟨va, vc, rfl, hvl, hvm, _⟩, _⟩ := id hP
  have HL := Lib.hid hl.ok
  obtain ⟨fa, fc, rfl, hf1, hf2, hfs⟩ := hl.at_
  have HFS := Lib.hid hfs
  have HHO := Lib.hid (fun n hn => (hr.at_.elim fun a h => h.elim fun c h => h.elim fun C h => (h.2.2.2.2 n hn).holdOk))
  obtain ⟨w1, hw1⟩ : ∃ w1, w1 = w.alloc (.cells #[.int .i64 T.tracks, .slice va T.pts.length vc, .int .i64 T.sigs, .slice a T.rts.length c] 25) := ⟨_, rfl⟩
  have B1 : Hid (Below w.heap.size w w1) := by rw [hw1]; exact tb_alloc_below _ _
  have K1 : Hid (w1.heap[w.heap.size]? = some (.cells #[.int .i64 T.tracks, .slice va T.pts.length vc, .int .i64 T.sigs, .slice a T.rts.length c] 25 (0, 0))) := by rw [hw1]; exact heap_alloc_new _ _
  have HW1 := Lib.hid hw1
  have HGR := Lib.hid (great_any (.agg #[.int .i64 T.tracks, .slice va T.pts.length vc, .int .i64 T.sigs, .slice a T.rts.length c]) T w1 (HT0.out.below B1.out) hsm)
  unfold maxLen at hvm hcm hf2
  clear hw1 hP hr hl hfs hsm
  obtain ⟨tb, htb⟩ : ∃ b, b = w.heap.size := ⟨_, rfl⟩
  have HTB := Lib.hid htb
  rw [← htb] at K1
  go_enter Try.func8, Try.ntmps8
  go_upto_region 1 with fail
  rw [← HW1.out, ← htb]
  clear htb
  have c0 := cell_row (j := 0) K1.out rfl
  have c1 := cell_row (j := 1) K1.out rfl
  have c2 := cell_row (j := 2) K1.out rfl
  have c3 := cell_row (j := 3) K1.out rfl
  have l1 := heap_lt K1.out
  go_wp2_with fail
  refine HGR.out.mono ?_
  rintro e w2 ⟨rfl, hb⟩
  have B2 := Lib.hid (B1.out.trans (hb.mono B1.out.size))
  have K2 := Lib.hid (tb_kept K1.out hb)
  clear c0 c1 c2 c3 l1
  clear hb
  obtain ⟨g, hg⟩ : ∃ g, g = greatB T := ⟨_, rfl⟩
  have HGB := Lib.hid hg
  rw [← hg]
  clear hg
  cases g
  case true =>
    go_wp2_with fail
    have HWK := Lib.hid (works_any w2)
    go_wp2_with fail
    refine HWK.out.mono ?_
    rintro e wz ⟨rfl, hbz⟩
    have BZ := Lib.hid (B2.out.trans (hbz.mono (B2.out).size))
    clear hbz HWK
    go_wp2_with fail
    go_ret
    exact ⟨rfl, BZ.out⟩
  case false =>
  have HSM := Lib.hid (small_of HGB.out.symm)
  by_cases h3 : 300 < l.length
  · have t3 : decide ((300 : Int) < (l.length : Int)) = true := decide_eq_true (by omega)
    have HWK := Lib.hid (works_any w2)
    go_wp2_with fail
    refine HWK.out.mono ?_
    rintro e wz ⟨rfl, hbz⟩
    have BZ := Lib.hid (B2.out.trans (hbz.mono (B2.out).size))
    clear hbz HWK
    go_wp2_with fail
    go_ret
    exact ⟨rfl, BZ.out⟩
  have t3 : decide ((300 : Int) < (l.length : Int)) = false := decide_eq_false (by omega)
  have c0 := cell_row (j := 0) K2.out rfl
  have c1 := cell_row (j := 1) K2.out rfl
  have c2 := cell_row (j := 2) K2.out rfl
  have c3 := cell_row (j := 3) K2.out rfl
  have l1 := heap_lt K2.out
  have HN := Lib.hid (new_any (.agg #[.int .i64 T.tracks, .slice va T.pts.length vc, .int .i64 T.sigs, .slice a T.rts.length c]) T w2 (HT0.out.below B2.out) HSM.out.big (fun h => tok_of h HHO.out))
  go_wp2_with fail
  refine HN.out.mono ?_
  rintro e w3 ⟨hb3, hif⟩
  have B3 := Lib.hid (B2.out.trans (hb3.mono B2.out.size))
  have K3 := Lib.hid (tb_kept K2.out hb3)
  clear c0 c1 c2 c3 l1
  clear hb3 HN
  have HCK := Lib.hid (rcheck_any (.agg #[.int .i64 T.tracks, .slice va T.pts.length vc, .int .i64 T.sigs, .slice a T.rts.length c]) T w3 (HT0.out.below B3.out) HSM.out.big)
  by_cases hE : checkE T = 0
  case neg =>
    rw [if_neg hE] at hif
    subst hif
    have t1 : (checkE T == 0) = false := by simpa using hE
    have t2 : (checkE T != 0) = true := by simpa using hE
    have c0 := cell_row (j := 0) K3.out rfl
    have c1 := cell_row (j := 1) K3.out rfl
    have c2 := cell_row (j := 2) K3.out rfl
    have c3 := cell_row (j := 3) K3.out rfl
    have l1 := heap_lt K3.out
    generalize checkE T = E at *
    go_wp2_with fail
    refine HCK.out.mono ?_
    rintro e w4 ⟨rfl, hb⟩
    have B4 := Lib.hid (B3.out.trans (hb.mono B3.out.size))
    clear hb
    clear c0 c1 c2 c3 l1
    have t5 : (E == E) = true := by simp
    have HWK := Lib.hid (works_any w4)
    go_wp2_with fail
    refine HWK.out.mono ?_
    rintro e wz ⟨rfl, hbz⟩
    have BZ := Lib.hid (B4.out.trans (hbz.mono (B4.out).size))
    clear hbz HWK
    go_wp2_with fail
    go_ret
    exact ⟨rfl, BZ.out⟩
  case pos =>
  rw [if_pos hE] at hif
  obtain ⟨u, rfl, hA, hTu, hu0, hfra⟩ := hif
  clear hfra
  have hTOK := (tok_of hE HHO.out).1
  have HTOK := Lib.hid hTOK
  have HE := Lib.hid hE
  have A3 := Lib.hid hA; have HTU := Lib.hid hTu
  have HUB : Hid (w2.heap.size ≤ u.w0.heap.size) := hu0
  clear hA hTu hu0
  rw [hE] at HCK
  clear hE hTOK
  have c0 := cell_row (j := 0) K3.out rfl
  have c1 := cell_row (j := 1) K3.out rfl
  have c2 := cell_row (j := 2) K3.out rfl
  have c3 := cell_row (j := 3) K3.out rfl
  have l1 := heap_lt K3.out
  go_wp2_with fail
  refine HCK.out.mono ?_
  rintro e w4 ⟨rfl, hb⟩
  have B4 := Lib.hid (B3.out.trans (hb.mono B3.out.size))
  have K4 := Lib.hid (tb_kept K3.out hb)
  have A4 := Lib.hid (A3.out.below hb)
  clear c0 c1 c2 c3 l1
  clear hb A3 K3 HCK
  have HNR := Lib.hid (rnew_any (.agg #[.int .i64 T.tracks, .slice va T.pts.length vc, .int .i64 T.sigs, .slice a T.rts.length c]) T w4 (HT0.out.below B4.out) (by have := HTOK.out.n; omega) (by have := HTOK.out.p; omega))
  have c0 := cell_row (j := 0) K4.out rfl
  have c1 := cell_row (j := 1) K4.out rfl
  have c2 := cell_row (j := 2) K4.out rfl
  have c3 := cell_row (j := 3) K4.out rfl
  have l1 := heap_lt K4.out
  go_wp2_with fail
  refine HNR.out.mono ?_
  rintro e w5 ⟨r0, ub0, lb0, rfl, hR, hrT, hr0, hrB, hrv, hb⟩
  have B5 := Lib.hid (B4.out.trans (hb.mono B4.out.size))
  have A5 := Lib.hid (A4.out.below hb)
  clear c0 c1 c2 c3 l1
  have HR0 : Hid (∃ r : Rf, r.g = r0.g ∧ r.T = T ∧ R27At w5 r as0 ub0 lb0 ∧ Sep r as0 ub0 lb0 u) := by
    refine ⟨{ r0 with w0 := w }, rfl, hrT, R27At.base hR (by rw [← hrv]; exact HT0.out) hrT hr0 B4.out, Sep.start (w := w4) (w' := w5) (S0 := as0) (R27At.base hR (by rw [← hrv]; exact HT0.out) hrT hr0 B4.out) (by rw [← hrB]; exact Nat.le_refl _) A4.out ?_⟩
    show w.heap.size ≤ _
    exact Nat.le_trans B2.out.size HUB.out
  clear hR hrT hr0 hrB hrv hb HNR A4 K4
  obtain ⟨r, hrg, hrT, hR, hSp⟩ := HR0.out
  rw [← hrg]
  have R5 := Lib.hid hR; have HRT := Lib.hid hrT; have SP5 := Lib.hid hSp
  have HUW : Hid (w.heap.size ≤ u.w0.heap.size) := Nat.le_trans B2.out.size HUB.out
  clear hR hrT hSp hrg HR0 K1 K2
  go_wp2_with fail
  go_loopw [5, 53] (fun p i wr => ∃ (k : Nat) (S : AS) (u : Au) (ub lb : Nat → Nat), k ≤ l.length ∧ p = .pointer (some ⟨u.g, 0, none⟩) ∧ i = .int .i64 k ∧ S.Ok ∧ u.T = T ∧ w.heap.size ≤ u.w0.heap.size ∧ AutoAt wr u S ∧ R27At wr r S ub lb ∧ Sep r S ub lb u ∧ Below w.heap.size w wr) (fun _ i _ => l.length - (intOf i).toNat)
  case atStart => exact ⟨0, as0, u, ub0, lb0, Nat.zero_le _, rfl, rfl, as0_ok, HTU.out, HUW.out, A5.out, R5.out, SP5.out, B5.out⟩
  case round =>
    clear A5 R5 SP5 B5 HTU HUW HUB
    obtain ⟨k, S, u, ub, lb, hk, rfl, rfl, hS, hTu, huw, hA, hR, hSp, hB⟩ := hrel
    have HS := Lib.hid hS; have HTU := Lib.hid hTu; have HUW := Lib.hid huw; have A5 := Lib.hid hA; have R5 := Lib.hid hR; have SP5 := Lib.hid hSp; have B5 := Lib.hid hB
    clear hS hTu huw hA hR hSp hB
    by_cases hlt : k < l.length
    · obtain ⟨b, off, rfl, hb, hc⟩ := HFS.out.at (by omega)
      obtain ⟨f, hf⟩ : ∃ f, f = l.getD k fd0 := ⟨_, rfl⟩
      have HFO : Hid (f.Ok) := by rw [hf]; exact HL.out k hlt
      have x0 : wr.cell? ⟨b, off + k * 6, none⟩ = some (.int .u32 (f.cl : Int)) := by rw [B5.out.cell hb, hf]; exact hc k hlt 0 (by omega)
      have x1 : wr.cell? ⟨b, off + k * 6 + 1, none⟩ = some (.int .u32 (f.no : Int)) := by rw [B5.out.cell hb, hf]; exact hc k hlt 1 (by omega)
      have x2 : wr.cell? ⟨b, off + k * 6 + 2, none⟩ = some (.int .u32 (f.re : Int)) := by rw [B5.out.cell hb, hf]; exact hc k hlt 2 (by omega)
      have x3 : wr.cell? ⟨b, off + k * 6 + 3, none⟩ = some (.int .u32 (f.ak : Int)) := by rw [B5.out.cell hb, hf]; exact hc k hlt 3 (by omega)
      have x4 : wr.cell? ⟨b, off + k * 6 + 4, none⟩ = some (.int .u32 (f.ca : Int)) := by rw [B5.out.cell hb, hf]; exact hc k hlt 4 (by omega)
      have x5 : wr.cell? ⟨b, off + k * 6 + 5, none⟩ = some (.int .u32 (f.rq : Int)) := by rw [B5.out.cell hb, hf]; exact hc k hlt 5 (by omega)
      have hbl : b < wr.heap.size := Nat.lt_of_lt_of_le hb B5.out.size
      clear hc hf hb
      obtain ⟨w5, hw5⟩ : ∃ W, W = wr.alloc (.cells #[.int .u32 (f.cl : Int), .int .u32 (f.no : Int), .int .u32 (f.re : Int), .int .u32 (f.ak : Int), .int .u32 (f.ca : Int), .int .u32 (f.rq : Int)] 38) := ⟨_, rfl⟩
      have BA5 : Hid (Below wr.heap.size wr w5) := by rw [hw5]; exact tb_alloc_below _ _
      have KX5 : Hid (w5.heap[wr.heap.size]? = some (.cells #[.int .u32 (f.cl : Int), .int .u32 (f.no : Int), .int .u32 (f.re : Int), .int .u32 (f.ak : Int), .int .u32 (f.ca : Int), .int .u32 (f.rq : Int)] 38 (0, 0))) := by rw [hw5]; exact heap_alloc_new _ _
      have HW5 := Lib.hid hw5
      have A6 := Lib.hid (A5.out.below BA5.out); have R6 := Lib.hid (R5.out.below BA5.out)
      have B6 := Lib.hid (B5.out.trans (BA5.out.mono B5.out.size))
      have HXM : Hid (¬ u.M wr.heap.size) := A5.out.notM
      have HXR : Hid (¬ Own27 r S ub lb wr.heap.size) := fun hb => absurd (R5.out.own_lt hb) (Nat.lt_irrefl _)
      have HXL : Hid (wr.heap.size < w5.heap.size ∧ u.pb < w5.heap.size ∧ u.pb ≠ wr.heap.size) := ⟨heap_lt KX5.out, by have := A6.out.pl; omega, by have := A5.out.pl; omega⟩
      have HCP := Lib.hid (copy_any u S w5 A6.out (by rw [HTU.out]; exact HTOK.out.n) (by rw [HTU.out]; exact Nat.lt_of_lt_of_le (by omega) (ckOk HE.out).n1) (by rw [HTU.out]; exact HTOK.out.p))
      clear hw5
      go_upto_region 13 with fail
      rw [← HW5.out]
      clear x0 x1 x2 x3 x4 x5 hbl
      obtain ⟨xb, hxb⟩ : ∃ n, n = wr.heap.size := ⟨_, rfl⟩
      rw [← hxb] at KX5 HXM HXR HXL ⊢
      clear hxb HW5 BA5 A5 R5 B5
      go_wp2_with fail
      refine HCP.out.mono ?_
      rintro e w6 ⟨c, rfl, hc, hcT, hcw, hg1, hg2, hg3, hg4, hb⟩
      have C7 := Lib.hid hc; have HCT : Hid (c.T = T) := hcT.trans HTU.out
      have A7 := Lib.hid (A6.out.below hb); have R7 := Lib.hid (R6.out.below hb); have X7 := Lib.hid (tb_kept KX5.out hb)
      have B7 := Lib.hid (B6.out.trans (hb.mono B6.out.size))
      have TW7 := Lib.hid (copied A6.out hc hcT hcw hg1 hg2 hg3 hg4)
      have SC7 := Lib.hid (Sep.copied SP5.out R6.out A6.out hcw hg1 hg2 hg3 hg4)
      have HXC : Hid (¬ c.M xb) := fun hm => by
        have := HXL.out
        rcases hm with e | e
        · omega
        · by_cases h0 : 0 < u.T.pts.length
          · have := hg3 h0; omega
          · have := hg4 (by omega); omega
      clear hc hcT hcw hg1 hg2 hg3 hg4 hb HCP A6 R6 B6 KX5
      have y0 := cell_row (j := 0) X7.out rfl; have y1 := cell_row (j := 1) X7.out rfl; have y2 := cell_row (j := 2) X7.out rfl
      have y3 := cell_row (j := 3) X7.out rfl; have y4 := cell_row (j := 4) X7.out rfl; have y5 := cell_row (j := 5) X7.out rfl
      have ly := heap_lt X7.out
      obtain ⟨S1, hS1⟩ : ∃ S1, S1 = stepS T f S := ⟨_, rfl⟩
      obtain ⟨n, hn⟩ : ∃ n, n = orderS T f S1 := ⟨_, rfl⟩
      have HSO1 : Hid (S1.Ok) := by show S1.Ok; rw [hS1]; exact stepS_ok HTOK.out f HS.out
      have HS1 := Lib.hid hS1; have HN1 := Lib.hid hn
      have HRS : Hid (Calls Try.prog 20 #[.pointer (some ⟨r.g, 0, none⟩), .agg #[.int .u32 (f.cl : Int), .int .u32 (f.no : Int), .int .u32 (f.re : Int), .int .u32 (f.ak : Int), .int .u32 (f.ca : Int), .int .u32 (f.rq : Int)]] w6 fun e w' => e = .returned (.agg #[.int .u32 (n.pr : Int), .int .u32 (n.no : Int), .int .u32 (n.re : Int), .int .u32 (n.lo : Int)]) ∧ UnderP r S ub lb w6 S1 w') := by
        refine (rstep_any R7.out HFO.out (by rw [HRT.out]; exact HTOK.out) (by rw [HRT.out, ← hS1]; exact HSO1.out)).mono ?_
        rintro e V ⟨h1, h2⟩
        rw [HRT.out, ← hS1] at h1 h2
        rw [← hn] at h1
        exact ⟨h1, h2⟩
      clear hS1 hn
      go_wp2_with fail
      refine HRS.out.mono ?_
      rintro e w7 ⟨rfl, ub1, lb1, hR, hO, hown⟩
      have R8 := Lib.hid hR
      have A8 := Lib.hid (SP5.out.keepA A7.out hO); have C8 := Lib.hid (SC7.out.keepA C7.out hO)
      have SP8 := Lib.hid (SP5.out.step A7.out hown); have SC8 := Lib.hid (SC7.out.step C7.out hown)
      have X8 : Hid (w7.heap[xb]? = some (.cells #[.int .u32 (f.cl : Int), .int .u32 (f.no : Int), .int .u32 (f.re : Int), .int .u32 (f.ak : Int), .int .u32 (f.ca : Int), .int .u32 (f.rq : Int)] 38 (0, 0))) := (hO.block _ (heap_lt X7.out) HXR.out).trans X7.out
      have B8 : Hid (Below w.heap.size w w7) := Only.toBelow B7.out hO (fun b hb => Nat.le_trans HUW.out (SP5.out.own b (.inl hb)).2.2.2) B7.out.size
      clear hR hO hown y0 y1 y2 y3 y4 y5 ly HRS A7 C7 R7 X7 B7 SP5 SC7
      obtain ⟨w8, hw8⟩ : ∃ W, W = w7.alloc (.cells #[.int .u32 (n.pr : Int), .int .u32 (n.no : Int), .int .u32 (n.re : Int), .int .u32 (n.lo : Int)] 36) := ⟨_, rfl⟩
      have BA8 : Hid (Below w7.heap.size w7 w8) := by rw [hw8]; exact tb_alloc_below _ _
      have N9 : Hid (w8.heap[w7.heap.size]? = some (.cells #[.int .u32 (n.pr : Int), .int .u32 (n.no : Int), .int .u32 (n.re : Int), .int .u32 (n.lo : Int)] 36 (0, 0))) := by rw [hw8]; exact heap_alloc_new _ _
      have P9 : Hid (Pz w w8 r S1 ub1 lb1 u c S S xb w7.heap.size f n) := ⟨A8.out.below BA8.out, C8.out.below BA8.out, R8.out.below BA8.out, tb_kept X8.out BA8.out, N9.out, B8.out.trans (BA8.out.mono B8.out.size)⟩
      have HG : Hid (Gz w r S1 ub1 lb1 u c xb w7.heap.size) := ⟨TW7.out.1, TW7.out.2, SP8.out, SC8.out, HXM.out, HXC.out, A8.out.notM, C8.out.notM, HUW.out⟩
      have HW8 := Lib.hid hw8
      clear hw8
      go_upto_region 15 with fail
      rw [← HW8.out]
      obtain ⟨nb, hnb⟩ : ∃ n, n = w7.heap.size := ⟨_, rfl⟩
      rw [← hnb] at P9 HG ⊢
      clear hnb HW8 BA8 A8 C8 R8 X8 B8 N9 SP8 SC8 TW7 HXM HXC HXR HXL
      have HSC : Hid (∀ W Sa, Pz w W r S1 ub1 lb1 u c Sa S xb nb f n → Calls Try.prog 13 #[.pointer (some ⟨c.g, 0, none⟩), .agg #[.int .u32 (f.cl : Int), .int .u32 (f.no : Int), .int .u32 (f.re : Int), .int .u32 (f.ak : Int), .int .u32 (f.ca : Int), .int .u32 (f.rq : Int)]] W fun e w' => e = .returned (.agg #[.int .u32 (n.pr : Int), .int .u32 (n.no : Int), .int .u32 (n.re : Int), .int .u32 (n.lo : Int)]) ∧ Pz w w' r S1 ub1 lb1 u c Sa S1 xb nb f n) := fun W Sa h => by
        refine (step_any c S f W h.c HFO.out (by rw [HCT.out]; exact HTOK.out) HS.out).mono ?_
        rintro e V ⟨h1, h2, h3⟩
        rw [HCT.out, ← HS1.out] at h1 h2
        rw [← HN1.out] at h1
        exact ⟨h1, h.stepC HG.out h2 h3⟩
      have HSA : Hid (∀ W Sc, Pz w W r S1 ub1 lb1 u c S Sc xb nb f n → Calls Try.prog 13 #[.pointer (some ⟨u.g, 0, none⟩), .agg #[.int .u32 (f.cl : Int), .int .u32 (f.no : Int), .int .u32 (f.re : Int), .int .u32 (f.ak : Int), .int .u32 (f.ca : Int), .int .u32 (f.rq : Int)]] W fun e w' => e = .returned (.agg #[.int .u32 (n.pr : Int), .int .u32 (n.no : Int), .int .u32 (n.re : Int), .int .u32 (n.lo : Int)]) ∧ Pz w w' r S1 ub1 lb1 u c S1 Sc xb nb f n) := fun W Sc h => by
        refine (step_any u S f W h.a HFO.out (by rw [HTU.out]; exact HTOK.out) HS.out).mono ?_
        rintro e V ⟨h1, h2, h3⟩
        rw [HTU.out, ← HS1.out] at h1 h2
        rw [← HN1.out] at h1
        exact ⟨h1, h.stepA HG.out h2 h3⟩
      have HSV : Hid (∀ W Sa Sc, Pz w W r S1 ub1 lb1 u c Sa Sc xb nb f n → (W.cell? ⟨xb, 0, none⟩ = some (.int .u32 (f.cl : Int)) ∧ W.cell? ⟨xb, 1, none⟩ = some (.int .u32 (f.no : Int)) ∧ W.cell? ⟨xb, 2, none⟩ = some (.int .u32 (f.re : Int)) ∧ W.cell? ⟨xb, 3, none⟩ = some (.int .u32 (f.ak : Int)) ∧ W.cell? ⟨xb, 4, none⟩ = some (.int .u32 (f.ca : Int)) ∧ W.cell? ⟨xb, 5, none⟩ = some (.int .u32 (f.rq : Int))) ∧ (W.cell? ⟨nb, 0, none⟩ = some (.int .u32 (n.pr : Int)) ∧ W.cell? ⟨nb, 1, none⟩ = some (.int .u32 (n.no : Int)) ∧ W.cell? ⟨nb, 2, none⟩ = some (.int .u32 (n.re : Int)) ∧ W.cell? ⟨nb, 3, none⟩ = some (.int .u32 (n.lo : Int)))) := fun W Sa Sc h =>
        ⟨⟨cell_row (j := 0) h.x rfl, cell_row (j := 1) h.x rfl, cell_row (j := 2) h.x rfl, cell_row (j := 3) h.x rfl, cell_row (j := 4) h.x rfl, cell_row (j := 5) h.x rfl⟩,
          cell_row (j := 0) h.n rfl, cell_row (j := 1) h.n rfl, cell_row (j := 2) h.n rfl, cell_row (j := 3) h.n rfl⟩
      have P10 := Lib.hid (P9.out.below (V := w8.drew) ⟨rfl, rfl, rfl, Nat.le_refl _, fun _ _ => rfl⟩)
      clear P9
      go_region_held3 (fun W => (W.cell? ⟨xb, 0, none⟩ = some (.int .u32 (f.cl : Int)) ∧ W.cell? ⟨xb, 1, none⟩ = some (.int .u32 (f.no : Int)) ∧ W.cell? ⟨xb, 2, none⟩ = some (.int .u32 (f.re : Int)) ∧ W.cell? ⟨xb, 3, none⟩ = some (.int .u32 (f.ak : Int)) ∧ W.cell? ⟨xb, 4, none⟩ = some (.int .u32 (f.ca : Int)) ∧ W.cell? ⟨xb, 5, none⟩ = some (.int .u32 (f.rq : Int))) ∧ (W.cell? ⟨nb, 0, none⟩ = some (.int .u32 (n.pr : Int)) ∧ W.cell? ⟨nb, 1, none⟩ = some (.int .u32 (n.no : Int)) ∧ W.cell? ⟨nb, 2, none⟩ = some (.int .u32 (n.re : Int)) ∧ W.cell? ⟨nb, 3, none⟩ = some (.int .u32 (n.lo : Int))))
        (first | exact HSV.out _ _ _ P12.out | exact HSV.out _ _ _ P11.out | exact HSV.out _ _ _ P10.out)
        (first
          | (have _tok := P11; go_at_call 13; (with_reducible refine (HSA.out _ _ P11.out).mono ?_); rintro e wq ⟨rfl, hh⟩; have P12 := Lib.hid hh; clear hh)
          | (go_at_call 13; (with_reducible refine (HSC.out _ _ P10.out).mono ?_); rintro e wp ⟨rfl, hh⟩; have P11 := Lib.hid hh; clear hh))
      rename_i hheld
      clear hheld P10 P11 HSA HSC HSV
      have g4 : wq.cell? ⟨r.g, 4, none⟩ = some (.slice (some ⟨r.rb, 0, none⟩) T.rts.length T.rts.length) := by rw [← HRT.out]; exact cell_row (j := 4) P12.out.r.obj rfl
      have lg := heap_lt P12.out.r.obj
      have hN16 := HTOK.out.n
      go_wp2_with fail
      clear g4 lg
      go_loopw [80] (fun i wr => ∃ m : Nat, m ≤ T.rts.length ∧ i = .int .i64 m ∧ Pz w wr r S1 ub1 lb1 u c S1 S1 xb nb f n) (fun i _ => T.rts.length - (intOf i).toNat)
      case atStart => exact ⟨0, Nat.zero_le _, rfl, P12.out⟩
      case round =>
        clear P12
        obtain ⟨m, hm, rfl, hP⟩ := hrel
        have P13 := Lib.hid hP
        clear hP
        by_cases hltm : m < T.rts.length
        case pos =>
          obtain ⟨a1, L1, a2, L2, e1, e2, hL1, hL2, hsl, hu1, hu2⟩ := P13.out.r.lists (n := m) (by rw [HRT.out]; exact hltm) (by rw [HRT.out]; have := (HTOK.out.tl m hltm).2; omega)
          have row := P13.out.r.rs
          have x0 : wr.cell? ⟨r.rb, m * 4, none⟩ = some (.int .i64 ((S1.R m).ph : Int)) := by rw [row.cell (by rw [HRT.out]; omega), r27V_0]
          have x1 : wr.cell? ⟨r.rb, m * 4 + 1, none⟩ = some (.int .i64 ((S1.R m).tm : Int)) := by rw [row.cell (by rw [HRT.out]; omega), r27V_1]
          have x2 : wr.cell? ⟨r.rb, m * 4 + 2, none⟩ = some (.slice a1 L1 L1) := by rw [row.cell (by rw [HRT.out]; omega), r27V_2, e1]
          have x3 : wr.cell? ⟨r.rb, m * 4 + 3, none⟩ = some (.slice a2 L2 L2) := by rw [row.cell (by rw [HRT.out]; omega), r27V_3, e2]
          have lr := row.lt
          have hq0 := HSO1.out.R m
          have HRQ : Hid (∀ W k, AutoAt W u S1 → Calls Try.prog 15 #[.pointer (some ⟨u.g, 0, none⟩), .int .i64 k] W fun e w' => e = .returned (S1.at T.rts.length k).val ∧ Below W.heap.size W w') := fun W k h => by
            have := route_at u S1 k W h (by rw [HTU.out]; exact hN16)
            rw [HTU.out] at this
            exact this
          have HAT : Hid (S1.at T.rts.length (m : Int) = S1.R m ∧ S1.at T.rts.length (-1 - (m : Int)) = rs0 ∧ S1.at T.rts.length ((m : Int) + (T.rts.length : Int)) = rs0) := by
            refine ⟨?_, ?_, ?_⟩
            · unfold AS.at; rw [if_pos ⟨by omega, by omega⟩]; rfl
            · unfold AS.at; rw [if_neg (by omega)]
            · unfold AS.at; rw [if_neg (by omega)]
          obtain ⟨q, hq⟩ : ∃ q, q = S1.R m := ⟨_, rfl⟩
          rw [← hq] at x0 x1 HAT hsl hu1 hu2 hq0
          have HB1 := Lib.hid (fun W hW => rbits_any a1 q.us L1 L1 W (hsl W hW).1 hL1)
          have HB2 := Lib.hid (fun W hW => rbits_any a2 q.rl L2 L2 W (hsl W hW).2 hL2)
          rw [hu1] at HB1
          rw [hu2] at HB2
          have hq1 := hq0.ph; have hq2 := hq0.tm
          clear hq hu1 hu2 hq0 hsl e1 e2 row
          have hw8 : IntKind.u8.wrap (q.ph : Int) = (q.ph : Int) := IntWalk.u8_in _ ⟨by omega, by omega⟩
          have hw16 : IntKind.u16.wrap (q.tm : Int) = (q.tm : Int) := IntWalk.u16_in _ ⟨by omega, by omega⟩
          obtain ⟨w10, hw10⟩ : ∃ W, W = wr.alloc (.cells #[.int .i64 (q.ph : Int), .int .i64 (q.tm : Int), .slice a1 L1 L1, .slice a2 L2 L2] 61) := ⟨_, rfl⟩
          have BA10 : Hid (Below wr.heap.size wr w10) := by rw [hw10]; exact tb_alloc_below _ _
          have N10 : Hid (w10.heap[wr.heap.size]? = some (.cells #[.int .i64 (q.ph : Int), .int .i64 (q.tm : Int), .slice a1 L1 L1, .slice a2 L2 L2] 61 (0, 0))) := by rw [hw10]; exact heap_alloc_new _ _
          have HW10 := Lib.hid hw10
          clear hw10
          go_upto_region 20 with fail
          rw [← HW10.out]
          have HSV : Hid (∀ W, Below w10.heap.size w10 W → (W.cell? ⟨wr.heap.size, 0, none⟩ = some (.int .i64 (q.ph : Int)) ∧ W.cell? ⟨wr.heap.size, 1, none⟩ = some (.int .i64 (q.tm : Int)) ∧ W.cell? ⟨wr.heap.size, 2, none⟩ = some (.slice a1 L1 L1) ∧ W.cell? ⟨wr.heap.size, 3, none⟩ = some (.slice a2 L2 L2)) ∧ wr.heap.size < W.heap.size) := fun W hW => by
            have h1 := tb_kept N10.out hW
            exact ⟨⟨cell_row h1 rfl, cell_row h1 rfl, cell_row h1 rfl, cell_row h1 rfl⟩, heap_lt h1⟩
          have BW : Hid (∀ W, Below w10.heap.size w10 W → Below wr.heap.size wr W) := fun W hW => BA10.out.trans (hW.mono BA10.out.size)
          obtain ⟨gb, hgb⟩ : ∃ n, n = wr.heap.size := ⟨_, rfl⟩
          rw [← hgb] at HSV ⊢
          clear x0 x1 x2 x3 lr hgb HW10 N10 BA10
          have BD : Hid (Below w10.heap.size w10 w10.drew) := ⟨rfl, rfl, rfl, Nat.le_refl _, fun _ _ => rfl⟩
          have BR : Hid (Below w10.heap.size w10 w10) := Below.refl _ _
          go_region_held3 (fun W => (W.cell? ⟨gb, 0, none⟩ = some (.int .i64 (q.ph : Int)) ∧ W.cell? ⟨gb, 1, none⟩ = some (.int .i64 (q.tm : Int)) ∧ W.cell? ⟨gb, 2, none⟩ = some (.slice a1 L1 L1) ∧ W.cell? ⟨gb, 3, none⟩ = some (.slice a2 L2 L2)) ∧ gb < W.heap.size)
            (first | exact HSV.out _ BD.out | exact HSV.out _ (Below.drew (Below.alloc' BR.out _)) | exact HSV.out _ (Below.alloc' BD.out _))
            (first | (go_at_call 21; (with_reducible refine (HB1.out _ (BW.out _ BD.out)).mono ?_); rintro e wb ⟨rfl, rfl⟩) | (go_at_call 21; (with_reducible refine (HB1.out _ (BW.out _ (Below.drew (Below.alloc' BR.out _)))).mono ?_); rintro e wb ⟨rfl, rfl⟩) | (go_at_call 21; (with_reducible refine (HB1.out _ (BW.out _ (Below.alloc' BD.out _))).mono ?_); rintro e wb ⟨rfl, rfl⟩) | (go_at_call 21; (with_reducible refine (HB2.out _ (BW.out _ BD.out)).mono ?_); rintro e wb ⟨rfl, rfl⟩) | (go_at_call 21; (with_reducible refine (HB2.out _ (BW.out _ (Below.drew (Below.alloc' BR.out _)))).mono ?_); rintro e wb ⟨rfl, rfl⟩) | (go_at_call 21; (with_reducible refine (HB2.out _ (BW.out _ (Below.alloc' BD.out _))).mono ?_); rintro e wb ⟨rfl, rfl⟩))
          all_goals
            rename_i hheld
            clear hheld
            obtain ⟨w11, hw11⟩ : ∃ W, W = w10.alloc (.cells #[.int .u8 (q.ph : Int), .int .u16 (q.tm : Int), .int .u32 (q.us : Int), .int .u32 (q.rl : Int)] 48) := ⟨_, rfl⟩
            have BA11 : Hid (Below w10.heap.size w10 w11) := by rw [hw11]; exact tb_alloc_below _ _
            have N11 : Hid (w11.drew.heap[w10.heap.size]? = some (.cells #[.int .u8 (q.ph : Int), .int .u16 (q.tm : Int), .int .u32 (q.us : Int), .int .u32 (q.rl : Int)] 48 (0, 0))) := by rw [hw11]; exact heap_alloc_new _ _
            rw [← hw11]
            have P14 : Hid (Pz w w11.drew r S1 ub1 lb1 u c S1 S1 xb nb f n) := P13.out.below (BW.out _ BA11.out).drew
            clear hw11 BA11 hw8 hw16 BD BR BW HSV
            generalize w11.drew = w12 at *
            obtain ⟨qb, hqb⟩ : ∃ b, b = w10.heap.size := ⟨_, rfl⟩
            rw [← hqb] at N11 ⊢
            clear hqb
            go_upto_region 21 with fail
            have lg := heap_lt P14.out.r.obj; have lb := heap_lt N11.out
            have g4 : w12.cell? ⟨r.g, 4, none⟩ = some (.slice (some ⟨r.rb, 0, none⟩) T.rts.length T.rts.length) := by rw [← HRT.out]; exact cell_row (j := 4) P14.out.r.obj rfl
            have q0 := cell_row (j := 0) N11.out rfl; have q1 := cell_row (j := 1) N11.out rfl; have q2 := cell_row (j := 2) N11.out rfl; have q3 := cell_row (j := 3) N11.out rfl
            obtain ⟨U, fU, hUn, hU1, hU2⟩ := class_of (fun V => Below w12.heap.size w12 V) (W := w12.drew) ⟨rfl, rfl, rfl, Nat.le_refl _, fun _ _ => rfl⟩
            have HU1 := Lib.hid hU1; have HU2 := Lib.hid hU2
            clear hU1 hU2
            have hfm : (Try.prog).follows .mixedOrders = true := by kernel_rfl
            obtain ⟨qn, hd1⟩ : ∃ q : Nat, 1 ≤ q := ⟨1, Nat.le_refl _⟩
            have z4 := fun uu => ((HU1.out uu).cell lg).trans g4
            have z0 := fun uu => ((HU1.out uu).cell lb).trans q0
            have z1 := fun uu => ((HU1.out uu).cell lb).trans q1
            have z2 := fun uu => ((HU1.out uu).cell lb).trans q2
            have z3 := fun uu => ((HU1.out uu).cell lb).trans q3
            have h0_HR0 : ∀ uu, Calls Try.prog 15 #[.pointer (some ⟨u.g, 0, none⟩), .int .i64 (m : Int)] (fU uu) fun e w' => e = .returned (.agg #[.int .u8 (q.ph : Int), .int .u16 (q.tm : Int), .int .u32 (q.us : Int), .int .u32 (q.rl : Int)]) ∧ Below (fU uu).heap.size (fU uu) w' := fun uu => (HRQ.out (fU uu) _ (P14.out.a.below (HU1.out uu))).mono (fun e w' ⟨h1, h2⟩ => ⟨h1.trans (by rw [HAT.out.1]; rfl), h2⟩)
            have HR0 : Hid (∀ uu, CallsIn Fence.wide (qn - 1) Try.prog 15 #[.pointer (some ⟨u.g, 0, none⟩), .int .i64 (m : Int)] (fU uu) fun e w' => e = .returned (.agg #[.int .u8 (q.ph : Int), .int .u16 (q.tm : Int), .int .u32 (q.us : Int), .int .u32 (q.rl : Int)]) ∧ ∃ uu', w' = fU uu') := fun uu => (callsIn_wide.2 (h0_HR0 uu)).mono (fun e w' ⟨he, hb⟩ => ⟨he, HU2.out _ ((HU1.out uu).trans (hb.mono (HU1.out uu).size))⟩)
            have hf_HR0 : Fence.wide.fn 15 := trivial
            clear h0_HR0
            have h0_HR1 : ∀ uu, Calls Try.prog 15 #[.pointer (some ⟨u.g, 0, none⟩), .int .i64 (-1 - (m : Int))] (fU uu) fun e w' => e = .returned (.agg #[.int .u8 0, .int .u16 0, .int .u32 0, .int .u32 0]) ∧ Below (fU uu).heap.size (fU uu) w' := fun uu => (HRQ.out (fU uu) _ (P14.out.a.below (HU1.out uu))).mono (fun e w' ⟨h1, h2⟩ => ⟨h1.trans (by rw [HAT.out.2.1]; rfl), h2⟩)
            have HR1 : Hid (∀ uu, CallsIn Fence.wide (qn - 1) Try.prog 15 #[.pointer (some ⟨u.g, 0, none⟩), .int .i64 (-1 - (m : Int))] (fU uu) fun e w' => e = .returned (.agg #[.int .u8 0, .int .u16 0, .int .u32 0, .int .u32 0]) ∧ ∃ uu', w' = fU uu') := fun uu => (callsIn_wide.2 (h0_HR1 uu)).mono (fun e w' ⟨he, hb⟩ => ⟨he, HU2.out _ ((HU1.out uu).trans (hb.mono (HU1.out uu).size))⟩)
            have hf_HR1 : Fence.wide.fn 15 := trivial
            clear h0_HR1
            have h0_HR2 : ∀ uu, Calls Try.prog 15 #[.pointer (some ⟨u.g, 0, none⟩), .int .i64 ((m : Int) + (T.rts.length : Int))] (fU uu) fun e w' => e = .returned (.agg #[.int .u8 0, .int .u16 0, .int .u32 0, .int .u32 0]) ∧ Below (fU uu).heap.size (fU uu) w' := fun uu => (HRQ.out (fU uu) _ (P14.out.a.below (HU1.out uu))).mono (fun e w' ⟨h1, h2⟩ => ⟨h1.trans (by rw [HAT.out.2.2]; rfl), h2⟩)
            have HR2 : Hid (∀ uu, CallsIn Fence.wide (qn - 1) Try.prog 15 #[.pointer (some ⟨u.g, 0, none⟩), .int .i64 ((m : Int) + (T.rts.length : Int))] (fU uu) fun e w' => e = .returned (.agg #[.int .u8 0, .int .u16 0, .int .u32 0, .int .u32 0]) ∧ ∃ uu', w' = fU uu') := fun uu => (callsIn_wide.2 (h0_HR2 uu)).mono (fun e w' ⟨he, hb⟩ => ⟨he, HU2.out _ ((HU1.out uu).trans (hb.mono (HU1.out uu).size))⟩)
            have hf_HR2 : Fence.wide.fn 15 := trivial
            clear h0_HR2
            clear g4 q0 q1 q2 q3
            refine (wpIn_wide (n := qn)).1 ?_
            refine wpIn_region_cls fU (by kernel_rfl) hfm (by kernel_rfl) (HU2.out _ ⟨rfl, rfl, rfl, Nat.le_refl _, fun _ _ => rfl⟩) ?_
            repeat (gi_big_quiet_step (first | (gi_at_call 15; (with_reducible exact HR0.out _)) | (gi_at_call 15; (with_reducible exact HR1.out _)) | (gi_at_call 15; (with_reducible exact HR2.out _))))
            refine wpQuietIn_nil ?_
            rintro w13 ⟨uu, rfl⟩
            have P15 := Lib.hid (P14.out.below (HU1.out uu))
            clear z4 z0 z1 z2 z3 HU1 HU2 HR0 HR1 HR2 hf_HR0 hf_HR1 hf_HR2 lg lb
            generalize fU uu = w13 at *
            go_wp2_with fail
            go_roundw
            case rel => exact ⟨m + 1, by omega, by go_num, P15.out⟩
            case measure => simp [intOf]; omega
        case neg =>
          have hk300 : k < 300 := by omega
          by_cases h7 : k % 7 = 6
          · have t7 : (((k : Int).tmod 7) == 6) = true := by rw [Int.tmod_eq_emod_of_nonneg (by omega)]; simpa using (show (k : Int) % 7 = 6 by omega)
            go_wp2_with fail
            go_roundw
            case rel => exact ⟨k + 1, S1, c, ub1, lb1, by omega, rfl, by go_num, HSO1.out, HCT.out, by rw [HG.out.t1.w0]; exact HUW.out, P13.out.c, P13.out.r, HG.out.s2, P13.out.bel⟩
            case measure => simp [intOf]; omega
          · have t7 : (((k : Int).tmod 7) == 6) = false := by rw [Int.tmod_eq_emod_of_nonneg (by omega)]; simpa using (show ¬ (k : Int) % 7 = 6 by omega)
            go_wp2_with fail
            go_roundw
            case rel => exact ⟨k + 1, S1, u, ub1, lb1, by omega, rfl, by go_num, HSO1.out, HTU.out, HUW.out, P13.out.a, P13.out.r, HG.out.s1, P13.out.bel⟩
            case measure => simp [intOf]; omega
    · have hkl : k = l.length := by omega
      have HWK := Lib.hid (works_any wr)
      go_wp2_with fail
      refine HWK.out.mono ?_
      rintro e wz ⟨rfl, hbz⟩
      have BZ := Lib.hid (B5.out.trans (hbz.mono (B5.out).size))
      clear hbz HWK
      go_wp2_with fail
      go_ret
      exact ⟨rfl, BZ.out⟩
set_option maxRecDepth 100000 in
theorem steps_any (v0 : Value) (a1 : Option Addr) (len1 cap1 : Nat) (w : World) (h0 : ReadsW w 25 v0.cells.toList ∧ Value.okWide Try.prog w .any 0 25 v0) (h1 : ReadsC w 26 [.slice a1 len1 cap1]) :
    Calls Try.prog 8 #[v0, .slice a1 len1 cap1] w fun e w' => e = .returned (.bool true) ∧ Below w.heap.size w w' := by
  obtain ⟨T, hT⟩ := reads_tab ⟨h0.1.c, h0.2⟩
  obtain ⟨l, hl⟩ := reads_fds h1
  exact autosteps_walk v0 _ T l w hT (tab_sm h0.1 hT) hl
end Go.Proofs.Ytlfcmedhadfheaa
