/- The law AutoBits, walked. -/
import Derived.Test.YtlfcmedhadfheaaAutB
namespace Go.Proofs.Ytlfcmedhadfheaa
open Go.RowKit
set_option linter.unusedVariables false
set_option linter.unusedSimpArgs false
theorem RtsAt.holds {w : World} {v : Value} {l : List Rt} (h : RtsAt w v l) : ∀ n, n < l.length → (l.getD n rt0).hold < 65536 := by
  obtain ⟨a, c, C, _, _, _, _, hR⟩ := h.at_
  exact fun n hn => (hR n hn).holdOk
set_option maxRecDepth 100000 in
set_option maxHeartbeats 8000000 in
theorem bits_walk (v vl : Value) (T : Tab) (l : List FD) (z : Nat) (w : World) (hT : TabAt w v T) (hsm : TSm T) (hl : FdsAt w vl l) (hz : z < 4294967296) :
    Calls Try.prog 5 #[v, vl, .int .u32 (z : Int)] w fun e w' => e = .returned (.bool true) ∧ Below w.heap.size w w' := by
  have HT0 := Lib.hid hT
  obtain ⟨⟨vp, vr, rfl, hP, hr⟩, _, _⟩ := hT
  obtain ⟨a, c, C0, rfl, hlc, hcm, _⟩ := hr.at_
  obtain ⟨⟨va, vc, rfl, hvl, hvm, _⟩, _⟩ := id hP
  have HL := Lib.hid hl.ok
  obtain ⟨fa, fc, rfl, hf1, hf2, hfs⟩ := hl.at_
  have HFS := Lib.hid hfs
  have HHO := Lib.hid hr.holds
  have HZ := Lib.hid hz
  obtain ⟨w1, hw1⟩ : ∃ w1, w1 = w.alloc (.cells #[.int .i64 T.tracks, .slice va T.pts.length vc, .int .i64 T.sigs, .slice a T.rts.length c] 25) := ⟨_, rfl⟩
  have B1 : Hid (Below w.heap.size w w1) := by rw [hw1]; exact tb_alloc_below _ _
  have K1 : Hid (w1.heap[w.heap.size]? = some (.cells #[.int .i64 T.tracks, .slice va T.pts.length vc, .int .i64 T.sigs, .slice a T.rts.length c] 25 (0, 0))) := by rw [hw1]; exact heap_alloc_new _ _
  have HW1 := Lib.hid hw1
  have HGR := Lib.hid (great_any (.agg #[.int .i64 T.tracks, .slice va T.pts.length vc, .int .i64 T.sigs, .slice a T.rts.length c]) T w1 (HT0.out.below B1.out) hsm)
  unfold maxLen at hvm hcm hf2
  clear hw1 hP hr hl hfs hsm hz
  obtain ⟨tb, htb⟩ : ∃ b, b = w.heap.size := ⟨_, rfl⟩
  have HTB := Lib.hid htb
  rw [← htb] at K1
  go_enter Try.func5, Try.ntmps5
  go_upto_region 1 with fail
  rw [← HW1.out, ← htb]
  clear htb
  have c0 := cell_row (j := 0) K1.out rfl
  have c1 := cell_row (j := 1) K1.out rfl
  have c2 := cell_row (j := 2) K1.out rfl
  have c3 := cell_row (j := 3) K1.out rfl
  have l1 := heap_lt K1.out
  go_wp2_with fail
  refine HGR.out.mono ?_
  rintro e w2 ⟨rfl, hb⟩
  have B2 := Lib.hid (B1.out.trans (hb.mono B1.out.size))
  have K2 := Lib.hid (tb_kept K1.out hb)
  clear c0 c1 c2 c3 l1
  clear hb
  obtain ⟨g, hg⟩ : ∃ g, g = greatB T := ⟨_, rfl⟩
  have HGB := Lib.hid hg
  rw [← hg]
  clear hg
  cases g
  case true =>
    go_wp2_with fail
    have HWK := Lib.hid (works_any w2)
    go_wp2_with fail
    refine HWK.out.mono ?_
    rintro e wz ⟨rfl, hbz⟩
    have BZ := Lib.hid (B2.out.trans (hbz.mono (B2.out).size))
    clear hbz HWK
    go_wp2_with fail
    go_ret
    exact ⟨rfl, BZ.out⟩
  case false =>
  have HSM := Lib.hid (small_of HGB.out.symm)
  by_cases h3 : 300 < l.length
  · have t3 : decide ((300 : Int) < (l.length : Int)) = true := decide_eq_true (by omega)
    have HWK := Lib.hid (works_any w2)
    go_wp2_with fail
    refine HWK.out.mono ?_
    rintro e wz ⟨rfl, hbz⟩
    have BZ := Lib.hid (B2.out.trans (hbz.mono (B2.out).size))
    clear hbz HWK
    go_wp2_with fail
    go_ret
    exact ⟨rfl, BZ.out⟩
  have t3 : decide ((300 : Int) < (l.length : Int)) = false := decide_eq_false (by omega)
  have c0 := cell_row (j := 0) K2.out rfl
  have c1 := cell_row (j := 1) K2.out rfl
  have c2 := cell_row (j := 2) K2.out rfl
  have c3 := cell_row (j := 3) K2.out rfl
  have l1 := heap_lt K2.out
  have HN := Lib.hid (new_any (.agg #[.int .i64 T.tracks, .slice va T.pts.length vc, .int .i64 T.sigs, .slice a T.rts.length c]) T w2 (HT0.out.below B2.out) HSM.out.big (fun h => tok_of h HHO.out))
  go_wp2_with fail
  refine HN.out.mono ?_
  rintro e w3 ⟨hb3, hif⟩
  have B3 := Lib.hid (B2.out.trans (hb3.mono B2.out.size))
  have K3 := Lib.hid (tb_kept K2.out hb3)
  have HN3 := Lib.hid (new_any (.agg #[.int .i64 T.tracks, .slice va T.pts.length vc, .int .i64 T.sigs, .slice a T.rts.length c]) T w3 (HT0.out.below B3.out) HSM.out.big (fun h => tok_of h HHO.out))
  clear c0 c1 c2 c3 l1
  clear hb3
  have c0 := cell_row (j := 0) K3.out rfl
  have c1 := cell_row (j := 1) K3.out rfl
  have c2 := cell_row (j := 2) K3.out rfl
  have c3 := cell_row (j := 3) K3.out rfl
  have l1 := heap_lt K3.out
  by_cases hE : checkE T = 0
  case neg =>
    rw [if_neg hE] at hif
    subst hif
    have HNE : Hid (∀ w' e, NewP T w3 e w' → e = .returned (.tuple #[.pointer none, .int .i64 (checkE T)]) ∧ Below w3.heap.size w3 w') := fun w' e h => by
      obtain ⟨h1, h2⟩ := h
      rw [if_neg hE] at h2
      exact ⟨h2, h1⟩
    have t1 : (checkE T == 0) = false := by simpa using hE
    have t2 : (checkE T != 0) = true := by simpa using hE
    generalize checkE T = E at *
    go_wp2_with fail
    refine HN3.out.mono ?_
    intro e w4 hn
    obtain ⟨rfl, hb4⟩ := HNE.out _ _ hn
    have B4 := Lib.hid (B3.out.trans (hb4.mono B3.out.size))
    clear hb4 hn
    clear c0 c1 c2 c3 l1
    have HWK := Lib.hid (works_any w4)
    go_wp2_with fail
    refine HWK.out.mono ?_
    rintro e wz ⟨rfl, hbz⟩
    have BZ := Lib.hid (B4.out.trans (hbz.mono (B4.out).size))
    clear hbz HWK
    go_wp2_with fail
    go_ret
    exact ⟨rfl, BZ.out⟩
  case pos =>
  rw [if_pos hE] at hif
  obtain ⟨ua, rfl, hA, hTa, ha0, hfa⟩ := hif
  go_wp2_with fail
  refine HN3.out.mono ?_
  rintro e w4 ⟨hb4, hif⟩
  rw [if_pos hE] at hif
  obtain ⟨ub, rfl, hB, hTb, hb0, hfb⟩ := hif
  have B4 := Lib.hid (B3.out.trans (hb4.mono B3.out.size))
  have K4 := Lib.hid (tb_kept K3.out hb4)
  have hTOK := (tok_of hE HHO.out).1
  have HTOK := Lib.hid hTOK
  have HTIN := Lib.hid (tin_of hE)
  have FA4 : Hid (FA w2.heap.size w4 ua as0) := (FA.of hA hfa).below hb4 ha0
  have FB4 : Hid (FA w3.heap.size w4 ub as0) := FA.of hB hfb
  have HG : Hid (Geo w w2.heap.size w3.heap.size ua ub tb) := ⟨Nat.le_of_eq HTB.out.symm, heap_lt K2.out, ha0, hA.bel.size, heap_lt hA.obj, hA.rlt, hA.pl, hb0⟩
  obtain ⟨na, hna⟩ : ∃ n, n = w2.heap.size := ⟨_, rfl⟩
  obtain ⟨nb, hnb⟩ : ∃ n, n = w3.heap.size := ⟨_, rfl⟩
  rw [← hna] at FA4 HG
  rw [← hnb] at FB4 HG
  have HTA := Lib.hid hTa; have HTBB := Lib.hid hTb
  have hN16 := hTOK.n; have hP12 := hTOK.p
  obtain ⟨t, ht⟩ := Int.eq_ofNat_of_zero_le (show 0 ≤ T.tracks by have := (ckOk hE).t1; omega)
  have HTT := Lib.hid ht
  have ht24 : t ≤ 24 := by have := (ckOk hE).t2; omega
  clear hb4 hA hTa ha0 hfa hB hTb hb0 hfb hna hnb hE hTOK ht HN HN3
  clear c0 c1 c2 c3 l1
  go_upto_region 8 with fail
  go_loopw [46] (fun i wr => ∃ (k : Nat) (S : AS), k ≤ l.length ∧ i = .int .i64 k ∧ S.Ok ∧ wr.heap[tb]? = some (.cells #[.int .i64 T.tracks, .slice va T.pts.length vc, .int .i64 T.sigs, .slice a T.rts.length c] 25 (0, 0)) ∧ FA na wr ua S ∧ FA nb wr ub S ∧ Below w.heap.size w wr) (fun i _ => l.length - (intOf i).toNat)
  case atStart => exact ⟨0, as0, Nat.zero_le _, rfl, as0_ok, K4.out, FA4.out, FB4.out, B4.out⟩
  case round =>
    clear K4 FA4 FB4 B4
    obtain ⟨k, S, hk, rfl, hS, hk5, hfa5, hfb5, hb5⟩ := hrel
    have HS := Lib.hid hS; have K5 := Lib.hid hk5; have FA5 := Lib.hid hfa5; have FB5 := Lib.hid hfb5; have B5 := Lib.hid hb5
    clear hS hk5 hfa5 hfb5 hb5
    by_cases hlt : k < l.length
    · obtain ⟨b, off, rfl, hb, hc⟩ := HFS.out.at (by omega)
      obtain ⟨f, hf⟩ : ∃ f, f = l.getD k fd0 := ⟨_, rfl⟩
      have HFO : Hid (f.Ok) := by rw [hf]; exact HL.out k hlt
      have x0 : wr.cell? ⟨b, off + k * 6, none⟩ = some (.int .u32 (f.cl : Int)) := by rw [B5.out.cell hb, hf]; exact hc k hlt 0 (by omega)
      have x1 : wr.cell? ⟨b, off + k * 6 + 1, none⟩ = some (.int .u32 (f.no : Int)) := by rw [B5.out.cell hb, hf]; exact hc k hlt 1 (by omega)
      have x2 : wr.cell? ⟨b, off + k * 6 + 2, none⟩ = some (.int .u32 (f.re : Int)) := by rw [B5.out.cell hb, hf]; exact hc k hlt 2 (by omega)
      have x3 : wr.cell? ⟨b, off + k * 6 + 3, none⟩ = some (.int .u32 (f.ak : Int)) := by rw [B5.out.cell hb, hf]; exact hc k hlt 3 (by omega)
      have x4 : wr.cell? ⟨b, off + k * 6 + 4, none⟩ = some (.int .u32 (f.ca : Int)) := by rw [B5.out.cell hb, hf]; exact hc k hlt 4 (by omega)
      have x5 : wr.cell? ⟨b, off + k * 6 + 5, none⟩ = some (.int .u32 (f.rq : Int)) := by rw [B5.out.cell hb, hf]; exact hc k hlt 5 (by omega)
      have hbl : b < wr.heap.size := Nat.lt_of_lt_of_le hb B5.out.size
      clear hc hf hb
      obtain ⟨w5, hw5⟩ : ∃ W, W = wr.alloc (.cells #[.int .u32 (f.cl : Int), .int .u32 (f.no : Int), .int .u32 (f.re : Int), .int .u32 (f.ak : Int), .int .u32 (f.ca : Int), .int .u32 (f.rq : Int)] 38) := ⟨_, rfl⟩
      have BA5 : Hid (Below wr.heap.size wr w5) := by rw [hw5]; exact tb_alloc_below _ _
      have KX5 : Hid (w5.heap[wr.heap.size]? = some (.cells #[.int .u32 (f.cl : Int), .int .u32 (f.no : Int), .int .u32 (f.re : Int), .int .u32 (f.ak : Int), .int .u32 (f.ca : Int), .int .u32 (f.rq : Int)] 38 (0, 0))) := by rw [hw5]; exact heap_alloc_new _ _
      obtain ⟨w6, hw6⟩ : ∃ W, W = w5.alloc (.cells #[.int .u32 (f.cl : Int), .int .u32 (f.no : Int), .int .u32 (f.re : Int), .int .u32 (f.ak : Int), .int .u32 (f.ca : Int), .int .u32 (f.rq : Int)] 38) := ⟨_, rfl⟩
      have BA6 : Hid (Below w5.heap.size w5 w6) := by rw [hw6]; exact tb_alloc_below _ _
      have KY6 : Hid (w6.heap[w5.heap.size]? = some (.cells #[.int .u32 (f.cl : Int), .int .u32 (f.no : Int), .int .u32 (f.re : Int), .int .u32 (f.ak : Int), .int .u32 (f.ca : Int), .int .u32 (f.rq : Int)] 38 (0, 0))) := by rw [hw6]; exact heap_alloc_new _ _
      have HW5 := Lib.hid hw5; have HW6 := Lib.hid hw6
      clear hw5 hw6
      go_upto_region 10 with fail
      rw [← HW5.out]
      clear x0 x1 x2 x3 x4 x5 hbl
      have y0 := cell_row (j := 0) KX5.out rfl
      have y1 := cell_row (j := 1) KX5.out rfl
      have y2 := cell_row (j := 2) KX5.out rfl
      have y3 := cell_row (j := 3) KX5.out rfl
      have y4 := cell_row (j := 4) KX5.out rfl
      have y5 := cell_row (j := 5) KX5.out rfl
      have ly := heap_lt KX5.out
      go_upto_region 11 with fail
      rw [← HW6.out]
      clear y0 y1 y2 y3 y4 y5 ly
      have HF : Hid (Far ub wr.heap.size) := ⟨heap_lt FB5.out.obj, by obtain ⟨_, _, _, _, k⟩ := FB5.out.rs; exact k.lt, FB5.out.pl, by have := FB5.out.gB; have := heap_lt FB5.out.obj; omega⟩
      have HXY : Hid (wr.heap.size < w5.heap.size) := heap_lt KX5.out
      have P0 : Hid (BW w w6 T #[.int .i64 T.tracks, .slice va T.pts.length vc, .int .i64 T.sigs, .slice a T.rts.length c] na nb ua ub S S tb wr.heap.size w5.heap.size f f) := ⟨tb_kept (tb_kept K5.out BA5.out) BA6.out, tb_kept KX5.out BA6.out, KY6.out, (FA5.out.below BA5.out HG.out.a0).below BA6.out HG.out.a0, (FB5.out.below BA5.out HG.out.b0).below BA6.out HG.out.b0, (B5.out.trans (BA5.out.mono B5.out.size)).trans (BA6.out.mono (Nat.le_trans B5.out.size BA5.out.size))⟩
      obtain ⟨xb, hxb⟩ : ∃ n, n = wr.heap.size := ⟨_, rfl⟩
      obtain ⟨yb, hyb⟩ : ∃ n, n = w5.heap.size := ⟨_, rfl⟩
      rw [← hxb, ← hyb] at P0 HXY ⊢
      rw [← hxb] at HF
      clear hxb hyb KX5 KY6 BA5 BA6 K5 FA5 FB5 B5 HW5 HW6
      have HX0 : Hid (bits .xor .u32 (f.cl : Int) ((z : Int) * (2 : Int) ^ t % 4294967296) = ((xr f.cl z t : Nat) : Int)) := xr_bits HFO.out.cl
      have HX1 : Hid (bits .xor .u32 (f.no : Int) ((z : Int) * (2 : Int) ^ T.pts.length % 4294967296) = ((xr f.no z T.pts.length : Nat) : Int)) := xr_bits HFO.out.no
      have HX2 : Hid (bits .xor .u32 (f.re : Int) ((z : Int) * (2 : Int) ^ T.pts.length % 4294967296) = ((xr f.re z T.pts.length : Nat) : Int)) := xr_bits HFO.out.re
      have HX3 : Hid (bits .xor .u32 (f.ak : Int) ((z : Int) * (2 : Int) ^ T.rts.length % 4294967296) = ((xr f.ak z T.rts.length : Nat) : Int)) := xr_bits HFO.out.ak
      have HX4 : Hid (bits .xor .u32 (f.ca : Int) ((z : Int) * (2 : Int) ^ T.rts.length % 4294967296) = ((xr f.ca z T.rts.length : Nat) : Int)) := xr_bits HFO.out.ca
      have c0 : w6.cell? ⟨tb, 0, none⟩ = some (.int .i64 (t : Int)) := by rw [← HTT.out]; exact cell_row (j := 0) P0.out.t rfl
      have c1 := cell_row (j := 1) P0.out.t rfl
      have c3 := cell_row (j := 3) P0.out.t rfl
      have l1 := heap_lt P0.out.t
      have y0 : w6.cell? ⟨yb, 0, none⟩ = some (.int .u32 (f.cl : Int)) := cell_row (j := 0) P0.out.y rfl
      have fy : w6.frozen? ⟨yb, 0, none⟩ = false := frozen_of_row _ _ _ _ _ P0.out.y
      have ly := heap_lt P0.out.y
      go_region
      rw [HX0.out]
      have P1 : Hid (BW w (w6.setCell ⟨yb, 0, none⟩ (.int .u32 ((xr f.cl z t : Nat) : Int))).drew T #[.int .i64 T.tracks, .slice va T.pts.length vc, .int .i64 T.sigs, .slice a T.rts.length c] na nb ua ub S S tb xb yb f ⟨xr f.cl z t, f.no, f.re, f.ak, f.ca, f.rq⟩) := (P0.out.sety (y' := ⟨xr f.cl z t, f.no, f.re, f.ak, f.ca, f.rq⟩) (j := 0) (v := .int .u32 ((xr f.cl z t : Nat) : Int)) HG.out HF.out HXY.out rfl).below HG.out ⟨rfl, rfl, rfl, Nat.le_refl _, fun _ _ => rfl⟩
      obtain ⟨w7, hw2⟩ : ∃ W, W = (w6.setCell ⟨yb, 0, none⟩ (.int .u32 ((xr f.cl z t : Nat) : Int))).drew := ⟨_, rfl⟩
      rw [← hw2] at P1 ⊢
      clear hw2 c0 c1 c3 l1 y0 fy ly
      go_upto_region 12 with fail
      have c0 : w7.cell? ⟨tb, 0, none⟩ = some (.int .i64 (t : Int)) := by rw [← HTT.out]; exact cell_row (j := 0) P1.out.t rfl
      have c1 := cell_row (j := 1) P1.out.t rfl
      have c3 := cell_row (j := 3) P1.out.t rfl
      have l1 := heap_lt P1.out.t
      have y0 : w7.cell? ⟨yb, 1, none⟩ = some (.int .u32 (f.no : Int)) := cell_row (j := 1) P1.out.y rfl
      have fy : w7.frozen? ⟨yb, 1, none⟩ = false := frozen_of_row _ _ _ _ _ P1.out.y
      have ly := heap_lt P1.out.y
      go_region
      rw [HX1.out]
      have P2 : Hid (BW w (w7.setCell ⟨yb, 1, none⟩ (.int .u32 ((xr f.no z T.pts.length : Nat) : Int))).drew T #[.int .i64 T.tracks, .slice va T.pts.length vc, .int .i64 T.sigs, .slice a T.rts.length c] na nb ua ub S S tb xb yb f ⟨xr f.cl z t, xr f.no z T.pts.length, f.re, f.ak, f.ca, f.rq⟩) := (P1.out.sety (y' := ⟨xr f.cl z t, xr f.no z T.pts.length, f.re, f.ak, f.ca, f.rq⟩) (j := 1) (v := .int .u32 ((xr f.no z T.pts.length : Nat) : Int)) HG.out HF.out HXY.out rfl).below HG.out ⟨rfl, rfl, rfl, Nat.le_refl _, fun _ _ => rfl⟩
      obtain ⟨w8, hw2⟩ : ∃ W, W = (w7.setCell ⟨yb, 1, none⟩ (.int .u32 ((xr f.no z T.pts.length : Nat) : Int))).drew := ⟨_, rfl⟩
      rw [← hw2] at P2 ⊢
      clear hw2 c0 c1 c3 l1 y0 fy ly
      go_upto_region 13 with fail
      have c0 : w8.cell? ⟨tb, 0, none⟩ = some (.int .i64 (t : Int)) := by rw [← HTT.out]; exact cell_row (j := 0) P2.out.t rfl
      have c1 := cell_row (j := 1) P2.out.t rfl
      have c3 := cell_row (j := 3) P2.out.t rfl
      have l1 := heap_lt P2.out.t
      have y0 : w8.cell? ⟨yb, 2, none⟩ = some (.int .u32 (f.re : Int)) := cell_row (j := 2) P2.out.y rfl
      have fy : w8.frozen? ⟨yb, 2, none⟩ = false := frozen_of_row _ _ _ _ _ P2.out.y
      have ly := heap_lt P2.out.y
      go_region
      rw [HX2.out]
      have P3 : Hid (BW w (w8.setCell ⟨yb, 2, none⟩ (.int .u32 ((xr f.re z T.pts.length : Nat) : Int))).drew T #[.int .i64 T.tracks, .slice va T.pts.length vc, .int .i64 T.sigs, .slice a T.rts.length c] na nb ua ub S S tb xb yb f ⟨xr f.cl z t, xr f.no z T.pts.length, xr f.re z T.pts.length, f.ak, f.ca, f.rq⟩) := (P2.out.sety (y' := ⟨xr f.cl z t, xr f.no z T.pts.length, xr f.re z T.pts.length, f.ak, f.ca, f.rq⟩) (j := 2) (v := .int .u32 ((xr f.re z T.pts.length : Nat) : Int)) HG.out HF.out HXY.out rfl).below HG.out ⟨rfl, rfl, rfl, Nat.le_refl _, fun _ _ => rfl⟩
      obtain ⟨w9, hw2⟩ : ∃ W, W = (w8.setCell ⟨yb, 2, none⟩ (.int .u32 ((xr f.re z T.pts.length : Nat) : Int))).drew := ⟨_, rfl⟩
      rw [← hw2] at P3 ⊢
      clear hw2 c0 c1 c3 l1 y0 fy ly
      go_upto_region 14 with fail
      have c0 : w9.cell? ⟨tb, 0, none⟩ = some (.int .i64 (t : Int)) := by rw [← HTT.out]; exact cell_row (j := 0) P3.out.t rfl
      have c1 := cell_row (j := 1) P3.out.t rfl
      have c3 := cell_row (j := 3) P3.out.t rfl
      have l1 := heap_lt P3.out.t
      have y0 : w9.cell? ⟨yb, 3, none⟩ = some (.int .u32 (f.ak : Int)) := cell_row (j := 3) P3.out.y rfl
      have fy : w9.frozen? ⟨yb, 3, none⟩ = false := frozen_of_row _ _ _ _ _ P3.out.y
      have ly := heap_lt P3.out.y
      go_region
      rw [HX3.out]
      have P4 : Hid (BW w (w9.setCell ⟨yb, 3, none⟩ (.int .u32 ((xr f.ak z T.rts.length : Nat) : Int))).drew T #[.int .i64 T.tracks, .slice va T.pts.length vc, .int .i64 T.sigs, .slice a T.rts.length c] na nb ua ub S S tb xb yb f ⟨xr f.cl z t, xr f.no z T.pts.length, xr f.re z T.pts.length, xr f.ak z T.rts.length, f.ca, f.rq⟩) := (P3.out.sety (y' := ⟨xr f.cl z t, xr f.no z T.pts.length, xr f.re z T.pts.length, xr f.ak z T.rts.length, f.ca, f.rq⟩) (j := 3) (v := .int .u32 ((xr f.ak z T.rts.length : Nat) : Int)) HG.out HF.out HXY.out rfl).below HG.out ⟨rfl, rfl, rfl, Nat.le_refl _, fun _ _ => rfl⟩
      obtain ⟨w10, hw2⟩ : ∃ W, W = (w9.setCell ⟨yb, 3, none⟩ (.int .u32 ((xr f.ak z T.rts.length : Nat) : Int))).drew := ⟨_, rfl⟩
      rw [← hw2] at P4 ⊢
      clear hw2 c0 c1 c3 l1 y0 fy ly
      go_upto_region 15 with fail
      have c0 : w10.cell? ⟨tb, 0, none⟩ = some (.int .i64 (t : Int)) := by rw [← HTT.out]; exact cell_row (j := 0) P4.out.t rfl
      have c1 := cell_row (j := 1) P4.out.t rfl
      have c3 := cell_row (j := 3) P4.out.t rfl
      have l1 := heap_lt P4.out.t
      have y0 : w10.cell? ⟨yb, 4, none⟩ = some (.int .u32 (f.ca : Int)) := cell_row (j := 4) P4.out.y rfl
      have fy : w10.frozen? ⟨yb, 4, none⟩ = false := frozen_of_row _ _ _ _ _ P4.out.y
      have ly := heap_lt P4.out.y
      go_region
      rw [HX4.out]
      have P5 : Hid (BW w (w10.setCell ⟨yb, 4, none⟩ (.int .u32 ((xr f.ca z T.rts.length : Nat) : Int))).drew T #[.int .i64 T.tracks, .slice va T.pts.length vc, .int .i64 T.sigs, .slice a T.rts.length c] na nb ua ub S S tb xb yb f ⟨xr f.cl z t, xr f.no z T.pts.length, xr f.re z T.pts.length, xr f.ak z T.rts.length, xr f.ca z T.rts.length, f.rq⟩) := (P4.out.sety (y' := ⟨xr f.cl z t, xr f.no z T.pts.length, xr f.re z T.pts.length, xr f.ak z T.rts.length, xr f.ca z T.rts.length, f.rq⟩) (j := 4) (v := .int .u32 ((xr f.ca z T.rts.length : Nat) : Int)) HG.out HF.out HXY.out rfl).below HG.out ⟨rfl, rfl, rfl, Nat.le_refl _, fun _ _ => rfl⟩
      obtain ⟨w11, hw2⟩ : ∃ W, W = (w10.setCell ⟨yb, 4, none⟩ (.int .u32 ((xr f.ca z T.rts.length : Nat) : Int))).drew := ⟨_, rfl⟩
      rw [← hw2] at P5 ⊢
      clear hw2 c0 c1 c3 l1 y0 fy ly
      clear P0 P1 P2 P3 P4 HX0 HX1 HX2 HX3 HX4
      go_upto_region 16 with fail
      have HNE : Hid (∀ Y, Y = noisy T t z f → FEq T Y f ∧ Y.Ok) := fun Y h => by rw [h]; exact ⟨noisy_eq HTT.out, noisy_ok HFO.out HZ.out⟩
      have r5 : w11.cell? ⟨xb, 5, none⟩ = some (.int .u32 (f.rq : Int)) := cell_row (j := 5) P5.out.x rfl
      have c3 := cell_row (j := 3) P5.out.t rfl
      have l1 := heap_lt P5.out.t
      have lx := heap_lt P5.out.x
      obtain ⟨S1, hS1⟩ : ∃ S1, S1 = stepS T f S := ⟨_, rfl⟩
      obtain ⟨o, ho⟩ : ∃ o, o = orderS T f S1 := ⟨_, rfl⟩
      obtain ⟨p1, p2, p3, p4⟩ := o
      have HS1 := Lib.hid hS1; have HO := Lib.hid ho
      clear hS1 ho
      have HSO1 : Hid (S1.Ok) := by show S1.Ok; rw [HS1.out]; exact stepS_ok HTOK.out f HS.out
      have HSA : Hid (∀ Y W Sb, BW w W T #[.int .i64 T.tracks, .slice va T.pts.length vc, .int .i64 T.sigs, .slice a T.rts.length c] na nb ua ub S Sb tb xb yb f Y → Calls Try.prog 13 #[.pointer (some ⟨ua.g, 0, none⟩), .agg #[.int .u32 (f.cl : Int), .int .u32 (f.no : Int), .int .u32 (f.re : Int), .int .u32 (f.ak : Int), .int .u32 (f.ca : Int), .int .u32 (f.rq : Int)]] W fun e w' => e = .returned (.agg #[.int .u32 (p1 : Int), .int .u32 (p2 : Int), .int .u32 (p3 : Int), .int .u32 (p4 : Int)]) ∧ BW w w' T #[.int .i64 T.tracks, .slice va T.pts.length vc, .int .i64 T.sigs, .slice a T.rts.length c] na nb ua ub S1 Sb tb xb yb f Y) := fun Y W Sb h => by
        refine (fa_step f W h.a HFO.out (by rw [HTA.out]; exact HTOK.out) HS.out).mono ?_
        rintro e V ⟨h1, h2, h3⟩
        rw [HTA.out, ← HS1.out] at h1 h2
        rw [← HO.out] at h1
        exact ⟨h1, h.stepA HG.out HF.out HXY.out h2 h3⟩
      have HSB : Hid (∀ Y W Sa, FEq T Y f → Y.Ok → BW w W T #[.int .i64 T.tracks, .slice va T.pts.length vc, .int .i64 T.sigs, .slice a T.rts.length c] na nb ua ub Sa S tb xb yb f Y → Calls Try.prog 13 #[.pointer (some ⟨ub.g, 0, none⟩), .agg #[.int .u32 (Y.cl : Int), .int .u32 (Y.no : Int), .int .u32 (Y.re : Int), .int .u32 (Y.ak : Int), .int .u32 (Y.ca : Int), .int .u32 (Y.rq : Int)]] W fun e w' => e = .returned (.agg #[.int .u32 (p1 : Int), .int .u32 (p2 : Int), .int .u32 (p3 : Int), .int .u32 (p4 : Int)]) ∧ BW w w' T #[.int .i64 T.tracks, .slice va T.pts.length vc, .int .i64 T.sigs, .slice a T.rts.length c] na nb ua ub Sa S1 tb xb yb f Y) := fun Y W Sa hq hy h => by
        refine (fa_step Y W h.b hy (by rw [HTBB.out]; exact HTOK.out) HS.out).mono ?_
        rintro e V ⟨h1, h2, h3⟩
        rw [HTBB.out, stepS_eq HTIN.out hq, orderS_eq HTIN.out hq, ← HS1.out] at h1
        rw [HTBB.out, stepS_eq HTIN.out hq, ← HS1.out] at h2
        rw [← HO.out] at h1
        exact ⟨h1, h.stepB HG.out HF.out HXY.out h2 h3⟩
      have HSV : Hid (∀ Y W Sa Sb, BW w W T #[.int .i64 T.tracks, .slice va T.pts.length vc, .int .i64 T.sigs, .slice a T.rts.length c] na nb ua ub Sa Sb tb xb yb f Y → (W.cell? ⟨xb, 0, none⟩ = some (.int .u32 (f.cl : Int)) ∧ W.cell? ⟨xb, 1, none⟩ = some (.int .u32 (f.no : Int)) ∧ W.cell? ⟨xb, 2, none⟩ = some (.int .u32 (f.re : Int)) ∧ W.cell? ⟨xb, 3, none⟩ = some (.int .u32 (f.ak : Int)) ∧ W.cell? ⟨xb, 4, none⟩ = some (.int .u32 (f.ca : Int)) ∧ W.cell? ⟨xb, 5, none⟩ = some (.int .u32 (f.rq : Int))) ∧ (W.cell? ⟨yb, 0, none⟩ = some (.int .u32 (Y.cl : Int)) ∧ W.cell? ⟨yb, 1, none⟩ = some (.int .u32 (Y.no : Int)) ∧ W.cell? ⟨yb, 2, none⟩ = some (.int .u32 (Y.re : Int)) ∧ W.cell? ⟨yb, 3, none⟩ = some (.int .u32 (Y.ak : Int)) ∧ W.cell? ⟨yb, 4, none⟩ = some (.int .u32 (Y.ca : Int)) ∧ W.cell? ⟨yb, 5, none⟩ = some (.int .u32 (Y.rq : Int)))) := fun Y W Sa Sb h =>
        ⟨⟨cell_row (j := 0) h.x rfl, cell_row (j := 1) h.x rfl, cell_row (j := 2) h.x rfl, cell_row (j := 3) h.x rfl, cell_row (j := 4) h.x rfl, cell_row (j := 5) h.x rfl⟩,
          cell_row (j := 0) h.y rfl, cell_row (j := 1) h.y rfl, cell_row (j := 2) h.y rfl, cell_row (j := 3) h.y rfl, cell_row (j := 4) h.y rfl, cell_row (j := 5) h.y rfl⟩
      by_cases hc : rqB f T.rts.length = true
      case neg =>
        have h0 : ¬ f.rq = 0 := fun h => hc (by unfold rqB; simp [h])
        have h1 : ¬ T.rts.length < f.rq := fun h => hc (by unfold rqB; simp [h])
        have t0 : ((f.rq : Int) == 0) = false := by simpa using h0
        have t1 : decide ((T.rts.length : Int) < (f.rq : Int)) = false := decide_eq_false (by omega)
        go_upto_region 20 with fail
        clear r5 c3 l1 lx t0 t1
        obtain ⟨Y, hY⟩ : ∃ Y : FD, Y = ⟨xr f.cl z t, xr f.no z T.pts.length, xr f.re z T.pts.length, xr f.ak z T.rts.length, xr f.ca z T.rts.length, f.rq⟩ := ⟨_, rfl⟩
        rw [← hY] at P5
        have hQ := HNE.out Y (hY.trans (by unfold noisy; rw [if_neg hc]))
        have HQ := Lib.hid hQ.1; have HQO := Lib.hid hQ.2
        clear hQ hY
        have P8 := Lib.hid (P5.out.below (V := (w11).drew) HG.out ⟨rfl, rfl, rfl, Nat.le_refl _, fun _ _ => rfl⟩)
        go_region_held3 (fun W => (W.cell? ⟨xb, 0, none⟩ = some (.int .u32 (f.cl : Int)) ∧ W.cell? ⟨xb, 1, none⟩ = some (.int .u32 (f.no : Int)) ∧ W.cell? ⟨xb, 2, none⟩ = some (.int .u32 (f.re : Int)) ∧ W.cell? ⟨xb, 3, none⟩ = some (.int .u32 (f.ak : Int)) ∧ W.cell? ⟨xb, 4, none⟩ = some (.int .u32 (f.ca : Int)) ∧ W.cell? ⟨xb, 5, none⟩ = some (.int .u32 (f.rq : Int))) ∧ (W.cell? ⟨yb, 0, none⟩ = some (.int .u32 (Y.cl : Int)) ∧ W.cell? ⟨yb, 1, none⟩ = some (.int .u32 (Y.no : Int)) ∧ W.cell? ⟨yb, 2, none⟩ = some (.int .u32 (Y.re : Int)) ∧ W.cell? ⟨yb, 3, none⟩ = some (.int .u32 (Y.ak : Int)) ∧ W.cell? ⟨yb, 4, none⟩ = some (.int .u32 (Y.ca : Int)) ∧ W.cell? ⟨yb, 5, none⟩ = some (.int .u32 (Y.rq : Int))))
          (first | exact HSV.out _ _ _ _ P10.out | exact HSV.out _ _ _ _ P9a.out | exact HSV.out _ _ _ _ P9b.out | exact HSV.out _ _ _ _ P8.out)
          (first
            | (have _tok := P9a; go_at_call 13; (with_reducible refine (HSB.out Y _ _ HQ.out HQO.out P9a.out).mono ?_); rintro e wq ⟨rfl, hh⟩; have P10 := Lib.hid hh; clear hh)
            | (have _tok := P9b; go_at_call 13; (with_reducible refine (HSA.out Y _ _ P9b.out).mono ?_); rintro e wq ⟨rfl, hh⟩; have P10 := Lib.hid hh; clear hh)
            | (go_at_call 13; (with_reducible refine (HSA.out Y _ _ P8.out).mono ?_); rintro e wp ⟨rfl, hh⟩; have P9a := Lib.hid hh; clear hh)
            | (go_at_call 13; (with_reducible refine (HSB.out Y _ _ HQ.out HQO.out P8.out).mono ?_); rintro e wp ⟨rfl, hh⟩; have P9b := Lib.hid hh; clear hh))
        all_goals
          rename_i hheld
          clear hheld
          go_wp2_with fail
          go_roundw
          case rel => exact ⟨k + 1, S1, by omega, by go_num, HSO1.out, P10.out.t, P10.out.a, P10.out.b, P10.out.bel⟩
          case measure => simp [intOf]; omega
      case pos =>
        have y5 : w11.cell? ⟨yb, 5, none⟩ = some (.int .u32 (f.rq : Int)) := cell_row (j := 5) P5.out.y rfl
        have fy : w11.frozen? ⟨yb, 5, none⟩ = false := frozen_of_row _ _ _ _ _ P5.out.y
        have ly := heap_lt P5.out.y
        by_cases h0 : f.rq = 0
        · have t0 : ((f.rq : Int) == 0) = true := by simpa using h0
          clear h0
          go_upto_region 18 with fail
          have P6 : Hid (BW w (w11.setCell ⟨yb, 5, none⟩ (.int .u32 (z : Int))) T #[.int .i64 T.tracks, .slice va T.pts.length vc, .int .i64 T.sigs, .slice a T.rts.length c] na nb ua ub S S tb xb yb f ⟨xr f.cl z t, xr f.no z T.pts.length, xr f.re z T.pts.length, xr f.ak z T.rts.length, xr f.ca z T.rts.length, z⟩) := P5.out.sety (y' := ⟨xr f.cl z t, xr f.no z T.pts.length, xr f.re z T.pts.length, xr f.ak z T.rts.length, xr f.ca z T.rts.length, z⟩) (j := 5) (v := .int .u32 (z : Int)) HG.out HF.out HXY.out rfl
          generalize w11.setCell ⟨yb, 5, none⟩ (.int .u32 (z : Int)) = w12 at *
          clear r5 c3 l1 lx y5 fy ly t0
          try clear t1
          try clear t2
          have y5 : w12.cell? ⟨yb, 5, none⟩ = some (.int .u32 (z : Int)) := cell_row (j := 5) P6.out.y rfl
          have fy : w12.frozen? ⟨yb, 5, none⟩ = false := frozen_of_row _ _ _ _ _ P6.out.y
          have ly := heap_lt P6.out.y
          have c3 := cell_row (j := 3) P6.out.t rfl
          have l1 := heap_lt P6.out.t
          by_cases hzN : z ≤ T.rts.length
          · have tz : decide ((z : Int) ≤ (T.rts.length : Int)) = true := decide_eq_true (by omega)
            go_upto_region 20 with fail
            have P7 : Hid (BW w (w12.setCell ⟨yb, 5, none⟩ (.int .u32 ((0 : Nat) : Int))) T #[.int .i64 T.tracks, .slice va T.pts.length vc, .int .i64 T.sigs, .slice a T.rts.length c] na nb ua ub S S tb xb yb f ⟨xr f.cl z t, xr f.no z T.pts.length, xr f.re z T.pts.length, xr f.ak z T.rts.length, xr f.ca z T.rts.length, 0⟩) := P6.out.sety (y' := ⟨xr f.cl z t, xr f.no z T.pts.length, xr f.re z T.pts.length, xr f.ak z T.rts.length, xr f.ca z T.rts.length, 0⟩) (j := 5) (v := .int .u32 ((0 : Nat) : Int)) HG.out HF.out HXY.out rfl
            rw [show ((0 : Nat) : Int) = 0 from rfl] at P7
            generalize w12.setCell ⟨yb, 5, none⟩ (.int .u32 0) = w13 at *
            clear y5 fy ly c3 l1 tz
            obtain ⟨Y, hY⟩ : ∃ Y : FD, Y = ⟨xr f.cl z t, xr f.no z T.pts.length, xr f.re z T.pts.length, xr f.ak z T.rts.length, xr f.ca z T.rts.length, 0⟩ := ⟨_, rfl⟩
            rw [← hY] at P7
            have hQ := HNE.out Y (hY.trans (by unfold noisy; rw [if_pos hc, if_pos hzN]))
            have HQ := Lib.hid hQ.1; have HQO := Lib.hid hQ.2
            clear hQ hY
            have P8 := Lib.hid (P7.out.below (V := (w13).drew) HG.out ⟨rfl, rfl, rfl, Nat.le_refl _, fun _ _ => rfl⟩)
            go_region_held3 (fun W => (W.cell? ⟨xb, 0, none⟩ = some (.int .u32 (f.cl : Int)) ∧ W.cell? ⟨xb, 1, none⟩ = some (.int .u32 (f.no : Int)) ∧ W.cell? ⟨xb, 2, none⟩ = some (.int .u32 (f.re : Int)) ∧ W.cell? ⟨xb, 3, none⟩ = some (.int .u32 (f.ak : Int)) ∧ W.cell? ⟨xb, 4, none⟩ = some (.int .u32 (f.ca : Int)) ∧ W.cell? ⟨xb, 5, none⟩ = some (.int .u32 (f.rq : Int))) ∧ (W.cell? ⟨yb, 0, none⟩ = some (.int .u32 (Y.cl : Int)) ∧ W.cell? ⟨yb, 1, none⟩ = some (.int .u32 (Y.no : Int)) ∧ W.cell? ⟨yb, 2, none⟩ = some (.int .u32 (Y.re : Int)) ∧ W.cell? ⟨yb, 3, none⟩ = some (.int .u32 (Y.ak : Int)) ∧ W.cell? ⟨yb, 4, none⟩ = some (.int .u32 (Y.ca : Int)) ∧ W.cell? ⟨yb, 5, none⟩ = some (.int .u32 (Y.rq : Int))))
              (first | exact HSV.out _ _ _ _ P10.out | exact HSV.out _ _ _ _ P9a.out | exact HSV.out _ _ _ _ P9b.out | exact HSV.out _ _ _ _ P8.out)
              (first
                | (have _tok := P9a; go_at_call 13; (with_reducible refine (HSB.out Y _ _ HQ.out HQO.out P9a.out).mono ?_); rintro e wq ⟨rfl, hh⟩; have P10 := Lib.hid hh; clear hh)
                | (have _tok := P9b; go_at_call 13; (with_reducible refine (HSA.out Y _ _ P9b.out).mono ?_); rintro e wq ⟨rfl, hh⟩; have P10 := Lib.hid hh; clear hh)
                | (go_at_call 13; (with_reducible refine (HSA.out Y _ _ P8.out).mono ?_); rintro e wp ⟨rfl, hh⟩; have P9a := Lib.hid hh; clear hh)
                | (go_at_call 13; (with_reducible refine (HSB.out Y _ _ HQ.out HQO.out P8.out).mono ?_); rintro e wp ⟨rfl, hh⟩; have P9b := Lib.hid hh; clear hh))
            all_goals
              rename_i hheld
              clear hheld
              go_wp2_with fail
              go_roundw
              case rel => exact ⟨k + 1, S1, by omega, by go_num, HSO1.out, P10.out.t, P10.out.a, P10.out.b, P10.out.bel⟩
              case measure => simp [intOf]; omega
          · have tz : decide ((z : Int) ≤ (T.rts.length : Int)) = false := decide_eq_false (by omega)
            go_upto_region 20 with fail
            clear y5 fy ly c3 l1 tz
            obtain ⟨Y, hY⟩ : ∃ Y : FD, Y = ⟨xr f.cl z t, xr f.no z T.pts.length, xr f.re z T.pts.length, xr f.ak z T.rts.length, xr f.ca z T.rts.length, z⟩ := ⟨_, rfl⟩
            rw [← hY] at P6
            have hQ := HNE.out Y (hY.trans (by unfold noisy; rw [if_pos hc, if_neg hzN]))
            have HQ := Lib.hid hQ.1; have HQO := Lib.hid hQ.2
            clear hQ hY
            have P8 := Lib.hid (P6.out.below (V := (w12).drew) HG.out ⟨rfl, rfl, rfl, Nat.le_refl _, fun _ _ => rfl⟩)
            go_region_held3 (fun W => (W.cell? ⟨xb, 0, none⟩ = some (.int .u32 (f.cl : Int)) ∧ W.cell? ⟨xb, 1, none⟩ = some (.int .u32 (f.no : Int)) ∧ W.cell? ⟨xb, 2, none⟩ = some (.int .u32 (f.re : Int)) ∧ W.cell? ⟨xb, 3, none⟩ = some (.int .u32 (f.ak : Int)) ∧ W.cell? ⟨xb, 4, none⟩ = some (.int .u32 (f.ca : Int)) ∧ W.cell? ⟨xb, 5, none⟩ = some (.int .u32 (f.rq : Int))) ∧ (W.cell? ⟨yb, 0, none⟩ = some (.int .u32 (Y.cl : Int)) ∧ W.cell? ⟨yb, 1, none⟩ = some (.int .u32 (Y.no : Int)) ∧ W.cell? ⟨yb, 2, none⟩ = some (.int .u32 (Y.re : Int)) ∧ W.cell? ⟨yb, 3, none⟩ = some (.int .u32 (Y.ak : Int)) ∧ W.cell? ⟨yb, 4, none⟩ = some (.int .u32 (Y.ca : Int)) ∧ W.cell? ⟨yb, 5, none⟩ = some (.int .u32 (Y.rq : Int))))
              (first | exact HSV.out _ _ _ _ P10.out | exact HSV.out _ _ _ _ P9a.out | exact HSV.out _ _ _ _ P9b.out | exact HSV.out _ _ _ _ P8.out)
              (first
                | (have _tok := P9a; go_at_call 13; (with_reducible refine (HSB.out Y _ _ HQ.out HQO.out P9a.out).mono ?_); rintro e wq ⟨rfl, hh⟩; have P10 := Lib.hid hh; clear hh)
                | (have _tok := P9b; go_at_call 13; (with_reducible refine (HSA.out Y _ _ P9b.out).mono ?_); rintro e wq ⟨rfl, hh⟩; have P10 := Lib.hid hh; clear hh)
                | (go_at_call 13; (with_reducible refine (HSA.out Y _ _ P8.out).mono ?_); rintro e wp ⟨rfl, hh⟩; have P9a := Lib.hid hh; clear hh)
                | (go_at_call 13; (with_reducible refine (HSB.out Y _ _ HQ.out HQO.out P8.out).mono ?_); rintro e wp ⟨rfl, hh⟩; have P9b := Lib.hid hh; clear hh))
            all_goals
              rename_i hheld
              clear hheld
              go_wp2_with fail
              go_roundw
              case rel => exact ⟨k + 1, S1, by omega, by go_num, HSO1.out, P10.out.t, P10.out.a, P10.out.b, P10.out.bel⟩
              case measure => simp [intOf]; omega
        · have t0 : ((f.rq : Int) == 0) = false := by simpa using h0
          have t1 : decide ((T.rts.length : Int) < (f.rq : Int)) = true := by
            unfold rqB at hc
            simp [h0] at hc
            exact decide_eq_true (by omega)
          have t2 : T.rts.length < f.rq := by have := of_decide_eq_true t1; omega
          clear h0
          go_upto_region 18 with fail
          have P6 : Hid (BW w (w11.setCell ⟨yb, 5, none⟩ (.int .u32 (z : Int))) T #[.int .i64 T.tracks, .slice va T.pts.length vc, .int .i64 T.sigs, .slice a T.rts.length c] na nb ua ub S S tb xb yb f ⟨xr f.cl z t, xr f.no z T.pts.length, xr f.re z T.pts.length, xr f.ak z T.rts.length, xr f.ca z T.rts.length, z⟩) := P5.out.sety (y' := ⟨xr f.cl z t, xr f.no z T.pts.length, xr f.re z T.pts.length, xr f.ak z T.rts.length, xr f.ca z T.rts.length, z⟩) (j := 5) (v := .int .u32 (z : Int)) HG.out HF.out HXY.out rfl
          generalize w11.setCell ⟨yb, 5, none⟩ (.int .u32 (z : Int)) = w12 at *
          clear r5 c3 l1 lx y5 fy ly t0
          try clear t1
          try clear t2
          have y5 : w12.cell? ⟨yb, 5, none⟩ = some (.int .u32 (z : Int)) := cell_row (j := 5) P6.out.y rfl
          have fy : w12.frozen? ⟨yb, 5, none⟩ = false := frozen_of_row _ _ _ _ _ P6.out.y
          have ly := heap_lt P6.out.y
          have c3 := cell_row (j := 3) P6.out.t rfl
          have l1 := heap_lt P6.out.t
          by_cases hzN : z ≤ T.rts.length
          · have tz : decide ((z : Int) ≤ (T.rts.length : Int)) = true := decide_eq_true (by omega)
            go_upto_region 20 with fail
            have P7 : Hid (BW w (w12.setCell ⟨yb, 5, none⟩ (.int .u32 ((0 : Nat) : Int))) T #[.int .i64 T.tracks, .slice va T.pts.length vc, .int .i64 T.sigs, .slice a T.rts.length c] na nb ua ub S S tb xb yb f ⟨xr f.cl z t, xr f.no z T.pts.length, xr f.re z T.pts.length, xr f.ak z T.rts.length, xr f.ca z T.rts.length, 0⟩) := P6.out.sety (y' := ⟨xr f.cl z t, xr f.no z T.pts.length, xr f.re z T.pts.length, xr f.ak z T.rts.length, xr f.ca z T.rts.length, 0⟩) (j := 5) (v := .int .u32 ((0 : Nat) : Int)) HG.out HF.out HXY.out rfl
            rw [show ((0 : Nat) : Int) = 0 from rfl] at P7
            generalize w12.setCell ⟨yb, 5, none⟩ (.int .u32 0) = w13 at *
            clear y5 fy ly c3 l1 tz
            obtain ⟨Y, hY⟩ : ∃ Y : FD, Y = ⟨xr f.cl z t, xr f.no z T.pts.length, xr f.re z T.pts.length, xr f.ak z T.rts.length, xr f.ca z T.rts.length, 0⟩ := ⟨_, rfl⟩
            rw [← hY] at P7
            have hQ := HNE.out Y (hY.trans (by unfold noisy; rw [if_pos hc, if_pos hzN]))
            have HQ := Lib.hid hQ.1; have HQO := Lib.hid hQ.2
            clear hQ hY
            have P8 := Lib.hid (P7.out.below (V := (w13).drew) HG.out ⟨rfl, rfl, rfl, Nat.le_refl _, fun _ _ => rfl⟩)
            go_region_held3 (fun W => (W.cell? ⟨xb, 0, none⟩ = some (.int .u32 (f.cl : Int)) ∧ W.cell? ⟨xb, 1, none⟩ = some (.int .u32 (f.no : Int)) ∧ W.cell? ⟨xb, 2, none⟩ = some (.int .u32 (f.re : Int)) ∧ W.cell? ⟨xb, 3, none⟩ = some (.int .u32 (f.ak : Int)) ∧ W.cell? ⟨xb, 4, none⟩ = some (.int .u32 (f.ca : Int)) ∧ W.cell? ⟨xb, 5, none⟩ = some (.int .u32 (f.rq : Int))) ∧ (W.cell? ⟨yb, 0, none⟩ = some (.int .u32 (Y.cl : Int)) ∧ W.cell? ⟨yb, 1, none⟩ = some (.int .u32 (Y.no : Int)) ∧ W.cell? ⟨yb, 2, none⟩ = some (.int .u32 (Y.re : Int)) ∧ W.cell? ⟨yb, 3, none⟩ = some (.int .u32 (Y.ak : Int)) ∧ W.cell? ⟨yb, 4, none⟩ = some (.int .u32 (Y.ca : Int)) ∧ W.cell? ⟨yb, 5, none⟩ = some (.int .u32 (Y.rq : Int))))
              (first | exact HSV.out _ _ _ _ P10.out | exact HSV.out _ _ _ _ P9a.out | exact HSV.out _ _ _ _ P9b.out | exact HSV.out _ _ _ _ P8.out)
              (first
                | (have _tok := P9a; go_at_call 13; (with_reducible refine (HSB.out Y _ _ HQ.out HQO.out P9a.out).mono ?_); rintro e wq ⟨rfl, hh⟩; have P10 := Lib.hid hh; clear hh)
                | (have _tok := P9b; go_at_call 13; (with_reducible refine (HSA.out Y _ _ P9b.out).mono ?_); rintro e wq ⟨rfl, hh⟩; have P10 := Lib.hid hh; clear hh)
                | (go_at_call 13; (with_reducible refine (HSA.out Y _ _ P8.out).mono ?_); rintro e wp ⟨rfl, hh⟩; have P9a := Lib.hid hh; clear hh)
                | (go_at_call 13; (with_reducible refine (HSB.out Y _ _ HQ.out HQO.out P8.out).mono ?_); rintro e wp ⟨rfl, hh⟩; have P9b := Lib.hid hh; clear hh))
            all_goals
              rename_i hheld
              clear hheld
              go_wp2_with fail
              go_roundw
              case rel => exact ⟨k + 1, S1, by omega, by go_num, HSO1.out, P10.out.t, P10.out.a, P10.out.b, P10.out.bel⟩
              case measure => simp [intOf]; omega
          · have tz : decide ((z : Int) ≤ (T.rts.length : Int)) = false := decide_eq_false (by omega)
            go_upto_region 20 with fail
            clear y5 fy ly c3 l1 tz
            obtain ⟨Y, hY⟩ : ∃ Y : FD, Y = ⟨xr f.cl z t, xr f.no z T.pts.length, xr f.re z T.pts.length, xr f.ak z T.rts.length, xr f.ca z T.rts.length, z⟩ := ⟨_, rfl⟩
            rw [← hY] at P6
            have hQ := HNE.out Y (hY.trans (by unfold noisy; rw [if_pos hc, if_neg hzN]))
            have HQ := Lib.hid hQ.1; have HQO := Lib.hid hQ.2
            clear hQ hY
            have P8 := Lib.hid (P6.out.below (V := (w12).drew) HG.out ⟨rfl, rfl, rfl, Nat.le_refl _, fun _ _ => rfl⟩)
            go_region_held3 (fun W => (W.cell? ⟨xb, 0, none⟩ = some (.int .u32 (f.cl : Int)) ∧ W.cell? ⟨xb, 1, none⟩ = some (.int .u32 (f.no : Int)) ∧ W.cell? ⟨xb, 2, none⟩ = some (.int .u32 (f.re : Int)) ∧ W.cell? ⟨xb, 3, none⟩ = some (.int .u32 (f.ak : Int)) ∧ W.cell? ⟨xb, 4, none⟩ = some (.int .u32 (f.ca : Int)) ∧ W.cell? ⟨xb, 5, none⟩ = some (.int .u32 (f.rq : Int))) ∧ (W.cell? ⟨yb, 0, none⟩ = some (.int .u32 (Y.cl : Int)) ∧ W.cell? ⟨yb, 1, none⟩ = some (.int .u32 (Y.no : Int)) ∧ W.cell? ⟨yb, 2, none⟩ = some (.int .u32 (Y.re : Int)) ∧ W.cell? ⟨yb, 3, none⟩ = some (.int .u32 (Y.ak : Int)) ∧ W.cell? ⟨yb, 4, none⟩ = some (.int .u32 (Y.ca : Int)) ∧ W.cell? ⟨yb, 5, none⟩ = some (.int .u32 (Y.rq : Int))))
              (first | exact HSV.out _ _ _ _ P10.out | exact HSV.out _ _ _ _ P9a.out | exact HSV.out _ _ _ _ P9b.out | exact HSV.out _ _ _ _ P8.out)
              (first
                | (have _tok := P9a; go_at_call 13; (with_reducible refine (HSB.out Y _ _ HQ.out HQO.out P9a.out).mono ?_); rintro e wq ⟨rfl, hh⟩; have P10 := Lib.hid hh; clear hh)
                | (have _tok := P9b; go_at_call 13; (with_reducible refine (HSA.out Y _ _ P9b.out).mono ?_); rintro e wq ⟨rfl, hh⟩; have P10 := Lib.hid hh; clear hh)
                | (go_at_call 13; (with_reducible refine (HSA.out Y _ _ P8.out).mono ?_); rintro e wp ⟨rfl, hh⟩; have P9a := Lib.hid hh; clear hh)
                | (go_at_call 13; (with_reducible refine (HSB.out Y _ _ HQ.out HQO.out P8.out).mono ?_); rintro e wp ⟨rfl, hh⟩; have P9b := Lib.hid hh; clear hh))
            all_goals
              rename_i hheld
              clear hheld
              go_wp2_with fail
              go_roundw
              case rel => exact ⟨k + 1, S1, by omega, by go_num, HSO1.out, P10.out.t, P10.out.a, P10.out.b, P10.out.bel⟩
              case measure => simp [intOf]; omega
    · have hkl : k = l.length := by omega
      have HWK := Lib.hid (works_any wr)
      go_wp2_with fail
      refine HWK.out.mono ?_
      rintro e wz ⟨rfl, hbz⟩
      have BZ := Lib.hid (B5.out.trans (hbz.mono (B5.out).size))
      clear hbz HWK
      go_wp2_with fail
      go_ret
      exact ⟨rfl, BZ.out⟩
set_option maxRecDepth 100000 in
theorem bits_any (v0 : Value) (a1 : Option Addr) (len1 cap1 : Nat) (a2 : Int) (w : World) (h0 : ReadsW w 25 v0.cells.toList ∧ Value.okWide Try.prog w .any 0 25 v0) (h1 : ReadsC w 26 [.slice a1 len1 cap1]) (h2 : (Lit.int .u32 a2).wf = true) :
    Calls Try.prog 5 #[v0, .slice a1 len1 cap1, .int .u32 a2] w fun e w' => e = .returned (.bool true) ∧ Below w.heap.size w w' := by
  obtain ⟨T, hT⟩ := reads_tab ⟨h0.1.c, h0.2⟩
  have hsm := tab_sm h0.1 hT
  obtain ⟨l, hl⟩ := reads_fds h1
  obtain ⟨q0, q1⟩ := bounds_u32 h2
  obtain ⟨z, rfl⟩ := Int.eq_ofNat_of_zero_le q0
  exact bits_walk v0 _ T l z w hT hsm hl (by omega)
end Go.Proofs.Ytlfcmedhadfheaa
