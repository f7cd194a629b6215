/- The law AutoThrough, walked. -/
import Derived.Test.YtlfcmedhadfheaaAutThQ
import Derived.Test.YtlfcmedhadfheaaAutH
import Derived.Test.YtlfcmedhadfheaaAutFd
import Derived.Laws.BitsAllLaws
import Derived.Deep.RegionHeld3
import Derived.IntWalk
namespace Go.Proofs.Ytlfcmedhadfheaa
open Go.RowKit
set_option linter.unusedVariables false
set_option linter.unusedSimpArgs false
def thS (k : Nat) : RS := if k = 0 then ⟨1, 0, 0, 0⟩ else ⟨3, 0, ones k, ones (k - 1)⟩
theorem ones_lt {k : Nat} (h : k ≤ 31) : ones k < 4294967296 := by
  have := two_pow_lt (n := k) (by omega)
  unfold ones; omega
theorem in_ok {i p : Nat} (h1 : i ≤ 31) (h2 : p ≤ 31) : RS.Ok ⟨3, 0, ones i, ones p⟩ := ⟨by show (3 : Nat) < 4; omega, by show 0 < 65536; omega, ones_lt h1, ones_lt h2⟩
theorem thS_ok {k : Nat} (h : k ≤ 31) : (thS k).Ok := by
  unfold thS
  split
  · exact ⟨by show (1 : Nat) < 4; omega, by show 0 < 65536; omega, by show 0 < 4294967296; omega, by show 0 < 4294967296; omega⟩
  · exact in_ok h (by omega)
set_option maxRecDepth 100000 in
set_option maxHeartbeats 8000000 in
theorem through_walk (v : Value) (T : Tab) (ni : Int) (ba : Option Addr) (bl : List Bool) (bc : Nat) (w : World) (hT : TabAt w v T) (hsm : TSm T) (hni : -9223372036854775808 ≤ ni ∧ ni ≤ 9223372036854775807) (hbl0 : bl.length ≤ bc) (hbc : bc ≤ maxLen) (hbs : SliceAt w ba bl.length (fun i => .bool (bl.getD i false))) :
    Calls Try.prog 4 #[v, .int .i64 ni, .slice ba bl.length bc] w fun e w' => e = .returned (.bool true) ∧ Below w.heap.size w w' := by
  have HT0 := Lib.hid hT
  obtain ⟨⟨vp, vr, rfl, hP, hr⟩, _, _⟩ := hT
  obtain ⟨a, c, C0, rfl, hlc, hcm, _⟩ := hr.at_
  obtain ⟨⟨va, vc, rfl, hvl, hvm, _⟩, _⟩ := id hP
  have HRT := Lib.hid hr
  have HHO := Lib.hid hr.holds'
  obtain ⟨w1, hw1⟩ : ∃ w1, w1 = w.alloc (.cells #[.int .i64 T.tracks, .slice va T.pts.length vc, .int .i64 T.sigs, .slice a T.rts.length c] 25) := ⟨_, rfl⟩
  have B1 : Hid (Below w.heap.size w w1) := by rw [hw1]; exact tb_alloc_below _ _
  have K1 : Hid (w1.heap[w.heap.size]? = some (.cells #[.int .i64 T.tracks, .slice va T.pts.length vc, .int .i64 T.sigs, .slice a T.rts.length c] 25 (0, 0))) := by rw [hw1]; exact heap_alloc_new _ _
  have HW1 := Lib.hid hw1
  have HGR := Lib.hid (great_any (.agg #[.int .i64 T.tracks, .slice va T.pts.length vc, .int .i64 T.sigs, .slice a T.rts.length c]) T w1 (HT0.out.below B1.out) hsm)
  have HTLEN := hsm.r
  have HBS := Lib.hid hbs
  unfold maxLen at hvm hcm hbc
  clear hw1 hP hr hsm hbs
  obtain ⟨tb, htb⟩ : ∃ b, b = w.heap.size := ⟨_, rfl⟩
  have HTB := Lib.hid htb
  rw [← htb] at K1
  go_enter Try.func4, Try.ntmps4
  go_upto_region 1 with fail
  rw [← HW1.out, ← htb]
  clear htb
  have c0 := cell_row (j := 0) K1.out rfl
  have c1 := cell_row (j := 1) K1.out rfl
  have c2 := cell_row (j := 2) K1.out rfl
  have c3 := cell_row (j := 3) K1.out rfl
  have l1 := heap_lt K1.out
  go_wp2_with fail
  refine HGR.out.mono ?_
  rintro e w2 ⟨rfl, hb⟩
  have B2 := Lib.hid (B1.out.trans (hb.mono B1.out.size))
  have K2 := Lib.hid (tb_kept K1.out hb)
  clear c0 c1 c2 c3 l1
  clear hb
  obtain ⟨g, hg⟩ : ∃ g, g = greatB T := ⟨_, rfl⟩
  have HGB := Lib.hid hg
  rw [← hg]
  clear hg
  cases g
  case true =>
    go_wp2_with fail
    have HWK := Lib.hid (works_any w2)
    go_wp2_with fail
    refine HWK.out.mono ?_
    rintro e wz ⟨rfl, hbz⟩
    have BZ := Lib.hid (B2.out.trans (hbz.mono (B2.out).size))
    clear hbz HWK
    go_wp2_with fail
    go_ret
    exact ⟨rfl, BZ.out⟩
  case false =>
  have HSM := Lib.hid (small_of HGB.out.symm)
  by_cases hn0 : ni < 0
  · have t3 : decide (ni < 0) = true := decide_eq_true hn0
    have HWK := Lib.hid (works_any w2)
    go_wp2_with fail
    refine HWK.out.mono ?_
    rintro e wz ⟨rfl, hbz⟩
    have BZ := Lib.hid (B2.out.trans (hbz.mono (B2.out).size))
    clear hbz HWK
    go_wp2_with fail
    go_ret
    exact ⟨rfl, BZ.out⟩
  have t3 : decide (ni < 0) = false := decide_eq_false hn0
  obtain ⟨n, rfl⟩ := Int.eq_ofNat_of_zero_le (show 0 ≤ ni by omega)
  clear hn0
  have c3 := cell_row (j := 3) K2.out rfl
  have l1 := heap_lt K2.out
  by_cases hnN : T.rts.length ≤ n
  · have t4 : decide ((T.rts.length : Int) ≤ (n : Int)) = true := decide_eq_true (by omega)
    have HWK := Lib.hid (works_any w2)
    go_wp2_with fail
    refine HWK.out.mono ?_
    rintro e wz ⟨rfl, hbz⟩
    have BZ := Lib.hid (B2.out.trans (hbz.mono (B2.out).size))
    clear hbz HWK
    go_wp2_with fail
    go_ret
    exact ⟨rfl, BZ.out⟩
  have t4 : decide ((T.rts.length : Int) ≤ (n : Int)) = false := decide_eq_false (by omega)
  have hlt : n < T.rts.length := by omega
  clear hnN
  obtain ⟨b, off, C, rfl, hb, hc, hR⟩ := HRT.out.cells (i := n) hlt
  obtain ⟨r, hrr⟩ : ∃ r, r = T.rts.getD n rt0 := ⟨_, rfl⟩
  rw [← hrr] at hR
  have HRR := Lib.hid hrr
  obtain ⟨⟨ta, tc, htr, ht1, ht2, _⟩, _⟩ := id hR.tr
  have HTR : Hid (IntsAt w (.slice ta r.tr.length tc) r.tr) := htr ▸ hR.tr
  have HX1 : Hid (∀ W, Below w.heap.size w W → W.cell? ⟨b, off + n * 6 + 1, none⟩ = some (.slice ta r.tr.length tc)) := fun W hW => by rw [hW.cell hb, ← htr]; exact hc 1 (by omega)
  have HBL : Hid (∀ W, Below w.heap.size w W → b < W.heap.size) := fun W hW => Nat.lt_of_lt_of_le hb hW.size
  unfold maxLen at ht2
  clear hR hc hrr hb htr
  have c0 := cell_row (j := 0) K2.out rfl
  have c1 := cell_row (j := 1) K2.out rfl
  have c2 := cell_row (j := 2) K2.out rfl
  have HN := Lib.hid (new_any (.agg #[.int .i64 T.tracks, .slice va T.pts.length vc, .int .i64 T.sigs, .slice (some ⟨b, off, none⟩) T.rts.length c]) T w2 (HT0.out.below B2.out) HSM.out.big (fun h => tok_of h HHO.out))
  go_wp2_with fail
  refine HN.out.mono ?_
  rintro e w3 ⟨hb3, hif⟩
  have B3 := Lib.hid (B2.out.trans (hb3.mono B2.out.size))
  have K3 := Lib.hid (tb_kept K2.out hb3)
  have BB3 := Lib.hid hb3
  clear c0 c1 c2 c3 l1
  clear hb3 t3 t4
  by_cases hE : checkE T = 0
  case neg =>
    rw [if_neg hE] at hif
    subst hif
    have t1 : (checkE T == 0) = false := by simpa using hE
    have t2 : (checkE T != 0) = true := by simpa using hE
    generalize checkE T = E at *
    have HWK := Lib.hid (works_any w3)
    go_wp2_with fail
    refine HWK.out.mono ?_
    rintro e wz ⟨rfl, hbz⟩
    have BZ := Lib.hid (B3.out.trans (hbz.mono (B3.out).size))
    clear hbz HWK
    go_wp2_with fail
    go_ret
    exact ⟨rfl, BZ.out⟩
  case pos =>
  rw [if_pos hE] at hif
  obtain ⟨u, rfl, hA, hTu, hu0, _⟩ := hif
  have hTOK := (tok_of hE HHO.out).1
  have HTOK := Lib.hid hTOK
  have HTIN := Lib.hid (tin_of hE)
  have A3 := Lib.hid hA; have HTU := Lib.hid hTu
  have HUB : Hid (w2.heap.size ≤ u.w0.heap.size) := hu0
  have HTK : Hid (Trk r.tr) := by rw [HRR.out]; exact trk_of hE hTOK hlt
  have hN16 := hTOK.n
  have htl := hTOK.tl n hlt
  rw [← HRR.out] at htl
  clear hA hTu hu0 hE hTOK HN
  have hbl := HBL.out _ B3.out
  have x1 := HX1.out _ B3.out
  have c3 := cell_row (j := 3) K3.out rfl
  have l1 := heap_lt K3.out
  obtain ⟨q, hqd⟩ : ∃ q, q = 2 ^ n := ⟨_, rfl⟩
  have hq : (2 : Int) ^ n % 4294967296 = (q : Int) := by rw [hqd]; exact shl_one (by omega)
  have hq32 : q < 4294967296 := by rw [hqd]; exact two_pow_lt (by omega)
  obtain ⟨CC, hCC⟩ : ∃ CC, CC = setAll (fun _ => 0) (T.rts.getD n rt0).pts := ⟨_, rfl⟩
  have HST1 : Hid (stepS T ⟨16777215, 0, 0, q, 0, 0⟩ as0 = one n ⟨1, 0, 0, 0⟩ CC) := by
    show _ = _
    rw [hCC]; exact step_ask HTOK.out hlt rfl hqd rfl
  have HC3 : Hid (∀ p, CC p < 3) := by
    have := (stepS_ok HTOK.out ⟨16777215, 0, 0, q, 0, 0⟩ as0_ok).C
    rw [HST1.out] at this
    exact this
  have HS1 : Hid (∀ W, AutoAt W u as0 → Calls Try.prog 13 #[.pointer (some ⟨u.g, 0, none⟩), .agg #[.int .u32 16777215, .int .u32 0, .int .u32 0, .int .u32 (q : Int), .int .u32 0, .int .u32 0]] W fun e w' => (∃ p1 p2 p3 : Nat, e = .returned (.agg #[.int .u32 (p1 : Int), .int .u32 (p2 : Int), .int .u32 (p3 : Int), .int .u32 (q : Int)])) ∧ AutoAt w' u (one n ⟨1, 0, 0, 0⟩ CC) ∧ Only u.M W w') := fun W hW => by
    refine (step_p (f := ⟨16777215, 0, 0, q, 0, 0⟩) HTU.out HTOK.out as0_ok (fd_ok (by omega) (by omega) (by omega) hq32 (by omega) (by omega)) HST1.out W hW).mono ?_
    rintro e V ⟨h1, h2, h3⟩
    exact ⟨⟨_, _, _, by rw [h1, lo_one hlt (by show (1 : Nat) ≠ 0; omega), hqd]⟩, h2, h3⟩
  -- a step of a train
  have HST : Hid (∀ (r1 : RS) (cl i p : Nat) W, cl < 4294967296 → r1.Ok → i ≤ 24 → p ≤ 24 → (∀ f : FD, f.cl = cl → goR f (T.rts.getD n rt0) n r1 = ⟨3, 0, ones i, ones p⟩) → AutoAt W u (one n r1 CC) → Calls Try.prog 13 #[.pointer (some ⟨u.g, 0, none⟩), .agg #[.int .u32 (cl : Int), .int .u32 0, .int .u32 0, .int .u32 0, .int .u32 0, .int .u32 0]] W fun e w' => (∃ p2 p3 : Nat, e = .returned (.agg #[.int .u32 0, .int .u32 (p2 : Int), .int .u32 (p3 : Int), .int .u32 (q : Int)])) ∧ AutoAt w' u (one n ⟨3, 0, ones i, ones p⟩ CC) ∧ Only u.M W w') := fun r1 cl i p W hcl hr1 hi hp hg hW => by
    refine (step_p (f := ⟨cl, 0, 0, 0, 0, 0⟩) HTU.out HTOK.out (as_one_ok hr1 HC3.out) (fd_ok hcl (by omega) (by omega) (by omega) (by omega) (by omega)) ((step_quiet hlt rfl rfl).trans (by rw [hg _ rfl])) W hW).mono ?_
    rintro e V ⟨h1, h2, h3⟩
    exact ⟨⟨_, _, by rw [h1, lo_one hlt (by show (3 : Nat) ≠ 0; omega), pr_one (by show (3 : Nat) ≠ 1; omega), hqd]; rfl⟩, h2, h3⟩
  have HSG : Hid (∀ (r1 : RS) W, r1.Ok → (∀ f : FD, f.cl = every → goR f (T.rts.getD n rt0) n r1 = rs0) → AutoAt W u (one n r1 CC) → Calls Try.prog 13 #[.pointer (some ⟨u.g, 0, none⟩), .agg #[.int .u32 16777215, .int .u32 0, .int .u32 0, .int .u32 0, .int .u32 0, .int .u32 0]] W fun e w' => (∃ p1 p2 p3 : Nat, e = .returned (.agg #[.int .u32 (p1 : Int), .int .u32 (p2 : Int), .int .u32 (p3 : Int), .int .u32 0])) ∧ AutoAt w' u (one n rs0 CC) ∧ Only u.M W w') := fun r1 W hr1 hg hW => by
    refine (step_p (f := ⟨16777215, 0, 0, 0, 0, 0⟩) HTU.out HTOK.out (as_one_ok hr1 HC3.out) (fd_ok (by omega) (by omega) (by omega) (by omega) (by omega) (by omega)) ((step_quiet hlt rfl rfl).trans (by rw [hg _ rfl])) W hW).mono ?_
    rintro e V ⟨h1, h2, h3⟩
    exact ⟨⟨_, _, _, by rw [h1, lo_free]; rfl⟩, h2, h3⟩
  have hqd' := Lib.hid hqd
  clear hCC hqd
  go_upto_region 8 with fail
  go_wp2_with fail
  refine (HS1.out _ A3.out).mono ?_
  rintro e w4 ⟨⟨p1, p2, p3, rfl⟩, hA, hO⟩
  have BB4 := Lib.hid (Only.toBelow BB3.out hO (Au.M_lt hA HUB.out) BB3.out.size)
  obtain ⟨w5, hw5⟩ : ∃ W, W = w4.alloc (.cells #[.int .u32 (p1 : Int), .int .u32 (p2 : Int), .int .u32 (p3 : Int), .int .u32 (q : Int)] 36) := ⟨_, rfl⟩
  have BA5 : Hid (Below w4.heap.size w4 w5) := by rw [hw5]; exact tb_alloc_below _ _
  have K5 : Hid (w5.heap[w4.heap.size]? = some (.cells #[.int .u32 (p1 : Int), .int .u32 (p2 : Int), .int .u32 (p3 : Int), .int .u32 (q : Int)] 36 (0, 0))) := by rw [hw5]; exact heap_alloc_new _ _
  have A5 : Hid (AutoAt w5 u (one n (thS 0) CC)) := hA.below BA5.out
  have BB5 : Hid (Below w2.heap.size w2 w5) := BB4.out.trans (BA5.out.mono BB4.out.size)
  have HW5 := Lib.hid hw5
  clear hA hO hw5 hbl x1 c3 l1
  go_upto_region 9 with fail
  rw [← HW5.out]
  have s3 := cell_row (j := 3) K5.out rfl
  have ls := heap_lt K5.out
  have hqe : Hid (((2 : Int) ^ n) = (q : Int)) := by show _ = _; rw [hqd'.out]; simp
  have hqw : IntKind.u32.wrap ((2 : Int) ^ n) = (q : Int) := by
    rw [hqe.out]; exact IntWalk.u32_in _ ⟨by omega, by omega⟩
  go_quiet (fail)
  have A6 := Lib.hid (A5.out.drewN (k := nq))
  have BB6 : Hid (Below w2.heap.size w2 (w5.drewN nq)) := ⟨BB5.out.os, BB5.out.tape, BB5.out.output, BB5.out.size, BB5.out.block⟩
  generalize w5.drewN nq = w6 at *
  clear s3 ls hqw
  go_upto_region 12 with fail
  obtain ⟨tb2, tof, rfl, htb2, _⟩ := HTR.out.cell htl.1
  have HTB2 := Lib.hid htb2
  clear htb2
  go_loopw [59] (fun i wr => ∃ (k : Nat), k ≤ r.tr.length ∧ i = .int .i64 k ∧ AutoAt wr u (one n (thS k) CC) ∧ Below w2.heap.size w2 wr) (fun i _ => r.tr.length - (intOf i).toNat)
  case atStart => exact ⟨0, Nat.zero_le _, rfl, A6.out, BB6.out⟩
  case round =>
    clear A6 BB6
    obtain ⟨k, hk, rfl, hA, hB⟩ := hrel
    have A7 := Lib.hid hA; have B7 := Lib.hid hB
    clear hA hB
    by_cases hlk : k < r.tr.length
    · have HLK := Lib.hid hlk
      have HBW : Hid (∀ W, Below w2.heap.size w2 W → ∀ j, j < r.tr.length → W.cell? ⟨tb2, tof + j, none⟩ = some (.int .i64 (r.tr.getD j 0))) := fun W hW j hj => by
        obtain ⟨_, _, e, _, x⟩ := (HTR.out.below (B2.out.trans (hW.mono B2.out.size))).cell hj
        cases e; exact x
      obtain ⟨a, ha⟩ := Int.eq_ofNat_of_zero_le (HTK.out.r k hlk).1
      have ha24 : a < 24 := by have := (HTK.out.r k hlk).2; omega
      obtain ⟨c1, hc1⟩ : ∃ c, c = offB 16777215 a := ⟨_, rfl⟩
      have HC1 : Hid (c1 = offB every (r.tr.getD k 0).toNat) := by show _ = _; rw [ha, hc1]; rfl
      have hc1l : c1 < 4294967296 := by rw [hc1]; exact offB_lt (by omega)
      have hb1 : bits .andNot .u32 16777215 ((2 : Int) ^ a % 4294967296) = (c1 : Int) := by rw [hc1]; exact near_bits (x := 16777215) (by omega) (by omega)
      have x0 : wr.cell? ⟨tb2, tof + k, none⟩ = some (.int .i64 (a : Int)) := by rw [← ha]; exact HBW.out _ B7.out k hlk
      have lx : tb2 < wr.heap.size := Nat.lt_of_lt_of_le HTB2.out (Nat.le_trans B2.out.size B7.out.size)
      have HA := Lib.hid ha
      clear hc1 ha
      by_cases hk0 : k = 0
      · have HK0 := Lib.hid hk0
        have t0 : decide ((0 : Int) < (k : Int)) = false := decide_eq_false (by omega)
        have t00 : k ≤ 0 := by omega
        clear hk0
        have HS := Lib.hid (HST.out (thS k) c1 (k + 1) k wr hc1l (thS_ok (by omega)) (by omega) (by omega) (fun f hf => by rw [← HRR.out]; have h1 := HC1.out; have h2 := HK0.out; subst h2; exact th_first HTK.out htl.1 (hf.trans h1)) A7.out)
        go_wp2_with fail
        refine HS.out.mono ?_
        rintro e w9 ⟨⟨p2, p3, rfl⟩, hA, hO⟩
        have A9 := Lib.hid hA
        have B9 := Lib.hid (Only.toBelow B7.out hO (Au.M_lt hA HUB.out) B7.out.size)
        clear hA hO HS
        obtain ⟨w10, hwo⟩ : ∃ W, W = w9.alloc (.cells #[.int .u32 0, .int .u32 (p2 : Int), .int .u32 (p3 : Int), .int .u32 (q : Int)] 36) := ⟨_, rfl⟩
        have BAO : Hid (Below w9.heap.size w9 w10) := by rw [hwo]; exact tb_alloc_below _ _
        have K10 : Hid (w10.heap[w9.heap.size]? = some (.cells #[.int .u32 0, .int .u32 (p2 : Int), .int .u32 (p3 : Int), .int .u32 (q : Int)] 36 (0, 0))) := by rw [hwo]; exact heap_alloc_new _ _
        have A10 := Lib.hid (A9.out.below BAO.out)
        have B10 := Lib.hid (B9.out.trans (BAO.out.mono B9.out.size))
        have HWO := Lib.hid hwo
        clear hwo BAO
        go_upto_region 22 with fail
        rw [← HWO.out]
        have s0 := cell_row (j := 0) K10.out rfl
        have s3 := cell_row (j := 3) K10.out rfl
        have ls := heap_lt K10.out
        have hqw : IntKind.u32.wrap ((2 : Int) ^ n) = (q : Int) := by
          rw [hqe.out]; exact IntWalk.u32_in _ ⟨by omega, by omega⟩
        go_quiet (fail)
        have A11 := Lib.hid (A10.out.drewN (k := nq))
        have B11 : Hid (Below w2.heap.size w2 (w10.drewN nq)) := ⟨B10.out.os, B10.out.tape, B10.out.output, B10.out.size, B10.out.block⟩
        generalize w10.drewN nq = w11 at *
        clear s0 s3 ls hqw HWO K10
        go_wp2_with fail
        go_roundw
        case rel => exact ⟨k + 1, by have := HLK.out; omega, by go_num, A11.out, B11.out⟩
        case measure => have := HLK.out; simp [intOf]; omega
      · obtain ⟨j, hj⟩ : ∃ j, k = j + 1 := ⟨k - 1, by omega⟩
        have HJ := Lib.hid hj
        have t0 : decide ((0 : Int) < (k : Int)) = true := decide_eq_true (by omega)
        have hk1 : (k : Int) - 1 = (j : Int) := by omega
        have hjk : j < r.tr.length := by omega
        clear hk0 hj
        by_cases hkb : k ≤ bl.length
        · have t1 : decide ((k : Int) ≤ (bl.length : Int)) = true := decide_eq_true (by omega)
          have hjb : j < bl.length := by have := HJ.out; omega
          obtain ⟨b2, of2, rfl, hb2, hbc2⟩ := HBS.out.at (by omega)
          have y0 : wr.cell? ⟨b2, of2 + j, none⟩ = some (.bool (bl.getD j false)) := by rw [(B2.out.trans (B7.out.mono B2.out.size)).cell hb2]; exact hbc2 j hjb
          have ly : b2 < wr.heap.size := Nat.lt_of_lt_of_le hb2 (Nat.le_trans B2.out.size B7.out.size)
          clear hbc2 hb2
          cases hbj : bl.getD j false
          case false =>
            rw [hbj] at y0
            clear hbj
            have HS := Lib.hid (HST.out (thS k) c1 (k + 1) k wr hc1l (thS_ok (by omega)) (by omega) (by omega) (fun f hf => by rw [← HRR.out]; have h1 := HC1.out; have h2 := HJ.out; subst h2; exact th_next HTK.out hlk (hf.trans h1) (.inl rfl)) A7.out)
            go_wp2_with fail
            refine HS.out.mono ?_
            rintro e w9 ⟨⟨p2, p3, rfl⟩, hA, hO⟩
            have A9 := Lib.hid hA
            have B9 := Lib.hid (Only.toBelow B7.out hO (Au.M_lt hA HUB.out) B7.out.size)
            clear hA hO HS
            obtain ⟨w10, hwo⟩ : ∃ W, W = w9.alloc (.cells #[.int .u32 0, .int .u32 (p2 : Int), .int .u32 (p3 : Int), .int .u32 (q : Int)] 36) := ⟨_, rfl⟩
            have BAO : Hid (Below w9.heap.size w9 w10) := by rw [hwo]; exact tb_alloc_below _ _
            have K10 : Hid (w10.heap[w9.heap.size]? = some (.cells #[.int .u32 0, .int .u32 (p2 : Int), .int .u32 (p3 : Int), .int .u32 (q : Int)] 36 (0, 0))) := by rw [hwo]; exact heap_alloc_new _ _
            have A10 := Lib.hid (A9.out.below BAO.out)
            have B10 := Lib.hid (B9.out.trans (BAO.out.mono B9.out.size))
            have HWO := Lib.hid hwo
            clear hwo BAO
            go_upto_region 22 with fail
            rw [← HWO.out]
            have s0 := cell_row (j := 0) K10.out rfl
            have s3 := cell_row (j := 3) K10.out rfl
            have ls := heap_lt K10.out
            have hqw : IntKind.u32.wrap ((2 : Int) ^ n) = (q : Int) := by
              rw [hqe.out]; exact IntWalk.u32_in _ ⟨by omega, by omega⟩
            go_quiet (fail)
            have A11 := Lib.hid (A10.out.drewN (k := nq))
            have B11 : Hid (Below w2.heap.size w2 (w10.drewN nq)) := ⟨B10.out.os, B10.out.tape, B10.out.output, B10.out.size, B10.out.block⟩
            generalize w10.drewN nq = w11 at *
            clear s0 s3 ls hqw HWO K10
            go_wp2_with fail
            go_roundw
            case rel => exact ⟨k + 1, by have := HLK.out; omega, by go_num, A11.out, B11.out⟩
            case measure => have := HLK.out; simp [intOf]; omega
          case true =>
            rw [hbj] at y0
            clear hbj
            obtain ⟨d, hd⟩ := Int.eq_ofNat_of_zero_le (HTK.out.r j hjk).1
            have hd24 : d < 24 := by have := (HTK.out.r j hjk).2; omega
            obtain ⟨c2, hc2⟩ : ∃ c, c = offB c1 d := ⟨_, rfl⟩
            have HC2 : Hid (c2 = offB (offB every (r.tr.getD k 0).toNat) (r.tr.getD j 0).toNat) := by show _ = _; rw [hd, hc2, HC1.out]; rfl
            have hc2l : c2 < 4294967296 := by rw [hc2]; exact offB_lt hc1l
            have hb2' : bits .andNot .u32 (c1 : Int) ((2 : Int) ^ d % 4294967296) = (c2 : Int) := by rw [hc2]; exact near_bits hc1l (by omega)
            have x2 : wr.cell? ⟨tb2, tof + j, none⟩ = some (.int .i64 (d : Int)) := by rw [← hd]; exact HBW.out _ B7.out j hjk
            clear hc2 hd
            have HS := Lib.hid (HST.out (thS k) c2 (k + 1) j wr hc2l (thS_ok (by omega)) (by omega) (by omega) (fun f hf => by rw [← HRR.out]; have h1 := HC2.out; have h2 := HJ.out; subst h2; exact th_both HTK.out hlk (hf.trans h1)) A7.out)
            go_wp2_with fail
            refine HS.out.mono ?_
            rintro e v9 ⟨⟨p2, p3, rfl⟩, hA, hO⟩
            have A7a := Lib.hid hA
            have B7a := Lib.hid (Only.toBelow B7.out hO (Au.M_lt hA HUB.out) B7.out.size)
            clear hA hO HS
            obtain ⟨v10, hwo⟩ : ∃ W, W = v9.alloc (.cells #[.int .u32 0, .int .u32 (p2 : Int), .int .u32 (p3 : Int), .int .u32 (q : Int)] 36) := ⟨_, rfl⟩
            have BAO : Hid (Below v9.heap.size v9 v10) := by rw [hwo]; exact tb_alloc_below _ _
            have K7 : Hid (v10.heap[v9.heap.size]? = some (.cells #[.int .u32 0, .int .u32 (p2 : Int), .int .u32 (p3 : Int), .int .u32 (q : Int)] 36 (0, 0))) := by rw [hwo]; exact heap_alloc_new _ _
            have A7b := Lib.hid (A7a.out.below BAO.out)
            have B7b := Lib.hid (B7a.out.trans (BAO.out.mono B7a.out.size))
            have HWO := Lib.hid hwo
            clear hwo BAO
            go_upto_region 18 with fail
            clear x0 x2 y0 lx ly
            rw [← HWO.out]
            have s0 := cell_row (j := 0) K7.out rfl
            have s3 := cell_row (j := 3) K7.out rfl
            have ls := heap_lt K7.out
            have hqw : IntKind.u32.wrap ((2 : Int) ^ n) = (q : Int) := by
              rw [hqe.out]; exact IntWalk.u32_in _ ⟨by omega, by omega⟩
            go_quiet (fail)
            have A7c := Lib.hid (A7b.out.drewN (k := nq))
            have B7c : Hid (Below w2.heap.size w2 (v10.drewN nq)) := ⟨B7b.out.os, B7b.out.tape, B7b.out.output, B7b.out.size, B7b.out.block⟩
            generalize v10.drewN nq = v11 at *
            clear s0 s3 ls hqw HWO K7
            have HS := Lib.hid (HST.out (⟨3, 0, ones (k + 1), ones j⟩) c1 (k + 1) k v11 hc1l (in_ok (by omega) (by omega)) (by omega) (by omega) (fun f hf => by rw [← HRR.out]; have h1 := HC1.out; have h2 := HJ.out; subst h2; exact th_next HTK.out hlk (hf.trans h1) (.inr rfl)) A7c.out)
            go_wp2_with fail
            refine HS.out.mono ?_
            rintro e w9 ⟨⟨p2, p3, rfl⟩, hA, hO⟩
            have A9 := Lib.hid hA
            have B9 := Lib.hid (Only.toBelow B7c.out hO (Au.M_lt hA HUB.out) B7c.out.size)
            clear hA hO HS
            obtain ⟨w10, hwo⟩ : ∃ W, W = w9.alloc (.cells #[.int .u32 0, .int .u32 (p2 : Int), .int .u32 (p3 : Int), .int .u32 (q : Int)] 36) := ⟨_, rfl⟩
            have BAO : Hid (Below w9.heap.size w9 w10) := by rw [hwo]; exact tb_alloc_below _ _
            have K10 : Hid (w10.heap[w9.heap.size]? = some (.cells #[.int .u32 0, .int .u32 (p2 : Int), .int .u32 (p3 : Int), .int .u32 (q : Int)] 36 (0, 0))) := by rw [hwo]; exact heap_alloc_new _ _
            have A10 := Lib.hid (A9.out.below BAO.out)
            have B10 := Lib.hid (B9.out.trans (BAO.out.mono B9.out.size))
            have HWO := Lib.hid hwo
            clear hwo BAO
            go_upto_region 22 with fail
            rw [← HWO.out]
            have s0 := cell_row (j := 0) K10.out rfl
            have s3 := cell_row (j := 3) K10.out rfl
            have ls := heap_lt K10.out
            have hqw : IntKind.u32.wrap ((2 : Int) ^ n) = (q : Int) := by
              rw [hqe.out]; exact IntWalk.u32_in _ ⟨by omega, by omega⟩
            go_quiet (fail)
            have A11 := Lib.hid (A10.out.drewN (k := nq))
            have B11 : Hid (Below w2.heap.size w2 (w10.drewN nq)) := ⟨B10.out.os, B10.out.tape, B10.out.output, B10.out.size, B10.out.block⟩
            generalize w10.drewN nq = w11 at *
            clear s0 s3 ls hqw HWO K10
            go_wp2_with fail
            go_roundw
            case rel => exact ⟨k + 1, by have := HLK.out; omega, by go_num, A11.out, B11.out⟩
            case measure => have := HLK.out; simp [intOf]; omega
        · have t1 : decide ((k : Int) ≤ (bl.length : Int)) = false := decide_eq_false (by omega)
          have HS := Lib.hid (HST.out (thS k) c1 (k + 1) k wr hc1l (thS_ok (by omega)) (by omega) (by omega) (fun f hf => by rw [← HRR.out]; have h1 := HC1.out; have h2 := HJ.out; subst h2; exact th_next HTK.out hlk (hf.trans h1) (.inl rfl)) A7.out)
          go_wp2_with fail
          refine HS.out.mono ?_
          rintro e w9 ⟨⟨p2, p3, rfl⟩, hA, hO⟩
          have A9 := Lib.hid hA
          have B9 := Lib.hid (Only.toBelow B7.out hO (Au.M_lt hA HUB.out) B7.out.size)
          clear hA hO HS
          obtain ⟨w10, hwo⟩ : ∃ W, W = w9.alloc (.cells #[.int .u32 0, .int .u32 (p2 : Int), .int .u32 (p3 : Int), .int .u32 (q : Int)] 36) := ⟨_, rfl⟩
          have BAO : Hid (Below w9.heap.size w9 w10) := by rw [hwo]; exact tb_alloc_below _ _
          have K10 : Hid (w10.heap[w9.heap.size]? = some (.cells #[.int .u32 0, .int .u32 (p2 : Int), .int .u32 (p3 : Int), .int .u32 (q : Int)] 36 (0, 0))) := by rw [hwo]; exact heap_alloc_new _ _
          have A10 := Lib.hid (A9.out.below BAO.out)
          have B10 := Lib.hid (B9.out.trans (BAO.out.mono B9.out.size))
          have HWO := Lib.hid hwo
          clear hwo BAO
          go_upto_region 22 with fail
          rw [← HWO.out]
          have s0 := cell_row (j := 0) K10.out rfl
          have s3 := cell_row (j := 3) K10.out rfl
          have ls := heap_lt K10.out
          have hqw : IntKind.u32.wrap ((2 : Int) ^ n) = (q : Int) := by
            rw [hqe.out]; exact IntWalk.u32_in _ ⟨by omega, by omega⟩
          go_quiet (fail)
          have A11 := Lib.hid (A10.out.drewN (k := nq))
          have B11 : Hid (Below w2.heap.size w2 (w10.drewN nq)) := ⟨B10.out.os, B10.out.tape, B10.out.output, B10.out.size, B10.out.block⟩
          generalize w10.drewN nq = w11 at *
          clear s0 s3 ls hqw HWO K10
          go_wp2_with fail
          go_roundw
          case rel => exact ⟨k + 1, by have := HLK.out; omega, by go_num, A11.out, B11.out⟩
          case measure => have := HLK.out; simp [intOf]; omega
    · obtain hkl : k = r.tr.length := by omega
      have HKL := Lib.hid hkl
      clear hkl
      have HS := Lib.hid (HSG.out (thS k) wr (thS_ok (by omega)) (fun f hf => by
        rw [← HRR.out]
        have h2 := HKL.out
        have e : thS k = ⟨3, 0, ones r.tr.length, ones (r.tr.length - 1)⟩ := by unfold thS; rw [if_neg (by omega), h2]
        rw [e]
        exact th_gone HTK.out htl.1 hf) A7.out)
      go_wp2_with fail
      refine HS.out.mono ?_
      rintro e w9 ⟨⟨p1, p2, p3, rfl⟩, hA, hO⟩
      have A9 := Lib.hid hA
      have B9 := Lib.hid (Only.toBelow B7.out hO (Au.M_lt hA HUB.out) B7.out.size)
      clear hA hO HS
      obtain ⟨w10, hwo⟩ : ∃ W, W = w9.alloc (.cells #[.int .u32 (p1 : Int), .int .u32 (p2 : Int), .int .u32 (p3 : Int), .int .u32 0] 36) := ⟨_, rfl⟩
      have BAO : Hid (Below w9.heap.size w9 w10) := by rw [hwo]; exact tb_alloc_below _ _
      have K10 : Hid (w10.heap[w9.heap.size]? = some (.cells #[.int .u32 (p1 : Int), .int .u32 (p2 : Int), .int .u32 (p3 : Int), .int .u32 0] 36 (0, 0))) := by rw [hwo]; exact heap_alloc_new _ _
      have A10 := Lib.hid (A9.out.below BAO.out)
      have B10 := Lib.hid (B9.out.trans (BAO.out.mono B9.out.size))
      have HWO := Lib.hid hwo
      clear hwo BAO
      have HRTE : Hid (Calls Try.prog 15 #[.pointer (some ⟨u.g, 0, none⟩), .int .i64 (n : Int)] w10 fun e w' => e = .returned (.agg #[.int .u8 0, .int .u16 0, .int .u32 0, .int .u32 0]) ∧ Below w10.heap.size w10 w') := by
        refine (route_at u _ n w10 A10.out (by rw [HTU.out]; exact hN16)).mono ?_
        rintro e V ⟨h1, h2⟩
        have e2 : (one n rs0 CC).at u.T.rts.length (n : Int) = rs0 := by
          unfold AS.at
          split
          · exact one_at _ _ _
          · rfl
        rw [e2] at h1
        exact ⟨h1, h2⟩
      go_upto_region 26 with fail
      rw [← HWO.out]
      have s3 := cell_row (j := 3) K10.out rfl
      have ls := heap_lt K10.out
      go_wp2_with fail
      refine HRTE.out.mono ?_
      rintro e w11 ⟨rfl, hb⟩
      have B11 : Hid (Below w.heap.size w w11) := B2.out.trans ((B10.out.trans (hb.mono B10.out.size)).mono B2.out.size)
      clear hb s3 ls
      have HWK := Lib.hid (works_any w11)
      go_wp2_with fail
      refine HWK.out.mono ?_
      rintro e wz ⟨rfl, hbz⟩
      have BZ := Lib.hid (B11.out.trans (hbz.mono (B11.out).size))
      clear hbz HWK
      go_wp2_with fail
      go_ret
      exact ⟨rfl, BZ.out⟩
set_option maxRecDepth 100000 in
theorem through_any (v0 : Value) (a1 : Int) (a2 : Option Addr) (len2 cap2 : Nat) (w : World) (h0 : ReadsW w 25 v0.cells.toList ∧ Value.okWide Try.prog w .any 0 25 v0) (h1 : (Lit.int .i64 a1).wf = true) (h2 : ReadsC w 42 [.slice a2 len2 cap2]) :
    Calls Try.prog 4 #[v0, .int .i64 a1, .slice a2 len2 cap2] w fun e w' => e = .returned (.bool true) ∧ Below w.heap.size w w' := by
  obtain ⟨T, hT⟩ := reads_tab ⟨h0.1.c, h0.2⟩
  obtain ⟨l, rfl, k1, k2, k3⟩ := reads_bools Try.underlying42 Try.underlying4 boolCells h2
  exact through_walk v0 T a1 a2 l cap2 w hT (tab_sm h0.1 hT) (i64ok_of h1) k1 k2 k3
end Go.Proofs.Ytlfcmedhadfheaa
