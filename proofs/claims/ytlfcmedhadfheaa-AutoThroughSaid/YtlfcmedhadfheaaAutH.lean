/- The law AutoHolds, walked. -/
import Derived.Test.YtlfcmedhadfheaaAutOne
import Derived.Test.YtlfcmedhadfheaaAutFd
import Derived.Laws.BitsAllLaws
import Derived.Deep.RegionHeld3
import Derived.IntWalk
namespace Go.Proofs.Ytlfcmedhadfheaa
open Go.RowKit
set_option linter.unusedVariables false
set_option linter.unusedSimpArgs false
theorem RtsAt.holds' {w : World} {v : Value} {l : List Rt} (h : RtsAt w v l) : ∀ n, n < l.length → (l.getD n rt0).hold < 65536 := by
  obtain ⟨a, c, C, _, _, _, _, hR⟩ := h.at_
  exact fun n hn => (hR n hn).holdOk
theorem shl_one {k : Nat} (hk : k < 32) : (2 : Int) ^ k % 4294967296 = ((2 ^ k : Nat) : Int) := by
  have h : 2 ^ k < 2 ^ 32 := Nat.pow_lt_pow_right (by omega) hk
  have e : ((2 : Int) ^ k) = ((2 ^ k : Nat) : Int) := by simp
  rw [e]
  generalize 2 ^ k = p at *
  omega
theorem near_bits {x k : Nat} (hx : x < 4294967296) (hk : k < 32) : bits .andNot .u32 (x : Int) ((2 : Int) ^ k % 4294967296) = ((offB x k : Nat) : Int) := by
  have h : 2 ^ k < 2 ^ 32 := Nat.pow_lt_pow_right (by omega) hk
  rw [shl_one hk]
  exact u32_andNot_nat x _ hx h
/-- A step, its answer in parts. -/
def StepP (u : Au) (S S' : AS) (f : FD) (o : OD) : Prop := ∀ W, AutoAt W u S → Calls Try.prog 13 #[.pointer (some ⟨u.g, 0, none⟩), .agg #[.int .u32 (f.cl : Int), .int .u32 (f.no : Int), .int .u32 (f.re : Int), .int .u32 (f.ak : Int), .int .u32 (f.ca : Int), .int .u32 (f.rq : Int)]] W fun e w' => e = .returned (.agg #[.int .u32 (o.pr : Int), .int .u32 (o.no : Int), .int .u32 (o.re : Int), .int .u32 (o.lo : Int)]) ∧ AutoAt w' u S' ∧ Only u.M W w'
theorem step_p {u : Au} {S S' : AS} {T : Tab} {f : FD} (hu : u.T = T) (hT : TOk T) (hS : S.Ok) (hf : f.Ok) (he : stepS T f S = S') : StepP u S S' f (orderS T f S') := fun W hW => by
  refine (step_any u S f W hW hf (by rw [hu]; exact hT) hS).mono ?_
  rintro e V ⟨h1, h2, h3⟩
  rw [hu, he] at h1 h2
  exact ⟨h1, h2, h3⟩
theorem as_one_ok {n : Nat} {r : RS} {C : Nat → Nat} (hr : r.Ok) (hC : ∀ p, C p < 3) : (one n r C).Ok := ⟨fun j => by
  show (if j = n then r else rs0).Ok
  split
  · exact hr
  · exact as0_ok.R 0, hC⟩
theorem fd_ok {a b c d e g : Nat} (h1 : a < 4294967296) (h2 : b < 4294967296) (h3 : c < 4294967296) (h4 : d < 4294967296) (h5 : e < 4294967296) (h6 : g < 4294967296) : FD.Ok ⟨a, b, c, d, e, g⟩ := ⟨h1, h2, h3, h4, h5, h6⟩
theorem two_pow_lt {n : Nat} (h : n < 32) : 2 ^ n < 4294967296 := Nat.pow_lt_pow_right (n := 32) (by omega) h
set_option maxRecDepth 100000 in
set_option maxHeartbeats 8000000 in
theorem holds_walk (v : Value) (T : Tab) (ni : Int) (w : World) (hT : TabAt w v T) (hsm : TSm T) (hni : -9223372036854775808 ≤ ni ∧ ni ≤ 9223372036854775807) :
    Calls Try.prog 6 #[v, .int .i64 ni] w fun e w' => e = .returned (.bool true) ∧ Below w.heap.size w w' := by
  have HT0 := Lib.hid hT
  obtain ⟨⟨vp, vr, rfl, hP, hr⟩, _, _⟩ := hT
  obtain ⟨a, c, C0, rfl, hlc, hcm, _⟩ := hr.at_
  obtain ⟨⟨va, vc, rfl, hvl, hvm, _⟩, _⟩ := id hP
  have HRT := Lib.hid hr
  have HHO := Lib.hid hr.holds'
  obtain ⟨w1, hw1⟩ : ∃ w1, w1 = w.alloc (.cells #[.int .i64 T.tracks, .slice va T.pts.length vc, .int .i64 T.sigs, .slice a T.rts.length c] 25) := ⟨_, rfl⟩
  have B1 : Hid (Below w.heap.size w w1) := by rw [hw1]; exact tb_alloc_below _ _
  have K1 : Hid (w1.heap[w.heap.size]? = some (.cells #[.int .i64 T.tracks, .slice va T.pts.length vc, .int .i64 T.sigs, .slice a T.rts.length c] 25 (0, 0))) := by rw [hw1]; exact heap_alloc_new _ _
  have HW1 := Lib.hid hw1
  have HGR := Lib.hid (great_any (.agg #[.int .i64 T.tracks, .slice va T.pts.length vc, .int .i64 T.sigs, .slice a T.rts.length c]) T w1 (HT0.out.below B1.out) hsm)
  have HTLEN := hsm.r
  unfold maxLen at hvm hcm
  clear hw1 hP hr hsm
  obtain ⟨tb, htb⟩ : ∃ b, b = w.heap.size := ⟨_, rfl⟩
  have HTB := Lib.hid htb
  rw [← htb] at K1
  go_enter Try.func6, Try.ntmps6
  go_upto_region 1 with fail
  rw [← HW1.out, ← htb]
  clear htb
  have c0 := cell_row (j := 0) K1.out rfl
  have c1 := cell_row (j := 1) K1.out rfl
  have c2 := cell_row (j := 2) K1.out rfl
  have c3 := cell_row (j := 3) K1.out rfl
  have l1 := heap_lt K1.out
  go_wp2_with fail
  refine HGR.out.mono ?_
  rintro e w2 ⟨rfl, hb⟩
  have B2 := Lib.hid (B1.out.trans (hb.mono B1.out.size))
  have K2 := Lib.hid (tb_kept K1.out hb)
  clear c0 c1 c2 c3 l1
  clear hb
  obtain ⟨g, hg⟩ : ∃ g, g = greatB T := ⟨_, rfl⟩
  have HGB := Lib.hid hg
  rw [← hg]
  clear hg
  cases g
  case true =>
    go_wp2_with fail
    have HWK := Lib.hid (works_any w2)
    go_wp2_with fail
    refine HWK.out.mono ?_
    rintro e wz ⟨rfl, hbz⟩
    have BZ := Lib.hid (B2.out.trans (hbz.mono (B2.out).size))
    clear hbz HWK
    go_wp2_with fail
    go_ret
    exact ⟨rfl, BZ.out⟩
  case false =>
  have HSM := Lib.hid (small_of HGB.out.symm)
  by_cases hn0 : ni < 0
  · have t3 : decide (ni < 0) = true := decide_eq_true hn0
    have HWK := Lib.hid (works_any w2)
    go_wp2_with fail
    refine HWK.out.mono ?_
    rintro e wz ⟨rfl, hbz⟩
    have BZ := Lib.hid (B2.out.trans (hbz.mono (B2.out).size))
    clear hbz HWK
    go_wp2_with fail
    go_ret
    exact ⟨rfl, BZ.out⟩
  have t3 : decide (ni < 0) = false := decide_eq_false hn0
  obtain ⟨n, rfl⟩ := Int.eq_ofNat_of_zero_le (show 0 ≤ ni by omega)
  clear hn0
  have c3 := cell_row (j := 3) K2.out rfl
  have l1 := heap_lt K2.out
  by_cases hnN : T.rts.length ≤ n
  · have t4 : decide ((T.rts.length : Int) ≤ (n : Int)) = true := decide_eq_true (by omega)
    have HWK := Lib.hid (works_any w2)
    go_wp2_with fail
    refine HWK.out.mono ?_
    rintro e wz ⟨rfl, hbz⟩
    have BZ := Lib.hid (B2.out.trans (hbz.mono (B2.out).size))
    clear hbz HWK
    go_wp2_with fail
    go_ret
    exact ⟨rfl, BZ.out⟩
  have t4 : decide ((T.rts.length : Int) ≤ (n : Int)) = false := decide_eq_false (by omega)
  have hlt : n < T.rts.length := by omega
  clear hnN
  obtain ⟨b, off, C, rfl, hb, hc, hR⟩ := HRT.out.cells (i := n) hlt
  obtain ⟨r, hrr⟩ : ∃ r, r = T.rts.getD n rt0 := ⟨_, rfl⟩
  rw [← hrr] at hR
  have HRR := Lib.hid hrr
  have HX3 : Hid (∀ W, Below w.heap.size w W → W.cell? ⟨b, off + n * 6 + 3, none⟩ = some (.int .i64 r.app)) := fun W hW => by rw [hW.cell hb, ← hR.app]; exact hc 3 (by omega)
  have HX5 : Hid (∀ W, Below w.heap.size w W → W.cell? ⟨b, off + n * 6 + 5, none⟩ = some (.int .u16 (r.hold : Int))) := fun W hW => by rw [hW.cell hb, ← hR.hold]; exact hc 5 (by omega)
  have HBL : Hid (∀ W, Below w.heap.size w W → b < W.heap.size) := fun W hW => Nat.lt_of_lt_of_le hb hW.size
  have hh16 := hR.holdOk
  have happ := hR.appOk
  unfold i64ok at happ
  clear hR hc hrr hb
  have x3 := HX3.out _ B2.out
  have x5 := HX5.out _ B2.out
  have hbl := HBL.out _ B2.out
  by_cases hh : 300 < r.hold
  · have t5 : decide ((300 : Int) < (r.hold : Int)) = true := decide_eq_true (by omega)
    have HWK := Lib.hid (works_any w2)
    go_wp2_with fail
    refine HWK.out.mono ?_
    rintro e wz ⟨rfl, hbz⟩
    have BZ := Lib.hid (B2.out.trans (hbz.mono (B2.out).size))
    clear hbz HWK
    go_wp2_with fail
    go_ret
    exact ⟨rfl, BZ.out⟩
  have t5 : decide ((300 : Int) < (r.hold : Int)) = false := decide_eq_false (by omega)
  have hh300 : r.hold ≤ 300 := by omega
  clear hh
  by_cases ha : r.app < 0
  · have t6 : decide (r.app < 0) = true := decide_eq_true ha
    have HWK := Lib.hid (works_any w2)
    go_wp2_with fail
    refine HWK.out.mono ?_
    rintro e wz ⟨rfl, hbz⟩
    have BZ := Lib.hid (B2.out.trans (hbz.mono (B2.out).size))
    clear hbz HWK
    go_wp2_with fail
    go_ret
    exact ⟨rfl, BZ.out⟩
  have t6 : decide (r.app < 0) = false := decide_eq_false ha
  have c0 := cell_row (j := 0) K2.out rfl
  have c1 := cell_row (j := 1) K2.out rfl
  have c2 := cell_row (j := 2) K2.out rfl
  have HN := Lib.hid (new_any (.agg #[.int .i64 T.tracks, .slice va T.pts.length vc, .int .i64 T.sigs, .slice (some ⟨b, off, none⟩) T.rts.length c]) T w2 (HT0.out.below B2.out) HSM.out.big (fun h => tok_of h HHO.out))
  have HA0 := Lib.hid ha
  clear ha
  go_wp2_with fail
  refine HN.out.mono ?_
  rintro e w3 ⟨hb3, hif⟩
  have B3 := Lib.hid (B2.out.trans (hb3.mono B2.out.size))
  have K3 := Lib.hid (tb_kept K2.out hb3)
  have BB3 := Lib.hid hb3
  clear c0 c1 c2 c3 l1
  clear hb3 x3 x5 hbl t3 t4 t5 t6
  by_cases hE : checkE T = 0
  case neg =>
    rw [if_neg hE] at hif
    subst hif
    have t1 : (checkE T == 0) = false := by simpa using hE
    have t2 : (checkE T != 0) = true := by simpa using hE
    generalize checkE T = E at *
    have HWK := Lib.hid (works_any w3)
    go_wp2_with fail
    refine HWK.out.mono ?_
    rintro e wz ⟨rfl, hbz⟩
    have BZ := Lib.hid (B3.out.trans (hbz.mono (B3.out).size))
    clear hbz HWK
    go_wp2_with fail
    go_ret
    exact ⟨rfl, BZ.out⟩
  case pos =>
  rw [if_pos hE] at hif
  obtain ⟨u, rfl, hA, hTu, hu0, _⟩ := hif
  have hTOK := (tok_of hE HHO.out).1
  have HTOK := Lib.hid hTOK
  have HTIN := Lib.hid (tin_of hE)
  have A3 := Lib.hid hA; have HTU := Lib.hid hTu
  have HUB : Hid (w2.heap.size ≤ u.w0.heap.size) := hu0
  have HNA : Hid (r.tr.getD 0 0 ≠ r.app) := fun e => by
    have h1 := (rtOk ((ckOk hE).rt n hlt)).a2
    have h2 := (tin_of hE).tl n hlt
    rw [← HRR.out] at h1 h2
    have : hasI r.tr r.app = true := hasI_iff.2 ⟨0, h2, e⟩
    rw [h1] at this; cases this
  have hN16 := hTOK.n
  have ha24 := (hTOK.app n hlt).2
  rw [← HRR.out] at ha24
  obtain ⟨ap, hap⟩ := Int.eq_ofNat_of_zero_le (show 0 ≤ r.app by have := HA0.out; omega)
  have HAP := Lib.hid hap
  have hap24 : ap < 24 := by omega
  clear hA hTu hu0 hE hTOK hap HN ha24 happ
  have x3 : w3.cell? ⟨b, off + n * 6 + 3, none⟩ = some (.int .i64 (ap : Int)) := by rw [← HAP.out]; exact HX3.out _ B3.out
  have hbl := HBL.out _ B3.out
  have c3 := cell_row (j := 3) K3.out rfl
  have l1 := heap_lt K3.out
  obtain ⟨q, hqd⟩ : ∃ q, q = 2 ^ n := ⟨_, rfl⟩
  obtain ⟨nr, hnd⟩ : ∃ q, q = offB 16777215 ap := ⟨_, rfl⟩
  have hq : (2 : Int) ^ n % 4294967296 = (q : Int) := by rw [hqd]; exact shl_one (by omega)
  have hnear : bits .andNot .u32 16777215 ((2 : Int) ^ ap % 4294967296) = (nr : Int) := by rw [hnd]; exact near_bits (x := 16777215) (by omega) (by omega)
  have hq32 : q < 4294967296 := by rw [hqd]; exact two_pow_lt (by omega)
  have hn32 : nr < 4294967296 := by rw [hnd]; exact offB_lt (by omega)
  obtain ⟨CC, hCC⟩ : ∃ CC, CC = setAll (fun _ => 0) (T.rts.getD n rt0).pts := ⟨_, rfl⟩
  have HST1 : Hid (stepS T ⟨16777215, 0, 0, q, 0, 0⟩ as0 = one n ⟨1, 0, 0, 0⟩ CC) := by
    show _ = _
    rw [hCC]; exact step_ask HTOK.out hlt rfl hqd rfl
  have HC3 : Hid (∀ p, CC p < 3) := by
    have := (stepS_ok HTOK.out ⟨16777215, 0, 0, q, 0, 0⟩ as0_ok).C
    rw [HST1.out] at this
    exact this
  have HAPP : Hid ((T.rts.getD n rt0).app = (ap : Int)) := by rw [← HRR.out]; exact HAP.out
  have hap0 : 0 ≤ (T.rts.getD n rt0).app := by rw [HAPP.out]; omega
  have hne : (T.rts.getD n rt0).tr.getD 0 0 ≠ (T.rts.getD n rt0).app := by rw [← HRR.out]; exact HNA.out
  have hncl : nr = offB every (T.rts.getD n rt0).app.toNat := by rw [HAPP.out, hnd]; rfl
  have HS1 : Hid (∀ W, AutoAt W u as0 → Calls Try.prog 13 #[.pointer (some ⟨u.g, 0, none⟩), .agg #[.int .u32 16777215, .int .u32 0, .int .u32 0, .int .u32 (q : Int), .int .u32 0, .int .u32 0]] W fun e w' => (∃ p1 p2 p3 : Nat, e = .returned (.agg #[.int .u32 (p1 : Int), .int .u32 (p2 : Int), .int .u32 (p3 : Int), .int .u32 (q : Int)])) ∧ AutoAt w' u (one n ⟨1, 0, 0, 0⟩ CC) ∧ Only u.M W w') := fun W hW => by
    refine (step_p (f := ⟨16777215, 0, 0, q, 0, 0⟩) HTU.out HTOK.out as0_ok (fd_ok (by omega) (by omega) (by omega) hq32 (by omega) (by omega)) HST1.out W hW).mono ?_
    rintro e V ⟨h1, h2, h3⟩
    exact ⟨⟨_, _, _, by rw [h1, lo_one hlt (by show (1 : Nat) ≠ 0; omega), hqd]⟩, h2, h3⟩
  have HS2 : Hid (∀ W, AutoAt W u (one n ⟨1, 0, 0, 0⟩ CC) → Calls Try.prog 13 #[.pointer (some ⟨u.g, 0, none⟩), .agg #[.int .u32 (nr : Int), .int .u32 0, .int .u32 0, .int .u32 0, .int .u32 (q : Int), .int .u32 0]] W fun e w' => (∃ p1 p2 p3 : Nat, e = .returned (.agg #[.int .u32 (p1 : Int), .int .u32 (p2 : Int), .int .u32 (p3 : Int), .int .u32 (q : Int)])) ∧ AutoAt w' u (one n ⟨2, 0, 0, 0⟩ CC) ∧ Only u.M W w') := fun W hW => by
    refine (step_p (f := ⟨nr, 0, 0, 0, q, 0⟩) HTU.out HTOK.out (as_one_ok ⟨by show (1 : Nat) < 4; omega, by show 0 < 65536; omega, by show 0 < 4294967296; omega, by show 0 < 4294967296; omega⟩ HC3.out) (fd_ok hn32 (by omega) (by omega) (by omega) hq32 (by omega)) ((step_quiet hlt rfl rfl).trans (by rw [go_back HTOK.out HTIN.out hlt hap0 hne hncl hqd])) W hW).mono ?_
    rintro e V ⟨h1, h2, h3⟩
    exact ⟨⟨_, _, _, by rw [h1, lo_one hlt (by show (2 : Nat) ≠ 0; omega), hqd]⟩, h2, h3⟩
  have HS3 : Hid (∀ tm W, tm + 1 < r.hold → AutoAt W u (one n ⟨2, tm, 0, 0⟩ CC) → Calls Try.prog 13 #[.pointer (some ⟨u.g, 0, none⟩), .agg #[.int .u32 (nr : Int), .int .u32 4294967295, .int .u32 0, .int .u32 0, .int .u32 0, .int .u32 0]] W fun e w' => (∃ p2 p3 : Nat, e = .returned (.agg #[.int .u32 0, .int .u32 (p2 : Int), .int .u32 (p3 : Int), .int .u32 (q : Int)])) ∧ AutoAt w' u (one n ⟨2, tm + 1, 0, 0⟩ CC) ∧ Only u.M W w') := fun tm W ht hW => by
    rw [HRR.out] at ht hh300
    refine (step_p (f := ⟨nr, 4294967295, 0, 0, 0, 0⟩) HTU.out HTOK.out (as_one_ok ⟨by show (2 : Nat) < 4; omega, by show tm < 65536; omega, by show 0 < 4294967296; omega, by show 0 < 4294967296; omega⟩ HC3.out) (fd_ok hn32 (by omega) (by omega) (by omega) (by omega) (by omega)) ((step_quiet hlt rfl rfl).trans (by rw [go_held HTOK.out HTIN.out hlt hap0 hne hncl (by omega), if_neg (by omega)])) W hW).mono ?_
    rintro e V ⟨h1, h2, h3⟩
    exact ⟨⟨_, _, by rw [h1, lo_one hlt (by show (2 : Nat) ≠ 0; omega), pr_one (by show (2 : Nat) ≠ 1; omega), hqd]; rfl⟩, h2, h3⟩
  have HS4 : Hid (∀ tm W, r.hold ≤ tm + 1 → tm ≤ 300 → AutoAt W u (one n ⟨2, tm, 0, 0⟩ CC) → Calls Try.prog 13 #[.pointer (some ⟨u.g, 0, none⟩), .agg #[.int .u32 (nr : Int), .int .u32 0, .int .u32 0, .int .u32 0, .int .u32 0, .int .u32 0]] W fun e w' => (∃ p1 p2 p3 : Nat, e = .returned (.agg #[.int .u32 (p1 : Int), .int .u32 (p2 : Int), .int .u32 (p3 : Int), .int .u32 0])) ∧ Only u.M W w') := fun tm W ht htm hW => by
    rw [HRR.out] at ht
    refine (step_p (f := ⟨nr, 0, 0, 0, 0, 0⟩) HTU.out HTOK.out (as_one_ok ⟨by show (2 : Nat) < 4; omega, by show tm < 65536; omega, by show 0 < 4294967296; omega, by show 0 < 4294967296; omega⟩ HC3.out) (fd_ok hn32 (by omega) (by omega) (by omega) (by omega) (by omega)) ((step_quiet hlt rfl rfl).trans (by rw [go_held HTOK.out HTIN.out hlt hap0 hne hncl (by omega), if_pos ht])) W hW).mono ?_
    rintro e V ⟨h1, h2, h3⟩
    exact ⟨⟨_, _, _, by rw [h1, lo_free]; rfl⟩, h3⟩
  clear hap0 hne hncl hCC hnd
  have hf3 : ∀ (a b c d : Int) W, (Instr.field 36 (.agg #[.int .u32 a, .int .u32 b, .int .u32 c, .int .u32 d]) 3).run Try.prog W = .ok (.int .u32 d) W := fun _ _ _ _ _ => by kernel_rfl
  have hqd' := Lib.hid hqd
  clear hqd
  go_upto_region 8 with fail
  clear x3 hbl c3 l1
  have A4 : Hid (AutoAt w3.drew u as0) := A3.out.drew
  have BB4 : Hid (Below w2.heap.size w2 w3.drew) := BB3.out.drew
  have hqw : IntKind.u32.wrap ((2 : Int) ^ n) = (q : Int) := by
    have e : ((2 : Int) ^ n) = (q : Int) := by rw [hqd'.out]; simp
    rw [e]; exact IntWalk.u32_in _ ⟨by omega, by omega⟩
  go_region_held3 (fun _ => True) (exact True.intro)
    (first
      | (have _tok := A5; go_at_call 13; (with_reducible refine (HS2.out _ A5.out).mono ?_); rintro e w5 ⟨⟨p1, p2, p3, rfl⟩, hh2, hh3⟩; have A6 := Lib.hid hh2; have O6 := Lib.hid hh3; clear hh2 hh3)
      | (go_at_call 13; (with_reducible refine (HS1.out _ A4.out).mono ?_); rintro e w4 ⟨⟨q1, q2, q3, rfl⟩, hh2, hh3⟩; have A5 := Lib.hid hh2; have O5 := Lib.hid hh3; clear hh2 hh3))
  rename_i hheld
  clear hheld
  have BB5 := Lib.hid (Only.toBelow (Only.toBelow BB4.out O5.out (Au.M_lt A5.out HUB.out) BB4.out.size) O6.out (Au.M_lt A5.out HUB.out) (Nat.le_trans BB4.out.size O5.out.size))
  clear BB3 BB4 O5 O6 A3 A4 A5 K3 B3 hqw HS1 HS2 hnear
  have c3 := cell_row (j := 3) (tb_kept K2.out BB5.out) rfl
  have l1 := heap_lt (tb_kept K2.out BB5.out)
  have x5 := HX5.out _ (B2.out.trans (BB5.out.mono B2.out.size))
  have hbl := HBL.out _ (B2.out.trans (BB5.out.mono B2.out.size))
  have HRTE : Hid (∀ k W, AutoAt W u (one n ⟨2, k, 0, 0⟩ CC) → Calls Try.prog 15 #[.pointer (some ⟨u.g, 0, none⟩), .int .i64 (n : Int)] W fun e w' => e = .returned (.agg #[.int .u8 2, .int .u16 (k : Int), .int .u32 0, .int .u32 0]) ∧ Below W.heap.size W w') := fun k W hW => by
    refine (route_at u _ n W hW (by rw [HTU.out]; exact hN16)).mono ?_
    rintro e V ⟨h1, h2⟩
    have e2 : (one n ⟨2, k, 0, 0⟩ CC).at u.T.rts.length (n : Int) = ⟨2, k, 0, 0⟩ := by
      unfold AS.at
      rw [HTU.out]
      have hi : (0 : Int) ≤ (n : Int) ∧ (n : Int) < (T.rts.length : Int) := ⟨by omega, by omega⟩
      first | (rw [if_pos hi]; exact one_at _ _ _) | (simp [hi, one])
    rw [e2] at h1
    exact ⟨h1, h2⟩
  have hf0 : ∀ (a b c d : Int) W, (Instr.field 48 (.agg #[.int .u8 a, .int .u16 b, .int .u32 c, .int .u32 d]) 0).run Try.prog W = .ok (.int .u8 a) W := fun _ _ _ _ _ => by kernel_rfl
  obtain ⟨we, hwe⟩ : ∃ W : World, W = w5 := ⟨_, rfl⟩
  have AE : Hid (AutoAt we u (one n ⟨2, 0, 0, 0⟩ CC)) := by rw [hwe]; exact A6.out
  have BE : Hid (Below w2.heap.size w2 we) := by rw [hwe]; exact BB5.out
  rw [← hwe] at c3 l1 x5 hbl ⊢
  clear hwe A6 BB5
  by_cases hh1 : 1 ≤ r.hold
  · go_upto_region 11 with fail
    clear c3 l1 x5 hbl
    rw [(show (r.hold : Int) - 1 = ((r.hold - 1 : Nat) : Int) by omega)]
    obtain ⟨m, hm⟩ : ∃ m : Nat, m = (r.hold - 1) := ⟨_, rfl⟩
    rw [← hm]
    have HLT : Hid (∀ k, k < m → k + 1 < r.hold) := fun k hk => (by omega)
    have HLE : Hid (r.hold ≤ m + 1 ∧ m ≤ 300) := ⟨by omega, by omega⟩
    have hm3 : m ≤ 300 := HLE.out.2
    clear hm
    go_loopw [90] (fun i wr => ∃ (k : Nat), k ≤ m ∧ i = .int .i64 k ∧ AutoAt wr u (one n ⟨2, k, 0, 0⟩ CC) ∧ Below w2.heap.size w2 wr) (fun i _ => m - (intOf i).toNat)
    case atStart => exact ⟨0, Nat.zero_le _, rfl, AE.out, BE.out⟩
    case round =>
      clear AE BE
      obtain ⟨k, hk, rfl, hA, hB⟩ := hrel
      have A7 := Lib.hid hA; have B7 := Lib.hid hB
      clear hA hB
      by_cases hlk : k < m
      · have HLK := Lib.hid hlk
        have HS := Lib.hid (HS3.out k _ (HLT.out k hlk) A7.out)
        go_wp2_with fail
        refine HS.out.mono ?_
        rintro e w8 ⟨⟨p2, p3, rfl⟩, hA, hO⟩
        have A8 := Lib.hid hA
        have B8 := Lib.hid (Only.toBelow B7.out hO (Au.M_lt hA HUB.out) B7.out.size)
        clear hA hO
        obtain ⟨w9, hw9⟩ : ∃ W, W = w8.alloc (.cells #[.int .u32 0, .int .u32 (p2 : Int), .int .u32 (p3 : Int), .int .u32 (q : Int)] 36) := ⟨_, rfl⟩
        have BB9 : Hid (Below w8.heap.size w8 w9) := by rw [hw9]; exact tb_alloc_below _ _
        have K9 : Hid (w9.heap[w8.heap.size]? = some (.cells #[.int .u32 0, .int .u32 (p2 : Int), .int .u32 (p3 : Int), .int .u32 (q : Int)] 36 (0, 0))) := by rw [hw9]; exact heap_alloc_new _ _
        have A9 : Hid (AutoAt w9.drew u (one n ⟨2, k + 1, 0, 0⟩ CC)) := (A8.out.below BB9.out).drew
        have B9 : Hid (Below w2.heap.size w2 w9.drew) := (B8.out.trans (BB9.out.mono B8.out.size)).drew
        have HW9 := Lib.hid hw9
        clear hw9
        go_upto_region 13 with fail
        rw [← HW9.out]
        have s0 : w9.drew.cell? ⟨w8.heap.size, 0, none⟩ = some (.int .u32 0) := cell_row (w := w9) (j := 0) K9.out rfl
        have s3 : w9.drew.cell? ⟨w8.heap.size, 3, none⟩ = some (.int .u32 (q : Int)) := cell_row (w := w9) (j := 3) K9.out rfl
        have KD : Hid (∀ W, Below w9.drew.heap.size w9.drew W → W.cell? ⟨w8.heap.size, 0, none⟩ = some (.int .u32 0) ∧ W.cell? ⟨w8.heap.size, 3, none⟩ = some (.int .u32 (q : Int))) := fun W hW => by
          have h1 := tb_kept (w' := W) (show w9.drew.heap[w8.heap.size]? = _ from K9.out) hW
          exact ⟨cell_row h1 rfl, cell_row h1 rfl⟩
        obtain ⟨ob, hob⟩ : ∃ b, b = w8.heap.size := ⟨_, rfl⟩
        rw [← hob] at KD ⊢
        clear s0 s3 hob
        have hqw : IntKind.u32.wrap ((2 : Int) ^ n) = (q : Int) := by
          have e : ((2 : Int) ^ n) = (q : Int) := by rw [hqd'.out]; simp
          rw [e]; exact IntWalk.u32_in _ ⟨by omega, by omega⟩
        have BR : Hid (Below w9.drew.heap.size w9.drew w9.drew) := Below.refl _ _
        go_region_held3 (fun W => W.cell? ⟨ob, 0, none⟩ = some (.int .u32 0) ∧ W.cell? ⟨ob, 3, none⟩ = some (.int .u32 (q : Int)))
          (first | exact KD.out _ B10.out | exact KD.out _ BR.out)
          ((go_at_call 15; (with_reducible refine (HRTE.out (k + 1) _ A9.out).mono ?_); rintro e w10 ⟨rfl, hh⟩; have B10 := Lib.hid hh; clear hh))
        rename_i hheld
        clear hheld hqw
        go_wp2_with fail
        go_roundw
        case rel => exact ⟨k + 1, by have := HLK.out; omega, by go_num, A9.out.below B10.out, B9.out.trans (B10.out.mono B9.out.size)⟩
        case measure => have := HLK.out; simp [intOf]; omega
      · obtain rfl : k = m := by omega
        have HS := Lib.hid (HS4.out k _ HLE.out.1 HLE.out.2 A7.out)
        go_wp2_with fail
        refine HS.out.mono ?_
        rintro e w8 ⟨⟨p1, p2, p3, rfl⟩, hO⟩
        have B8 : Hid (Below w.heap.size w w8) := B2.out.trans ((Only.toBelow B7.out hO (Au.M_lt A7.out HUB.out) B7.out.size).mono B2.out.size)
        clear hO
        have HWK := Lib.hid (works_any w8)
        go_wp2_with fail
        refine HWK.out.mono ?_
        rintro e wz ⟨rfl, hbz⟩
        have BZ := Lib.hid (B8.out.trans (hbz.mono (B8.out).size))
        clear hbz HWK
        go_wp2_with fail
        go_ret
        exact ⟨rfl, BZ.out⟩
  · go_upto_region 11 with fail
    clear c3 l1 x5 hbl
    have HLE : Hid (r.hold ≤ 0 + 1) := by show _ ≤ _; omega
    go_loopw [90] (fun i wr => i = .int .i64 0 ∧ AutoAt wr u (one n ⟨2, 0, 0, 0⟩ CC) ∧ Below w2.heap.size w2 wr) (fun _ _ => 0)
    case atStart => exact ⟨rfl, AE.out, BE.out⟩
    case round =>
      clear AE BE
      obtain ⟨rfl, hA, hB⟩ := hrel
      have A7 := Lib.hid hA; have B7 := Lib.hid hB
      clear hA hB
      have HS := Lib.hid (HS4.out 0 _ HLE.out (by omega) A7.out)
      go_wp2_with fail
      refine HS.out.mono ?_
      rintro e w8 ⟨⟨p1, p2, p3, rfl⟩, hO⟩
      have B8 : Hid (Below w.heap.size w w8) := B2.out.trans ((Only.toBelow B7.out hO (Au.M_lt A7.out HUB.out) B7.out.size).mono B2.out.size)
      clear hO
      have HWK := Lib.hid (works_any w8)
      go_wp2_with fail
      refine HWK.out.mono ?_
      rintro e wz ⟨rfl, hbz⟩
      have BZ := Lib.hid (B8.out.trans (hbz.mono (B8.out).size))
      clear hbz HWK
      go_wp2_with fail
      go_ret
      exact ⟨rfl, BZ.out⟩
set_option maxRecDepth 100000 in
theorem holds_any (v0 : Value) (a1 : Int) (w : World) (h0 : ReadsW w 25 v0.cells.toList ∧ Value.okWide Try.prog w .any 0 25 v0) (h1 : (Lit.int .i64 a1).wf = true) :
    Calls Try.prog 6 #[v0, .int .i64 a1] w fun e w' => e = .returned (.bool true) ∧ Below w.heap.size w w' := by
  obtain ⟨T, hT⟩ := reads_tab ⟨h0.1.c, h0.2⟩
  exact holds_walk v0 T a1 w hT (tab_sm h0.1 hT) (i64ok_of h1)
end Go.Proofs.Ytlfcmedhadfheaa
