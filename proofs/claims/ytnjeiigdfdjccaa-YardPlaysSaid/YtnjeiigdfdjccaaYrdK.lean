/- What is told of a yard: Point, Route, Wrong. -/
import Derived.Test.YtnjeiigdfdjccaaYrdNw
import Derived.Test.YtnjeiigdfdjccaaAutTk
namespace Go.Proofs.Ytnjeiigdfdjccaa
open Go.RowKit
set_option linter.unusedVariables false
set_option linter.unusedSimpArgs false
def pointI (M : Nat) (pn : Nat → PN) (n : Int) : Nat := if 0 ≤ n ∧ n < (M : Int) then pointN (pn n.toNat) else 0
set_option maxRecDepth 100000 in
set_option maxHeartbeats 4000000 in
theorem ypoint_any (y : Yd) (Y : YS) (n : Int) (w : World) (H : YdAt w y Y) (hM : y.u.T.pts.length ≤ 1000) :
    Calls Try.prog 20 #[.pointer (some ⟨y.g, 0, none⟩), .int .i64 n] w fun e w' => e = .returned (.int .u8 (pointI y.u.T.pts.length Y.pn n : Int)) ∧ w' = w := by
  have gB := cell_row (j := 11) H.obj rfl
  have lg := heap_lt H.obj
  obtain ⟨F, hF⟩ : ∃ F, F = pointI y.u.T.pts.length Y.pn n := ⟨_, rfl⟩
  rw [← hF]
  have HF : Hid (F = if 0 ≤ n ∧ n < (y.u.T.pts.length : Int) then pointN (Y.pn n.toNat) else 0) := hF
  clear hF
  by_cases h0 : n < 0
  case pos =>
    have t0 : decide (n < 0) = true := decide_eq_true h0
    have hf : Hid (F = 0) := by show _ = _; rw [HF.out, if_neg (by omega)]
    clear h0
    go_enter Try.func20, Try.ntmps20
    go_wp2_with fail
    go_ret
    exact ⟨by rw [hf.out]; rfl, by first | trivial | rfl⟩
  case neg =>
  obtain ⟨k, rfl⟩ := Int.eq_ofNat_of_zero_le (show 0 ≤ n by omega)
  have t0 : decide ((k : Int) < 0) = false := decide_eq_false (by omega)
  by_cases h1 : y.u.T.pts.length ≤ k
  case pos =>
    have t1 : decide ((y.u.T.pts.length : Int) ≤ (k : Int)) = true := decide_eq_true (by omega)
    have hf : Hid (F = 0) := by show _ = _; rw [HF.out, if_neg (by omega)]
    clear h0
    go_enter Try.func20, Try.ntmps20
    go_wp2_with fail
    go_ret
    exact ⟨by rw [hf.out]; rfl, by first | trivial | rfl⟩
  case neg =>
  have t1 : decide ((y.u.T.pts.length : Int) ≤ (k : Int)) = false := decide_eq_false (by omega)
  have hlt : k < y.u.T.pts.length := by omega
  obtain ⟨p0, p1, _, _⟩ := H.pcell hlt
  have lp := H.ps.lt
  have hf : Hid (F = pointN (Y.pn k)) := by show _ = _; rw [HF.out, if_pos ⟨by omega, by omega⟩]; rfl
  clear h0 h1 H HF
  unfold pointN at hf
  generalize Y.pn k = p at *
  obtain ⟨sd, lf, br⟩ := p
  dsimp only at p0 p1 hf
  generalize y.u.T.pts.length = M at *
  by_cases hl : lf = 0
  case pos =>
    subst hl
    go_enter Try.func20, Try.ntmps20
    go_wp2_with fail
    go_ret
    exact ⟨by rw [hf.out]; rfl, by first | trivial | rfl⟩
  case neg =>
    have dl : decide ((0 : Int) < (lf : Int)) = true := decide_eq_true (by omega)
    have hl2 : 0 < lf := by omega
    go_enter Try.func20, Try.ntmps20
    go_wp2_with fail
    go_ret
    exact ⟨by rw [hf.out, if_pos hl2]; rfl, by first | trivial | rfl⟩
theorem ypoint_nil (n : Int) (w : World) : Calls Try.prog 20 #[.pointer none, .int .i64 n] w fun e w' => e = .returned (.int .u8 0) ∧ w' = w := by
  go_enter Try.func20, Try.ntmps20
  go_wp2_with fail
  go_ret
  exact ⟨rfl, by first | trivial | rfl⟩
set_option maxRecDepth 100000 in
set_option maxHeartbeats 4000000 in
theorem yroute_any (y : Yd) (Y : YS) (n : Int) (w : World) (H : YdAt w y Y) (hN : y.u.T.rts.length ≤ 16) :
    Calls Try.prog 11 #[.pointer (some ⟨y.g, 0, none⟩), .int .i64 n] w fun e w' => e = .returned (Y.A.at y.u.T.rts.length n).val ∧ Below w.heap.size w w' := by
  obtain ⟨w1, hw1⟩ : ∃ w1, w1 = w.alloc (.cells #[.int .u8 0, .int .u16 0, .int .u32 0, .int .u32 0] 43) := ⟨_, rfl⟩
  have B1 : Hid (Below w.heap.size w w1) := by rw [hw1]; exact tb_alloc_below _ _
  have K1 : Hid (w1.heap[w.heap.size]? = some (.cells #[.int .u8 0, .int .u16 0, .int .u32 0, .int .u32 0] 43 (0, 0))) := by rw [hw1]; exact heap_alloc_new _ _
  have HW1 := Lib.hid hw1
  have g4 := cell_row (j := 4) (H.below B1.out).obj rfl
  have lg := heap_lt (H.below B1.out).obj
  have HC := Lib.hid (route_at y.u Y.A n w1 (H.below B1.out).au hN)
  obtain ⟨r, hr⟩ : ∃ r, r = Y.A.at y.u.T.rts.length n := ⟨_, rfl⟩
  rw [← hr] at HC ⊢
  clear hr hw1 H
  obtain ⟨ph, tm, us, rl⟩ := r
  show Calls _ _ _ _ fun e w' => e = .returned (.agg #[.int .u8 (ph : Int), .int .u16 (tm : Int), .int .u32 (us : Int), .int .u32 (rl : Int)]) ∧ _
  have HC2 : Hid (Calls Try.prog 25 #[.pointer (some ⟨y.u.g, 0, none⟩), .int .i64 n] w1 fun e w' => e = .returned (.agg #[.int .u8 (ph : Int), .int .u16 (tm : Int), .int .u32 (us : Int), .int .u32 (rl : Int)]) ∧ Below w1.heap.size w1 w') := HC.out
  clear HC
  go_enter Try.func11, Try.ntmps11
  go_upto_region 3 with fail
  rw [← HW1.out]
  obtain ⟨rb, hrb⟩ : ∃ b, b = w.heap.size := ⟨_, rfl⟩
  have HRB := Lib.hid hrb
  rw [← hrb] at K1 ⊢
  clear hrb HW1
  go_wp2_with fail
  refine HC2.out.mono ?_
  rintro e w2 ⟨rfl, hb⟩
  have K2 := tb_kept K1.out hb
  have B2 : Hid (Below w.heap.size w w2) := B1.out.trans (hb.mono B1.out.size)
  clear hb g4 lg
  have z0 := cell_row (j := 0) K2 rfl; have z1 := cell_row (j := 1) K2 rfl; have z2 := cell_row (j := 2) K2 rfl; have z3 := cell_row (j := 3) K2 rfl
  have zf0 : w2.frozen? ⟨rb, 0, none⟩ = false := frozen_of_row _ _ _ _ _ K2
  have zf1 : w2.frozen? ⟨rb, 1, none⟩ = false := frozen_of_row _ _ _ _ _ K2
  have zf2 : w2.frozen? ⟨rb, 2, none⟩ = false := frozen_of_row _ _ _ _ _ K2
  have zf3 : w2.frozen? ⟨rb, 3, none⟩ = false := frozen_of_row _ _ _ _ _ K2
  have lr := heap_lt K2
  clear K2
  go_wp2_with fail
  have hs : ∀ (W : World) (j : Nat) (v : Value), Below w.heap.size w W → Below w.heap.size w (W.setCell ⟨rb, j, none⟩ v) := fun W j v h => h.setCell (p := ⟨rb, j, none⟩) (by have := HRB.out; show _ ≤ rb; omega) v
  exact bodyPost_ret (v := .agg #[.int .u8 (ph : Int), .int .u16 (tm : Int), .int .u32 (us : Int), .int .u32 (rl : Int)]) (by simp [results, Try.results11, go_sem, z0, z1, z2, z3, lr]) rfl ⟨rfl, hs _ _ _ (hs _ _ _ (hs _ _ _ (hs _ _ _ B2.out)))⟩
theorem yroute_nil (n : Int) (w : World) : Calls Try.prog 11 #[.pointer none, .int .i64 n] w fun e w' => e = .returned rs0.val ∧ Below w.heap.size w w' := by
  go_enter Try.func11, Try.ntmps11
  go_wp2_with fail
  exact bodyPost_ret (v := .agg #[.int .u8 0, .int .u16 0, .int .u32 0, .int .u32 0]) (by simp [results, Try.results11, go_sem]) rfl ⟨rfl, by
    repeat (first | exact tb_alloc_below _ _ | (refine Below.setCell ?_ (by show _ ≤ _; exact Nat.le_refl _) _))⟩
theorem ywrong_nil (w : World) : Calls Try.prog 21 #[.pointer none] w fun e w' => e = .returned (.tuple #[.bool false, .bool false]) ∧ Below w.heap.size w w' := by
  go_enter Try.func21, Try.ntmps21
  go_wp2_with fail
  go_ret2
  exact ⟨rfl, Below.refl _ _⟩
end Go.Proofs.Ytnjeiigdfdjccaa
/- Wrong: in a sound yard nothing is. -/
namespace Go.Proofs.Ytnjeiigdfdjccaa
open Go.RowKit
set_option linter.unusedVariables false
set_option linter.unusedSimpArgs false
set_option maxRecDepth 100000 in
set_option maxHeartbeats 16000000 in
theorem ywrong_any (y : Yd) (Y : YS) (w : World) (H : YdAt w y Y) (hc : checkE y.u.T = 0) (hT : TOk y.u.T) (htk : 0 ≤ y.u.T.tracks ∧ y.u.T.tracks ≤ 24) (hI : YInv y.u.T Y) :
    Calls Try.prog 21 #[.pointer (some ⟨y.g, 0, none⟩)] w fun e w' => e = .returned (.tuple #[.bool false, .bool false]) ∧ Below w.heap.size w w' := by
  obtain ⟨tk, htk1⟩ := Int.eq_ofNat_of_zero_le htk.1
  have hk24 : tk ≤ 24 := by omega
  have HY := Lib.hid H; have HT := Lib.hid hT; have HI := Lib.hid hI; have HC := Lib.hid hc
  have HON : Hid (OnOk y.u.T Y.tn) := fun n hn hi => ⟨(hI.tr n hn hi).1, (hI.tr n hn hi).2.2.1⟩
  have HTK := Lib.hid htk1
  have g0 : w.cell? ⟨y.g, 0, none⟩ = some (.int .i64 (tk : Int)) := by rw [← htk1]; exact cell_row (j := 0) H.obj rfl
  have lg := heap_lt H.obj
  obtain ⟨ra, rc, C0, hvr, hrl, hrc, hs, hR⟩ := H.tr.at_
  have HR := Lib.hid hR; have HS := Lib.hid hs; have HVR := Lib.hid hvr; have HTP := Lib.hid H.tp
  have HM := Lib.hid hT.p; have HN := Lib.hid hT.n
  unfold maxLen at hrc
  clear H hc hT htk htk1 hI hR hs hvr
  obtain ⟨N, hN1⟩ : ∃ n, n = y.u.T.rts.length := ⟨_, rfl⟩
  have HNN := Lib.hid hN1
  rw [← hN1] at hrl
  have hN16 : N ≤ 16 := by rw [hN1]; exact HN.out
  clear hN1
  go_enter Try.func21, Try.ntmps21
  go_upto_region 4 with fail
  clear g0 lg
  have B0 := Lib.hid (Below.refl w.heap.size w)
  go_loopw [19, 2] (fun i mv wr => ∃ k : Nat, k ≤ tk ∧ i = .int .i64 k ∧ mv = .bool false ∧ Below w.heap.size w wr) (fun i _ _ => tk - (intOf i).toNat)
  case atStart => exact ⟨0, Nat.zero_le _, rfl, rfl, B0.out⟩
  case round =>
    clear B0
    obtain ⟨k, hk, rfl, rfl, hb⟩ := hrel
    have B1 := Lib.hid hb
    clear hb
    obtain ⟨w1, rfl⟩ : ∃ w1 : World, w1 = wr := ⟨_, rfl⟩
    by_cases hlt : k < tk
    case pos =>
      have HO := Lib.hid (yon_any y Y (k : Int) w1 (HY.out.below B1.out) HT.out HON.out)
      have hm := met_none HC.out HI.out (k : Int)
      generalize onN y.u.T Y.tn (k : Int) y.u.T.rts.length = q at *
      have d1 : decide ((1 : Int) < (q : Int)) = false := decide_eq_false (by omega)
      go_wp2_with fail
      refine HO.out.mono ?_
      rintro e w2 ⟨rfl, hb⟩
      have B2 : Hid (Below w.heap.size w w2) := B1.out.trans (hb.mono B1.out.size)
      clear hb HO
      go_wp2_with fail
      go_roundw
      case rel => exact ⟨k + 1, by omega, by go_num, by first | rfl | simp [hm], B2.out⟩
      case measure => simp [intOf]; omega
    case neg =>
    obtain rfl : tk = k := by omega
    have gA := cell_row (j := 10) (HY.out.below B1.out).obj rfl
    have lg := heap_lt (HY.out.below B1.out).obj
    rw [← HNN.out] at gA
    go_upto_region 9 with fail
    clear gA lg
    go_loopw [35, 3] (fun i ov wr => ∃ k : Nat, k ≤ N ∧ i = .int .i64 k ∧ ov = .bool false ∧ Below w.heap.size w wr) (fun i _ _ => N - (intOf i).toNat)
    case atStart => exact ⟨0, Nat.zero_le _, rfl, rfl, B1.out⟩
    case round =>
      clear B1
      obtain ⟨k, hk, rfl, rfl, hb⟩ := hrel
      have B1 := Lib.hid hb
      clear hb
      obtain ⟨w1, rfl⟩ : ∃ w1 : World, w1 = wr := ⟨_, rfl⟩
      by_cases hlt : k < N
      case neg =>
        obtain rfl : N = k := by omega
        go_wp2_with fail
        go_ret2
        exact ⟨rfl, B1.out⟩
      case pos =>
      have H1 := Lib.hid (HY.out.below B1.out)
      have HLT : Hid (k < y.u.T.rts.length) := by rw [← HNN.out]; exact hlt
      obtain ⟨t0, t1, t2, t3, _⟩ := H1.out.tcell HLT.out
      have lt := H1.out.ts.lt
      have HX1 := Lib.hid (HON.out k HLT.out)
      have HOF := Lib.hid (fun hi p hp => off_none HI.out HLT.out hi (p := p) hp)
      obtain ⟨is, hi⟩ : ∃ t, t = (Y.tn k).is := ⟨_, rfl⟩
      obtain ⟨tl, htl⟩ : ∃ t, t = (Y.tn k).tl := ⟨_, rfl⟩
      obtain ⟨hd, hhd⟩ : ∃ t, t = (Y.tn k).hd := ⟨_, rfl⟩
      rw [← hi, ← htl, ← hhd] at HX1
      rw [← hi] at HOF
      rw [← hi] at t0; rw [← htl] at t2; rw [← hhd] at t3
      generalize (Y.tn k).mv = mv at *
      clear hi htl hhd
      have gA := cell_row (j := 10) H1.out.obj rfl
      rw [← HNN.out] at gA
      have lg := heap_lt H1.out.obj
      -- the train's box, then the route's
      obtain ⟨w2, hw2⟩ : ∃ w2, w2 = w1.alloc (.cells #[.bool is, .bool mv, .int .i64 (tl : Int), .int .i64 (hd : Int)] 83) := ⟨_, rfl⟩
      have HW2 := Lib.hid hw2
      have B12 : Hid (Below w1.heap.size w1 w2) := by rw [hw2]; exact tb_alloc_below _ _
      have K2 : Hid (w2.heap[w1.heap.size]? = some (.cells #[.bool is, .bool mv, .int .i64 (tl : Int), .int .i64 (hd : Int)] 83 (0, 0))) := by rw [hw2]; exact heap_alloc_new _ _
      have B2 : Hid (Below w.heap.size w w2) := B1.out.trans (B12.out.mono B1.out.size)
      have H2 := Lib.hid (H1.out.below B12.out)
      clear hw2
      go_upto_region 11 with fail
      rw [← HW2.out]
      obtain ⟨xb, hxb⟩ : ∃ b, b = w1.heap.size := ⟨_, rfl⟩
      rw [← hxb] at K2 ⊢
      clear hxb HW2 t0 t1 t2 t3 lt gA lg
      have HRk := Lib.hid (HR.out k HLT.out)
      obtain ⟨A, hA⟩ : ∃ A, A = y.u.T.rts.getD k rt0 := ⟨_, rfl⟩
      rw [← hA] at HRk HX1 HOF
      have HTP1 := Lib.hid (HT.out.pp k HLT.out); have HTP2 := Lib.hid (HT.out.pl k HLT.out)
      rw [← hA] at HTP1 HTP2
      clear hA
      obtain ⟨⟨ta, tc, hvt, htl2, htm, hts⟩, _⟩ := id HRk.out.tr
      obtain ⟨⟨pa, pc, hvp, hpl2, hpm, hps⟩, _⟩ := id HRk.out.pts
      obtain ⟨⟨ca, cc, hcn, _⟩, _⟩ := id HRk.out.con
      have HTR0 := HRk.out.tr
      rw [hvt] at HTR0
      have HTR := Lib.hid HTR0
      obtain ⟨b, off, rfl, hb, hcl⟩ := HS.out.at (Nat.lt_of_le_of_lt (Nat.zero_le _) HLT.out)
      have g3 : w2.cell? ⟨y.g, 3, none⟩ = some (.slice (some ⟨b, off, none⟩) N rc) := by rw [HNN.out, ← HVR.out]; exact cell_row (j := 3) H2.out.obj rfl
      have r0 : w2.cell? ⟨b, off + k * 6, none⟩ = some (.int .i64 A.sig) := by rw [H2.out.bel.cell hb, ← HRk.out.sig]; exact hcl k HLT.out 0 (by omega)
      have r1 : w2.cell? ⟨b, off + k * 6 + 1, none⟩ = some (.slice ta A.tr.length tc) := by rw [H2.out.bel.cell hb, ← hvt]; exact hcl k HLT.out 1 (by omega)
      have r2 : w2.cell? ⟨b, off + k * 6 + 2, none⟩ = some (.slice pa A.pts.length pc) := by rw [H2.out.bel.cell hb, ← hvp]; exact hcl k HLT.out 2 (by omega)
      have r3 : w2.cell? ⟨b, off + k * 6 + 3, none⟩ = some (.int .i64 A.app) := by rw [H2.out.bel.cell hb, ← HRk.out.app]; exact hcl k HLT.out 3 (by omega)
      have r4 : w2.cell? ⟨b, off + k * 6 + 4, none⟩ = some (.slice ca A.con.length cc) := by rw [H2.out.bel.cell hb, ← hcn]; exact hcl k HLT.out 4 (by omega)
      have r5 : w2.cell? ⟨b, off + k * 6 + 5, none⟩ = some (.int .u16 (A.hold : Int)) := by rw [H2.out.bel.cell hb, ← HRk.out.hold]; exact hcl k HLT.out 5 (by omega)
      have lr : b < w2.heap.size := Nat.lt_of_lt_of_le hb H2.out.bel.size
      have lg := heap_lt H2.out.obj
      have HPT := Lib.hid (hvp ▸ HRk.out.pts)
      have HTS := Lib.hid hts
      obtain ⟨w3, hw3⟩ : ∃ w3, w3 = w2.alloc (.cells #[.int .i64 A.sig, .slice ta A.tr.length tc, .slice pa A.pts.length pc, .int .i64 A.app, .slice ca A.con.length cc, .int .u16 (A.hold : Int)] 41) := ⟨_, rfl⟩
      have HW3 := Lib.hid hw3
      have B23 : Hid (Below w2.heap.size w2 w3) := by rw [hw3]; exact tb_alloc_below _ _
      have Q3 : Hid (w3.heap[w2.heap.size]? = some (.cells #[.int .i64 A.sig, .slice ta A.tr.length tc, .slice pa A.pts.length pc, .int .i64 A.app, .slice ca A.con.length cc, .int .u16 (A.hold : Int)] 41 (0, 0))) := by rw [hw3]; exact heap_alloc_new _ _
      have B3 : Hid (Below w.heap.size w w3) := B2.out.trans (B23.out.mono B2.out.size)
      have K3 := Lib.hid (tb_kept K2.out B23.out)
      clear hw3 hb hcl hvt hvp hcn hps hts HTR0
      go_upto_region 12 with fail
      rw [← HW3.out]
      obtain ⟨qb, hqb⟩ : ∃ b, b = w2.heap.size := ⟨_, rfl⟩
      rw [← hqb] at Q3 ⊢
      clear hqb HW3 g3 r0 r1 r2 r3 r4 r5 lr lg K2 B2 B12 B23 H1 H2 B1
      have k0 := cell_row (j := 0) K3.out rfl
      have lx := heap_lt K3.out
      cases is
      case false =>
        go_wp2_with fail
        go_roundw
        case rel => exact ⟨k + 1, by omega, by go_num, rfl, B3.out⟩
        case measure => simp [intOf]; omega
      case true =>
      obtain ⟨hx1, hx2⟩ := HX1.out rfl
      obtain ⟨tb, toff, rfl, _, _⟩ := HTS.out.at (by omega)
      have q2 := cell_row (j := 2) Q3.out rfl
      have lq := heap_lt Q3.out
      unfold maxLen at htm hpm
      have hpl12 := HTP2.out
      go_upto_region 14 with fail
      clear k0 lx q2 lq
      obtain ⟨P, hP⟩ : ∃ P, P = A.pts.length := ⟨_, rfl⟩
      have HP := Lib.hid hP
      rw [← hP] at hpl12 hpl2 ⊢
      clear hP
      go_loopw [54, 3] (fun i ov wr => ∃ j : Nat, j ≤ P ∧ i = .int .i64 j ∧ ov = .bool false ∧ Below w3.heap.size w3 wr) (fun i _ _ => P - (intOf i).toNat)
      case atStart => exact ⟨0, Nat.zero_le _, rfl, rfl, Below.refl _ _⟩
      case round =>
        obtain ⟨j, hj, rfl, rfl, hb⟩ := hrel
        have B34 := Lib.hid hb
        clear hb
        obtain ⟨w4, rfl⟩ : ∃ w4 : World, w4 = wr := ⟨_, rfl⟩
        have B4 : Hid (Below w.heap.size w w4) := B3.out.trans (B34.out.mono B3.out.size)
        by_cases hjl : j < P
        case neg =>
          obtain rfl : P = j := by omega
          go_wp2_with fail
          go_roundw
          case rel => exact ⟨k + 1, by omega, by go_num, rfl, B4.out⟩
          case measure => simp [intOf]; omega
        case pos =>
        have HJ : Hid (j < A.pts.length) := by rw [← HP.out]; exact hjl
        obtain ⟨pb, poff, rfl, hpb, hp0, hp1⟩ := (HPT.out.below (HY.out.below B4.out).bel).cell HJ.out
        obtain ⟨i, hi⟩ := Int.eq_ofNat_of_zero_le (HTP1.out j HJ.out).1
        have hiM : i < y.u.T.pts.length := by have := (HTP1.out j HJ.out).2; omega
        have HOFj := HOF.out (by trivial) (A.pts.getD j (0, false)) (by rw [List.getD_eq_getElem?_getD, List.getElem?_eq_getElem HJ.out]; exact List.getElem_mem HJ.out)
        obtain ⟨rv, hrv⟩ : ∃ x, x = (A.pts.getD j (0, false)).2 := ⟨_, rfl⟩
        rw [hi] at hp0 HOFj
        rw [← hrv] at hp1
        have HND : Hid (pointI y.u.T.pts.length Y.pn (i : Int) = if rv then 2 else 1) := by
          show _ = _
          unfold pointI
          rw [if_pos ⟨by omega, by omega⟩, hrv]
          exact HOFj
        obtain ⟨⟨va, vc, hvv, hvl, hvm, hvs⟩, _⟩ := HTP.out
        obtain ⟨vb, voff, rfl, hvb, hvc⟩ := hvs.at (by omega)
        have v4 : ∀ W, Below w.heap.size w W → W.cell? ⟨y.g, 1, none⟩ = some (.slice (some ⟨vb, voff, none⟩) y.u.T.pts.length vc) := fun W hW => by rw [← hvv]; exact cell_row (j := 1) (HY.out.below hW).obj rfl
        obtain ⟨x, hx⟩ : ∃ x, x = y.u.T.pts.getD i 0 := ⟨_, rfl⟩
        have e4 : ∀ W, Below w.heap.size w W → W.cell? ⟨vb, voff + i, none⟩ = some (.int .i64 x) ∧ vb < W.heap.size := fun W hW => by
          have hbl := (HY.out.below hW).bel
          exact ⟨by rw [hbl.cell hvb, hx]; exact hvc i hiM, Nat.lt_of_lt_of_le hvb hbl.size⟩
        have V4 := Lib.hid v4; have E4 := Lib.hid e4
        clear hi hrv HOFj hvs hvb hvc hvv v4 e4 hx
        unfold maxLen at hvm
        obtain ⟨M, hM⟩ : ∃ M, M = y.u.T.pts.length := ⟨_, rfl⟩
        have HMM := Lib.hid hM
        rw [← hM] at hiM hvl V4
        have hM12 : M ≤ 12 := by rw [hM]; exact HM.out
        clear hM
        obtain ⟨w5, hw5⟩ : ∃ w5, w5 = w4.alloc (.cells #[.int .i64 (i : Int), .bool rv] 107) := ⟨_, rfl⟩
        have HW5 := Lib.hid hw5
        have B45 : Hid (Below w4.heap.size w4 w5) := by rw [hw5]; exact tb_alloc_below _ _
        have P5 : Hid (w5.heap[w4.heap.size]? = some (.cells #[.int .i64 (i : Int), .bool rv] 107 (0, 0))) := by rw [hw5]; exact heap_alloc_new _ _
        have B5 : Hid (Below w.heap.size w w5) := B4.out.trans (B45.out.mono B4.out.size)
        have B35 : Hid (Below w3.heap.size w3 w5) := B34.out.trans (B45.out.mono B34.out.size)
        clear hw5
        go_upto_region 16 with fail
        rw [← HW5.out]
        obtain ⟨nb, hnb⟩ : ∃ b, b = w4.heap.size := ⟨_, rfl⟩
        rw [← hnb] at P5 ⊢
        clear hnb HW5 hp0 hp1 hpb B34 B4 B45
        have y0 := cell_row (j := 0) P5.out rfl; have y1 := cell_row (j := 1) P5.out rfl
        have q1 := cell_row (j := 1) (tb_kept Q3.out B35.out) rfl
        have x2 := cell_row (j := 2) (tb_kept K3.out B35.out) rfl; have x3 := cell_row (j := 3) (tb_kept K3.out B35.out) rfl
        have g1 := V4.out w5 B5.out
        obtain ⟨e1, le⟩ := E4.out w5 B5.out
        have ln := heap_lt P5.out; have lq := heap_lt (tb_kept Q3.out B35.out); have lx := heap_lt (tb_kept K3.out B35.out); have lg := heap_lt (HY.out.below B5.out).obj
        have HMID := (HTR.out.mid (lo := tl) (hi := hd + 1) (by omega) (by omega)).below (HY.out.below B5.out).bel
        have HMI2 : IntsAt w5 (.slice (if tc = tl then some ⟨tb, toff, none⟩ else some ⟨tb, toff + tl, none⟩) (hd + 1 - tl) (tc - tl)) ((A.tr.take (hd + 1)).drop tl) := by rw [if_neg (by omega)]; exact HMID
        have HCT := Lib.hid (fun q => Calls.quiet_of_same (contains_int _ _ x (w5.drewN q) (HMI2.below (YD_drewN w5 q))))
        have HCT2 := Lib.hid (fun q => Calls.quiet_of_same (contains_int _ _ x (w5.drewN q) (HMID.below (YD_drewN w5 q))))
        clear HMID HMI2
        have sb0 : (0 : Int) ≤ (tl : Int) := by omega
        have sb1 : (tl : Int) ≤ (hd : Int) + 1 := by omega
        have sb2 : (hd : Int) + 1 ≤ (tc : Int) := by omega
        have sb3 : IntKind.i64.wrap ((hd : Int) + 1) = (hd : Int) + 1 := IntWalk.i64_in _ ⟨by omega, by omega⟩
        generalize hasI ((A.tr.take (hd + 1)).drop tl) x = un at *
        cases rv
        case false =>
          go_upto_region 19 with fail
          go_quiet ((go_at_call 40; first | (with_reducible exact HCT.out _) | (with_reducible exact HCT2.out _)))
          have B6 : Hid (Below w.heap.size w (w5.drewN nq)) := B5.out.trans ((YD_drewN w5 nq).mono B5.out.size)
          have B36 : Hid (Below w3.heap.size w3 (w5.drewN nq)) := B35.out.trans ((YD_drewN w5 nq).mono B35.out.size)
          have P6 : Hid ((w5.drewN nq).heap[nb]? = _) := P5.out
          generalize w5.drewN nq = w6 at *
          clear y0 y1 q1 x2 x3 g1 e1 le ln lq lx lg HCT HCT2
          have y0 := cell_row (j := 0) P6.out rfl
          have ln := heap_lt P6.out
          have HPC := Lib.hid (ypoint_any y Y (i : Int) w6 (HY.out.below B6.out) (by have := HM.out; omega))
          rw [HND.out] at HPC
          cases un
          case false =>
            go_wp2_with fail
            go_roundw
            case rel => exact ⟨j + 1, by omega, by go_num, rfl, B36.out⟩
            case measure => simp [intOf]; omega
          case true =>
            go_wp2_with fail
            refine HPC.out.mono ?_
            rintro e w7 ⟨rfl, rfl⟩
            go_wp2_with fail
            go_roundw
            case rel => exact ⟨j + 1, by omega, by go_num, by first | rfl | simp, B36.out⟩
            case measure => simp [intOf]; omega
        case true =>
          go_upto_region 19 with fail
          go_quiet ((go_at_call 40; first | (with_reducible exact HCT.out _) | (with_reducible exact HCT2.out _)))
          have B6 : Hid (Below w.heap.size w (w5.drewN nq)) := B5.out.trans ((YD_drewN w5 nq).mono B5.out.size)
          have B36 : Hid (Below w3.heap.size w3 (w5.drewN nq)) := B35.out.trans ((YD_drewN w5 nq).mono B35.out.size)
          have P6 : Hid ((w5.drewN nq).heap[nb]? = _) := P5.out
          generalize w5.drewN nq = w6 at *
          clear y0 y1 q1 x2 x3 g1 e1 le ln lq lx lg HCT HCT2
          have y0 := cell_row (j := 0) P6.out rfl
          have ln := heap_lt P6.out
          have HPC := Lib.hid (ypoint_any y Y (i : Int) w6 (HY.out.below B6.out) (by have := HM.out; omega))
          rw [HND.out] at HPC
          cases un
          case false =>
            go_wp2_with fail
            go_roundw
            case rel => exact ⟨j + 1, by omega, by go_num, rfl, B36.out⟩
            case measure => simp [intOf]; omega
          case true =>
            go_wp2_with fail
            refine HPC.out.mono ?_
            rintro e w7 ⟨rfl, rfl⟩
            go_wp2_with fail
            go_roundw
            case rel => exact ⟨j + 1, by omega, by go_num, by first | rfl | simp, B36.out⟩
            case measure => simp [intOf]; omega
end Go.Proofs.Ytnjeiigdfdjccaa
/- One frame of one move; a yard's context. -/
namespace Go.Proofs.Ytnjeiigdfdjccaa
open Go.RowKit
set_option linter.unusedVariables false
set_option linter.unusedSimpArgs false
/-- What a yard's table is. -/
structure YCtx (y : Yd) : Prop where
  hc : checkE y.u.T = 0
  tok : TOk y.u.T
  tk : 0 ≤ y.u.T.tracks ∧ y.u.T.tracks ≤ 24
  d : y.d ≤ 100
  n0 : 0 < y.u.T.rts.length
theorem tracks_of {T : Tab} (h : checkE T = 0) : 0 ≤ T.tracks ∧ T.tracks ≤ 24 := by
  have h1 := (ckOk h).t1; have h2 := (ckOk h).t2
  omega
theorem YdAt.M_ge {w : World} {y : Yd} {Y : YS} (h : YdAt w y Y) : ∀ b, y.M b → y.u.w0.heap.size ≤ b ∧ b < w.heap.size := fun b hb => by
  have a := h.ap
  have h1 := heap_lt h.obj; have h2 := h.ts.lt; have h3 := h.ps.lt; have h4 := h.au.rlt; have h5 := h.au.pl; have h6 := h.au.rB; have h7 := h.au.pB
  have a1 := a.g0; have a2 := a.t0; have a3 := a.p0
  rcases hb with rfl | rfl | rfl | rfl | rfl
  · exact ⟨a1, h1⟩
  · exact ⟨a2, h2⟩
  · exact ⟨a3, h3⟩
  · exact ⟨h6, h4⟩
  · exact ⟨h7, h5⟩
theorem TurnY.toBelow {B : Nat} {y : Yd} {Y Y' : YS} {w0 w w' : World} (hb : Below B w0 w) (h : YdAt w y Y) (hB : B ≤ y.w0.heap.size) (k : TurnY y w Y' w') : Below B w0 w' := by
  have hz := h.ap.z
  have hs := hb.size
  have hw : B ≤ w.heap.size := Nat.le_trans hB h.bel.size
  exact hb.trans (k.2.below hw (fun i hi hm => by have := (h.M_ge i hm).1; omega))
/-- A move's cells, new. -/
theorem mvs_one (w w1 : World) (kd : Nat) (n : Int) (h : w1 = w.alloc (.cells #[.int .u8 (kd : Int), .int .i64 n] 56)) (hk : kd < 256) (hn : i64ok n) : MvsAt w1 (.slice (some ⟨w.heap.size, 0, none⟩) 1 1) [⟨kd, n⟩] := by
  have K : w1.heap[w.heap.size]? = some (.cells #[.int .u8 (kd : Int), .int .i64 n] 56 (0, 0)) := by rw [h]; exact heap_alloc_new _ _
  refine ⟨⟨_, 1, rfl, Nat.le_refl _, by unfold maxLen; omega, .inr ⟨w.heap.size, 0, rfl, heap_lt K, fun i hi j hj => ?_⟩⟩, fun i hi => ?_⟩
  · have hi0 : i = 0 := by have : i < 1 := hi; omega
    subst hi0
    have hj2 : j = 0 ∨ j = 1 := by omega
    rcases hj2 with rfl | rfl
    · exact cell_row (j := 0) K rfl
    · exact cell_row (j := 1) K rfl
  · have hi0 : i = 0 := by have : i < 1 := hi; omega
    subst hi0
    exact ⟨hk, hn⟩
set_option maxRecDepth 100000 in
set_option maxHeartbeats 4000000 in
theorem yone_any (y : Yd) (Y : YS) (kd q : Nat) (n : Int) (w : World) (H : YdAt w y Y) (hx : YCtx y) (hF : YFine y.u.T Y) (hk : kd < 256) (hn : i64ok n) :
    Calls Try.prog 22 #[.pointer (some ⟨y.g, 0, none⟩), .int .u8 (kd : Int), .int .i64 n, .int .i64 (q : Int)] w fun e w' =>
      e = .returned (.bool ((errsY y.u.T Y [⟨kd, n⟩]).getD 0 0 == q)) ∧ TurnY y w (frameY y.u.T y.d Y [⟨kd, n⟩]) w' := by
  obtain ⟨w1, hw1⟩ : ∃ w1, w1 = w.alloc (.cells #[.int .u8 (kd : Int), .int .i64 n] 56) := ⟨_, rfl⟩
  have B1 : Hid (Below w.heap.size w w1) := by rw [hw1]; exact tb_alloc_below _ _
  have HF := Lib.hid (yframe_any y Y [⟨kd, n⟩] (.slice (some ⟨w.heap.size, 0, none⟩) 1 1) w1 (H.below B1.out) hx.hc hx.tok hx.tk hx.d hF (mvs_one w w1 kd n hw1 hk hn) (fun b off m c e _ hb => by cases e; have := (H.M_ge _ hb).2; omega) (by show 1 ≤ 1000; omega))
  have HW1 := Lib.hid hw1
  have HT1 : Hid (TurnY y w Y w1) := TurnY.of_below H B1.out
  have HL : Hid (∃ x, errsY y.u.T Y [⟨kd, n⟩] = [x] ∧ x ≤ 6) := ⟨_, rfl, ansN_le _ _ _⟩
  clear H hx hF hn hw1
  obtain ⟨x, hx, hx6⟩ := HL.out
  rw [hx] at HF ⊢
  obtain ⟨L, hL⟩ : ∃ L, L = (frameY y.u.T y.d Y [⟨kd, n⟩]).L := ⟨_, rfl⟩
  rw [← hL] at HF
  generalize frameY y.u.T y.d Y [⟨kd, n⟩] = Z at *
  clear hx hL HL
  obtain ⟨pr, no, re, lo⟩ := L
  show Calls _ _ _ _ fun e w' => e = .returned (.bool (x == q)) ∧ _
  go_enter Try.func22, Try.ntmps22
  go_upto_region 1 with fail
  go_wp2_with fail
  rw [← HW1.out]
  refine HF.out.mono ?_
  rintro e w2 ⟨⟨ve, rfl, hin, _⟩, hT⟩
  have T2 := Lib.hid (HT1.out.trans hT)
  obtain ⟨⟨a, c, rfl, hl1, hl2, _⟩, _⟩ := id hin
  unfold OD.val
  obtain ⟨b, off, rfl, hb, hcl⟩ := hin.cell (i := 0) (by show 0 < 1; omega)
  have hx0 : w2.cell? ⟨b, off, none⟩ = some (.int .i64 (x : Int)) := hcl
  have B3 : Hid (Below w2.heap.size w2 (w2.alloc (.cells #[.int .u32 (pr : Int), .int .u32 (no : Int), .int .u32 (re : Int), .int .u32 (lo : Int)] 35))) := tb_alloc_below _ _
  have hx1 := (B3.out.cell hb).trans hx0
  have HBL : Hid (b < (w2.alloc (.cells #[.int .u32 (pr : Int), .int .u32 (no : Int), .int .u32 (re : Int), .int .u32 (lo : Int)] 35)).heap.size) := Nat.lt_of_lt_of_le hb B3.out.size
  have T3 := Lib.hid (T2.out.below B3.out)
  have HX : Hid (((x : Int) == (q : Int)) = (x == q)) := by
    show _ = _
    exact Bool.eq_iff_iff.2 (by simp only [beq_iff_eq]; omega)
  have hl : (intE [x]).length = 1 := rfl
  rw [hl] at hl1 ⊢
  clear hin hT hcl hx0 hb HF
  go_upto_region 2 with fail
  generalize w2.alloc (.cells #[.int .u32 (pr : Int), .int .u32 (no : Int), .int .u32 (re : Int), .int .u32 (lo : Int)] 35) = w3 at *
  have hbl := HBL.out
  go_wp2_with fail
  rw [HX.out]
  go_ret
  exact ⟨rfl, T3.out⟩
end Go.Proofs.Ytnjeiigdfdjccaa
