/- asks: a route is set, if it is asked for and may be. The functions that are asked of its lists. -/
import Derived.Test.YtnjeiigdfdjccaaAutG
namespace Go.Proofs.Ytnjeiigdfdjccaa
open Go.RowKit
set_option linter.unusedVariables false
set_option linter.unusedSimpArgs false
theorem asks1_any (u : Au) (S : AS) (f : FD) (fb : Nat) (k : Int) (w : World) (h : AutoAt w u S) (hf : w.heap[fb]? = some (.cells #[.pointer (some ⟨u.g, 0, none⟩), .int .u32 (f.cl : Int), .int .u32 (f.no : Int), .int .u32 (f.re : Int), .int .u32 (f.ak : Int), .int .u32 (f.ca : Int), .int .u32 (f.rq : Int)] 116 (0, 0))) (hT : TOk u.T) (hk : 0 ≤ k ∧ k < (u.T.rts.length : Int)) :
    Calls Try.prog 65 #[.int .i64 k, .pointer (some ⟨fb, 0, none⟩)] w fun e w' => e = .returned (.bool ((S.R k.toNat).ph == 0)) ∧ Below w.heap.size w w' := by
  obtain ⟨k, rfl⟩ := Int.eq_ofNat_of_zero_le hk.1
  rw [Int.toNat_natCast]
  obtain ⟨sc, hvs, hs1, hs2, _⟩ := h.rs
  have hN := hT.n
  have hk2 : k < u.T.rts.length := by omega
  have c0 := cell_row (j := 0) hf rfl
  have l0 := heap_lt hf
  have g4 : w.cell? ⟨u.g, 4, none⟩ = some (.slice (some ⟨u.rb, 0, none⟩) u.T.rts.length sc) := by rw [← hvs]; exact cell_row (j := 4) h.obj rfl
  have lg := heap_lt h.obj
  have r0 := (h.rcell hk2).1
  have lr := h.rlt
  clear h hf hT hvs hk
  generalize u.T.rts.length = m at *
  have i0 : (0 : Int) ≤ (k : Int) := by omega
  have i1 : (k : Int) < (m : Int) := by omega
  unfold maxLen at hs2
  have HP : Hid (((S.R k).ph == 0) = (((S.R k).ph : Int) == 0)) := by
    show _ = _
    generalize (S.R k).ph = p
    rw [Bool.eq_iff_iff]; simp
  rw [HP.out]
  generalize (S.R k).ph = ph at *
  clear HP
  go_enter Try.func65, Try.ntmps65
  go_wp2_with fail
  go_ret
  exact ⟨rfl, Below.refl _ _⟩
def mayB (T : Tab) (f : FD) (S : AS) (p : Int × Bool) : Bool := S.C p.1.toNat == needP p || bt f.cl (T.pts.getD p.1.toNat 0)
set_option maxRecDepth 100000 in
set_option maxHeartbeats 4000000 in
theorem asks2_any (u : Au) (S : AS) (f : FD) (fb : Nat) (p : Int × Bool) (w : World) (h : AutoAt w u S) (hf : w.heap[fb]? = some (.cells #[.pointer (some ⟨u.g, 0, none⟩), .int .u32 (f.cl : Int), .int .u32 (f.no : Int), .int .u32 (f.re : Int), .int .u32 (f.ak : Int), .int .u32 (f.ca : Int), .int .u32 (f.rq : Int)] 116 (0, 0))) (hT : TOk u.T) (hF : f.Ok) (hp : 0 ≤ p.1 ∧ p.1 < (u.T.pts.length : Int)) :
    Calls Try.prog 66 #[.agg #[.int .i64 p.1, .bool p.2], .pointer (some ⟨fb, 0, none⟩)] w fun e w' => e = .returned (.bool (mayB u.T f S p)) ∧ Below w.heap.size w w' := by
  obtain ⟨y, b⟩ := p
  simp only at hp ⊢
  obtain ⟨k, rfl⟩ := Int.eq_ofNat_of_zero_le hp.1
  have hk2 : k < u.T.pts.length := by omega
  obtain ⟨a, c, hvp, h1, h2, h3⟩ := h.ps
  obtain ⟨rfl, hrow⟩ := h3 (by omega)
  have hcc : w.cell? ⟨u.pb, k, none⟩ = some (.int .u8 (S.C k : Int)) := hrow.cell hk2
  obtain ⟨ta, tc, htp, ht1, ht2, _⟩ := h.tp.at_
  have htpp : IntsAt w u.vp u.T.pts := h.tp.below h.bel
  rw [htp] at htpp
  obtain ⟨tb, tof, rfl, htb, x0⟩ := htpp.cell hk2
  have hpl := hT.p
  have hpt := hT.pt k hk2
  have c0 := cell_row (j := 0) hf rfl
  have c1 := cell_row (j := 1) hf rfl
  have c2 := cell_row (j := 2) hf rfl
  have c3 := cell_row (j := 3) hf rfl
  have c4 := cell_row (j := 4) hf rfl
  have c5 := cell_row (j := 5) hf rfl
  have c6 := cell_row (j := 6) hf rfl
  have l0 := heap_lt hf
  have g1 : w.cell? ⟨u.g, 1, none⟩ = some (.slice (some ⟨tb, tof, none⟩) u.T.pts.length tc) := by rw [← htp]; exact cell_row (j := 1) h.obj rfl
  have g5 : w.cell? ⟨u.g, 5, none⟩ = some (.slice (some ⟨u.pb, 0, none⟩) u.T.pts.length c) := by rw [← hvp]; exact cell_row (j := 5) h.obj rfl
  have lg := heap_lt h.obj
  have lp := h.pl
  have HMB : Hid (mayB u.T f S ((k : Int), b) = (S.C k == needP ((k : Int), b) || bt f.cl (u.T.pts.getD k 0))) := rfl
  rw [HMB.out]
  have HCL := Lib.hid (fun W => clear_any u f (u.T.pts.getD k 0) W hF.cl hpt.1)
  have HCM := Lib.hid (fun W => command_any ((k : Int), b) W)
  clear HMB h hf hT hF hp htp hvp hrow htpp hpt h3
  generalize u.T.pts.getD k 0 = y at *
  generalize bt f.cl y = cb at *
  generalize S.C k = sc at *
  generalize needP ((k : Int), b) = nd at *
  unfold maxLen at h2 ht2
  generalize u.T.pts.length = m at *
  obtain ⟨w1, hw1⟩ : ∃ w1, w1 = w.alloc (.cells #[.int .i64 (k : Int), .bool b] 107) := ⟨_, rfl⟩
  have B1 : Hid (Below w.heap.size w w1) := by rw [hw1]; exact tb_alloc_below _ _
  have K1 : Hid (w1.heap[w.heap.size]? = some (.cells #[.int .i64 (k : Int), .bool b] 107 (0, 0))) := by rw [hw1]; exact heap_alloc_new _ _
  have HW1 := Lib.hid hw1
  clear hw1
  have i0 : (0 : Int) ≤ (k : Int) := by omega
  have i1 : (k : Int) < (m : Int) := by omega
  have p0 := cell_row (j := 0) K1.out rfl
  have p1 := cell_row (j := 1) K1.out rfl
  have l1 := heap_lt K1.out
  have BD : Below w.heap.size w w1 := B1.out
  have q0 := Nat.lt_of_lt_of_le l0 BD.size; have q1 := Nat.lt_of_lt_of_le lg BD.size; have q2 := Nat.lt_of_lt_of_le lp BD.size; have q3 := Nat.lt_of_lt_of_le htb BD.size
  by_cases hq : sc = nd
  · have t1 : ((sc : Int) == (nd : Int)) = true := by simp [hq]
    have t2 : (sc == nd) = true := by simp [hq]
    rw [t2]
    clear hq
    go_enter Try.func66, Try.ntmps66
    go_upto_region 1 with fail
    rw [← HW1.out]
    obtain ⟨U, fU, hUn, hU1, hU2⟩ := class_of (fun V => Below w1.heap.size w1 V) (W := w1.drew) ⟨rfl, rfl, rfl, Nat.le_refl _, fun _ _ => rfl⟩
    have HU1 := Lib.hid hU1; have HU2 := Lib.hid hU2
    clear hU1 hU2
    have hfm : (Try.prog).follows .mixedOrders = true := by kernel_rfl
    obtain ⟨q, hd1⟩ : ∃ q : Nat, 1 ≤ q := ⟨1, Nat.le_refl _⟩
    have y0 := fun uu => ((HU1.out uu).cell q0).trans ((BD.cell l0).trans c0)
    have y1 := fun uu => ((HU1.out uu).cell q0).trans ((BD.cell l0).trans c1)
    have y2 := fun uu => ((HU1.out uu).cell q0).trans ((BD.cell l0).trans c2)
    have y3 := fun uu => ((HU1.out uu).cell q0).trans ((BD.cell l0).trans c3)
    have y4 := fun uu => ((HU1.out uu).cell q0).trans ((BD.cell l0).trans c4)
    have y5 := fun uu => ((HU1.out uu).cell q0).trans ((BD.cell l0).trans c5)
    have y6 := fun uu => ((HU1.out uu).cell q0).trans ((BD.cell l0).trans c6)
    have yg1 := fun uu => ((HU1.out uu).cell q1).trans ((BD.cell lg).trans g1)
    have yg5 := fun uu => ((HU1.out uu).cell q1).trans ((BD.cell lg).trans g5)
    have ycc := fun uu => ((HU1.out uu).cell q2).trans ((BD.cell lp).trans hcc)
    have yx := fun uu => ((HU1.out uu).cell q3).trans ((BD.cell htb).trans x0)
    have yp0 := fun uu => ((HU1.out uu).cell l1).trans p0
    have yp1 := fun uu => ((HU1.out uu).cell l1).trans p1
    have h0_HR : ∀ uu, Calls Try.prog 67 #[.agg #[.int .i64 (k : Int), .bool b]] (fU uu) fun e w' => e = .returned (.int .u8 (nd : Int)) ∧ Below (fU uu).heap.size (fU uu) w' := fun uu => HCM.out (fU uu)
    have HR : Hid (∀ uu, CallsIn Fence.wide (q - 1) Try.prog 67 #[.agg #[.int .i64 (k : Int), .bool b]] (fU uu) fun e w' => e = .returned (.int .u8 (nd : Int)) ∧ ∃ uu', w' = fU uu') := fun uu => (callsIn_wide.2 (h0_HR uu)).mono (fun e w' ⟨he, hb⟩ => ⟨he, HU2.out _ ((HU1.out uu).trans (hb.mono (HU1.out uu).size))⟩)
    have hf_HR : Fence.wide.fn 67 := trivial
    clear h0_HR
    have h0_HR2 : ∀ uu, Calls Try.prog 62 #[.agg #[.pointer (some ⟨u.g, 0, none⟩), .int .u32 (f.cl : Int), .int .u32 (f.no : Int), .int .u32 (f.re : Int), .int .u32 (f.ak : Int), .int .u32 (f.ca : Int), .int .u32 (f.rq : Int)], .int .i64 y] (fU uu) fun e w' => e = .returned (.bool cb) ∧ Below (fU uu).heap.size (fU uu) w' := fun uu => HCL.out (fU uu)
    have HR2 : Hid (∀ uu, CallsIn Fence.wide (q - 1) Try.prog 62 #[.agg #[.pointer (some ⟨u.g, 0, none⟩), .int .u32 (f.cl : Int), .int .u32 (f.no : Int), .int .u32 (f.re : Int), .int .u32 (f.ak : Int), .int .u32 (f.ca : Int), .int .u32 (f.rq : Int)], .int .i64 y] (fU uu) fun e w' => e = .returned (.bool cb) ∧ ∃ uu', w' = fU uu') := fun uu => (callsIn_wide.2 (h0_HR2 uu)).mono (fun e w' ⟨he, hb⟩ => ⟨he, HU2.out _ ((HU1.out uu).trans (hb.mono (HU1.out uu).size))⟩)
    have hf_HR2 : Fence.wide.fn 62 := trivial
    clear h0_HR2
    clear BD q0 q1 q2 q3 c0 c1 c2 c3 c4 c5 c6 g1 g5 hcc x0 p0 p1
    refine (wpIn_wide (n := q)).1 ?_
    refine wpIn_region_cls fU (by kernel_rfl) hfm (by kernel_rfl) (HU2.out _ ⟨rfl, rfl, rfl, Nat.le_refl _, fun _ _ => rfl⟩) ?_
    repeat (gi_big_quiet_step (first | (gi_at_call 67; (with_reducible exact HR.out _)) | (gi_at_call 62; (with_reducible exact HR2.out _))))
    refine wpQuietIn_nil ?_
    rintro w5 ⟨uu, rfl⟩
    have B5 := Lib.hid ((B1.out).trans ((HU1.out uu).mono (B1.out).size))
    generalize fU uu = w5 at *
    clear HU1 HU2
    clear y0 y1 y2 y3 y4 y5 y6 yg1 yg5 ycc yx yp0 yp1 HR HR2
    go_wp2_with fail
    go_ret
    exact ⟨by first | rfl | simp, B5.out⟩
  · have t1 : ((sc : Int) == (nd : Int)) = false := by simp; omega
    have t2 : (sc == nd) = false := by simpa using hq
    rw [t2]
    clear hq
    go_enter Try.func66, Try.ntmps66
    go_upto_region 1 with fail
    rw [← HW1.out]
    obtain ⟨U, fU, hUn, hU1, hU2⟩ := class_of (fun V => Below w1.heap.size w1 V) (W := w1.drew) ⟨rfl, rfl, rfl, Nat.le_refl _, fun _ _ => rfl⟩
    have HU1 := Lib.hid hU1; have HU2 := Lib.hid hU2
    clear hU1 hU2
    have hfm : (Try.prog).follows .mixedOrders = true := by kernel_rfl
    obtain ⟨q, hd1⟩ : ∃ q : Nat, 1 ≤ q := ⟨1, Nat.le_refl _⟩
    have y0 := fun uu => ((HU1.out uu).cell q0).trans ((BD.cell l0).trans c0)
    have y1 := fun uu => ((HU1.out uu).cell q0).trans ((BD.cell l0).trans c1)
    have y2 := fun uu => ((HU1.out uu).cell q0).trans ((BD.cell l0).trans c2)
    have y3 := fun uu => ((HU1.out uu).cell q0).trans ((BD.cell l0).trans c3)
    have y4 := fun uu => ((HU1.out uu).cell q0).trans ((BD.cell l0).trans c4)
    have y5 := fun uu => ((HU1.out uu).cell q0).trans ((BD.cell l0).trans c5)
    have y6 := fun uu => ((HU1.out uu).cell q0).trans ((BD.cell l0).trans c6)
    have yg1 := fun uu => ((HU1.out uu).cell q1).trans ((BD.cell lg).trans g1)
    have yg5 := fun uu => ((HU1.out uu).cell q1).trans ((BD.cell lg).trans g5)
    have ycc := fun uu => ((HU1.out uu).cell q2).trans ((BD.cell lp).trans hcc)
    have yx := fun uu => ((HU1.out uu).cell q3).trans ((BD.cell htb).trans x0)
    have yp0 := fun uu => ((HU1.out uu).cell l1).trans p0
    have yp1 := fun uu => ((HU1.out uu).cell l1).trans p1
    have h0_HR : ∀ uu, Calls Try.prog 67 #[.agg #[.int .i64 (k : Int), .bool b]] (fU uu) fun e w' => e = .returned (.int .u8 (nd : Int)) ∧ Below (fU uu).heap.size (fU uu) w' := fun uu => HCM.out (fU uu)
    have HR : Hid (∀ uu, CallsIn Fence.wide (q - 1) Try.prog 67 #[.agg #[.int .i64 (k : Int), .bool b]] (fU uu) fun e w' => e = .returned (.int .u8 (nd : Int)) ∧ ∃ uu', w' = fU uu') := fun uu => (callsIn_wide.2 (h0_HR uu)).mono (fun e w' ⟨he, hb⟩ => ⟨he, HU2.out _ ((HU1.out uu).trans (hb.mono (HU1.out uu).size))⟩)
    have hf_HR : Fence.wide.fn 67 := trivial
    clear h0_HR
    have h0_HR2 : ∀ uu, Calls Try.prog 62 #[.agg #[.pointer (some ⟨u.g, 0, none⟩), .int .u32 (f.cl : Int), .int .u32 (f.no : Int), .int .u32 (f.re : Int), .int .u32 (f.ak : Int), .int .u32 (f.ca : Int), .int .u32 (f.rq : Int)], .int .i64 y] (fU uu) fun e w' => e = .returned (.bool cb) ∧ Below (fU uu).heap.size (fU uu) w' := fun uu => HCL.out (fU uu)
    have HR2 : Hid (∀ uu, CallsIn Fence.wide (q - 1) Try.prog 62 #[.agg #[.pointer (some ⟨u.g, 0, none⟩), .int .u32 (f.cl : Int), .int .u32 (f.no : Int), .int .u32 (f.re : Int), .int .u32 (f.ak : Int), .int .u32 (f.ca : Int), .int .u32 (f.rq : Int)], .int .i64 y] (fU uu) fun e w' => e = .returned (.bool cb) ∧ ∃ uu', w' = fU uu') := fun uu => (callsIn_wide.2 (h0_HR2 uu)).mono (fun e w' ⟨he, hb⟩ => ⟨he, HU2.out _ ((HU1.out uu).trans (hb.mono (HU1.out uu).size))⟩)
    have hf_HR2 : Fence.wide.fn 62 := trivial
    clear h0_HR2
    clear BD q0 q1 q2 q3 c0 c1 c2 c3 c4 c5 c6 g1 g5 hcc x0 p0 p1
    refine (wpIn_wide (n := q)).1 ?_
    refine wpIn_region_cls fU (by kernel_rfl) hfm (by kernel_rfl) (HU2.out _ ⟨rfl, rfl, rfl, Nat.le_refl _, fun _ _ => rfl⟩) ?_
    repeat (gi_big_quiet_step (first | (gi_at_call 67; (with_reducible exact HR.out _)) | (gi_at_call 62; (with_reducible exact HR2.out _))))
    refine wpQuietIn_nil ?_
    rintro w5 ⟨uu, rfl⟩
    have B5 := Lib.hid ((B1.out).trans ((HU1.out uu).mono (B1.out).size))
    generalize fU uu = w5 at *
    clear HU1 HU2
    clear y0 y1 y2 y3 y4 y5 y6 yg1 yg5 ycc yx yp0 yp1 HR HR2
    go_wp2_with fail
    go_ret
    exact ⟨by first | rfl | simp, B5.out⟩
end Go.Proofs.Ytnjeiigdfdjccaa
