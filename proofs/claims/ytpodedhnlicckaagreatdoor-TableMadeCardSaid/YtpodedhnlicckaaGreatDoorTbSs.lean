/- Same: equal tables (the loops). -/
import Derived.Test.YtpodedhnlicckaaGreatDoorTbSm
import Derived.Test.YtpodedhnlicckaaGreatDoorTabF
namespace Go.Proofs.YtpodedhnlicckaaGreatDoor
open Go.Shelf Go.RowKit
set_option linter.unusedVariables false
set_option linter.unusedSimpArgs false
set_option maxRecDepth 100000 in
set_option maxHeartbeats 4000000 in
theorem Same_any (v u : Value) (T : Tab) (w : World) (h1 : TabAt w v T) (h2 : TabAt w u T) : Calls Tryz.prog 22 #[v, u] w fun e w' => e = .returned (.bool true) ∧ Below w.heap.size w w' := by
  obtain ⟨⟨vp, vr, rfl, hP1, hR1⟩, _, _⟩ := h1
  obtain ⟨⟨up, ur, rfl, hP2, hR2⟩, _, _⟩ := h2
  have hrs := hR1.size
  unfold maxLen at hrs
  obtain ⟨a, c, C0, rfl, hlc, hcm, _⟩ := hR1.at_
  obtain ⟨a', c', C0', rfl, hlc', hcm', _⟩ := hR2.at_
  have HR1 := Lib.hid hR1; have HR2 := Lib.hid hR2
  have HSP := Lib.hid (fun (W : World) (hW : Below w.heap.size w W) => same_any vp up T.pts W (hP1.below hW) (hP2.below hW))
  clear hP1 hP2 hR1 hR2
  obtain ⟨w1, hw1⟩ : ∃ w1, w1 = (w.alloc (.cells #[.int .i64 T.tracks, vp, .int .i64 T.sigs, .slice a T.rts.length c] 25)).alloc (.cells #[.int .i64 T.tracks, up, .int .i64 T.sigs, .slice a' T.rts.length c'] 25) := ⟨_, rfl⟩
  have B1 : Hid (Below w.heap.size w w1) := by rw [hw1]; exact ((Below.refl _ w).alloc (Nat.le_refl _) _).alloc (by simp) _
  have K1 : Hid (w1.heap[w.heap.size]? = some (.cells #[.int .i64 T.tracks, vp, .int .i64 T.sigs, .slice a T.rts.length c] 25 (0, 0))) := by rw [hw1]; exact tb_kept (heap_alloc_new _ _) (tb_alloc_below _ _)
  have K2 : Hid (w1.heap[w.heap.size + 1]? = some (.cells #[.int .i64 T.tracks, up, .int .i64 T.sigs, .slice a' T.rts.length c'] 25 (0, 0))) := by rw [hw1]; have := heap_alloc_new (w.alloc (.cells #[.int .i64 T.tracks, vp, .int .i64 T.sigs, .slice a T.rts.length c] 25)) (.cells #[.int .i64 T.tracks, up, .int .i64 T.sigs, .slice a' T.rts.length c'] 25); rw [show (w.alloc (.cells #[.int .i64 T.tracks, vp, .int .i64 T.sigs, .slice a T.rts.length c] 25)).heap.size = w.heap.size + 1 from Array.size_push _] at this; exact this
  have HW1 := Lib.hid hw1
  clear hw1
  generalize hn : T.rts.length = n at *
  go_enter Tryz.func22, Tryz.ntmps22
  go_upto_region 1 with fail
  rw [← HW1.out]
  clear HW1
  generalize htb : w.heap.size = tb at *
  rw [← htb] at B1 HSP
  have HTB := Lib.hid htb
  clear htb
  have b1 := Lib.hid (Below.refl w1.heap.size w1)
  have c0 := cell_row (j := 0) (tb_kept K1.out (b1.out)) rfl
  have c1 := cell_row (j := 1) (tb_kept K1.out (b1.out)) rfl
  have c2 := cell_row (j := 2) (tb_kept K1.out (b1.out)) rfl
  have c3 := cell_row (j := 3) (tb_kept K1.out (b1.out)) rfl
  have l1 := heap_lt (tb_kept K1.out (b1.out))
  have d0 := cell_row (j := 0) (tb_kept K2.out (b1.out)) rfl
  have d1 := cell_row (j := 1) (tb_kept K2.out (b1.out)) rfl
  have d2 := cell_row (j := 2) (tb_kept K2.out (b1.out)) rfl
  have d3 := cell_row (j := 3) (tb_kept K2.out (b1.out)) rfl
  have l2 := heap_lt (tb_kept K2.out (b1.out))
  have HS1 := Lib.hid (HSP.out w1 B1.out)
  go_wp2_with fail
  (with_reducible refine HS1.out.mono ?_)
  rintro e w2 ⟨rfl, hb2⟩
  have b2 : Hid (Below w1.heap.size w1 w2) := hb2
  clear hb2 c0 c1 c2 c3 d0 d1 d2 d3 l1 l2 HS1 b1
  have c0 := cell_row (j := 0) (tb_kept K1.out (b2.out)) rfl
  have c1 := cell_row (j := 1) (tb_kept K1.out (b2.out)) rfl
  have c2 := cell_row (j := 2) (tb_kept K1.out (b2.out)) rfl
  have c3 := cell_row (j := 3) (tb_kept K1.out (b2.out)) rfl
  have l1 := heap_lt (tb_kept K1.out (b2.out))
  have d0 := cell_row (j := 0) (tb_kept K2.out (b2.out)) rfl
  have d1 := cell_row (j := 1) (tb_kept K2.out (b2.out)) rfl
  have d2 := cell_row (j := 2) (tb_kept K2.out (b2.out)) rfl
  have d3 := cell_row (j := 3) (tb_kept K2.out (b2.out)) rfl
  have l2 := heap_lt (tb_kept K2.out (b2.out))
  go_wp2_with fail
  clear c0 c1 c2 c3 d0 d1 d2 d3 l1 l2
  go_loopw [5, 6] (fun b i wr => b = .bool true ∧ ∃ k : Nat, k ≤ n ∧ i = .int .i64 (k : Int) ∧ Hid (Below w1.heap.size w1 wr)) (fun b i _ => n - (intOf i).toNat)
  case atStart => exact ⟨by first | rfl | simp, 0, Nat.zero_le _, rfl, b2.out⟩
  case round =>
    obtain ⟨rfl, k, hk, rfl, BB⟩ := hrel
    have c0 := cell_row (j := 0) (tb_kept K1.out (BB.out)) rfl
    have c1 := cell_row (j := 1) (tb_kept K1.out (BB.out)) rfl
    have c2 := cell_row (j := 2) (tb_kept K1.out (BB.out)) rfl
    have c3 := cell_row (j := 3) (tb_kept K1.out (BB.out)) rfl
    have l1 := heap_lt (tb_kept K1.out (BB.out))
    have d0 := cell_row (j := 0) (tb_kept K2.out (BB.out)) rfl
    have d1 := cell_row (j := 1) (tb_kept K2.out (BB.out)) rfl
    have d2 := cell_row (j := 2) (tb_kept K2.out (BB.out)) rfl
    have d3 := cell_row (j := 3) (tb_kept K2.out (BB.out)) rfl
    have l2 := heap_lt (tb_kept K2.out (BB.out))
    rcases Nat.lt_or_ge k n with hk2 | hk2
    case inr =>
      obtain rfl : k = n := by omega
      have t2 : decide ((k : Int) < (k : Int)) = false := by simp
      go_wp2_with fail
      go_ret
      exact ⟨rfl, B1.out.trans (BB.out.mono B1.out.size)⟩
    have t2 : decide ((k : Int) < (n : Int)) = true := decide_eq_true (by omega)
    obtain ⟨g, off, C, rfl, hb, hc, hR⟩ := HR1.out.cells (by omega : k < T.rts.length)
    obtain ⟨g', off', C', rfl, hb', hc', hR'⟩ := HR2.out.cells (by omega : k < T.rts.length)
    have BW := Lib.hid (B1.out.trans (BB.out.mono B1.out.size))
    obtain ⟨rsig, rtr, rpts, rapp, rcon, rhold, hrr⟩ : ∃ a b c d e f, T.rts.getD k rt0 = ⟨a, b, c, d, e, f⟩ := ⟨_, _, _, _, _, _, rfl⟩
    rw [hrr] at hR hR'
    clear hrr
    obtain ⟨tl, htl⟩ : ∃ x, x = rtr.length := ⟨_, rfl⟩
    obtain ⟨pl, hpl⟩ : ∃ x, x = rpts.length := ⟨_, rfl⟩
    obtain ⟨cl, hcl⟩ : ∃ x, x = rcon.length := ⟨_, rfl⟩
    obtain ⟨ta, tc, e1, t3, t4, _⟩ := hR.tr.at_
    obtain ⟨pa, pc, e2, p3, p4, _⟩ := hR.pts.at_
    obtain ⟨ca, cc, e4, u3, u4, _⟩ := hR.con.at_
    obtain ⟨ta', tc', e1', t3', t4', _⟩ := hR'.tr.at_
    obtain ⟨pa', pc', e2', p3', p4', _⟩ := hR'.pts.at_
    obtain ⟨ca', cc', e4', u3', u4', _⟩ := hR'.con.at_
    simp only [← htl, ← hpl, ← hcl] at e1 e2 e4 e1' e2' e4' t3 p3 u3 t3' p3' u3'
    unfold maxLen at t4 p4 u4 t4' p4' u4'
    have HS1 : Hid (∀ W : World, Below w.heap.size w W → Calls Tryz.prog 54 #[.slice ta tl tc, .slice ta' tl tc'] W fun e w' => e = .returned (.bool true) ∧ Below W.heap.size W w') := by rw [← e1, ← e1']; exact fun W hW => same_any (C 1) (C' 1) rtr W (hR.tr.below hW) (hR'.tr.below hW)
    have HS4 : Hid (∀ W : World, Below w.heap.size w W → Calls Tryz.prog 54 #[.slice ca cl cc, .slice ca' cl cc'] W fun e w' => e = .returned (.bool true) ∧ Below W.heap.size W w') := by rw [← e4, ← e4']; exact fun W hW => same_any (C 4) (C' 4) rcon W (hR.con.below hW) (hR'.con.below hW)
    have HP : Hid (PtsAt w (.slice pa pl pc) rpts) := by rw [← e2]; exact hR.pts
    have HP' : Hid (PtsAt w (.slice pa' pl pc') rpts) := by rw [← e2']; exact hR'.pts
    have x0 : wr.cell? ⟨g, off + k * 6, none⟩ = some (.int .i64 rsig) := (BW.out.cell hb).trans ((hc 0 (by omega)).trans (by rw [hR.sig]))
    have x1 : wr.cell? ⟨g, off + k * 6 + 1, none⟩ = some (.slice ta tl tc) := (BW.out.cell hb).trans ((hc 1 (by omega)).trans (by rw [e1]))
    have x2 : wr.cell? ⟨g, off + k * 6 + 2, none⟩ = some (.slice pa pl pc) := (BW.out.cell hb).trans ((hc 2 (by omega)).trans (by rw [e2]))
    have x3 : wr.cell? ⟨g, off + k * 6 + 3, none⟩ = some (.int .i64 rapp) := (BW.out.cell hb).trans ((hc 3 (by omega)).trans (by rw [hR.app]))
    have x4 : wr.cell? ⟨g, off + k * 6 + 4, none⟩ = some (.slice ca cl cc) := (BW.out.cell hb).trans ((hc 4 (by omega)).trans (by rw [e4]))
    have x5 : wr.cell? ⟨g, off + k * 6 + 5, none⟩ = some (.int .u16 (rhold : Int)) := (BW.out.cell hb).trans ((hc 5 (by omega)).trans (by rw [hR.hold]))
    have y0 : wr.cell? ⟨g', off' + k * 6, none⟩ = some (.int .i64 rsig) := (BW.out.cell hb').trans ((hc' 0 (by omega)).trans (by rw [hR'.sig]))
    have y1 : wr.cell? ⟨g', off' + k * 6 + 1, none⟩ = some (.slice ta' tl tc') := (BW.out.cell hb').trans ((hc' 1 (by omega)).trans (by rw [e1']))
    have y2 : wr.cell? ⟨g', off' + k * 6 + 2, none⟩ = some (.slice pa' pl pc') := (BW.out.cell hb').trans ((hc' 2 (by omega)).trans (by rw [e2']))
    have y3 : wr.cell? ⟨g', off' + k * 6 + 3, none⟩ = some (.int .i64 rapp) := (BW.out.cell hb').trans ((hc' 3 (by omega)).trans (by rw [hR'.app]))
    have y4 : wr.cell? ⟨g', off' + k * 6 + 4, none⟩ = some (.slice ca' cl cc') := (BW.out.cell hb').trans ((hc' 4 (by omega)).trans (by rw [e4']))
    have y5 : wr.cell? ⟨g', off' + k * 6 + 5, none⟩ = some (.int .u16 (rhold : Int)) := (BW.out.cell hb').trans ((hc' 5 (by omega)).trans (by rw [hR'.hold]))
    have z1 : g < wr.heap.size := Nat.lt_of_lt_of_le hb BW.out.size
    have z2 : g' < wr.heap.size := Nat.lt_of_lt_of_le hb' BW.out.size
    have HPL := Lib.hid hpl
    clear hc hc' hR hR' e1 e2 e4 e1' e2' e4' hb hb' htl hpl hcl HR1 HR2 HSP
    go_upto_region 5 with fail
    go_region
    · have KU : Hid (((wr.alloc (.cells #[.int .i64 rsig, .slice ta tl tc, .slice pa pl pc, .int .i64 rapp, .slice ca cl cc, .int .u16 (rhold : Int)] 30)).alloc (.cells #[.int .i64 rsig, .slice ta' tl tc', .slice pa' pl pc', .int .i64 rapp, .slice ca' cl cc', .int .u16 (rhold : Int)] 30)).drew.heap[wr.heap.size + 1]? = some (.cells #[.int .i64 rsig, .slice ta' tl tc', .slice pa' pl pc', .int .i64 rapp, .slice ca' cl cc', .int .u16 (rhold : Int)] 30 (0, 0))) := by
        have h := heap_alloc_new (wr.alloc (.cells #[.int .i64 rsig, .slice ta tl tc, .slice pa pl pc, .int .i64 rapp, .slice ca cl cc, .int .u16 (rhold : Int)] 30)) (.cells #[.int .i64 rsig, .slice ta' tl tc', .slice pa' pl pc', .int .i64 rapp, .slice ca' cl cc', .int .u16 (rhold : Int)] 30)
        rw [show (wr.alloc (.cells #[.int .i64 rsig, .slice ta tl tc, .slice pa pl pc, .int .i64 rapp, .slice ca cl cc, .int .u16 (rhold : Int)] 30)).heap.size = wr.heap.size + 1 from Array.size_push _] at h
        exact h
      have KV : Hid (((wr.alloc (.cells #[.int .i64 rsig, .slice ta tl tc, .slice pa pl pc, .int .i64 rapp, .slice ca cl cc, .int .u16 (rhold : Int)] 30)).alloc (.cells #[.int .i64 rsig, .slice ta' tl tc', .slice pa' pl pc', .int .i64 rapp, .slice ca' cl cc', .int .u16 (rhold : Int)] 30)).drew.heap[wr.heap.size]? = some (.cells #[.int .i64 rsig, .slice ta tl tc, .slice pa pl pc, .int .i64 rapp, .slice ca cl cc, .int .u16 (rhold : Int)] 30 (0, 0))) := tb_kept (heap_alloc_new _ _) (tb_alloc_below _ _).drew
      obtain ⟨w3, hw3⟩ : ∃ x, x = ((wr.alloc (.cells #[.int .i64 rsig, .slice ta tl tc, .slice pa pl pc, .int .i64 rapp, .slice ca cl cc, .int .u16 (rhold : Int)] 30)).alloc (.cells #[.int .i64 rsig, .slice ta' tl tc', .slice pa' pl pc', .int .i64 rapp, .slice ca' cl cc', .int .u16 (rhold : Int)] 30)).drew := ⟨_, rfl⟩
      have B3 : Hid (Below wr.heap.size wr w3) := hw3 ▸ (((Below.refl _ wr).alloc (Nat.le_refl _) _).alloc (by show wr.heap.size ≤ (wr.heap.push _).size; rw [Array.size_push]; omega) _).drew
      rw [← hw3] at KV KU ⊢
      clear hw3
      have BW3 := Lib.hid (BW.out.trans (B3.out.mono BW.out.size))
      have b3 := Lib.hid (Below.refl w3.heap.size w3)
      clear x0 x1 x2 x3 x4 x5 y0 y1 y2 y3 y4 y5 z1 z2 c0 c1 c2 c3 d0 d1 d2 d3 l1 l2 t2
      have e0 := cell_row (j := 0) (tb_kept KV.out (b3.out)) rfl
      have e1 := cell_row (j := 1) (tb_kept KV.out (b3.out)) rfl
      have e2 := cell_row (j := 2) (tb_kept KV.out (b3.out)) rfl
      have e3 := cell_row (j := 3) (tb_kept KV.out (b3.out)) rfl
      have e4 := cell_row (j := 4) (tb_kept KV.out (b3.out)) rfl
      have e5 := cell_row (j := 5) (tb_kept KV.out (b3.out)) rfl
      have f0 := cell_row (j := 0) (tb_kept KU.out (b3.out)) rfl
      have f1 := cell_row (j := 1) (tb_kept KU.out (b3.out)) rfl
      have f2 := cell_row (j := 2) (tb_kept KU.out (b3.out)) rfl
      have f3 := cell_row (j := 3) (tb_kept KU.out (b3.out)) rfl
      have f4 := cell_row (j := 4) (tb_kept KU.out (b3.out)) rfl
      have f5 := cell_row (j := 5) (tb_kept KU.out (b3.out)) rfl
      have m1 := heap_lt (tb_kept KV.out (b3.out)); have m2 := heap_lt (tb_kept KU.out (b3.out))
      have H1 := Lib.hid (HS1.out w3 BW3.out)
      go_wp2_with fail
      (with_reducible refine H1.out.mono ?_)
      rintro e w4 ⟨rfl, hb4⟩
      have b4 : Hid (Below w3.heap.size w3 w4) := hb4
      have BW4 := Lib.hid (BW3.out.trans (b4.out.mono BW3.out.size))
      clear hb4 H1 e0 e1 e2 e3 e4 e5 f0 f1 f2 f3 f4 f5 m1 m2 b3
      have e0 := cell_row (j := 0) (tb_kept KV.out (b4.out)) rfl
      have e1 := cell_row (j := 1) (tb_kept KV.out (b4.out)) rfl
      have e2 := cell_row (j := 2) (tb_kept KV.out (b4.out)) rfl
      have e3 := cell_row (j := 3) (tb_kept KV.out (b4.out)) rfl
      have e4 := cell_row (j := 4) (tb_kept KV.out (b4.out)) rfl
      have e5 := cell_row (j := 5) (tb_kept KV.out (b4.out)) rfl
      have f0 := cell_row (j := 0) (tb_kept KU.out (b4.out)) rfl
      have f1 := cell_row (j := 1) (tb_kept KU.out (b4.out)) rfl
      have f2 := cell_row (j := 2) (tb_kept KU.out (b4.out)) rfl
      have f3 := cell_row (j := 3) (tb_kept KU.out (b4.out)) rfl
      have f4 := cell_row (j := 4) (tb_kept KU.out (b4.out)) rfl
      have f5 := cell_row (j := 5) (tb_kept KU.out (b4.out)) rfl
      have m1 := heap_lt (tb_kept KV.out (b4.out)); have m2 := heap_lt (tb_kept KU.out (b4.out))
      have H4 := Lib.hid (HS4.out w4 BW4.out)
      go_wp2_with fail
      (with_reducible refine H4.out.mono ?_)
      rintro e w5 ⟨rfl, hb5⟩
      have b5 : Hid (Below w3.heap.size w3 w5) := b4.out.trans (hb5.mono b4.out.size)
      clear hb5 H4 e0 e1 e2 e3 e4 e5 f0 f1 f2 f3 f4 f5 m1 m2 b4 BW4
      have e0 := cell_row (j := 0) (tb_kept KV.out (b5.out)) rfl
      have e1 := cell_row (j := 1) (tb_kept KV.out (b5.out)) rfl
      have e2 := cell_row (j := 2) (tb_kept KV.out (b5.out)) rfl
      have e3 := cell_row (j := 3) (tb_kept KV.out (b5.out)) rfl
      have e4 := cell_row (j := 4) (tb_kept KV.out (b5.out)) rfl
      have e5 := cell_row (j := 5) (tb_kept KV.out (b5.out)) rfl
      have f0 := cell_row (j := 0) (tb_kept KU.out (b5.out)) rfl
      have f1 := cell_row (j := 1) (tb_kept KU.out (b5.out)) rfl
      have f2 := cell_row (j := 2) (tb_kept KU.out (b5.out)) rfl
      have f3 := cell_row (j := 3) (tb_kept KU.out (b5.out)) rfl
      have f4 := cell_row (j := 4) (tb_kept KU.out (b5.out)) rfl
      have f5 := cell_row (j := 5) (tb_kept KU.out (b5.out)) rfl
      have m1 := heap_lt (tb_kept KV.out (b5.out)); have m2 := heap_lt (tb_kept KU.out (b5.out))
      go_wp2_with fail
      clear e0 e1 e2 e3 e4 e5 f0 f1 f2 f3 f4 f5 m1 m2
      go_loopw [5, 9] (fun b i wr => b = .bool true ∧ ∃ k : Nat, k ≤ pl ∧ i = .int .i64 (k : Int) ∧ Hid (Below w3.heap.size w3 wr)) (fun b i _ => pl - (intOf i).toNat)
      case atStart => exact ⟨by first | rfl | simp, 0, Nat.zero_le _, rfl, b5.out⟩
      case round =>
        obtain ⟨rfl, j, hj, rfl, BJ⟩ := hrel
        have e0 := cell_row (j := 0) (tb_kept KV.out (BJ.out)) rfl
        have e1 := cell_row (j := 1) (tb_kept KV.out (BJ.out)) rfl
        have e2 := cell_row (j := 2) (tb_kept KV.out (BJ.out)) rfl
        have e3 := cell_row (j := 3) (tb_kept KV.out (BJ.out)) rfl
        have e4 := cell_row (j := 4) (tb_kept KV.out (BJ.out)) rfl
        have e5 := cell_row (j := 5) (tb_kept KV.out (BJ.out)) rfl
        have f0 := cell_row (j := 0) (tb_kept KU.out (BJ.out)) rfl
        have f1 := cell_row (j := 1) (tb_kept KU.out (BJ.out)) rfl
        have f2 := cell_row (j := 2) (tb_kept KU.out (BJ.out)) rfl
        have f3 := cell_row (j := 3) (tb_kept KU.out (BJ.out)) rfl
        have f4 := cell_row (j := 4) (tb_kept KU.out (BJ.out)) rfl
        have f5 := cell_row (j := 5) (tb_kept KU.out (BJ.out)) rfl
        have m1 := heap_lt (tb_kept KV.out (BJ.out)); have m2 := heap_lt (tb_kept KU.out (BJ.out))
        have BWJ := Lib.hid (BW3.out.trans (BJ.out.mono BW3.out.size))
        rcases Nat.lt_or_ge j pl with hj2 | hj2
        case inr =>
          obtain rfl : j = pl := by omega
          have t3 : decide ((j : Int) < (j : Int)) = false := by simp
          clear HP HP' HPL
          go_wp2_with fail
          have B9 : Hid (Below w1.heap.size w1 wr) := BB.out.trans ((B3.out.trans (BJ.out.mono B3.out.size)).mono BB.out.size)
          refine ⟨⟨by first | rfl | simp, k + 1, by omega, by go_num, B9.out⟩, ?_⟩
          simp [intOf]; omega
        have t3 : decide ((j : Int) < (pl : Int)) = true := decide_eq_true (by omega)
        obtain ⟨h, ho, rfl, hhb, q0, q1⟩ := HP.out.cell (by rw [← HPL.out]; exact hj2)
        obtain ⟨h', ho', rfl, hhb', q0', q1'⟩ := HP'.out.cell (by rw [← HPL.out]; exact hj2)
        have v0 := (BWJ.out.cell hhb).trans q0
        have v1 := (BWJ.out.cell hhb).trans q1
        have v0' := (BWJ.out.cell hhb').trans q0'
        have v1' := (BWJ.out.cell hhb').trans q1'
        have he := eq_pt (rpts.getD j (0, false)).1 (rpts.getD j (0, false)).2
        clear HP HP' HPL q0 q1 q0' q1'
        generalize (rpts.getD j (0, false)).1 = pn at *
        generalize (rpts.getD j (0, false)).2 = pb at *
        go_wp2_with fail
        go_quiet (fail)
        have B6 : Hid (Below w3.heap.size w3 (wr.drewN nq)) := ⟨BJ.out.os, BJ.out.tape, BJ.out.output, BJ.out.size, BJ.out.block⟩
        generalize wr.drewN nq = w6 at *
        go_wp2_with fail
        refine ⟨⟨by first | rfl | simp, j + 1, by omega, by go_num, B6⟩, ?_⟩
        simp [intOf]; omega
    · have KV : Hid (((wr.alloc (.cells #[.int .i64 rsig, .slice ta' tl tc', .slice pa' pl pc', .int .i64 rapp, .slice ca' cl cc', .int .u16 (rhold : Int)] 30)).alloc (.cells #[.int .i64 rsig, .slice ta tl tc, .slice pa pl pc, .int .i64 rapp, .slice ca cl cc, .int .u16 (rhold : Int)] 30)).drew.heap[wr.heap.size + 1]? = some (.cells #[.int .i64 rsig, .slice ta tl tc, .slice pa pl pc, .int .i64 rapp, .slice ca cl cc, .int .u16 (rhold : Int)] 30 (0, 0))) := by
        have h := heap_alloc_new (wr.alloc (.cells #[.int .i64 rsig, .slice ta' tl tc', .slice pa' pl pc', .int .i64 rapp, .slice ca' cl cc', .int .u16 (rhold : Int)] 30)) (.cells #[.int .i64 rsig, .slice ta tl tc, .slice pa pl pc, .int .i64 rapp, .slice ca cl cc, .int .u16 (rhold : Int)] 30)
        rw [show (wr.alloc (.cells #[.int .i64 rsig, .slice ta' tl tc', .slice pa' pl pc', .int .i64 rapp, .slice ca' cl cc', .int .u16 (rhold : Int)] 30)).heap.size = wr.heap.size + 1 from Array.size_push _] at h
        exact h
      have KU : Hid (((wr.alloc (.cells #[.int .i64 rsig, .slice ta' tl tc', .slice pa' pl pc', .int .i64 rapp, .slice ca' cl cc', .int .u16 (rhold : Int)] 30)).alloc (.cells #[.int .i64 rsig, .slice ta tl tc, .slice pa pl pc, .int .i64 rapp, .slice ca cl cc, .int .u16 (rhold : Int)] 30)).drew.heap[wr.heap.size]? = some (.cells #[.int .i64 rsig, .slice ta' tl tc', .slice pa' pl pc', .int .i64 rapp, .slice ca' cl cc', .int .u16 (rhold : Int)] 30 (0, 0))) := tb_kept (heap_alloc_new _ _) (tb_alloc_below _ _).drew
      obtain ⟨w3, hw3⟩ : ∃ x, x = ((wr.alloc (.cells #[.int .i64 rsig, .slice ta' tl tc', .slice pa' pl pc', .int .i64 rapp, .slice ca' cl cc', .int .u16 (rhold : Int)] 30)).alloc (.cells #[.int .i64 rsig, .slice ta tl tc, .slice pa pl pc, .int .i64 rapp, .slice ca cl cc, .int .u16 (rhold : Int)] 30)).drew := ⟨_, rfl⟩
      have B3 : Hid (Below wr.heap.size wr w3) := hw3 ▸ (((Below.refl _ wr).alloc (Nat.le_refl _) _).alloc (by show wr.heap.size ≤ (wr.heap.push _).size; rw [Array.size_push]; omega) _).drew
      rw [← hw3] at KV KU ⊢
      clear hw3
      have BW3 := Lib.hid (BW.out.trans (B3.out.mono BW.out.size))
      have b3 := Lib.hid (Below.refl w3.heap.size w3)
      clear x0 x1 x2 x3 x4 x5 y0 y1 y2 y3 y4 y5 z1 z2 c0 c1 c2 c3 d0 d1 d2 d3 l1 l2 t2
      have e0 := cell_row (j := 0) (tb_kept KV.out (b3.out)) rfl
      have e1 := cell_row (j := 1) (tb_kept KV.out (b3.out)) rfl
      have e2 := cell_row (j := 2) (tb_kept KV.out (b3.out)) rfl
      have e3 := cell_row (j := 3) (tb_kept KV.out (b3.out)) rfl
      have e4 := cell_row (j := 4) (tb_kept KV.out (b3.out)) rfl
      have e5 := cell_row (j := 5) (tb_kept KV.out (b3.out)) rfl
      have f0 := cell_row (j := 0) (tb_kept KU.out (b3.out)) rfl
      have f1 := cell_row (j := 1) (tb_kept KU.out (b3.out)) rfl
      have f2 := cell_row (j := 2) (tb_kept KU.out (b3.out)) rfl
      have f3 := cell_row (j := 3) (tb_kept KU.out (b3.out)) rfl
      have f4 := cell_row (j := 4) (tb_kept KU.out (b3.out)) rfl
      have f5 := cell_row (j := 5) (tb_kept KU.out (b3.out)) rfl
      have m1 := heap_lt (tb_kept KV.out (b3.out)); have m2 := heap_lt (tb_kept KU.out (b3.out))
      have H1 := Lib.hid (HS1.out w3 BW3.out)
      go_wp2_with fail
      (with_reducible refine H1.out.mono ?_)
      rintro e w4 ⟨rfl, hb4⟩
      have b4 : Hid (Below w3.heap.size w3 w4) := hb4
      have BW4 := Lib.hid (BW3.out.trans (b4.out.mono BW3.out.size))
      clear hb4 H1 e0 e1 e2 e3 e4 e5 f0 f1 f2 f3 f4 f5 m1 m2 b3
      have e0 := cell_row (j := 0) (tb_kept KV.out (b4.out)) rfl
      have e1 := cell_row (j := 1) (tb_kept KV.out (b4.out)) rfl
      have e2 := cell_row (j := 2) (tb_kept KV.out (b4.out)) rfl
      have e3 := cell_row (j := 3) (tb_kept KV.out (b4.out)) rfl
      have e4 := cell_row (j := 4) (tb_kept KV.out (b4.out)) rfl
      have e5 := cell_row (j := 5) (tb_kept KV.out (b4.out)) rfl
      have f0 := cell_row (j := 0) (tb_kept KU.out (b4.out)) rfl
      have f1 := cell_row (j := 1) (tb_kept KU.out (b4.out)) rfl
      have f2 := cell_row (j := 2) (tb_kept KU.out (b4.out)) rfl
      have f3 := cell_row (j := 3) (tb_kept KU.out (b4.out)) rfl
      have f4 := cell_row (j := 4) (tb_kept KU.out (b4.out)) rfl
      have f5 := cell_row (j := 5) (tb_kept KU.out (b4.out)) rfl
      have m1 := heap_lt (tb_kept KV.out (b4.out)); have m2 := heap_lt (tb_kept KU.out (b4.out))
      have H4 := Lib.hid (HS4.out w4 BW4.out)
      go_wp2_with fail
      (with_reducible refine H4.out.mono ?_)
      rintro e w5 ⟨rfl, hb5⟩
      have b5 : Hid (Below w3.heap.size w3 w5) := b4.out.trans (hb5.mono b4.out.size)
      clear hb5 H4 e0 e1 e2 e3 e4 e5 f0 f1 f2 f3 f4 f5 m1 m2 b4 BW4
      have e0 := cell_row (j := 0) (tb_kept KV.out (b5.out)) rfl
      have e1 := cell_row (j := 1) (tb_kept KV.out (b5.out)) rfl
      have e2 := cell_row (j := 2) (tb_kept KV.out (b5.out)) rfl
      have e3 := cell_row (j := 3) (tb_kept KV.out (b5.out)) rfl
      have e4 := cell_row (j := 4) (tb_kept KV.out (b5.out)) rfl
      have e5 := cell_row (j := 5) (tb_kept KV.out (b5.out)) rfl
      have f0 := cell_row (j := 0) (tb_kept KU.out (b5.out)) rfl
      have f1 := cell_row (j := 1) (tb_kept KU.out (b5.out)) rfl
      have f2 := cell_row (j := 2) (tb_kept KU.out (b5.out)) rfl
      have f3 := cell_row (j := 3) (tb_kept KU.out (b5.out)) rfl
      have f4 := cell_row (j := 4) (tb_kept KU.out (b5.out)) rfl
      have f5 := cell_row (j := 5) (tb_kept KU.out (b5.out)) rfl
      have m1 := heap_lt (tb_kept KV.out (b5.out)); have m2 := heap_lt (tb_kept KU.out (b5.out))
      go_wp2_with fail
      clear e0 e1 e2 e3 e4 e5 f0 f1 f2 f3 f4 f5 m1 m2
      go_loopw [5, 9] (fun b i wr => b = .bool true ∧ ∃ k : Nat, k ≤ pl ∧ i = .int .i64 (k : Int) ∧ Hid (Below w3.heap.size w3 wr)) (fun b i _ => pl - (intOf i).toNat)
      case atStart => exact ⟨by first | rfl | simp, 0, Nat.zero_le _, rfl, b5.out⟩
      case round =>
        obtain ⟨rfl, j, hj, rfl, BJ⟩ := hrel
        have e0 := cell_row (j := 0) (tb_kept KV.out (BJ.out)) rfl
        have e1 := cell_row (j := 1) (tb_kept KV.out (BJ.out)) rfl
        have e2 := cell_row (j := 2) (tb_kept KV.out (BJ.out)) rfl
        have e3 := cell_row (j := 3) (tb_kept KV.out (BJ.out)) rfl
        have e4 := cell_row (j := 4) (tb_kept KV.out (BJ.out)) rfl
        have e5 := cell_row (j := 5) (tb_kept KV.out (BJ.out)) rfl
        have f0 := cell_row (j := 0) (tb_kept KU.out (BJ.out)) rfl
        have f1 := cell_row (j := 1) (tb_kept KU.out (BJ.out)) rfl
        have f2 := cell_row (j := 2) (tb_kept KU.out (BJ.out)) rfl
        have f3 := cell_row (j := 3) (tb_kept KU.out (BJ.out)) rfl
        have f4 := cell_row (j := 4) (tb_kept KU.out (BJ.out)) rfl
        have f5 := cell_row (j := 5) (tb_kept KU.out (BJ.out)) rfl
        have m1 := heap_lt (tb_kept KV.out (BJ.out)); have m2 := heap_lt (tb_kept KU.out (BJ.out))
        have BWJ := Lib.hid (BW3.out.trans (BJ.out.mono BW3.out.size))
        rcases Nat.lt_or_ge j pl with hj2 | hj2
        case inr =>
          obtain rfl : j = pl := by omega
          have t3 : decide ((j : Int) < (j : Int)) = false := by simp
          clear HP HP' HPL
          go_wp2_with fail
          have B9 : Hid (Below w1.heap.size w1 wr) := BB.out.trans ((B3.out.trans (BJ.out.mono B3.out.size)).mono BB.out.size)
          refine ⟨⟨by first | rfl | simp, k + 1, by omega, by go_num, B9.out⟩, ?_⟩
          simp [intOf]; omega
        have t3 : decide ((j : Int) < (pl : Int)) = true := decide_eq_true (by omega)
        obtain ⟨h, ho, rfl, hhb, q0, q1⟩ := HP.out.cell (by rw [← HPL.out]; exact hj2)
        obtain ⟨h', ho', rfl, hhb', q0', q1'⟩ := HP'.out.cell (by rw [← HPL.out]; exact hj2)
        have v0 := (BWJ.out.cell hhb).trans q0
        have v1 := (BWJ.out.cell hhb).trans q1
        have v0' := (BWJ.out.cell hhb').trans q0'
        have v1' := (BWJ.out.cell hhb').trans q1'
        have he := eq_pt (rpts.getD j (0, false)).1 (rpts.getD j (0, false)).2
        clear HP HP' HPL q0 q1 q0' q1'
        generalize (rpts.getD j (0, false)).1 = pn at *
        generalize (rpts.getD j (0, false)).2 = pb at *
        go_wp2_with fail
        go_quiet (fail)
        have B6 : Hid (Below w3.heap.size w3 (wr.drewN nq)) := ⟨BJ.out.os, BJ.out.tape, BJ.out.output, BJ.out.size, BJ.out.block⟩
        generalize wr.drewN nq = w6 at *
        go_wp2_with fail
        refine ⟨⟨by first | rfl | simp, j + 1, by omega, by go_num, B6⟩, ?_⟩
        simp [intOf]; omega
end Go.Proofs.YtpodedhnlicckaaGreatDoor
