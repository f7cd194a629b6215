/- TablePrints. -/
import Derived.Test.YtpodedhnlicckaaGreatDoorTbLd
import Derived.Test.YtpodedhnlicckaaGreatDoorTbRv
namespace Go.Proofs.YtpodedhnlicckaaGreatDoor
open Go.RowKit
set_option linter.unusedVariables false
set_option linter.unusedSimpArgs false
theorem great_small {T : Tab} (h : greatB T = false) : grS T T.rts.length ≤ 8000 := by
  unfold greatB at h
  rw [Bool.or_eq_false_iff] at h
  have := of_decide_eq_false h.1
  omega
set_option maxRecDepth 100000 in
set_option maxHeartbeats 4000000 in
theorem prints_any (v : Value) (T : Tab) (w : World) (hT : TabAt w v T) (hsm : TSm T) (hL : LibW w) :
    Calls Tryz.prog 5 #[v] w fun e w' => e = .returned (.bool true) ∧ Below w.heap.size w w' := by
  have HT := Lib.hid hT; have HL := Lib.hid hL; have HSM := Lib.hid hsm
  obtain ⟨⟨vp, vr, rfl, hP, hr⟩, _, _⟩ := hT
  obtain ⟨a, c, C0, rfl, _, _, _⟩ := hr.at_
  obtain ⟨⟨va, vc, rfl, _, _, _⟩, _⟩ := id hP
  clear hP hr hL hsm
  generalize hn : T.rts.length = n at *
  generalize hm : T.pts.length = m at *
  generalize T.tracks = trk at *
  generalize T.sigs = sg at *
  obtain ⟨w1, hw1⟩ : ∃ x, x = w.alloc (.cells #[.int .i64 trk, .slice va m vc, .int .i64 sg, .slice a n c] 25) := ⟨_, rfl⟩
  have B1 : Hid (Below w.heap.size w w1) := by rw [hw1]; exact tb_alloc_below _ _
  have K1 : Hid (w1.heap[w.heap.size]? = some (.cells #[.int .i64 trk, .slice va m vc, .int .i64 sg, .slice a n c] 25 (0, 0))) := by rw [hw1]; exact heap_alloc_new _ _
  have HW1 := Lib.hid hw1
  have HNN := Lib.hid hn
  clear hw1 hn hm
  go_enter Tryz.func5, Tryz.ntmps5
  go_upto_region 1 with fail
  rw [← HW1.out]
  clear HW1
  have HG := Lib.hid (great_any _ T w1 (HT.out.below B1.out) HSM.out)
  have c0 := cell_row (j := 0) K1.out rfl
  have c1 := cell_row (j := 1) K1.out rfl
  have c2 := cell_row (j := 2) K1.out rfl
  have c3 := cell_row (j := 3) K1.out rfl
  have lc := heap_lt K1.out
  go_wp2_with fail
  (with_reducible refine HG.out.mono ?_)
  rintro e w2 ⟨rfl, hb2⟩
  have B2 := Lib.hid (B1.out.trans (hb2.mono B1.out.size))
  have K2 := Lib.hid (tb_kept K1.out hb2)
  have HWK := Lib.hid (fun (W : World) (hW : Below w.heap.size w W) => works_any W (HL.out.below hW).tab (HL.out.below hW).max)
  clear hb2 K1 HG
  clear c0 c1 c2 c3 lc
  cases hgr : greatB T with
  | true =>
    have H := Lib.hid (HWK.out w2 B2.out)
    go_wp2_with fail
    (with_reducible refine H.out.mono ?_)
    rintro e w3 ⟨rfl, hb3⟩
    have B3 := Lib.hid (B2.out.trans (hb3.mono B2.out.size))
    go_wp2_with fail
    go_ret
    exact ⟨rfl, B3.out⟩
  | false =>
    have hs : grS T n ≤ 8000 := by rw [← HNN.out]; exact great_small hgr
    rw [← HNN.out] at hs
    have HP := Lib.hid (print_any _ T w2 (HT.out.below B2.out) (HL.out.below B2.out).tab hs)
    have HS := Lib.hid hs
    clear hs hgr
    have c0 := cell_row (j := 0) K2.out rfl
    have c1 := cell_row (j := 1) K2.out rfl
    have c2 := cell_row (j := 2) K2.out rfl
    have c3 := cell_row (j := 3) K2.out rfl
    have lc := heap_lt K2.out
    go_wp2_with fail
    (with_reducible refine HP.out.mono ?_)
    rintro e w3 ⟨rfl, hb3⟩
    have B3 := Lib.hid (B2.out.trans (hb3.mono B2.out.size))
    have K3 := Lib.hid (tb_kept K2.out hb3)
    have HR := Lib.hid (rprint_any _ T w3 (HT.out.below B3.out) HS.out)
    clear hb3 K2 HP
    clear c0 c1 c2 c3 lc
    have c0 := cell_row (j := 0) K3.out rfl
    have c1 := cell_row (j := 1) K3.out rfl
    have c2 := cell_row (j := 2) K3.out rfl
    have c3 := cell_row (j := 3) K3.out rfl
    have lc := heap_lt K3.out
    go_wp2_with fail
    (with_reducible refine HR.out.mono ?_)
    rintro e w4 ⟨rfl, hb4⟩
    have B4 := Lib.hid (B3.out.trans (hb4.mono B3.out.size))
    have H := Lib.hid (HWK.out w4 B4.out)
    clear hb4 K3 HR
    clear c0 c1 c2 c3 lc
    generalize (printT T).1 = l1 at *
    generalize (printT T).2 = l2 at *
    go_wp2_with fail
    (with_reducible refine H.out.mono ?_)
    rintro e w5 ⟨rfl, hb5⟩
    have B5 := Lib.hid (B4.out.trans (hb5.mono B4.out.size))
    go_wp2_with fail
    go_ret
    exact ⟨rfl, B5.out⟩
set_option maxRecDepth 100000 in
theorem prints_walk (v0 : Value) (w : World) (h0 : ReadsW w 25 v0.cells.toList ∧ Value.okWide Tryz.prog w .any 0 25 v0) (hL : LibW w) :
    Calls Tryz.prog 5 #[v0] w fun e w' => e = .returned (.bool true) ∧ Below w.heap.size w w' := by
  obtain ⟨T, hT⟩ := reads_tab ⟨h0.1.c, h0.2⟩
  exact prints_any v0 T w hT (tab_sm h0.1 hT) hL
end Go.Proofs.YtpodedhnlicckaaGreatDoor
