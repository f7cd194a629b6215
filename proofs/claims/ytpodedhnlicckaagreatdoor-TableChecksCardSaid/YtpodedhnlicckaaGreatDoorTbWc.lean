/- TableChecks. -/
import Derived.Test.YtpodedhnlicckaaGreatDoorTbLd
import Derived.Test.YtpodedhnlicckaaGreatDoorTbEq
import Derived.Test.YtpodedhnlicckaaGreatDoorRfDE
import Derived.Deep.RegionHeld3
namespace Go.Proofs.YtpodedhnlicckaaGreatDoor
open Go.RowKit
set_option linter.unusedVariables false
set_option linter.unusedSimpArgs false
def rowsL (T : Tab) (i : Nat) : List Int := confL T i T.rts.length
theorem conf_ls (v : Value) (T : Tab) (w : World) (hT : TabAt w v T) (hn : T.rts.length ≤ 60) :
    Calls Tryz.prog 11 #[v] w fun e w' => ∃ x, e = .returned x ∧ LsAt w' x T.rts.length (rowsL T) ∧ Below w.heap.size w w' := by
  refine (conflicts_any v T w hT (by omega)).mono ?_
  rintro e w' ⟨⟨ob, V, rfl, _, h⟩, hb⟩
  exact ⟨_, rfl, ⟨⟨_, _, V, rfl, Nat.le_refl _, by unfold maxLen; omega, .inr ⟨ob, 0, rfl, h.row.lt, fun i hi => by rw [Nat.zero_add]; exact h.row.cell hi⟩, h.ints⟩⟩, hb⟩
set_option maxRecDepth 100000 in
theorem rconf0 (v : Value) (T : Tab) (w : World) (hT : TabAt w v T) (h0 : T.rts.length = 0) :
    Calls Tryz.prog 16 #[v] w fun e w' => e = .returned (.slice none 0 0) ∧ Below w.heap.size w w' := by
  obtain ⟨⟨vp, vr, rfl, hP, hr⟩, _, _⟩ := hT
  obtain ⟨a, c, C0, rfl, _, _, _⟩ := hr.at_
  obtain ⟨⟨va, vc, rfl, _, _, _⟩, _⟩ := id hP
  rw [h0]
  clear hP hr h0
  generalize T.pts.length = m at *
  generalize T.tracks = trk at *
  generalize T.sigs = sg at *
  have B1 : Hid (Below w.heap.size w (w.alloc (.cells #[.int .i64 trk, .slice va m vc, .int .i64 sg, .slice a 0 c] 25))) := tb_alloc_below _ _
  have K1 : Hid ((w.alloc (.cells #[.int .i64 trk, .slice va m vc, .int .i64 sg, .slice a 0 c] 25)).heap[w.heap.size]? = some (.cells #[.int .i64 trk, .slice va m vc, .int .i64 sg, .slice a 0 c] 25 (0, 0))) := heap_alloc_new _ _
  have c3 := cell_row (j := 3) K1.out rfl
  have lc := heap_lt K1.out
  go_enter Tryz.func16, Tryz.ntmps16
  go_wp2_with fail
  go_loopw [3, 4] (fun z i wr => z = .slice none 0 0 ∧ i = .int .i64 0 ∧ wr = w.alloc (.cells #[.int .i64 trk, .slice va m vc, .int .i64 sg, .slice a 0 c] 25)) (fun z i _ => 0)
  case atStart => exact ⟨rfl, rfl, rfl⟩
  case round =>
    obtain ⟨rfl, rfl, rfl⟩ := hrel
    go_wp2_with fail
    go_ret
    exact ⟨rfl, B1.out⟩
theorem rconf_ls (v : Value) (T : Tab) (w : World) (hT : TabAt w v T) (hn : T.rts.length ≤ 60) :
    Calls Tryz.prog 16 #[v] w fun e w' => ∃ x, e = .returned x ∧ LsAt w' x T.rts.length (rowsL T) ∧ Below w.heap.size w w' := by
  by_cases h0 : T.rts.length = 0
  · refine (rconf0 v T w hT h0).mono ?_
    rintro e w' ⟨rfl, hb⟩
    exact ⟨_, rfl, ⟨⟨none, 0, fun _ => undef, by rw [h0], by omega, by unfold maxLen; omega, .inl h0, fun j hj => absurd hj (by omega)⟩⟩, hb⟩
  · refine (rconf_any v T w hT (by omega) (by omega)).mono ?_
    rintro e w' ⟨⟨x, b, V, rfl, hs, hi⟩, hb⟩
    obtain ⟨a, c, rfl, h1, h2, h3⟩ := hs.slice
    exact ⟨_, rfl, ⟨⟨a, c, V, rfl, h1, h2, h3, hi⟩⟩, hb⟩
theorem big_small {T : Tab} (h : greatB T = false) : ∀ r ∈ T.rts, r.pts.length ≤ 1000000 := by
  intro r hr
  obtain ⟨i, hi, rfl⟩ := List.mem_iff_getElem.1 hr
  have := (small_of h).pt i hi
  rw [List.getD_eq_getElem?_getD, List.getElem?_eq_getElem hi] at this
  exact Nat.le_trans this (by omega)
set_option maxRecDepth 100000 in
set_option maxHeartbeats 8000000 in
theorem checks_any (v : Value) (T : Tab) (w : World) (hT : TabAt w v T) (hsm : TSm T) (hL : LibW w) :
    Calls Tryz.prog 4 #[v] w fun e w' => e = .returned (.bool true) ∧ Below w.heap.size w w' := by
  have HT := Lib.hid hT; have HL := Lib.hid hL; have HSM := Lib.hid hsm
  obtain ⟨⟨vp, vr, rfl, hP, hr⟩, _, _⟩ := hT
  obtain ⟨a, c, C0, rfl, _, _, _⟩ := hr.at_
  obtain ⟨⟨va, vc, rfl, _, _, _⟩, _⟩ := id hP
  clear hP hr hL hsm
  obtain ⟨n, hn⟩ : ∃ x, x = T.rts.length := ⟨_, rfl⟩
  obtain ⟨m, hm⟩ : ∃ x, x = T.pts.length := ⟨_, rfl⟩
  obtain ⟨trk, htrk⟩ : ∃ x, x = T.tracks := ⟨_, rfl⟩
  obtain ⟨sg, hsg⟩ : ∃ x, x = T.sigs := ⟨_, rfl⟩
  rw [← hn, ← hm, ← htrk, ← hsg] at HT
  rw [← hn, ← hm, ← htrk, ← hsg]
  clear hn hm htrk hsg
  obtain ⟨w1, hw1⟩ : ∃ x, x = w.alloc (.cells #[.int .i64 trk, .slice va m vc, .int .i64 sg, .slice a n c] 25) := ⟨_, rfl⟩
  have B1 : Hid (Below w.heap.size w w1) := by rw [hw1]; exact tb_alloc_below _ _
  have K1 : Hid (w1.heap[w.heap.size]? = some (.cells #[.int .i64 trk, .slice va m vc, .int .i64 sg, .slice a n c] 25 (0, 0))) := by rw [hw1]; exact heap_alloc_new _ _
  have HW1 := Lib.hid hw1
  clear hw1
  have HWK := Lib.hid (fun (W : World) (hW : Below w.heap.size w W) => works_any W (HL.out.below hW).tab (HL.out.below hW).max)
  go_enter Tryz.func4, Tryz.ntmps4
  go_upto_region 1 with fail
  rw [← HW1.out]
  clear HW1
  have HG := Lib.hid (great_any _ T w1 (HT.out.below B1.out) HSM.out)
  obtain ⟨tb, htb⟩ : ∃ x, x = w.heap.size := ⟨_, rfl⟩
  rw [← htb] at K1 ⊢
  clear htb
  have c0 := cell_row (j := 0) K1.out rfl
  have c1 := cell_row (j := 1) K1.out rfl
  have c2 := cell_row (j := 2) K1.out rfl
  have c3 := cell_row (j := 3) K1.out rfl
  have lc := heap_lt K1.out
  go_wp2_with fail
  (with_reducible refine HG.out.mono ?_)
  rintro e w2 ⟨rfl, hb2⟩
  have B2 := Lib.hid (B1.out.trans (hb2.mono B1.out.size))
  have K2 := Lib.hid (tb_kept K1.out hb2)
  clear hb2 K1 HG
  clear c0 c1 c2 c3 lc
  cases hgr : greatB T with
  | true =>
    have H := Lib.hid (HWK.out w2 B2.out)
    go_wp2_with fail
    (with_reducible refine H.out.mono ?_)
    rintro e w9 ⟨rfl, hb9⟩
    have B9 := Lib.hid (B2.out.trans (hb9.mono B2.out.size))
    go_wp2_with fail
    go_ret
    exact ⟨rfl, B9.out⟩
  | false =>
    have HBG := Lib.hid (big_small hgr)
    have HN := Lib.hid (small_of hgr).n
    have HC := Lib.hid (fun (W : World) (hW : Below w.heap.size w W) => conf_ls _ T W (HT.out.below hW) HN.out)
    have HR := Lib.hid (fun (W : World) (hW : Below w.heap.size w W) => rconf_ls _ T W (HT.out.below hW) HN.out)
    clear hgr
    go_upto_region 3 with fail
    have c0 := cell_row (j := 0) K2.out rfl
    have c1 := cell_row (j := 1) K2.out rfl
    have c2 := cell_row (j := 2) K2.out rfl
    have c3 := cell_row (j := 3) K2.out rfl
    have lc := heap_lt K2.out
    go_region_held3 (fun W => (W.cell? ⟨tb, 0, none⟩ = some (.int .i64 trk) ∧ W.cell? ⟨tb, 1, none⟩ = some (.slice va m vc) ∧ W.cell? ⟨tb, 2, none⟩ = some (.int .i64 sg) ∧ W.cell? ⟨tb, 3, none⟩ = some (.slice a n c)) ∧ tb < W.heap.size) (first
      | exact ⟨⟨cell_row (j := 0) K4.out rfl, cell_row (j := 1) K4.out rfl, cell_row (j := 2) K4.out rfl, cell_row (j := 3) K4.out rfl⟩, heap_lt K4.out⟩
      | exact ⟨⟨cell_row (j := 0) K3.out rfl, cell_row (j := 1) K3.out rfl, cell_row (j := 2) K3.out rfl, cell_row (j := 3) K3.out rfl⟩, heap_lt K3.out⟩
      | exact ⟨⟨cell_row (j := 0) K2.out rfl, cell_row (j := 1) K2.out rfl, cell_row (j := 2) K2.out rfl, cell_row (j := 3) K2.out rfl⟩, heap_lt K2.out⟩) (first
      | (go_at_call 11; (with_reducible refine (HC.out w3 B3.out).mono ?_); rintro e w4 ⟨x, rfl, hx, hb⟩; have B4 : Hid (Below w.heap.size w w4) := B3.out.trans (hb.mono B3.out.size); have K4 := Lib.hid (tb_kept K3.out hb); have HX4 := Lib.hid hx; have HY4 := Lib.hid (HY3.out.below hb); clear hb hx)
      | (go_at_call 16; (with_reducible refine (HR.out w3 B3.out).mono ?_); rintro e w4 ⟨y, rfl, hy, hb⟩; have B4 : Hid (Below w.heap.size w w4) := B3.out.trans (hb.mono B3.out.size); have K4 := Lib.hid (tb_kept K3.out hb); have HY4 := Lib.hid hy; have HX4 := Lib.hid (HX3.out.below hb); clear hb hy)
      | (go_at_call 11; (with_reducible refine (HC.out w2.drew B2.out.drew).mono ?_); rintro e w3 ⟨x, rfl, hx, hb⟩; have B3 : Hid (Below w.heap.size w w3) := B2.out.drew.trans (hb.mono B2.out.size); have K3 : Hid (w3.heap[tb]? = some (.cells #[.int .i64 trk, .slice va m vc, .int .i64 sg, .slice a n c] 25 (0, 0))) := tb_kept (w := w2.drew) K2.out hb; have HX3 := Lib.hid hx; clear hb hx)
      | (go_at_call 16; (with_reducible refine (HR.out w2.drew B2.out.drew).mono ?_); rintro e w3 ⟨y, rfl, hy, hb⟩; have B3 : Hid (Below w.heap.size w w3) := B2.out.drew.trans (hb.mono B2.out.size); have K3 : Hid (w3.heap[tb]? = some (.cells #[.int .i64 trk, .slice va m vc, .int .i64 sg, .slice a n c] 25 (0, 0))) := tb_kept (w := w2.drew) K2.out hb; have HY3 := Lib.hid hy; clear hb hy))
    all_goals
      clear c0 c1 c2 c3 lc HC HR
      try clear HX3
      try clear HY3
      have l1 := heap_lt K4.out
      have c0 := cell_row (j := 0) K4.out rfl
      have c1 := cell_row (j := 1) K4.out rfl
      have c2 := cell_row (j := 2) K4.out rfl
      have c3 := cell_row (j := 3) K4.out rfl
      have lc := heap_lt K4.out
      have HEQ := Lib.hid (fun (W : World) (hW : Below w4.heap.size w4 W) => eqf_any x y T.rts.length (rowsL T) W (HX4.out.below hW) (HY4.out.below hW))
      have HC1 := Lib.hid (fun (W : World) (hW : Below w4.heap.size w4 W) => check_any _ T W (HT.out.below (B4.out.trans (hW.mono B4.out.size))) HBG.out)
      have HC2 := Lib.hid (fun (W : World) (hW : Below w4.heap.size w4 W) => rcheck_any _ T W (HT.out.below (B4.out.trans (hW.mono B4.out.size))) HBG.out)
      have HW4 := Lib.hid (fun (W : World) (hW : Below w4.heap.size w4 W) => HWK.out W (B4.out.trans (hW.mono B4.out.size)))
      generalize checkE T = E at *
      clear HWK HX4 HY4
      go_upto_region 4 with fail
      obtain ⟨U, fU, hUn, hU1, hU2⟩ := class_of (fun V => Below w4.heap.size w4 V) (W := w4.drew) ⟨rfl, rfl, rfl, Nat.le_refl _, fun _ _ => rfl⟩
      have HU1 := Lib.hid hU1; have HU2 := Lib.hid hU2
      clear hU1 hU2
      have hfm : (Tryz.prog).follows .mixedOrders = true := by kernel_rfl
      obtain ⟨q, hd1⟩ : ∃ q : Nat, 1 ≤ q := ⟨1, Nat.le_refl _⟩
      have z0 := fun uu => ((HU1.out uu).cell l1).trans c0
      have z1 := fun uu => ((HU1.out uu).cell l1).trans c1
      have z2 := fun uu => ((HU1.out uu).cell l1).trans c2
      have z3 := fun uu => ((HU1.out uu).cell l1).trans c3
      have h0_HRA : ∀ uu, Calls Tryz.prog 13 #[.agg #[.int .i64 trk, .slice va m vc, .int .i64 sg, .slice a n c]] (fU uu) fun e w' => e = .returned (.int .i64 E) ∧ Below (fU uu).heap.size (fU uu) w' := fun uu => HC1.out (fU uu) (HU1.out uu)
      have HRA : Hid (∀ uu, CallsIn Fence.wide (q - 1) Tryz.prog 13 #[.agg #[.int .i64 trk, .slice va m vc, .int .i64 sg, .slice a n c]] (fU uu) fun e w' => e = .returned (.int .i64 E) ∧ ∃ uu', w' = fU uu') := fun uu => (callsIn_wide.2 (h0_HRA uu)).mono (fun e w' ⟨he, hb⟩ => ⟨he, HU2.out _ ((HU1.out uu).trans (hb.mono (HU1.out uu).size))⟩)
      have hf_HRA : Fence.wide.fn 13 := trivial
      clear h0_HRA
      have h0_HRB : ∀ uu, Calls Tryz.prog 17 #[.agg #[.int .i64 trk, .slice va m vc, .int .i64 sg, .slice a n c]] (fU uu) fun e w' => e = .returned (.int .i64 E) ∧ Below (fU uu).heap.size (fU uu) w' := fun uu => HC2.out (fU uu) (HU1.out uu)
      have HRB : Hid (∀ uu, CallsIn Fence.wide (q - 1) Tryz.prog 17 #[.agg #[.int .i64 trk, .slice va m vc, .int .i64 sg, .slice a n c]] (fU uu) fun e w' => e = .returned (.int .i64 E) ∧ ∃ uu', w' = fU uu') := fun uu => (callsIn_wide.2 (h0_HRB uu)).mono (fun e w' ⟨he, hb⟩ => ⟨he, HU2.out _ ((HU1.out uu).trans (hb.mono (HU1.out uu).size))⟩)
      have hf_HRB : Fence.wide.fn 17 := trivial
      clear h0_HRB
      have h0_HRC : ∀ uu, Calls Tryz.prog 18 #[x, y, .func (.func 19) #[] #[]] (fU uu) fun e w' => e = .returned (.bool true) ∧ Below (fU uu).heap.size (fU uu) w' := fun uu => HEQ.out (fU uu) (HU1.out uu)
      have HRC : Hid (∀ uu, CallsIn Fence.wide (q - 1) Tryz.prog 18 #[x, y, .func (.func 19) #[] #[]] (fU uu) fun e w' => e = .returned (.bool true) ∧ ∃ uu', w' = fU uu') := fun uu => (callsIn_wide.2 (h0_HRC uu)).mono (fun e w' ⟨he, hb⟩ => ⟨he, HU2.out _ ((HU1.out uu).trans (hb.mono (HU1.out uu).size))⟩)
      have hf_HRC : Fence.wide.fn 18 := trivial
      clear h0_HRC
      have h0_HRD : ∀ uu, Calls Tryz.prog 12 #[] (fU uu) fun e w' => e = .returned (.bool true) ∧ Below (fU uu).heap.size (fU uu) w' := fun uu => HW4.out (fU uu) (HU1.out uu)
      have HRD : Hid (∀ uu, CallsIn Fence.wide (q - 1) Tryz.prog 12 #[] (fU uu) fun e w' => e = .returned (.bool true) ∧ ∃ uu', w' = fU uu') := fun uu => (callsIn_wide.2 (h0_HRD uu)).mono (fun e w' ⟨he, hb⟩ => ⟨he, HU2.out _ ((HU1.out uu).trans (hb.mono (HU1.out uu).size))⟩)
      have hf_HRD : Fence.wide.fn 12 := trivial
      clear h0_HRD
      clear c0 c1 c2 c3 HC1 HC2 HEQ HW4
      refine (wpIn_wide (n := q)).1 ?_
      refine wpIn_region_cls fU (by kernel_rfl) hfm (by kernel_rfl) (HU2.out _ ⟨rfl, rfl, rfl, Nat.le_refl _, fun _ _ => rfl⟩) ?_
      repeat (gi_big_quiet_step (first | (gi_at_call 13; (with_reducible exact HRA.out _)) | (gi_at_call 17; (with_reducible exact HRB.out _)) | (gi_at_call 18; (with_reducible exact HRC.out _)) | (gi_at_call 12; (with_reducible exact HRD.out _))))
      refine wpQuietIn_nil ?_
      rintro w6 ⟨uu, rfl⟩
      have B6 : Hid (Below w.heap.size w (fU uu)) := B4.out.trans ((HU1.out uu).mono B4.out.size)
      generalize fU uu = w6 at *
      clear HU1 HU2 HRA HRB HRC HRD z0 z1 z2 z3
      go_wp2_with fail
      go_ret
      exact ⟨rfl, B6.out⟩
set_option maxRecDepth 100000 in
theorem checks_walk (v0 : Value) (w : World) (h0 : ReadsW w 25 v0.cells.toList ∧ Value.okWide Tryz.prog w .any 0 25 v0) (hL : LibW w) :
    Calls Tryz.prog 4 #[v0] w fun e w' => e = .returned (.bool true) ∧ Below w.heap.size w w' := by
  obtain ⟨T, hT⟩ := reads_tab ⟨h0.1.c, h0.2⟩
  exact checks_any v0 T w hT (tab_sm h0.1 hT) hL
end Go.Proofs.YtpodedhnlicckaaGreatDoor
