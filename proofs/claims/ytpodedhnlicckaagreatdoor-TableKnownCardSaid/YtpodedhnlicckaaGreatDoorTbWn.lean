/- TableKnown. -/
import Derived.Test.YtpodedhnlicckaaGreatDoorTbLd
import Derived.Test.YtpodedhnlicckaaGreatDoorTbEq
import Derived.Test.YtpodedhnlicckaaGreatDoorTbBp
import Derived.BigRegion
namespace Go.Proofs.YtpodedhnlicckaaGreatDoor
open Go.RowKit
set_option linter.unusedVariables false
set_option linter.unusedSimpArgs false
def tw2N : Tab := ⟨3, [1], 2, [⟨0, [0, 1], [(0, false)], -1, [], 2⟩, ⟨1, [2, 1], [(0, true)], 0, [], 0⟩]⟩
/-- The lists of Two, but for the routes' row. -/
def TwoL (n : Nat) (W : World) : Prop := W.heap[n + 1]? = some (.cells #[.int .i64 1] 3 (0, 0)) ∧ W.heap[n + 1 + 1]? = some (.cells #[.int .i64 0, .int .i64 1] 3 (0, 0)) ∧ W.heap[n + 1 + 1 + 1]? = some (.cells #[.int .i64 0, .bool false] 57 (0, 0)) ∧ W.heap[n + 1 + 1 + 1 + 1 + 1]? = some (.cells #[.int .i64 2, .int .i64 1] 3 (0, 0)) ∧ W.heap[n + 1 + 1 + 1 + 1 + 1 + 1]? = some (.cells #[.int .i64 0, .bool true] 57 (0, 0))
theorem TwoL.below {n : Nat} {W V : World} (h : TwoL n W) (hb : Below W.heap.size W V) : TwoL n V := by
  obtain ⟨k1, k2, k3, k5, k6⟩ := h
  exact ⟨tb_kept k1 hb, tb_kept k2 hb, tb_kept k3 hb, tb_kept k5 hb, tb_kept k6 hb⟩
theorem TwoL.other {n : Nat} {W : World} (h : TwoL n W) (i : Nat) (x : Value) : TwoL n (W.setCell ⟨n + 1 + 1 + 1 + 1 + 1 + 1 + 1 + 1, i, none⟩ x) := by
  obtain ⟨k1, k2, k3, k5, k6⟩ := h
  exact ⟨(heap_setCell_other _ _ _ _ (by show _ ≠ n + 1 + 1 + 1 + 1 + 1 + 1 + 1 + 1; omega)).trans k1, (heap_setCell_other _ _ _ _ (by show _ ≠ n + 1 + 1 + 1 + 1 + 1 + 1 + 1 + 1; omega)).trans k2, (heap_setCell_other _ _ _ _ (by show _ ≠ n + 1 + 1 + 1 + 1 + 1 + 1 + 1 + 1; omega)).trans k3, (heap_setCell_other _ _ _ _ (by show _ ≠ n + 1 + 1 + 1 + 1 + 1 + 1 + 1 + 1; omega)).trans k5, (heap_setCell_other _ _ _ _ (by show _ ≠ n + 1 + 1 + 1 + 1 + 1 + 1 + 1 + 1; omega)).trans k6⟩
theorem nil_ints (W : World) : IntsAt W (.slice none 0 0) [] := ⟨⟨none, 0, rfl, Nat.le_refl _, by unfold maxLen; omega, .inl rfl⟩, fun i hi => absurd hi (by show ¬ i < 0; omega)⟩
set_option maxRecDepth 100000 in
theorem twoN_at (W : World) (n : Nat) (h : TwoL n W) (k8 : W.heap[n + 1 + 1 + 1 + 1 + 1 + 1 + 1 + 1]? = some (.cells #[.int .i64 0, .slice (some ⟨n + 1 + 1, 0, none⟩) 2 2, .slice (some ⟨n + 1 + 1 + 1, 0, none⟩) 1 1, .int .i64 (-1), .slice none 0 0, .int .u16 2, .int .i64 1, .slice (some ⟨n + 1 + 1 + 1 + 1 + 1, 0, none⟩) 2 2, .slice (some ⟨n + 1 + 1 + 1 + 1 + 1 + 1, 0, none⟩) 1 1, .int .i64 0, .slice none 0 0, .int .u16 0] 30 (0, 0))) : TabAt W (.agg #[.int .i64 3, .slice (some ⟨n + 1, 0, none⟩) 1 1, .int .i64 2, .slice (some ⟨n + 1 + 1 + 1 + 1 + 1 + 1 + 1 + 1, 0, none⟩) 2 2]) tw2N := by
  obtain ⟨k1, k2, k3, k5, k6⟩ := h
  refine ⟨⟨_, _, rfl, (ints_of_row (l := [1]) (k1) (fun i hi => by match i, hi with | 0, _ => exact ⟨rfl, by unfold i64ok; decide⟩) (by decide)), ⟨⟨_, _, fun i j => #[.int .i64 0, .slice (some ⟨n + 1 + 1, 0, none⟩) 2 2, .slice (some ⟨n + 1 + 1 + 1, 0, none⟩) 1 1, .int .i64 (-1), .slice none 0 0, .int .u16 2, .int .i64 1, .slice (some ⟨n + 1 + 1 + 1 + 1 + 1, 0, none⟩) 2 2, .slice (some ⟨n + 1 + 1 + 1 + 1 + 1 + 1, 0, none⟩) 1 1, .int .i64 0, .slice none 0 0, .int .u16 0].getD (i * 6 + j) undef, rfl, Nat.le_refl _, by unfold maxLen; decide, .inr ⟨_, 0, rfl, heap_lt k8, fun i hi j hj => ?_⟩, fun i hi => ?_⟩⟩⟩, by unfold i64ok tw2N; decide, by unfold i64ok tw2N; decide⟩
  · rw [Nat.zero_add]
    have hi2 : i < 2 := hi
    exact cell_row k8 (arr_getD (by show _ < 12; omega))
  · have hi2 : i < 2 := hi
    match i, hi2 with
    | 0, _ => exact ⟨rfl, (ints_of_row (l := [0, 1]) (k2) (fun i hi => by match i, hi with | 0, _ => exact ⟨rfl, by unfold i64ok; decide⟩ | 1, _ => exact ⟨rfl, by unfold i64ok; decide⟩) (by decide)), (pts_of_row (l := [(0, false)]) (k3) (fun i hi => by match i, hi with | 0, _ => exact ⟨fun j hj => (by match j, hj with | 0, _ => rfl | 1, _ => rfl), by unfold i64ok; decide⟩) (by decide)), rfl, nil_ints W, rfl, by unfold i64ok; decide, by unfold i64ok; decide, by decide⟩
    | 1, _ => exact ⟨rfl, (ints_of_row (l := [2, 1]) (k5) (fun i hi => by match i, hi with | 0, _ => exact ⟨rfl, by unfold i64ok; decide⟩ | 1, _ => exact ⟨rfl, by unfold i64ok; decide⟩) (by decide)), (pts_of_row (l := [(0, true)]) (k6) (fun i hi => by match i, hi with | 0, _ => exact ⟨fun j hj => (by match j, hj with | 0, _ => rfl | 1, _ => rfl), by unfold i64ok; decide⟩) (by decide)), rfl, nil_ints W, rfl, by unfold i64ok; decide, by unfold i64ok; decide, by decide⟩
set_option maxRecDepth 100000 in
set_option maxHeartbeats 8000000 in
theorem two_rows (w : World) :
    Calls Tryz.prog 9 #[] w fun e w' => ∃ n, n = w.heap.size ∧ e = .returned (.agg #[.int .i64 3, .slice (some ⟨n + 1, 0, none⟩) 1 1, .int .i64 2, .slice (some ⟨n + 1 + 1 + 1 + 1 + 1 + 1 + 1 + 1, 0, none⟩) 2 2]) ∧ TwoL n w' ∧ w'.heap[n + 1 + 1 + 1 + 1 + 1 + 1 + 1 + 1]? = some (.cells #[.int .i64 0, .slice (some ⟨n + 1 + 1, 0, none⟩) 2 2, .slice (some ⟨n + 1 + 1 + 1, 0, none⟩) 1 1, .int .i64 (-1), .slice (some ⟨n + 1 + 1 + 1 + 1, 0, none⟩) 1 1, .int .u16 2, .int .i64 1, .slice (some ⟨n + 1 + 1 + 1 + 1 + 1, 0, none⟩) 2 2, .slice (some ⟨n + 1 + 1 + 1 + 1 + 1 + 1, 0, none⟩) 1 1, .int .i64 0, .slice (some ⟨n + 1 + 1 + 1 + 1 + 1 + 1 + 1, 0, none⟩) 1 1, .int .u16 0] 30 (0, 0)) ∧ Below w.heap.size w w' := by
  have HB := Lib.hid (two_below w)
  have HN := Lib.hid (nine_at w #[.int .i64 3, .slice (some ⟨w.heap.size + 1, 0, none⟩) 1 1, .int .i64 2, .slice (some ⟨w.heap.size + 1 + 1 + 1 + 1 + 1 + 1 + 1 + 1, 0, none⟩) 2 2] #[.int .i64 1] #[.int .i64 0, .int .i64 1] #[.int .i64 0, .bool false] #[.int .i64 1] #[.int .i64 2, .int .i64 1] #[.int .i64 0, .bool true] #[.int .i64 0] #[.int .i64 0, .slice (some ⟨w.heap.size + 1 + 1, 0, none⟩) 2 2, .slice (some ⟨w.heap.size + 1 + 1 + 1, 0, none⟩) 1 1, .int .i64 (-1), .slice (some ⟨w.heap.size + 1 + 1 + 1 + 1, 0, none⟩) 1 1, .int .u16 2, .int .i64 1, .slice (some ⟨w.heap.size + 1 + 1 + 1 + 1 + 1, 0, none⟩) 2 2, .slice (some ⟨w.heap.size + 1 + 1 + 1 + 1 + 1 + 1, 0, none⟩) 1 1, .int .i64 0, .slice (some ⟨w.heap.size + 1 + 1 + 1 + 1 + 1 + 1 + 1, 0, none⟩) 1 1, .int .u16 0] 25 3 3 57 3 3 57 3 30)
  go_enter Tryz.func9, Tryz.ntmps9
  go_wp2_with fail
  obtain ⟨k1, k2, k3, k4, k5, k6, k7, k8⟩ := HN.out
  exact bodyPost_ret (v := .agg #[.int .i64 3, .slice (some ⟨w.heap.size + 1, 0, none⟩) 1 1, .int .i64 2, .slice (some ⟨w.heap.size + 1 + 1 + 1 + 1 + 1 + 1 + 1 + 1, 0, none⟩) 2 2]) (by simp [results, Tryz.results9, go_sem]) rfl ⟨_, rfl, rfl, ⟨k1, k2, k3, k5, k6⟩, k8, HB.out⟩
theorem bad_text {l : List UInt8} (h : (parseT l).2 = (1, 262)) : parseT l = (tab0, 1, 262) := by
  have h1 := parseT_bad (s := l) (by rw [h]; show (262 : Nat) ≠ 0; omega)
  exact Prod.ext h1 h
theorem bad1 : parseT [116, 114, 97, 99, 107, 115, 32, 49] = (tab0, 1, 262) := bad_text (by decide +kernel)
theorem bad2 : parseT [116, 114, 97, 99, 107, 115, 32, 48, 49, 10] = (tab0, 1, 262) := bad_text (by decide +kernel)
theorem chkN : checkE tw2N = 261 := by decide +kernel
theorem cfN : confL tw2N 0 2 = [1] := by decide +kernel
theorem bigN : ∀ r ∈ tw2N.rts, r.pts.length ≤ 1000000 := by decide +kernel
theorem parse_err (s : ByteArray) (k : Nat) (w : World) (h : parseT s.data.toList = (tab0, k, 262)) (hs : s.size ≤ 9223372036854775807) (hM : MaxW w) :
    Calls Tryz.prog 10 #[.string s] w fun e w' => (∃ v, e = .returned (.tuple #[v, .int .i64 (k : Int), .int .i64 262]) ∧ TabAt w' v tab0) ∧ Below w.heap.size w w' := by
  have c := parse_any s w hs hM
  rw [h] at c
  exact c
theorem tab0_shape {w : World} {v : Value} (h : TabAt w v tab0) : ∃ pa pc ra rc, v = .agg #[.int .i64 0, .slice pa 0 pc, .int .i64 0, .slice ra 0 rc] := by
  obtain ⟨⟨up, ur, rfl, hup, hur⟩, _, _⟩ := h
  obtain ⟨pa, pc, rfl, _, _, _⟩ := hup.at_
  obtain ⟨ra, rc, _, rfl, _, _, _⟩ := hur.at_
  exact ⟨pa, pc, ra, rc, rfl⟩
set_option maxRecDepth 100000 in
set_option maxHeartbeats 8000000 in
theorem known_any (w : World) (hL : LibW w) :
    Calls Tryz.prog 3 #[] w fun e w' => e = .returned (.bool true) ∧ Below w.heap.size w w' := by
  have HL := Lib.hid hL
  have HWK := Lib.hid (fun (W : World) (hW : Below w.heap.size w W) => works_any W (HL.out.below hW).tab (HL.out.below hW).max)
  have HT := Lib.hid (two_rows w)
  clear hL
  go_enter Tryz.func3, Tryz.ntmps3
  go_wp2_with fail
  refine HT.out.mono ?_
  rintro e w1 ⟨n, hn, rfl, h1, h8, hb1⟩
  have HN0 := Lib.hid hn
  clear hn
  have B1 := Lib.hid hb1
  obtain ⟨w2, hw2⟩ : ∃ x, x = w1.alloc (.cells #[.int .i64 3, .slice (some ⟨n + 1, 0, none⟩) 1 1, .int .i64 2, .slice (some ⟨n + 1 + 1 + 1 + 1 + 1 + 1 + 1 + 1, 0, none⟩) 2 2] 25) := ⟨_, rfl⟩
  have B12 : Hid (Below w1.heap.size w1 w2) := by rw [hw2]; exact tb_alloc_below _ _
  have K2 : Hid (w2.heap[w1.heap.size]? = some (.cells #[.int .i64 3, .slice (some ⟨n + 1, 0, none⟩) 1 1, .int .i64 2, .slice (some ⟨n + 1 + 1 + 1 + 1 + 1 + 1 + 1 + 1, 0, none⟩) 2 2] 25 (0, 0))) := by rw [hw2]; exact heap_alloc_new _ _
  have B2 := Lib.hid (B1.out.trans (B12.out.mono B1.out.size))
  have H2 := Lib.hid (h1.below B12.out)
  have H8 := Lib.hid (tb_kept h8 B12.out)
  have HNE : Hid (n + 1 + 1 + 1 + 1 + 1 + 1 + 1 + 1 < w1.heap.size) := heap_lt h8
  have HW2 := Lib.hid hw2
  clear hw2 h1 h8 hb1 HT
  go_upto_region 2 with fail
  rw [← HW2.out]
  clear HW2
  obtain ⟨tb, htb⟩ : ∃ x, x = w1.heap.size := ⟨_, rfl⟩
  rw [← htb] at K2 HNE ⊢
  clear htb B1 B12
  have c3 := cell_row (j := 3) K2.out rfl
  have l1 := heap_lt K2.out
  have r4 := cell_row (j := 4) H8.out rfl
  have r10 := cell_row (j := 10) H8.out rfl
  have f4 : w2.frozen? ⟨n + 1 + 1 + 1 + 1 + 1 + 1 + 1 + 1, 4, none⟩ = false := frozen_of_row _ _ _ _ _ H8.out
  have f10 : w2.frozen? ⟨n + 1 + 1 + 1 + 1 + 1 + 1 + 1 + 1, 10, none⟩ = false := frozen_of_row _ _ _ _ _ H8.out
  have l8 := heap_lt H8.out
  go_region
  have K8 : Hid (((w2.setCell ⟨n + 1 + 1 + 1 + 1 + 1 + 1 + 1 + 1, 4, none⟩ (.slice none 0 0)).setCell ⟨n + 1 + 1 + 1 + 1 + 1 + 1 + 1 + 1, 10, none⟩ (.slice none 0 0)).drew.heap[n + 1 + 1 + 1 + 1 + 1 + 1 + 1 + 1]? = some (.cells #[.int .i64 0, .slice (some ⟨n + 1 + 1, 0, none⟩) 2 2, .slice (some ⟨n + 1 + 1 + 1, 0, none⟩) 1 1, .int .i64 (-1), .slice none 0 0, .int .u16 2, .int .i64 1, .slice (some ⟨n + 1 + 1 + 1 + 1 + 1, 0, none⟩) 2 2, .slice (some ⟨n + 1 + 1 + 1 + 1 + 1 + 1, 0, none⟩) 1 1, .int .i64 0, .slice none 0 0, .int .u16 0] 30 (0, 0))) := heap_setCell_same _ _ _ _ _ _ (heap_setCell_same _ _ _ _ _ _ H8.out)
  have HL3 : Hid (TwoL n ((w2.setCell ⟨n + 1 + 1 + 1 + 1 + 1 + 1 + 1 + 1, 4, none⟩ (.slice none 0 0)).setCell ⟨n + 1 + 1 + 1 + 1 + 1 + 1 + 1 + 1, 10, none⟩ (.slice none 0 0)).drew) := ((H2.out.other 4 _).other 10 _).below (Below.drew (Below.refl _ _))
  have K3 : Hid (((w2.setCell ⟨n + 1 + 1 + 1 + 1 + 1 + 1 + 1 + 1, 4, none⟩ (.slice none 0 0)).setCell ⟨n + 1 + 1 + 1 + 1 + 1 + 1 + 1 + 1, 10, none⟩ (.slice none 0 0)).drew.heap[tb]? = some (.cells #[.int .i64 3, .slice (some ⟨n + 1, 0, none⟩) 1 1, .int .i64 2, .slice (some ⟨n + 1 + 1 + 1 + 1 + 1 + 1 + 1 + 1, 0, none⟩) 2 2] 25 (0, 0))) := (heap_setCell_other _ _ _ _ (by have := HNE.out; show _ ≠ n + 1 + 1 + 1 + 1 + 1 + 1 + 1 + 1; omega)).trans ((heap_setCell_other _ _ _ _ (by have := HNE.out; show _ ≠ n + 1 + 1 + 1 + 1 + 1 + 1 + 1 + 1; omega)).trans K2.out)
  have B3 : Hid (Below w.heap.size w ((w2.setCell ⟨n + 1 + 1 + 1 + 1 + 1 + 1 + 1 + 1, 4, none⟩ (.slice none 0 0)).setCell ⟨n + 1 + 1 + 1 + 1 + 1 + 1 + 1 + 1, 10, none⟩ (.slice none 0 0)).drew) := ((B2.out.setCell (p := ⟨n + 1 + 1 + 1 + 1 + 1 + 1 + 1 + 1, 4, none⟩) (by rw [← HN0.out]; show _ ≤ n + 1 + 1 + 1 + 1 + 1 + 1 + 1 + 1; omega) _).setCell (p := ⟨n + 1 + 1 + 1 + 1 + 1 + 1 + 1 + 1, 10, none⟩) (by rw [← HN0.out]; show _ ≤ n + 1 + 1 + 1 + 1 + 1 + 1 + 1 + 1; omega) _).drew
  obtain ⟨w3, hw3⟩ : ∃ x, x = ((w2.setCell ⟨n + 1 + 1 + 1 + 1 + 1 + 1 + 1 + 1, 4, none⟩ (.slice none 0 0)).setCell ⟨n + 1 + 1 + 1 + 1 + 1 + 1 + 1 + 1, 10, none⟩ (.slice none 0 0)).drew := ⟨_, rfl⟩
  rw [← hw3] at K8 HL3 K3 B3 ⊢
  clear hw3 c3 l1 r4 r10 f4 f10 l8 K2 H2 H8 B2
  have HV := Lib.hid (twoN_at w3 n HL3.out K8.out)
  clear HL3 K8
  have HQ := Lib.hid (parse_err ⟨#[116, 114, 97, 99, 107, 115, 32, 49]⟩ 1 w3 bad1 (by decide) (HL.out.below B3.out).max)
  go_wp2_with fail
  refine HQ.out.mono ?_
  rintro e x_ ⟨⟨u, rfl, hu⟩, hbx⟩
  obtain ⟨pa_, pc_, ra_, rc_, rfl⟩ := tab0_shape hu
  have BX := Lib.hid (B3.out.trans (hbx.mono B3.out.size))
  have KX := Lib.hid (tb_kept K3.out hbx)
  have BY := Lib.hid hbx
  clear hu hbx HQ
  obtain ⟨w4, hx_⟩ : ∃ x, x = x_.alloc (.cells #[.int .i64 0, .slice pa_ 0 pc_, .int .i64 0, .slice ra_ 0 rc_] 25) := ⟨_, rfl⟩
  have B4 : Hid (Below w.heap.size w w4) := by rw [hx_]; exact BX.out.trans ((tb_alloc_below _ _).mono BX.out.size)
  have K4 : Hid ((w4).heap[tb]? = some (.cells #[.int .i64 3, .slice (some ⟨n + 1, 0, none⟩) 1 1, .int .i64 2, .slice (some ⟨n + 1 + 1 + 1 + 1 + 1 + 1 + 1 + 1, 0, none⟩) 2 2] 25 (0, 0))) := by rw [hx_]; exact tb_kept KX.out (tb_alloc_below _ _)
  have BZ : Hid (Below (w3).heap.size w3 w4) := by rw [hx_]; exact BY.out.trans ((tb_alloc_below _ _).mono BY.out.size)
  have HX_ := Lib.hid hx_
  clear hx_ BX KX BY
  go_upto_region 4 with fail
  rw [← HX_.out]
  clear HX_
  have HV4 := Lib.hid (HV.out.below BZ.out)
  clear BZ HV
  have HQ := Lib.hid (parse_err ⟨#[116, 114, 97, 99, 107, 115, 32, 48, 49, 10]⟩ 1 w4 bad2 (by decide) (HL.out.below B4.out).max)
  go_wp2_with fail
  refine HQ.out.mono ?_
  rintro e x_ ⟨⟨u, rfl, hu⟩, hbx⟩
  obtain ⟨pa_, pc_, ra_, rc_, rfl⟩ := tab0_shape hu
  have BX := Lib.hid (B4.out.trans (hbx.mono B4.out.size))
  have KX := Lib.hid (tb_kept K4.out hbx)
  have BY := Lib.hid hbx
  clear hu hbx HQ
  obtain ⟨w5, hx_⟩ : ∃ x, x = x_.alloc (.cells #[.int .i64 0, .slice pa_ 0 pc_, .int .i64 0, .slice ra_ 0 rc_] 25) := ⟨_, rfl⟩
  have B5 : Hid (Below w.heap.size w w5) := by rw [hx_]; exact BX.out.trans ((tb_alloc_below _ _).mono BX.out.size)
  have K5 : Hid ((w5).heap[tb]? = some (.cells #[.int .i64 3, .slice (some ⟨n + 1, 0, none⟩) 1 1, .int .i64 2, .slice (some ⟨n + 1 + 1 + 1 + 1 + 1 + 1 + 1 + 1, 0, none⟩) 2 2] 25 (0, 0))) := by rw [hx_]; exact tb_kept KX.out (tb_alloc_below _ _)
  have BZ : Hid (Below (w4).heap.size w4 w5) := by rw [hx_]; exact BY.out.trans ((tb_alloc_below _ _).mono BY.out.size)
  have HX_ := Lib.hid hx_
  clear hx_ BX KX BY
  go_upto_region 5 with fail
  rw [← HX_.out]
  clear HX_
  have HV5 := Lib.hid (HV4.out.below BZ.out)
  clear BZ HV4
  have HCF := Lib.hid (conflicts_any _ tw2N w5 HV5.out (by decide))
  rw [show tw2N.rts.length = 2 from rfl] at HCF
  have c0 := cell_row (j := 0) K5.out rfl
  have c1 := cell_row (j := 1) K5.out rfl
  have c2 := cell_row (j := 2) K5.out rfl
  have c3 := cell_row (j := 3) K5.out rfl
  have lc := heap_lt K5.out
  go_wp2_with fail
  refine HCF.out.mono ?_
  rintro e w6 ⟨⟨ob, V, rfl, hob, hR⟩, hb6⟩
  have B6 := Lib.hid (B5.out.trans (hb6.mono B5.out.size))
  have K6 := Lib.hid (tb_kept K5.out hb6)
  have HV6 := Lib.hid (HV5.out.below hb6)
  have HR6 := Lib.hid hR.row
  have HI6 : Hid (IntsAt w6 (V 0) [1]) := by have h := hR.ints 0 (by decide); rw [cfN] at h; exact h
  have HW6 := Lib.hid (HWK.out w6 B6.out)
  clear c0 c1 c2 c3 lc
  clear hob hR hb6 K5 HV5 HCF
  go_wp2_with fail
  refine HW6.out.mono ?_
  rintro e w7 ⟨rfl, hb7⟩
  have B7 := Lib.hid (B6.out.trans (hb7.mono B6.out.size))
  have K7 := Lib.hid (tb_kept K6.out hb7)
  have HCK := Lib.hid (check_any _ tw2N w7 (HV6.out.below hb7) bigN)
  rw [chkN] at HCK
  have HI7 := Lib.hid (HI6.out.below hb7)
  have HO7 := Lib.hid (hb7.block ob HR6.out.lt)
  have c0 := cell_row (j := 0) K7.out rfl
  have c1 := cell_row (j := 1) K7.out rfl
  have c2 := cell_row (j := 2) K7.out rfl
  have c3 := cell_row (j := 3) K7.out rfl
  have lc := heap_lt K7.out
  clear hb7 K6 HV6 HI6 HW6
  go_wp2_with fail
  refine HCK.out.mono ?_
  rintro e w8 ⟨rfl, hb8⟩
  have B8 := Lib.hid (B7.out.trans (hb8.mono B7.out.size))
  have HI8 := Lib.hid (HI7.out.below hb8)
  have HR7 := Lib.hid (HR6.out.same HO7.out)
  have HR8 := Lib.hid (HR7.out.same (hb8.block ob HR7.out.lt))
  have v0 : w8.cell? ⟨ob, 0, none⟩ = some (V 0) := HR8.out.cell (by decide)
  have lo := HR8.out.lt
  have HEQ := Lib.hid (equal_any (V 0) (.slice (some ⟨w8.heap.size, 0, none⟩) 1 1) [1] (w8.alloc (.cells #[.int .i64 1] 3)) (HI8.out.below (tb_alloc_below _ _)) (ints_of_row (l := [1]) (heap_alloc_new _ _) (fun i hi => by match i, hi with | 0, _ => exact ⟨rfl, by unfold i64ok; decide⟩) (by decide)))
  have BA : Hid (Below w.heap.size w (w8.alloc (.cells #[.int .i64 1] 3))) := B8.out.trans ((tb_alloc_below _ _).mono B8.out.size)
  clear c0 c1 c2 c3 lc
  clear hb8 K7 HI7 HO7 HCK HR6 HR7 HI8 HR8
  generalize V 0 = x at *
  go_wp2_with fail
  refine HEQ.out.mono ?_
  rintro e w9 ⟨rfl, hb9⟩
  have B9 := Lib.hid (BA.out.trans (hb9.mono BA.out.size))
  go_wp2_with fail
  go_ret
  exact ⟨rfl, B9.out⟩
end Go.Proofs.YtpodedhnlicckaaGreatDoor
