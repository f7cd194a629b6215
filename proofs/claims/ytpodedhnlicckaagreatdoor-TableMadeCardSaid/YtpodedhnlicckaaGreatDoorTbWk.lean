/- works. -/
import Derived.Test.YtpodedhnlicckaaGreatDoorTbPw
import Derived.Test.YtpodedhnlicckaaGreatDoorTbPk
import Derived.Test.YtpodedhnlicckaaGreatDoorTbPa
import Derived.Test.YtpodedhnlicckaaGreatDoorTabK
import Derived.Test.YtpodedhnlicckaaGreatDoorTbSs
import Derived.Test.YtpodedhnlicckaaGreatDoorTake
import Derived.BigQuiet
namespace Go.Proofs.YtpodedhnlicckaaGreatDoor
open Go.RowKit
set_option linter.unusedVariables false
set_option linter.unusedSimpArgs false
def two2S : ByteArray := ⟨(textT tw2T).toArray⟩
theorem tw2_good : goodT tw2T = true := by decide +kernel
theorem tw2_len : (textT tw2T).length ≤ 8000 := by decide +kernel
theorem tw2_print : printT tw2T = (textT tw2T, 0) := by
  unfold printT
  rw [if_neg (by rw [tw2_good]; decide), if_neg (by have := tw2_len; omega)]
theorem tw2_parse : parseT (textT tw2T) = (tw2T, 0, 0) := tback1 tw2_good (by decide +kernel) tw2_len
theorem tw2_check : checkE tw2T = 0 := by decide +kernel
theorem tw2_big : ∀ r ∈ tw2T.rts, r.pts.length ≤ 1000000 := by decide +kernel
theorem tw2_gr : grS tw2T tw2T.rts.length ≤ 8000 := by decide +kernel
theorem tw2_sz : two2S.size ≤ 9223372036854775807 := by
  show (textT tw2T).toArray.size ≤ _
  have := tw2_len
  simp; omega
set_option maxRecDepth 100000 in
set_option maxHeartbeats 8000000 in
theorem works_any (w : World) (hTab : TabW w) (hM : MaxW w) :
    Calls Tryz.prog 12 #[] w fun e w' => e = .returned (.bool true) ∧ Below w.heap.size w w' := by
  have HTW := Lib.hid (two_any w); have HTA := Lib.hid hTab; have HMX := Lib.hid hM
  have HS : Hid ((⟨(printT tw2T).1.toArray⟩ : ByteArray) = two2S) := by show _ = _; rw [tw2_print]; rfl
  have HC : Hid ((printT tw2T).2 = 0) := by show _ = _; rw [tw2_print]
  have HPA := Lib.hid (fun W hW => parse_any two2S W tw2_sz hW)
  have t9 : (two2S.toList == [116, 114, 97, 99, 107, 115, 32, 51, 10, 115, 105, 103, 110, 97, 108, 115, 32, 50, 10, 112, 111, 105, 110, 116, 32, 49, 10, 114, 111, 117, 116, 101, 32, 48, 32, 116, 114, 97, 99, 107, 115, 32, 48, 32, 49, 32, 112, 111, 105, 110, 116, 115, 32, 48, 43, 32, 104, 111, 108, 100, 32, 50, 32, 99, 111, 110, 102, 108, 105, 99, 116, 115, 32, 49, 10, 114, 111, 117, 116, 101, 32, 49, 32, 116, 114, 97, 99, 107, 115, 32, 50, 32, 49, 32, 112, 111, 105, 110, 116, 115, 32, 48, 45, 32, 97, 112, 112, 114, 111, 97, 99, 104, 32, 48, 32, 104, 111, 108, 100, 32, 48, 32, 99, 111, 110, 102, 108, 105, 99, 116, 115, 32, 48, 10]) = true := by rw [ByteArray.toList_eq]; decide +kernel
  generalize hs : two2S = s at *
  have HSS := Lib.hid hs
  clear hs hTab hM
  go_enter Tryz.func12, Tryz.ntmps12
  go_wp2_with fail
  refine HTW.out.mono ?_
  rintro e w1 ⟨v, rfl, hv, hb1⟩
  have B1 := Lib.hid hb1
  have HP := Lib.hid (print_any v tw2T w1 hv (HTA.out.below hb1) tw2_gr)
  clear hb1 hv
  go_wp2_with fail
  refine HP.out.mono ?_
  rintro e w2 ⟨rfl, hb2⟩
  have B2 := Lib.hid (B1.out.trans (hb2.mono B1.out.size))
  rw [HS.out, HC.out]
  have HQ := Lib.hid (HPA.out w2 (HMX.out.below B2.out))
  clear hb2 HP
  go_wp2_with fail
  refine HQ.out.mono ?_
  rintro e w3 ⟨⟨u, rfl, hu⟩, hb3⟩
  have HR : parseT s.data.toList = (tw2T, 0, 0) := by rw [← HSS.out]; show parseT (textT tw2T).toArray.toList = _; rw [List.toList_toArray]; exact tw2_parse
  rw [HR] at hu ⊢
  have B3 := Lib.hid (B2.out.trans (hb3.mono B2.out.size))
  obtain ⟨⟨up, ur, rfl, hup, hur⟩, htr, hsg⟩ := hu
  obtain ⟨pa, pc, rfl, _, _, _⟩ := hup.at_
  obtain ⟨ra, rc, _, rfl, _, _, _⟩ := hur.at_
  obtain ⟨w4, hw4⟩ : ∃ x, x = w3.alloc (.cells #[.int .i64 tw2T.tracks, .slice pa tw2T.pts.length pc, .int .i64 tw2T.sigs, .slice ra tw2T.rts.length rc] 25) := ⟨_, rfl⟩
  have B34 : Hid (Below w3.heap.size w3 w4) := by rw [hw4]; exact tb_alloc_below _ _
  have K4 : Hid (w4.heap[w3.heap.size]? = some (.cells #[.int .i64 tw2T.tracks, .slice pa tw2T.pts.length pc, .int .i64 tw2T.sigs, .slice ra tw2T.rts.length rc] 25 (0, 0))) := by rw [hw4]; exact heap_alloc_new _ _
  have HU : Hid (TabAt w4 (.agg #[.int .i64 tw2T.tracks, .slice pa tw2T.pts.length pc, .int .i64 tw2T.sigs, .slice ra tw2T.rts.length rc]) tw2T) := TabAt.below ⟨⟨_, _, rfl, hup, hur⟩, htr, hsg⟩ B34.out
  have HW4 := Lib.hid hw4
  clear hw4 hup hur htr hsg hb3 HR HQ HPA HS HC
  go_upto_region 3 with fail
  rw [← HW4.out]
  have B4 := Lib.hid (B3.out.trans (B34.out.mono B3.out.size))
  clear HW4 B34
  generalize w3.heap.size = tb at *
  have KS : Hid (∀ W : World, (W.cell? ⟨tb, 0, none⟩ = some (.int .i64 tw2T.tracks) ∧ W.cell? ⟨tb, 1, none⟩ = some (.slice pa tw2T.pts.length pc) ∧ W.cell? ⟨tb, 2, none⟩ = some (.int .i64 tw2T.sigs) ∧ W.cell? ⟨tb, 3, none⟩ = some (.slice ra tw2T.rts.length rc)) → (W.cell? ⟨tb, 0, none⟩ = some (.int .i64 tw2T.tracks) ∧ W.cell? ⟨tb, 1, none⟩ = some (.slice pa tw2T.pts.length pc) ∧ W.cell? ⟨tb, 2, none⟩ = some (.int .i64 tw2T.sigs) ∧ W.cell? ⟨tb, 3, none⟩ = some (.slice ra tw2T.rts.length rc))) := fun W h => h
  have k0 : Hid (∀ W : World, W.heap[tb]? = some (.cells #[.int .i64 tw2T.tracks, .slice pa tw2T.pts.length pc, .int .i64 tw2T.sigs, .slice ra tw2T.rts.length rc] 25 (0, 0)) → (W.cell? ⟨tb, 0, none⟩ = some (.int .i64 tw2T.tracks) ∧ W.cell? ⟨tb, 1, none⟩ = some (.slice pa tw2T.pts.length pc) ∧ W.cell? ⟨tb, 2, none⟩ = some (.int .i64 tw2T.sigs) ∧ W.cell? ⟨tb, 3, none⟩ = some (.slice ra tw2T.rts.length rc))) := fun W h => ⟨cell_row h rfl, cell_row h rfl, cell_row h rfl, cell_row h rfl⟩
  refine wp_region_T (fun W => W.cell? ⟨tb, 0, none⟩ = some (.int .i64 tw2T.tracks) ∧ W.cell? ⟨tb, 1, none⟩ = some (.slice pa tw2T.pts.length pc) ∧ W.cell? ⟨tb, 2, none⟩ = some (.int .i64 tw2T.sigs) ∧ W.cell? ⟨tb, 3, none⟩ = some (.slice ra tw2T.rts.length rc)) [] (by kernel_rfl) ?_
  change wpAnyT _ _ _ _ _ _ _ _ _ (World.drew _)
  have B5 : Hid (Below w.heap.size w w4.drew) := B4.out.drew
  have K5 : Hid (w4.drew.heap[tb]? = _) := K4.out
  have HU5 : Hid (TabAt w4.drew _ tw2T) := TabAt.below HU.out (Below.refl _ w4).drew
  have S1 := k0.out _ K5.out
  clear HU K4 B4
  generalize w4.drew = w5 at *
  have HT2 := Lib.hid (two_any w5)
  refine wpAnyT_pure (i := 0) (v := ?_) rfl (by kernel_rfl) (by kernel_rfl) (by kernel_rfl) (by kernel_rfl) (fun _ _ _ h => h) (Or.inl ⟨by kernel_rfl, ?_⟩) (fun _ => by assumption) ?_
  rotate_left
  · intro V hV; clear hV; go_simp; try (with_reducible rfl)
  try simp only [Act.put, List.getElem_toArray, List.getElem_cons_succ, List.getElem_cons_zero, List.setIfInBounds_toArray, List.set_cons_zero, List.set_cons_succ]
  refine wpAnyT_pure (i := 1) (v := ?_) rfl (by kernel_rfl) (by kernel_rfl) (by kernel_rfl) (by kernel_rfl) (fun _ _ _ h => h) (Or.inl ⟨by kernel_rfl, ?_⟩) (fun _ => by assumption) ?_
  rotate_left
  · intro V hV; clear hV; go_simp; try (with_reducible rfl)
  try simp only [Act.put, List.getElem_toArray, List.getElem_cons_succ, List.getElem_cons_zero, List.setIfInBounds_toArray, List.set_cons_zero, List.set_cons_succ]
  refine wpAnyT_pure (i := 2) (v := ?_) rfl (by kernel_rfl) (by kernel_rfl) (by kernel_rfl) (by kernel_rfl) (fun _ _ _ h => h) (Or.inl ⟨by kernel_rfl, ?_⟩) (fun _ => by assumption) ?_
  rotate_left
  · intro V hV; clear hV; go_simp; try (with_reducible rfl)
  try simp only [Act.put, List.getElem_toArray, List.getElem_cons_succ, List.getElem_cons_zero, List.setIfInBounds_toArray, List.set_cons_zero, List.set_cons_succ]
  refine wpAnyT_pure (i := 3) (v := ?_) rfl (by kernel_rfl) (by kernel_rfl) (by kernel_rfl) (by kernel_rfl) (fun _ _ _ h => h) (Or.inl ⟨by kernel_rfl, ?_⟩) (fun _ => by assumption) ?_
  rotate_left
  · intro V hV; clear hV; go_simp; try (with_reducible rfl)
  try simp only [Act.put, List.getElem_toArray, List.getElem_cons_succ, List.getElem_cons_zero, List.setIfInBounds_toArray, List.set_cons_zero, List.set_cons_succ]
  refine wpAnyT_pure (i := 4) (v := ?_) rfl (by kernel_rfl) (by kernel_rfl) (by kernel_rfl) (by kernel_rfl) (fun _ _ _ h => h) (Or.inl ⟨by kernel_rfl, ?_⟩) (fun _ => by assumption) ?_
  rotate_left
  · intro V hV; clear hV; go_simp; try (with_reducible rfl)
  try simp only [Act.put, List.getElem_toArray, List.getElem_cons_succ, List.getElem_cons_zero, List.setIfInBounds_toArray, List.set_cons_zero, List.set_cons_succ]
  refine wpAnyT_pure (i := 5) (v := ?_) rfl (by kernel_rfl) (by kernel_rfl) (by kernel_rfl) (by kernel_rfl) (fun _ _ _ h => h) (Or.inl ⟨by kernel_rfl, ?_⟩) (fun _ => by assumption) ?_
  rotate_left
  · intro V hV; clear hV; go_simp; try (with_reducible rfl)
  try simp only [Act.put, List.getElem_toArray, List.getElem_cons_succ, List.getElem_cons_zero, List.setIfInBounds_toArray, List.set_cons_zero, List.set_cons_succ]
  refine wpAnyT_pure (i := 6) (v := ?_) rfl (by kernel_rfl) (by kernel_rfl) (by kernel_rfl) (by kernel_rfl) (fun _ _ _ h => h) (Or.inl ⟨by kernel_rfl, ?_⟩) (fun _ => by assumption) ?_
  rotate_left
  · intro V hV; clear hV; go_simp; try (with_reducible rfl)
  try simp only [Act.put, List.getElem_toArray, List.getElem_cons_succ, List.getElem_cons_zero, List.setIfInBounds_toArray, List.set_cons_zero, List.set_cons_succ]
  refine wpAnyT_take (i := 7) (v := ?_) rfl (by kernel_rfl) (by kernel_rfl) (by kernel_rfl) (by kernel_rfl) (fun _ _ _ h => h) (Or.inl ⟨by kernel_rfl, ?_⟩) (by assumption) ?_
  rotate_left
  · intro V hV; have k := KS.out V hV; clear hV; go_simp; try (with_reducible rfl)
  try simp only [Act.put, List.getElem_toArray, List.getElem_cons_succ, List.getElem_cons_zero, List.setIfInBounds_toArray, List.set_cons_zero, List.set_cons_succ]
  refine wpAnyT_one (i := 8) (by kernel_rfl) rfl (fun K hK => ?_)
  go_simp
  refine HT2.out.mono ?_
  rintro e w6 ⟨v6, rfl, hv6, hb6⟩
  have B6 := Lib.hid (B5.out.trans (hb6.mono B5.out.size))
  have K6 := Lib.hid (tb_kept K5.out hb6)
  have HSM := Lib.hid (Same_any _ v6 tw2T w6 (HU5.out.below hb6) hv6)
  go_simp
  refine hK.out _ _ (fun _ => k0.out _ K6.out) ?_
  clear hK K S1 hv6 hb6 HU5 K5 B5 HT2
  try simp only [Act.put, List.getElem_toArray, List.getElem_cons_succ, List.getElem_cons_zero, List.setIfInBounds_toArray, List.set_cons_zero, List.set_cons_succ]
  have S2 := k0.out _ K6.out
  refine wpAnyT_one (i := 9) (by kernel_rfl) rfl (fun K hK => ?_)
  go_simp
  refine HSM.out.mono ?_
  rintro e w7 ⟨rfl, hb7⟩
  have B7 := Lib.hid (B6.out.trans (hb7.mono B6.out.size))
  have K7 := Lib.hid (tb_kept K6.out hb7)
  have HT7 := Lib.hid (two_any w7)
  go_simp
  refine hK.out _ _ (fun _ => k0.out _ K7.out) ?_
  clear hK K S2 hb7 K6 B6 HSM
  try simp only [Act.put, List.getElem_toArray, List.getElem_cons_succ, List.getElem_cons_zero, List.setIfInBounds_toArray, List.set_cons_zero, List.set_cons_succ]
  have S3 := k0.out _ K7.out
  refine wpAnyT_pure (i := 10) (v := ?_) rfl (by kernel_rfl) (by kernel_rfl) (by kernel_rfl) (by kernel_rfl) (fun _ _ _ h => h) (Or.inl ⟨by kernel_rfl, ?_⟩) (fun _ => by assumption) ?_
  rotate_left
  · intro V hV; clear hV; go_simp; try (with_reducible rfl)
  try simp only [Act.put, List.getElem_toArray, List.getElem_cons_succ, List.getElem_cons_zero, List.setIfInBounds_toArray, List.set_cons_zero, List.set_cons_succ]
  refine wpAnyT_pure (i := 11) (v := ?_) rfl (by kernel_rfl) (by kernel_rfl) (by kernel_rfl) (by kernel_rfl) (fun _ _ _ h => h) (Or.inl ⟨by kernel_rfl, ?_⟩) (fun _ => by assumption) ?_
  rotate_left
  · intro V hV; clear hV; go_simp; try (with_reducible rfl)
  try simp only [Act.put, List.getElem_toArray, List.getElem_cons_succ, List.getElem_cons_zero, List.setIfInBounds_toArray, List.set_cons_zero, List.set_cons_succ]
  refine wpAnyT_pure (i := 12) (v := ?_) rfl (by kernel_rfl) (by kernel_rfl) (by kernel_rfl) (by kernel_rfl) (fun _ _ _ h => h) (Or.inl ⟨by kernel_rfl, ?_⟩) (fun _ => by assumption) ?_
  rotate_left
  · intro V hV; clear hV; go_simp; try (with_reducible rfl)
  try simp only [Act.put, List.getElem_toArray, List.getElem_cons_succ, List.getElem_cons_zero, List.setIfInBounds_toArray, List.set_cons_zero, List.set_cons_succ]
  refine wpAnyT_pure (i := 13) (v := ?_) rfl (by kernel_rfl) (by kernel_rfl) (by kernel_rfl) (by kernel_rfl) (fun _ _ _ h => h) (Or.inl ⟨by kernel_rfl, ?_⟩) (fun _ => by assumption) ?_
  rotate_left
  · intro V hV; clear hV; go_simp; try (with_reducible rfl)
  try simp only [Act.put, List.getElem_toArray, List.getElem_cons_succ, List.getElem_cons_zero, List.setIfInBounds_toArray, List.set_cons_zero, List.set_cons_succ]
  refine wpAnyT_pure (i := 14) (v := ?_) rfl (by kernel_rfl) (by kernel_rfl) (by kernel_rfl) (by kernel_rfl) (fun _ _ _ h => h) (Or.inl ⟨by kernel_rfl, ?_⟩) (fun _ => by assumption) ?_
  rotate_left
  · intro V hV; clear hV; go_simp; try (with_reducible rfl)
  try simp only [Act.put, List.getElem_toArray, List.getElem_cons_succ, List.getElem_cons_zero, List.setIfInBounds_toArray, List.set_cons_zero, List.set_cons_succ]
  refine wpAnyT_pure (i := 15) (v := ?_) rfl (by kernel_rfl) (by kernel_rfl) (by kernel_rfl) (by kernel_rfl) (fun _ _ _ h => h) (Or.inl ⟨by kernel_rfl, ?_⟩) (fun _ => by assumption) ?_
  rotate_left
  · intro V hV; clear hV; go_simp; try (with_reducible rfl)
  try simp only [Act.put, List.getElem_toArray, List.getElem_cons_succ, List.getElem_cons_zero, List.setIfInBounds_toArray, List.set_cons_zero, List.set_cons_succ]
  refine wpAnyT_pure (i := 16) (v := ?_) rfl (by kernel_rfl) (by kernel_rfl) (by kernel_rfl) (by kernel_rfl) (fun _ _ _ h => h) (Or.inl ⟨by kernel_rfl, ?_⟩) (fun _ => by assumption) ?_
  rotate_left
  · intro V hV; clear hV; go_simp; try (with_reducible rfl)
  try simp only [Act.put, List.getElem_toArray, List.getElem_cons_succ, List.getElem_cons_zero, List.setIfInBounds_toArray, List.set_cons_zero, List.set_cons_succ]
  refine wpAnyT_pure (i := 17) (v := ?_) rfl (by kernel_rfl) (by kernel_rfl) (by kernel_rfl) (by kernel_rfl) (fun _ _ _ h => h) (Or.inl ⟨by kernel_rfl, ?_⟩) (fun _ => by assumption) ?_
  rotate_left
  · intro V hV; clear hV; go_simp; try (with_reducible rfl)
  try simp only [Act.put, List.getElem_toArray, List.getElem_cons_succ, List.getElem_cons_zero, List.setIfInBounds_toArray, List.set_cons_zero, List.set_cons_succ]
  refine wpAnyT_pure (i := 18) (v := ?_) rfl (by kernel_rfl) (by kernel_rfl) (by kernel_rfl) (by kernel_rfl) (fun _ _ _ h => h) (Or.inl ⟨by kernel_rfl, ?_⟩) (fun _ => by assumption) ?_
  rotate_left
  · intro V hV; clear hV; go_simp; try (with_reducible rfl)
  try simp only [Act.put, List.getElem_toArray, List.getElem_cons_succ, List.getElem_cons_zero, List.setIfInBounds_toArray, List.set_cons_zero, List.set_cons_succ]
  refine wpAnyT_pure (i := 19) (v := ?_) rfl (by kernel_rfl) (by kernel_rfl) (by kernel_rfl) (by kernel_rfl) (fun _ _ _ h => h) (Or.inl ⟨by kernel_rfl, ?_⟩) (fun _ => by assumption) ?_
  rotate_left
  · intro V hV; clear hV; go_simp; try (with_reducible rfl)
  try simp only [Act.put, List.getElem_toArray, List.getElem_cons_succ, List.getElem_cons_zero, List.setIfInBounds_toArray, List.set_cons_zero, List.set_cons_succ]
  refine wpAnyT_one (i := 20) (by kernel_rfl) rfl (fun K hK => ?_)
  go_simp
  refine HT7.out.mono ?_
  rintro e w8 ⟨v8, rfl, hv8, hb8⟩
  have B8 := Lib.hid (B7.out.trans (hb8.mono B7.out.size))
  have K8 := Lib.hid (tb_kept K7.out hb8)
  have HCH := Lib.hid (check_any v8 tw2T w8 hv8 tw2_big)
  rw [tw2_check] at HCH
  go_simp
  refine hK.out _ _ (fun _ => k0.out _ K8.out) ?_
  clear hK K S3 hv8 hb8 K7 B7 HT7
  try simp only [Act.put, List.getElem_toArray, List.getElem_cons_succ, List.getElem_cons_zero, List.setIfInBounds_toArray, List.set_cons_zero, List.set_cons_succ]
  have S4 := k0.out _ K8.out
  refine wpAnyT_one (i := 21) (by kernel_rfl) rfl (fun K hK => ?_)
  go_simp
  refine HCH.out.mono ?_
  rintro e w9 ⟨rfl, hb9⟩
  have B9 := Lib.hid (B8.out.trans (hb9.mono B8.out.size))
  have K9 := Lib.hid (tb_kept K8.out hb9)
  go_simp
  refine hK.out _ _ (fun _ => k0.out _ K9.out) ?_
  clear hK K S4 hb9 K8 B8 HCH
  try simp only [Act.put, List.getElem_toArray, List.getElem_cons_succ, List.getElem_cons_zero, List.setIfInBounds_toArray, List.set_cons_zero, List.set_cons_succ]
  have S5 := k0.out _ K9.out
  refine wpAnyT_pure (i := 22) (v := ?_) rfl (by kernel_rfl) (by kernel_rfl) (by kernel_rfl) (by kernel_rfl) (fun _ _ _ h => h) (Or.inl ⟨by kernel_rfl, ?_⟩) (fun _ => by assumption) ?_
  rotate_left
  · intro V hV; clear hV; go_simp; try (with_reducible rfl)
  try simp only [Act.put, List.getElem_toArray, List.getElem_cons_succ, List.getElem_cons_zero, List.setIfInBounds_toArray, List.set_cons_zero, List.set_cons_succ]
  refine wpAnyT_pure (i := 23) (v := ?_) rfl (by kernel_rfl) (by kernel_rfl) (by kernel_rfl) (by kernel_rfl) (fun _ _ _ h => h) (Or.inl ⟨by kernel_rfl, ?_⟩) (fun _ => by assumption) ?_
  rotate_left
  · intro V hV; clear hV; go_simp; try (with_reducible rfl)
  try simp only [Act.put, List.getElem_toArray, List.getElem_cons_succ, List.getElem_cons_zero, List.setIfInBounds_toArray, List.set_cons_zero, List.set_cons_succ]
  refine wpAnyT_one (i := 24) (by kernel_rfl) rfl (fun K hK => ?_)
  go_simp
  refine hK.out _ _ (fun _ => k0.out _ K9.out) ?_
  clear hK K S5
  try simp only [Act.put, List.getElem_toArray, List.getElem_cons_succ, List.getElem_cons_zero, List.setIfInBounds_toArray, List.set_cons_zero, List.set_cons_succ]
  refine wpAnyT_done (by kernel_rfl) ?_ _
  go_wp2_with fail
  go_ret
  exact ⟨rfl, B9.out⟩
end Go.Proofs.YtpodedhnlicckaaGreatDoor
