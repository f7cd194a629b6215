/- drop: one taken out of a route's conflicts. -/
import Derived.Test.YtpodedhnlicckaaGreatDoorTbMk
import Derived.Test.YtpodedhnlicckaaGreatDoorTake
namespace Go.Proofs.YtpodedhnlicckaaGreatDoor
open Go.RowKit
set_option linter.unusedVariables false
set_option linter.unusedSimpArgs false
theorem eqc_any (y x : Int) (xb : Nat) (w : World) (h : w.cell? ⟨xb, 0, none⟩ = some (.int .i64 x)) : Calls Tryz.prog 27 #[.int .i64 y, .pointer (some ⟨xb, 0, none⟩)] w fun e w' => e = .returned (.bool (y == x)) ∧ Below w.heap.size w w' := by
  cases t : (y == x)
  case true =>
    go_enter Tryz.func27, Tryz.ntmps27
    go_wp2_with fail
    go_ret
    exact ⟨rfl, Below.refl _ _⟩
  case false =>
    go_enter Tryz.func27, Tryz.ntmps27
    go_wp2_with fail
    go_ret
    exact ⟨rfl, Below.refl _ _⟩
def outOf (l : List Int) (x : Int) : List Int := l.filter fun y => !(y == x)
set_option maxRecDepth 100000 in
set_option maxHeartbeats 8000000 in
theorem drop_any (w : World) (T : Tab) (mb rb : Nat) (vp rv : Value) (VV : Nat → Value) (c : Nat → List Int) (i : Nat) (x : Int) (hM : Made w T mb rb vp rv VV c) (hi : i < T.rts.length) (hn : T.rts.length ≤ 60) (hc0 : 0 < (c i).length) (hc1 : (c i).length ≤ 60) :
    Calls Tryz.prog 24 #[.int .i64 (i : Int), .int .i64 x, .pointer (some ⟨mb, 0, none⟩)] w fun e w' => (e = .returned (.tuple #[]) ∧ ∃ VV', Made w' T mb rb vp rv VV' (fun k => if k = i then outOf (c i) x else c k)) ∧ Only (fun b => b = rb) w w' := by
  obtain ⟨w1, hw1⟩ : ∃ z, z = w.alloc (.cells #[.int .i64 x] 3) := ⟨_, rfl⟩
  have B1 : Hid (Below w.heap.size w w1) := by rw [hw1]; exact tb_alloc_below _ _
  have M1 := Lib.hid (hM.below B1.out)
  have KX : Hid (w1.heap[w.heap.size]? = some (.cells #[.int .i64 x] 3 (0, 0))) := by rw [hw1]; exact heap_alloc_new _ _
  have HW1 := Lib.hid hw1
  obtain ⟨a, cp, hrv, h2, h3, h4⟩ := M1.out.row
  obtain ⟨rfl, hr⟩ := h4 (by omega)
  obtain ⟨ca, cc, hcv, u3, u4, _⟩ := (M1.out.rts i hi).con.at_
  have HCI : Hid (IntsAt w1 (VV (i * 6 + 4)) (c i)) := (M1.out.rts i hi).con
  obtain ⟨n, hnl⟩ : ∃ n, n = (c i).length := ⟨_, rfl⟩
  have hcv2 : VV (i * 6 + 4) = .slice ca n cc := by rw [hnl]; exact hcv
  have c3 : w1.cell? ⟨mb, 3, none⟩ = some (.slice (some ⟨rb, 0, none⟩) T.rts.length cp) := by rw [← hrv]; exact cell_row (j := 3) M1.out.box rfl
  have r4 : w1.cell? ⟨rb, i * 6 + 4, none⟩ = some (.slice ca n cc) := by rw [← hcv2]; exact hr.cell (by omega)
  have HRB := Lib.hid hr.lt
  have HMB : Hid (mb < w1.heap.size) := heap_lt M1.out.box
  have f4 := Lib.hid (hr.frozen (i * 6 + 4))
  rw [hcv2] at HCI
  have HI0 := Lib.hid hi
  obtain ⟨m, hm⟩ : ∃ m, m = T.rts.length := ⟨_, rfl⟩
  rw [← hm] at c3 hi hn h2
  unfold maxLen at h3 u4
  have HM := Lib.hid hm; have HNL := Lib.hid hnl
  have HI := Lib.hid hi
  have u3 : (c i).length ≤ cc := u3
  rw [← hnl] at hc0 hc1 u3
  have i0 : (0 : Int) ≤ (i : Int) := by omega
  have i1 : (i : Int) < (m : Int) := by omega
  have t1 : decide (m ≤ i) = false := decide_eq_false (by omega)
  clear hw1 hM hcv hcv2 hr h4 hrv hm hnl
  go_enter Tryz.func24, Tryz.ntmps24
  go_upto_region 1 with fail
  rw [← HW1.out]
  clear HW1
  obtain ⟨xb, hxb⟩ : ∃ z, z = w.heap.size := ⟨_, rfl⟩
  rw [← hxb] at KX ⊢
  have HXB := Lib.hid hxb
  clear hxb
  have KS : Hid (∀ W : World, (W.cell? ⟨mb, 3, none⟩ = some (.slice (some ⟨rb, 0, none⟩) m cp) ∧ W.cell? ⟨rb, i * 6 + 4, none⟩ = some (.slice ca n cc)) → (W.cell? ⟨mb, 3, none⟩ = some (.slice (some ⟨rb, 0, none⟩) m cp) ∧ W.cell? ⟨rb, i * 6 + 4, none⟩ = some (.slice ca n cc))) := fun W h => h
  have kb : Hid (∀ W : World, Below w1.heap.size w1 W → (W.cell? ⟨mb, 3, none⟩ = some (.slice (some ⟨rb, 0, none⟩) m cp) ∧ W.cell? ⟨rb, i * 6 + 4, none⟩ = some (.slice ca n cc))) := by
    have h1 := c3; have h2 := r4; have h3 := HMB.out; have h4 := HRB.out
    exact fun W hW => ⟨(hW.cell h3).trans h1, (hW.cell h4).trans h2⟩
  refine wp_region_T (fun W => W.cell? ⟨mb, 3, none⟩ = some (.slice (some ⟨rb, 0, none⟩) m cp) ∧ W.cell? ⟨rb, i * 6 + 4, none⟩ = some (.slice ca n cc)) [14] (by kernel_rfl) ?_
  change wpAnyT _ _ _ _ _ _ _ _ _ (World.drew _)
  have S1 := kb.out w1.drew (Below.drew (Below.refl _ w1))
  clear c3 r4
  refine wpAnyT_pure (i := 0) (v := ?_) rfl (by kernel_rfl) (by kernel_rfl) (by kernel_rfl) (by kernel_rfl) (fun _ _ _ h => h) (Or.inl ⟨by kernel_rfl, ?_⟩) (fun _ => by assumption) ?_
  rotate_left
  · intro V hV; clear hV; go_simp; try (with_reducible rfl)
  try simp only [Act.put, List.getElem_toArray, List.getElem_cons_succ, List.getElem_cons_zero, List.setIfInBounds_toArray, List.set_cons_zero, List.set_cons_succ]
  refine wpAnyT_take (i := 1) (v := ?_) rfl (by kernel_rfl) (by kernel_rfl) (by kernel_rfl) (by kernel_rfl) (fun _ _ _ h => h) (Or.inl ⟨by kernel_rfl, ?_⟩) (by assumption) ?_
  rotate_left
  · intro V hV; have k := KS.out V hV; clear hV; go_simp; try (with_reducible rfl)
  try simp only [Act.put, List.getElem_toArray, List.getElem_cons_succ, List.getElem_cons_zero, List.setIfInBounds_toArray, List.set_cons_zero, List.set_cons_succ]
  refine wpAnyT_pure (i := 2) (v := ?_) rfl (by kernel_rfl) (by kernel_rfl) (by kernel_rfl) (by kernel_rfl) (fun _ _ _ h => h) (Or.inl ⟨by kernel_rfl, ?_⟩) (fun _ => by assumption) ?_
  rotate_left
  · intro V hV; clear hV; go_simp; try (with_reducible rfl)
  try simp only [Act.put, List.getElem_toArray, List.getElem_cons_succ, List.getElem_cons_zero, List.setIfInBounds_toArray, List.set_cons_zero, List.set_cons_succ]
  refine wpAnyT_pure (i := 3) (v := ?_) rfl (by kernel_rfl) (by kernel_rfl) (by kernel_rfl) (by kernel_rfl) (fun _ _ _ h => h) (Or.inl ⟨by kernel_rfl, ?_⟩) (fun _ => by assumption) ?_
  rotate_left
  · intro V hV; clear hV; go_simp; try (with_reducible rfl)
  try simp only [Act.put, List.getElem_toArray, List.getElem_cons_succ, List.getElem_cons_zero, List.setIfInBounds_toArray, List.set_cons_zero, List.set_cons_succ]
  refine wpAnyT_take (i := 4) (v := ?_) rfl (by kernel_rfl) (by kernel_rfl) (by kernel_rfl) (by kernel_rfl) (fun _ _ _ h => h) (Or.inl ⟨by kernel_rfl, ?_⟩) (by assumption) ?_
  rotate_left
  · intro V hV; have k := KS.out V hV; clear hV; go_simp; try (with_reducible rfl)
  try simp only [Act.put, List.getElem_toArray, List.getElem_cons_succ, List.getElem_cons_zero, List.setIfInBounds_toArray, List.set_cons_zero, List.set_cons_succ]
  refine wpAnyT_pure (i := 5) (v := ?_) rfl (by kernel_rfl) (by kernel_rfl) (by kernel_rfl) (by kernel_rfl) (fun _ _ _ h => h) (Or.inl ⟨by kernel_rfl, ?_⟩) (fun _ => by assumption) ?_
  rotate_left
  · intro V hV; clear hV; go_simp; try (with_reducible rfl)
  try simp only [Act.put, List.getElem_toArray, List.getElem_cons_succ, List.getElem_cons_zero, List.setIfInBounds_toArray, List.set_cons_zero, List.set_cons_succ]
  refine wpAnyT_pure (i := 6) (v := ?_) rfl (by kernel_rfl) (by kernel_rfl) (by kernel_rfl) (by kernel_rfl) (fun _ _ _ h => h) (Or.inl ⟨by kernel_rfl, ?_⟩) (fun _ => by assumption) ?_
  rotate_left
  · intro V hV; clear hV; go_simp; try (with_reducible rfl)
  try simp only [Act.put, List.getElem_toArray, List.getElem_cons_succ, List.getElem_cons_zero, List.setIfInBounds_toArray, List.set_cons_zero, List.set_cons_succ]
  refine wpAnyT_pure (i := 7) (v := ?_) rfl (by kernel_rfl) (by kernel_rfl) (by kernel_rfl) (by kernel_rfl) (fun _ _ _ h => h) (Or.inl ⟨by kernel_rfl, ?_⟩) (fun _ => by assumption) ?_
  rotate_left
  · intro V hV; clear hV; go_simp; try (with_reducible rfl)
  try simp only [Act.put, List.getElem_toArray, List.getElem_cons_succ, List.getElem_cons_zero, List.setIfInBounds_toArray, List.set_cons_zero, List.set_cons_succ]
  refine wpAnyT_take (i := 8) (v := ?_) rfl (by kernel_rfl) (by kernel_rfl) (by kernel_rfl) (by kernel_rfl) (fun _ _ _ h => h) (Or.inl ⟨by kernel_rfl, ?_⟩) (by assumption) ?_
  rotate_left
  · intro V hV; have k := KS.out V hV; clear hV; go_simp; try (with_reducible rfl)
  try simp only [Act.put, List.getElem_toArray, List.getElem_cons_succ, List.getElem_cons_zero, List.setIfInBounds_toArray, List.set_cons_zero, List.set_cons_succ]
  refine wpAnyT_pure (i := 10) (v := ?_) rfl (by kernel_rfl) (by kernel_rfl) (by kernel_rfl) (by kernel_rfl) (fun _ _ _ h => h) (Or.inl ⟨by kernel_rfl, ?_⟩) (fun _ => by assumption) ?_
  rotate_left
  · intro V hV; clear hV; go_simp; try (with_reducible rfl)
  try simp only [Act.put, List.getElem_toArray, List.getElem_cons_succ, List.getElem_cons_zero, List.setIfInBounds_toArray, List.set_cons_zero, List.set_cons_succ]
  have HCS : Hid (SliceAt w1.drew ca (n * 1) (intV .i64 (c i))) := by
    obtain ⟨a', c', e, _, _, h⟩ := HCI.out.at_
    cases e
    show SliceAt w1.drew ca (_ * 1) _
    rw [Nat.mul_one]
    exact h.below (Below.drew (Below.refl _ w1))
  have HCL := Lib.hid (clone_int ca n cc (intV .i64 (c i)) w1.drew (fun _ _ => rfl) (by omega) HCS.out)
  refine wpAnyT_one (i := 9) (by kernel_rfl) rfl (fun K hK => ?_)
  go_simp
  refine HCL.out.mono ?_
  rintro e w2 ⟨v, rfl, ⟨b, hS, hb⟩, hb2⟩
  have B12 : Hid (Below w1.heap.size w1 w2) := (Below.drew (Below.refl _ w1)).trans hb2
  obtain ⟨a2, cc2, rfl, k2, k3, k4⟩ := hS
  obtain ⟨rfl, hrow⟩ := k4 hc0
  have HBB : Hid (w1.heap.size ≤ b) := (hb hc0).1
  have KX2 := Lib.hid (tb_kept KX.out B12.out)
  have HXL : Hid (xb < w1.heap.size) := heap_lt KX.out
  have HDF := Lib.hid (delF_any b n cc2 (c i) 27 #[.pointer (some ⟨xb, 0, none⟩)] (fun y => y == x) w2 HNL.out hc0 k2 k3 (by omega) (by rw [Nat.mul_one] at hrow; exact hrow) HCI.out.ok (enters_of Tryz.func27 (by kernel_rfl) rfl)
    (fun j hj W hW => eqc_any _ x xb W (cell_row (j := 0) ((hW.block xb (heap_lt KX2.out) (by have := HBB.out; have := HXL.out; omega)).trans KX2.out) rfl)))
  have HLT : Hid (b < w2.heap.size) := hrow.lt
  go_simp
  refine hK.out _ _ (fun _ => kb.out _ B12.out) ?_
  have S2 := kb.out _ B12.out
  clear hK K S1 hb2 hrow k4 hb HCL HCS
  try simp only [Act.put, List.getElem_toArray, List.getElem_cons_succ, List.getElem_cons_zero, List.setIfInBounds_toArray, List.set_cons_zero, List.set_cons_succ]
  refine wpAnyT_one (i := 11) (by kernel_rfl) rfl (fun K hK => ?_)
  go_simp
  refine HDF.out.mono ?_
  rintro e w3 ⟨rfl, hrow, ho⟩
  have B13 : Hid (Below w1.heap.size w1 w3) := B12.out.trans (ho.below B12.out.size (fun q hq hm => by have := HBB.out; omega))
  have RW := Lib.hid hrow
  have hlf : leftI (fun y => y == x) (c i) n = outOf (c i) x := by unfold leftI outOf; rw [HNL.out, List.take_length]
  rw [hlf] at RW
  rw [hlf]
  clear hlf
  go_simp
  refine hK.out _ _ (fun _ => kb.out _ B13.out) ?_
  have S3 := kb.out _ B13.out
  clear hK K S2 hrow ho HDF
  try simp only [Act.put, List.getElem_toArray, List.getElem_cons_succ, List.getElem_cons_zero, List.setIfInBounds_toArray, List.set_cons_zero, List.set_cons_succ]
  obtain ⟨L, hL⟩ : ∃ z, z = (outOf (c i) x).length := ⟨_, rfl⟩
  rw [← hL] at RW ⊢
  have HLL := Lib.hid hL
  have hLn : (outOf (c i) x).length ≤ (c i).length := List.length_filter_le _ _
  have hLc : L ≤ cc2 := by rw [hL]; have := HNL.out; omega
  have HLC := Lib.hid hLc
  have HC2 := Lib.hid k3
  clear hL hLn hLc
  refine wpAnyT_pure (i := 12) (v := ?_) rfl (by kernel_rfl) (by kernel_rfl) (by kernel_rfl) (by kernel_rfl) (fun _ _ _ h => h) (Or.inl ⟨by kernel_rfl, ?_⟩) (fun _ => by assumption) ?_
  rotate_left
  · intro V hV; clear hV; go_simp; try (with_reducible rfl)
  try simp only [Act.put, List.getElem_toArray, List.getElem_cons_succ, List.getElem_cons_zero, List.setIfInBounds_toArray, List.set_cons_zero, List.set_cons_succ]
  refine wpAnyT_pure (i := 13) (v := ?_) rfl (by kernel_rfl) (by kernel_rfl) (by kernel_rfl) (by kernel_rfl) (fun _ _ _ h => h) (Or.inl ⟨by kernel_rfl, ?_⟩) (fun _ => by assumption) ?_
  rotate_left
  · intro V hV; clear hV; go_simp; try (with_reducible rfl)
  try simp only [Act.put, List.getElem_toArray, List.getElem_cons_succ, List.getElem_cons_zero, List.setIfInBounds_toArray, List.set_cons_zero, List.set_cons_succ]
  have e4 : w3.cell? ⟨rb, i * 6 + 4, none⟩ = some (.slice ca n cc) := S3.2
  have M3 := Lib.hid (M1.out.below B13.out)
  have g4 : w3.frozen? ⟨rb, i * 6 + 4, none⟩ = false := by
    obtain ⟨_, _, _, _, _, h⟩ := M3.out.row
    exact (h (by have := HI0.out; omega)).2.frozen _
  clear S3
  refine wpAnyT_one (i := 14) (by kernel_rfl) rfl (fun K hK => ?_)
  go_simp
  refine hK.out _ _ (fun h => absurd (show false = true from h) (by decide)) ?_
  clear hK K
  try simp only [Act.put, List.getElem_toArray, List.getElem_cons_succ, List.getElem_cons_zero, List.setIfInBounds_toArray, List.set_cons_zero, List.set_cons_succ]
  refine wpAnyT_done (by kernel_rfl) ?_ _
  have HXI : Hid (IntsAt w3 (.slice (some ⟨b, 0, none⟩) L cc2) (outOf (c i) x)) := ⟨⟨_, cc2, by rw [← HLL.out], by rw [← HLL.out]; exact HLC.out, HC2.out, .inr ⟨b, 0, rfl, RW.out.lt, fun q hq => by rw [Nat.zero_add]; exact RW.out.cell (by rw [HLL.out]; exact hq)⟩⟩, fun q hq => by
    have hm : (outOf (c i) x).getD q 0 ∈ c i := (List.mem_filter.1 (getD_mem hq)).1
    obtain ⟨r, hr, e⟩ := List.mem_iff_getElem.1 hm
    have := HCI.out.ok r hr
    rw [List.getD_eq_getElem?_getD, List.getElem?_eq_getElem hr] at this
    rw [← e]; exact this⟩
  have ME := Lib.hid (M3.out.put HI0.out HXI.out (fun b' o k d e _ => by cases e; have := HBB.out; have := HRB.out; omega))
  have OE : Hid (Only (fun q => q = rb) w (w3.setCell ⟨rb, i * 6 + 4, none⟩ (.slice (some ⟨b, 0, none⟩) L cc2))) := (Only.of_below _ (B1.out.trans (B13.out.mono B1.out.size))).set _ _ (.inr rfl)
  go_end0
  exact ⟨⟨rfl, _, ME.out⟩, OE.out⟩
end Go.Proofs.YtpodedhnlicckaaGreatDoor
