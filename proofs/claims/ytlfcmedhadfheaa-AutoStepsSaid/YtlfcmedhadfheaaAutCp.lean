/- Copy. -/
import Derived.Test.YtlfcmedhadfheaaAutRt
import Derived.Test.YtlfcmedhadfheaaCln2
namespace Go.Proofs.Ytlfcmedhadfheaa
open Go.RowKit
set_option linter.unusedVariables false
set_option linter.unusedSimpArgs false
theorem copy_nil (w : World) : Calls Try.prog 17 #[.pointer none] w fun e w' => e = .returned (.pointer none) ∧ w = w' := by
  go_enter Try.func17, Try.ntmps17
  go_wp2_with fail
  go_ret
  exact ⟨rfl, rfl⟩
/-- The automaton copied: the same table, blocks of its own. -/
def CopyP (u : Au) (S : AS) (w : World) (e : Ending) (w' : World) : Prop := ∃ u', e = .returned (.pointer (some ⟨u'.g, 0, none⟩)) ∧ AutoAt w' u' S ∧ u'.T = u.T ∧ u'.w0 = u.w0 ∧ w.heap.size ≤ u'.g ∧ w.heap.size ≤ u'.rb ∧ (0 < u.T.pts.length → w.heap.size ≤ u'.pb) ∧ (u.T.pts.length = 0 → u'.pb = u.pb) ∧ Below w.heap.size w w'
set_option maxHeartbeats 8000000 in
theorem copy_any (u : Au) (S : AS) (w : World) (h : AutoAt w u S) (hN : u.T.rts.length ≤ 16) (hN1 : 0 < u.T.rts.length) (hP : u.T.pts.length ≤ 12) :
    Calls Try.prog 17 #[.pointer (some ⟨u.g, 0, none⟩)] w (CopyP u S w) := by
  have H := Lib.hid h
  obtain ⟨sc, hvs, hs1, hs2, hrow⟩ := h.rs
  obtain ⟨pa, pc, hvp, hp1, hp2, hp3⟩ := h.ps.slice
  obtain ⟨ra, rc, C0, hvr, hrl, hrc, _⟩ := h.tr.at_
  obtain ⟨⟨ta, tc, hvt, htl, htm, _⟩, _⟩ := h.tp
  have hrs : SliceAt w (some ⟨u.rb, 0, none⟩) (u.T.rts.length * 4) (rsV S.R) := .inr ⟨u.rb, 0, rfl, h.rlt, fun i hi => by rw [Nat.zero_add]; exact hrow.cell hi⟩
  have HRS := Lib.hid hrs; have HPS := Lib.hid hp3
  have HV1 := Lib.hid hvs; have HV2 := Lib.hid hvp; have HV3 := Lib.hid hvr; have HV4 := Lib.hid hvt
  have HC : Hid (∀ V : World, Below w.heap.size w V → ((V.cell? ⟨u.g, 0, none⟩ = some (.int .i64 u.T.tracks) ∧ V.cell? ⟨u.g, 1, none⟩ = some (.slice ta u.T.pts.length tc) ∧ V.cell? ⟨u.g, 2, none⟩ = some (.int .i64 u.T.sigs) ∧ V.cell? ⟨u.g, 3, none⟩ = some (.slice ra u.T.rts.length rc)) ∧ V.cell? ⟨u.g, 4, none⟩ = some (.slice (some ⟨u.rb, 0, none⟩) u.T.rts.length sc) ∧ V.cell? ⟨u.g, 5, none⟩ = some (.slice pa u.T.pts.length pc))) := fun V hV => by
    have hA := H.out.below hV
    rw [← hvs, ← hvp, ← hvr, ← hvt]
    exact ⟨⟨cell_row hA.obj rfl, cell_row hA.obj rfl, cell_row hA.obj rfl, cell_row hA.obj rfl⟩, cell_row hA.obj rfl, cell_row hA.obj rfl⟩
  have B0 : Hid (Below w.heap.size w w.drew) := (Below.refl _ w).drew
  have HN1 := Lib.hid hN1; have HNN := Lib.hid hN; have HPP := Lib.hid hP
  clear hrs hp3 hvs hvp hvr hvt hrow h
  unfold maxLen at hs2 hp2
  generalize hm : u.T.rts.length = m at *
  generalize hmp : u.T.pts.length = mp at *
  have HM := Lib.hid hm; have HMP := Lib.hid hmp
  clear hm hmp
  go_enter Try.func17, Try.ntmps17
  go_wp2_with fail
  go_region_held3 (fun V => ((V.cell? ⟨u.g, 0, none⟩ = some (.int .i64 u.T.tracks) ∧ V.cell? ⟨u.g, 1, none⟩ = some (.slice ta mp tc) ∧ V.cell? ⟨u.g, 2, none⟩ = some (.int .i64 u.T.sigs) ∧ V.cell? ⟨u.g, 3, none⟩ = some (.slice ra m rc)) ∧ V.cell? ⟨u.g, 4, none⟩ = some (.slice (some ⟨u.rb, 0, none⟩) m sc) ∧ V.cell? ⟨u.g, 5, none⟩ = some (.slice pa mp pc)))
    (first | exact HC.out _ (B2.out.alloc B2.out.size _) | exact HC.out _ B2.out | exact HC.out _ B1.out | exact HC.out _ B0.out)
    (first
      | (have _tok := B1; go_at_call 39; (with_reducible refine (clone_u8 pa mp pc (psV S.C) w1 (fun _ _ => rfl) (by omega) (by rw [Nat.mul_one]; exact HPS.out.below B1.out)).mono ?_); rintro e w2 ⟨v2, rfl, ⟨b2, hs2, hb2⟩, hbb⟩; obtain ⟨a2, c2, rfl, hs2⟩ := hs2; have S2 := Lib.hid hs2; have L2 := Lib.hid hb2; have C2 := Lib.hid hbb; have B2 : Hid (Below w.heap.size w w2) := B1.out.trans (hbb.mono B1.out.size); clear hs2 hb2 hbb)
      | (go_at_call 38; (with_reducible refine (clone_ar (some ⟨u.rb, 0, none⟩) m sc (rsV S.R) w.drew (fun _ _ => by unfold rsV; exact rcV_one _ _) (by omega) (HRS.out.below B0.out)).mono ?_); rintro e w1 ⟨v1, rfl, ⟨b1, hs1, hb1⟩, hbb⟩; obtain ⟨a1, c1, rfl, hs1⟩ := hs1; have S1 := Lib.hid hs1; have L1 := Lib.hid hb1; have B1 : Hid (Below w.heap.size w w1) := B0.out.trans hbb; clear hs1 hb1 hbb))
  rename_i hheld
  clear hheld
  have HB : Hid (Below w2.heap.size w2 (w2.alloc (.cells #[.int .i64 u.T.tracks, .slice ta mp tc, .int .i64 u.T.sigs, .slice ra m rc, .slice a1 m c1, .slice a2 mp c2] 71))) := tb_alloc_below _ _
  have HNEW : Hid ((w2.alloc (.cells #[.int .i64 u.T.tracks, .slice ta mp tc, .int .i64 u.T.sigs, .slice ra m rc, .slice a1 m c1, .slice a2 mp c2] 71)).heap[w2.heap.size]? = some (.cells #[.int .i64 u.T.tracks, .slice ta mp tc, .int .i64 u.T.sigs, .slice ra m rc, .slice a1 m c1, .slice a2 mp c2] 71 (0, 0))) := heap_alloc_new _ _
  have HSZ : Hid ((w2.alloc (.cells #[.int .i64 u.T.tracks, .slice ta mp tc, .int .i64 u.T.sigs, .slice ra m rc, .slice a1 m c1, .slice a2 mp c2] 71)).heap.size = w2.heap.size + 1) := Array.size_push _
  generalize w2.alloc (.cells #[.int .i64 u.T.tracks, .slice ta mp tc, .int .i64 u.T.sigs, .slice ra m rc, .slice a1 m c1, .slice a2 mp c2] 71) = w3 at *
  go_wp2_with fail
  go_ret
  obtain ⟨s1, s2, s3⟩ := S1.out
  obtain ⟨t1, t2, t3⟩ := S2.out
  obtain ⟨e1, r1⟩ := s3 HN1.out
  obtain ⟨x1, y1⟩ := L1.out HN1.out
  have z1 : w.drew.heap.size = w.heap.size := rfl
  have q1 := B1.out.size; have q2 := C2.out.size; have q3 := HSZ.out
  have q0 := H.out.bel.size
  have qg := heap_lt H.out.obj; have qr := H.out.rlt; have qp := H.out.pl
  have gp := H.out.gp; have rp := H.out.rp; have pB := H.out.pB
  have hb2 : 0 < mp → w1.heap.size ≤ b2 ∧ b2 < w2.heap.size := L2.out
  refine ⟨⟨u.w0, w2.heap.size, b1, if mp = 0 then u.pb else b2, u.vp, u.vr, .slice a1 m c1, .slice a2 mp c2, u.T⟩, rfl, ⟨?_, H.out.tp, H.out.tr, ?_, ⟨c1, by rw [HM.out, e1], by rw [HM.out]; exact s1, s2, ?_⟩, ?_, ?_, ?_, ?_, ?_, ?_, ?_, ?_⟩, rfl, rfl, ?_, ?_, ?_, ?_, ?_⟩
  · show w3.heap[w2.heap.size]? = some (.cells #[.int .i64 u.T.tracks, u.vp, .int .i64 u.T.sigs, u.vr, .slice a1 m c1, .slice a2 mp c2] 71 (0, 0))
    rw [HV3.out, HV4.out]; exact HNEW.out
  · exact H.out.bel.trans ((B2.out.trans (HB.out.mono B2.out.size)).mono q0)
  · show RowAt w3 b1 _ (u.T.rts.length * 4) _
    rw [HM.out]
    exact (r1.same (C2.out.block _ y1)).same (HB.out.block _ (by omega))
  · show SlAt w3 (.slice a2 mp c2) (if mp = 0 then u.pb else b2) _ u.T.pts.length _
    rw [HMP.out]
    refine ⟨a2, c2, rfl, t1, t2, fun hp => ?_⟩
    obtain ⟨e2, r2⟩ := t3 hp
    rw [if_neg (by omega)]
    rw [Nat.mul_one] at r2
    exact ⟨e2, r2.same (HB.out.block _ (hb2 hp).2)⟩
  · show u.w0.heap.size ≤ w2.heap.size; omega
  · show u.w0.heap.size ≤ b1; omega
  · show u.w0.heap.size ≤ if mp = 0 then u.pb else b2
    split
    · exact pB
    · have := hb2 (by omega); omega
  · show w2.heap.size ≠ b1; omega
  · show w2.heap.size ≠ if mp = 0 then u.pb else b2
    split
    · omega
    · have := hb2 (by omega); omega
  · show b1 ≠ if mp = 0 then u.pb else b2
    split
    · omega
    · have := hb2 (by omega); omega
  · show (if mp = 0 then u.pb else b2) < w3.heap.size
    split
    · omega
    · have := hb2 (by omega); omega
  · show w.heap.size ≤ w2.heap.size; omega
  · show w.heap.size ≤ b1; omega
  · intro hp
    show w.heap.size ≤ if mp = 0 then u.pb else b2
    rw [HMP.out] at hp
    rw [if_neg (by omega)]
    have := hb2 hp; omega
  · intro hp
    show (if mp = 0 then u.pb else b2) = u.pb
    rw [HMP.out] at hp
    rw [if_pos hp]
  · exact B2.out.trans (HB.out.mono B2.out.size)
end Go.Proofs.Ytlfcmedhadfheaa
