/- A line of a point. -/
import Derived.Test.YtpodedhnlicckaaGreatDoorTbTn
namespace Go.Proofs.YtpodedhnlicckaaGreatDoor
open Go.Shelf Go.RowKit Go.Sort
set_option linter.unusedVariables false
set_option linter.unusedSimpArgs false
theorem headIs_part {q : ByteArray} {r : List ByteArray} {l : List UInt8} (h : datL (q :: r) = partL 32 l) : (partL 32 l).head? = some q.data.toList := by rw [← h]; rfl
def PS (tb j : Nat) (v : Value) (V : World) : Prop := V.cell? ⟨tb, j, none⟩ = some v
set_option maxHeartbeats 8000000 in
set_option maxRecDepth 100000 in
theorem lineP_any (C tb n : Nat) (T : Tab) (s : ByteArray) (w : World) (hT : TM C tb T w) (hs : s.size ≤ 8000) (hM : MaxW w) (hC : C ≤ w.heap.size) (hn : 2 ≤ n) (hn2 : n ≤ 1000000) (hp : T.pts.length ≤ 1000000) (hr : T.rts = []) (hh : (partL 32 s.data.toList).head? = some wPt) :
    Calls Tryz.prog 32 #[.pointer (some ⟨tb, 0, none⟩), .int .i64 (n : Int), .string s] w (LineP C tb T n s.data.toList w) := by
  have HT := Lib.hid hT; have HC := Lib.hid hC; have HRT := Lib.hid hr; have HH := Lib.hid hh
  obtain ⟨i0, hi, hz0, hz1, hz2⟩ := tb_info infoI
  have HIn := Lib.hid hi; have HZ0 := Lib.hid hz0; have HZ1 := Lib.hid hz1; have HZ2 := Lib.hid hz2
  clear hi hz0 hz1 hz2
  have HSP := Lib.hid (split_any s w (by omega) hM)
  have HTZ : Hid (tb < w.heap.size) := by obtain ⟨_, _, _, h, _⟩ := hT.at_; exact heap_lt h
  have HWN := Lib.hid (words_ne s)
  have HWD := Lib.hid (words_dat s)
  have HSZ : Hid (∀ w1 : World, w1 = w.alloc (.cells ((wordsB s).map Value.string).toArray 9) → RdAt w1.heap.size w.heap.size (wordsB s) (wordsB s) false (w1.alloc (.cells #[.slice (some ⟨w.heap.size, 0, none⟩) (wordsB s).length (wordsB s).length, .bool false] 96)) ∧ Below w.heap.size w (w1.alloc (.cells #[.slice (some ⟨w.heap.size, 0, none⟩) (wordsB s).length (wordsB s).length, .bool false] 96)) ∧ w1.heap.size = w.heap.size + 1) := fun w1 h => rd_first s w w1 hs h
  generalize wordsB s = all at *
  clear hT hC hr hh
  have tn0 : ((n : Int) == 0) = false := beq_eq_false_iff_ne.2 (by omega)
  have tn1 : ((n : Int) == 1) = false := beq_eq_false_iff_ne.2 (by omega)
  go_enter Tryz.func32, Tryz.ntmps32
  go_wp2_with fail
  refine HSP.out.mono ?_
  rintro e w1 ⟨rfl, hw1⟩
  obtain ⟨hr2, hb2, hz1⟩ := HSZ.out w1 hw1
  have HR2 := Lib.hid hr2; have HB2 := Lib.hid hb2; have HZ1 := Lib.hid hz1
  clear hr2 hb2 hz1 hw1 HSP HSZ
  go_upto_region 23 with fail
  generalize w1.alloc (.cells #[.slice (some ⟨w.heap.size, 0, none⟩) all.length all.length, .bool false] 96) = w2 at *
  obtain ⟨rb, hrb⟩ : ∃ rb, rb = w1.heap.size := ⟨_, rfl⟩
  obtain ⟨sb, hsb⟩ : ∃ sb, sb = w.heap.size := ⟨_, rfl⟩
  rw [← hrb] at HR2 HZ1 ⊢
  rw [← hsb] at HR2 HZ1 HTZ HC HB2
  have HRB : Hid (sb < rb) := by have := HZ1.out; show _ < _; omega
  clear hrb HZ1
  have HSB := Lib.hid hsb
  clear hsb
  have HT2 : Hid (TM C tb T w2) := HT.out.old (by rw [← HSB.out]; exact HB2.out)
  obtain ⟨vp, vr, zs, h1, h2, h3, h4, _⟩ := HT2.out.at_
  have hz : zs = [] := by rw [HRT.out] at h4; exact List.map_eq_nil_iff.1 h4.symm
  subst hz
  obtain ⟨ra, rc, rfl⟩ := own_sl h3
  have cc : w2.cell? ⟨tb, 3, none⟩ = some (.slice ra 0 rc) := cell_row h1 rfl
  cases all with
  | nil => exact absurd rfl HWN.out
  | cons q r =>
    have hq : q = { data := #[112, 111, 105, 110, 116] } := (bytes_eq (l := wPt)).2 (by have := headIs_part HWD.out; rw [HH.out] at this; exact (Option.some.inj this).symm)
    subst hq
    obtain ⟨o, hb1, x0, hsl, h3'⟩ := HR2.out.head
    have hl := HR2.out.left
    have hl : r.length + 1 ≤ 1000000 := by simpa using hl
    have d0 : w2.cell? ⟨rb, 0, none⟩ = some (.slice (some ⟨sb, o, none⟩) (r.length + 1) (r.length + 1)) := cell_row hb1 rfl
    have HX : Hid (twoC bPt (({ data := #[112, 111, 105, 110, 116] } : ByteArray) :: r) = twoC1 (wordS (({ data := #[112, 111, 105, 110, 116] } : ByteArray) :: r) false ({ data := #[112, 111, 105, 110, 116] } : ByteArray))) := by show _ = _; rfl
    clear h1 h2 h3 h4 hb1 h3' HT2
    go_wp2_with fail
    refine (word_any rb sb (({ data := #[112, 111, 105, 110, 116] } : ByteArray) :: r) (({ data := #[112, 111, 105, 110, 116] } : ByteArray) :: r) false ({ data := #[112, 111, 105, 110, 116] } : ByteArray) w2 HR2.out).mono ?_
    rintro e w3 ⟨rfl, hr, ho⟩
    have HR3 := Lib.hid hr
    have HB3 : Hid (Below sb w w3) := HB2.out.trans (ho.below (by rw [HSB.out]; exact HB2.out.size) (fun i hi hm => by have := HRB.out; omega))
    clear hr ho HR2 HB2 d0 cc x0 hsl
    generalize wordS (({ data := #[112, 111, 105, 110, 116] } : ByteArray) :: r) false ({ data := #[112, 111, 105, 110, 116] } : ByteArray) = x1 at *
    obtain ⟨us1, bd1⟩ := x1
    have HX : Hid (twoC bPt (({ data := #[112, 111, 105, 110, 116] } : ByteArray) :: r) = numS2 us1 bd1) := HX.out
    have HXL : Hid ((numS2 us1 bd1).1 < 100000) := numS2_lt _ _
    have HNM := Lib.hid (fun W (h : RdAt rb sb (({ data := #[112, 111, 105, 110, 116] } : ByteArray) :: r) us1 bd1 W) => number_any rb sb (({ data := #[112, 111, 105, 110, 116] } : ByteArray) :: r) us1 bd1 W h)
    generalize numS2 us1 bd1 = x2 at *
    obtain ⟨x, us, bd⟩ := x2
    generalize hAL : ({ data := #[112, 111, 105, 110, 116] } : ByteArray) :: r = al at *
    have HT3 : Hid (TM C tb T w3) := HT.out.old (by rw [← HSB.out]; exact HB3.out)
    obtain ⟨vp, vr, zs, h1, h2, h3, h4, _⟩ := HT3.out.at_
    obtain ⟨pa, pc, rfl⟩ := own_sl h2
    have H2 := Lib.hid h2
    have HK := Lib.hid h1
    have KS : Hid (∀ V : World, PS tb 1 (.slice pa T.pts.length pc) V → V.cell? ⟨tb, 1, none⟩ = some (.slice pa T.pts.length pc)) := fun V h => h
    have HTL : Hid (tb ≠ rb ∧ tb ≠ sb) := ⟨by have := HTZ.out; have := HRB.out; omega, by have := HTZ.out; omega⟩
    have cc : w3.cell? ⟨tb, 1, none⟩ = some (.slice pa T.pts.length pc) := cell_row h1 rfl
    clear h1 h2 h3 h4
    go_upto_region 25 with fail
    refine wp_region_T (PS tb 1 (.slice pa T.pts.length pc)) [11] (by kernel_rfl) ?_
    change wpAnyT _ _ _ _ _ _ _ _ _ (World.drew _)
    have S1 : PS tb 1 (.slice pa T.pts.length pc) w3.drew := cc
    clear cc
    refine wpAnyT_pure (i := 0) (v := ?_) rfl (by kernel_rfl) (by kernel_rfl) (by kernel_rfl) (by kernel_rfl) (fun _ _ _ h => h) (Or.inl ⟨by kernel_rfl, ?_⟩) (fun _ => by assumption) ?_
    rotate_left
    · intro V hV; clear hV; go_simp; try (with_reducible rfl)
    try simp only [Act.put, List.getElem_toArray, List.getElem_cons_succ, List.getElem_cons_zero, List.setIfInBounds_toArray, List.set_cons_zero, List.set_cons_succ]
    refine wpAnyT_pure (i := 1) (v := ?_) rfl (by kernel_rfl) (by kernel_rfl) (by kernel_rfl) (by kernel_rfl) (fun _ _ _ h => h) (Or.inl ⟨by kernel_rfl, ?_⟩) (fun _ => by assumption) ?_
    rotate_left
    · intro V hV; clear hV; go_simp; try (with_reducible rfl)
    try simp only [Act.put, List.getElem_toArray, List.getElem_cons_succ, List.getElem_cons_zero, List.setIfInBounds_toArray, List.set_cons_zero, List.set_cons_succ]
    refine wpAnyT_pure (i := 2) (v := ?_) rfl (by kernel_rfl) (by kernel_rfl) (by kernel_rfl) (by kernel_rfl) (fun _ _ _ h => h) (Or.inl ⟨by kernel_rfl, ?_⟩) (fun _ => by assumption) ?_
    rotate_left
    · intro V hV; clear hV; go_simp; try (with_reducible rfl)
    try simp only [Act.put, List.getElem_toArray, List.getElem_cons_succ, List.getElem_cons_zero, List.setIfInBounds_toArray, List.set_cons_zero, List.set_cons_succ]
    refine wpAnyT_pure (i := 3) (v := ?_) rfl (by kernel_rfl) (by kernel_rfl) (by kernel_rfl) (by kernel_rfl) (fun _ _ _ h => h) (Or.inl ⟨by kernel_rfl, ?_⟩) (fun _ => by assumption) ?_
    rotate_left
    · intro V hV; clear hV; go_simp; try (with_reducible rfl)
    try simp only [Act.put, List.getElem_toArray, List.getElem_cons_succ, List.getElem_cons_zero, List.setIfInBounds_toArray, List.set_cons_zero, List.set_cons_succ]
    refine wpAnyT_take (i := 4) (v := ?_) rfl (by kernel_rfl) (by kernel_rfl) (by kernel_rfl) (by kernel_rfl) (fun _ _ _ h => h) (Or.inl ⟨by kernel_rfl, ?_⟩) (by assumption) ?_
    rotate_left
    · intro V hV; have k := KS.out V hV; clear hV; go_simp; try (with_reducible rfl)
    try simp only [Act.put, List.getElem_toArray, List.getElem_cons_succ, List.getElem_cons_zero, List.setIfInBounds_toArray, List.set_cons_zero, List.set_cons_succ]
    refine wpAnyT_pure (i := 5) (v := ?_) rfl (by kernel_rfl) (by kernel_rfl) (by kernel_rfl) (by kernel_rfl) (fun _ _ _ h => h) (Or.inl ⟨by kernel_rfl, ?_⟩) (fun _ => by assumption) ?_
    rotate_left
    · intro V hV; clear hV; go_simp; try (with_reducible rfl)
    try simp only [Act.put, List.getElem_toArray, List.getElem_cons_succ, List.getElem_cons_zero, List.setIfInBounds_toArray, List.set_cons_zero, List.set_cons_succ]
    refine wpAnyT_one (i := 6) (by kernel_rfl) rfl (fun K hK => ?_)
    go_simp
    have HRW : Hid (RdAt rb sb al us1 bd1 w3.drew) := HR3.out.kept (Below.drew (Below.refl _ w3))
    refine (HNM.out _ HRW.out).mono ?_
    rintro e w4 ⟨rfl, hr, ho⟩
    have HR4 : Hid (RdAt rb sb al us bd w4) := hr
    have HO4 : Hid (Only (fun i => i = rb) w3 w4) := ⟨ho.os, ho.tape, ho.output, ho.size, ho.block⟩
    have HB4 : Hid (Below sb w w4) := HB3.out.trans (HO4.out.below (by rw [HSB.out]; exact HB3.out.size) (fun i hi hm => by have := HRB.out; omega))
    have HK4 : Hid (w4.heap[tb]? = some (.cells #[.int .i64 T.tracks, .slice pa T.pts.length pc, .int .i64 T.sigs, vr] 25 (0, 0))) := (HO4.out.block tb (heap_lt HK.out) (by have := HTL.out.1; omega)).trans HK.out
    have HT4 : Hid (TM C tb T w4) := HT.out.old (by rw [← HSB.out]; exact HB4.out)
    have HO : Hid (w4.ownsRow C 3 1 (.slice pa T.pts.length pc) T.pts.length (intsV T.pts)) := by
      obtain ⟨a, h, _⟩ := HR3.out.at_
      exact tb_own H2.out HO4.out (fun k hk e => own_ne H2.out h (by decide) k hk e)
    have hxx : x < 100000 := HXL.out
    go_simp
    refine hK.out _ _ (fun _ => cell_row HK4.out rfl) ?_
    have S2 : PS tb 1 (.slice pa T.pts.length pc) w4 := cell_row HK4.out rfl
    clear hK K S1 hr ho HNM HR3 HB3 HK H2
    try simp only [Act.put, List.getElem_toArray, List.getElem_cons_succ, List.getElem_cons_zero, List.setIfInBounds_toArray, List.set_cons_zero, List.set_cons_succ]
    refine wpAnyT_one (i := 7) (by kernel_rfl) rfl (fun K hK => ?_)
    go_simp
    have HKA : Hid ((w4.alloc (.cells #[.int .i64 (x : Int)] 3)).heap[tb]? = some (.cells #[.int .i64 T.tracks, .slice pa T.pts.length pc, .int .i64 T.sigs, vr] 25 (0, 0))) := tb_kept HK4.out (tb_alloc_below _ _)
    refine hK.out _ _ (fun _ => cell_row HKA.out rfl) ?_
    clear hK K S2
    try simp only [Act.put, List.getElem_toArray, List.getElem_cons_succ, List.getElem_cons_zero, List.setIfInBounds_toArray, List.set_cons_zero, List.set_cons_succ]
    have HOA := Lib.hid (HO.out.alloc (.cells #[.int .i64 (x : Int)] 3))
    have HCW : Hid (C ≤ w4.heap.size) := Nat.le_trans (by have := HC.out; have := HSB.out; omega) HB4.out.size
    have HNR : Hid (∀ b c t fz, w4.heap[b]? = some (.cells c t fz) → t ≠ 3 → some b ≠ (Value.slice pa T.pts.length pc).ownBlock) := fun b c t fz h ht e => own_ne HO.out h ht b e.symm rfl
    refine wpAnyT_one (i := 8) (by kernel_rfl) rfl (fun K hK => ?_)
    refine step_append_lies _ (by rfl) _ _ _ (by rfl) C 3 i0 (.int .i64 0) 1 8 Tryz.underlying22 HIn.out HZ0.out HZ1.out HZ2.out rfl (by omega) _ T.pts.length (intsV T.pts) (by rfl) HOA.out ⟨w4.heap.size, 0, none⟩ 1 1 [.int .i64 (x : Int)] (by rfl) (by rfl) (cell_one_new _ _ _) (by simp [Value.oneCell']) (by omega) (by unfold maxLen; omega) (by omega) (by have := HCW.out; simp; omega) (w4.heap.size + 1) (by simp) ?_
    intro gg cap w8 hown8 hgrow hat hlt8
    have hOn := grown_only hgrow
    have h8 : w8.heap[tb]? = some (.cells #[.int .i64 T.tracks, .slice pa T.pts.length pc, .int .i64 T.sigs, vr] 25 (0, 0)) := (hOn.block tb (heap_lt HK4.out) (HNR.out tb _ _ _ HK4.out (by decide))).trans HK4.out
    have HR8 : Hid (RdAt rb sb al us bd w8) := by
      obtain ⟨ra, k1, k2⟩ := HR4.out.at_
      exact HR4.out.put ((hOn.block rb (heap_lt k1) (HNR.out rb _ _ _ k1 (by decide))).trans k1) (hOn.block sb (heap_lt HR4.out.row) (HNR.out sb _ _ _ HR4.out.row (by decide))) k2
    have HB8 : Hid (Below C w w8) := (HB4.out.mono HC.out).trans (hOn.below HCW.out (fun i hi e => by have := (HO.out.lt i e.symm).1; omega))
    have hxo : i64ok (x : Int) := ⟨by omega, by omega⟩
    have HT8 := Lib.hid (HT4.out.addPt HRT.out hxo HK4.out hgrow (by rw [intsV_snoc, List.length_append]; exact hown8))
    have e1 : w8.cell? ⟨tb, 1, none⟩ = some (.slice pa T.pts.length pc) := cell_row h8 rfl
    have g1 : w8.frozen? ⟨tb, 1, none⟩ = false := frozen_of_row _ _ _ _ _ h8
    refine hK.out _ _ (fun _ => e1) ?_
    have S3 : PS tb 1 (.slice pa T.pts.length pc) w8 := e1
    clear hK K hown8 hgrow hat hlt8 hOn h8 HOA HNR HKA HK4 HO HT4 HR4 HB4
    try simp only [Act.put, List.getElem_toArray, List.getElem_cons_succ, List.getElem_cons_zero, List.setIfInBounds_toArray, List.set_cons_zero, List.set_cons_succ]
    refine wpAnyT_pure (i := 9) (v := ?_) rfl (by kernel_rfl) (by kernel_rfl) (by kernel_rfl) (by kernel_rfl) (fun _ _ _ h => h) (Or.inl ⟨by kernel_rfl, ?_⟩) (fun _ => by assumption) ?_
    rotate_left
    · intro V hV; clear hV; go_simp; try (with_reducible rfl)
    try simp only [Act.put, List.getElem_toArray, List.getElem_cons_succ, List.getElem_cons_zero, List.setIfInBounds_toArray, List.set_cons_zero, List.set_cons_succ]
    refine wpAnyT_pure (i := 10) (v := ?_) rfl (by kernel_rfl) (by kernel_rfl) (by kernel_rfl) (by kernel_rfl) (fun _ _ _ h => h) (Or.inl ⟨by kernel_rfl, ?_⟩) (fun _ => by assumption) ?_
    rotate_left
    · intro V hV; clear hV; go_simp; try (with_reducible rfl)
    try simp only [Act.put, List.getElem_toArray, List.getElem_cons_succ, List.getElem_cons_zero, List.setIfInBounds_toArray, List.set_cons_zero, List.set_cons_succ]
    refine wpAnyT_one (i := 11) (by kernel_rfl) rfl (fun K hK => ?_)
    go_simp
    clear S3
    refine hK.out _ _ (fun h => absurd (show false = true from h) (by decide)) ?_
    clear hK K
    try simp only [Act.put, List.getElem_toArray, List.getElem_cons_succ, List.getElem_cons_zero, List.setIfInBounds_toArray, List.set_cons_zero, List.set_cons_succ]
    refine wpAnyT_done (by kernel_rfl) ?_ _
    have HR9 := Lib.hid (HR8.out.other (tb := tb) (i := 1) (x := .slice (some ⟨gg, 0, none⟩) (T.pts.length + 1) cap) HTL.out.1 HTL.out.2)
    have HB9 : Hid (Below C w (w8.setCell ⟨tb, 1, none⟩ (.slice (some ⟨gg, 0, none⟩) (T.pts.length + 1) cap))) := HB8.out.setCell (p := ⟨tb, 1, none⟩) HT.out.low _
    clear HR8 HB8 e1 g1 KS
    generalize w8.setCell ⟨tb, 1, none⟩ (.slice (some ⟨gg, 0, none⟩) (T.pts.length + 1) cap) = w9 at *
    have HST : Hid (stepT T n s.data.toList = if okC bd us = true then some { T with pts := T.pts ++ [(x : Int)] } else none) := by
      show _ = _
      unfold stepT
      rw [if_neg (by omega), if_neg (by omega), if_pos ⟨HH.out, HRT.out⟩, ← HWD.out]
      show Option.map _ (twoT wPt (datL al)) = _
      rw [two_law wPt al, show twoC (bytesOf wPt) al = (x, us, bd) from HX.out]
      show Option.map _ (if okC bd us = true then _ else _) = _
      cases okC bd us <;> rfl
    have HFIN : Hid (∀ ok, ok = okC bd us → LineP C tb T n s.data.toList w (.returned (.bool ok)) w9) := fun ok hok => by
      refine ⟨⟨ok, rfl, fun T' h => ?_, fun h => ?_⟩, HB9.out⟩
      · rw [HST.out] at h
        subst hok
        cases hb : okC bd us with
        | true => rw [hb] at h; obtain rfl := Option.some.inj h; exact ⟨rfl, HT8.out⟩
        | false => rw [hb] at h; cases h
      · rw [HST.out] at h
        subst hok
        cases hb : okC bd us with
        | true => rw [hb] at h; cases h
        | false => rfl
    clear HST HX HT8 HB9 HT HWD HH
    go_upto_region 26 with fail
    generalize al = all at *
    cases bd with
    | true =>
      obtain ⟨ra, hr, _⟩ := HR9.out.at_
      have c1 : w9.cell? ⟨rb, 1, none⟩ = some (.bool true) := cell_row hr rfl
      clear hr
      go_wp2_with fail
      go_ret
      exact HFIN.out false rfl
    | false =>
      cases us with
      | nil =>
        obtain ⟨ra, hr⟩ := HR9.out.nil
        have c1 : w9.cell? ⟨rb, 1, none⟩ = some (.bool false) := cell_row hr rfl
        have c0 : w9.cell? ⟨rb, 0, none⟩ = some (.slice ra 0 0) := cell_row hr rfl
        clear hr
        go_wp2_with fail
        go_ret
        exact HFIN.out true rfl
      | cons q0 r0 =>
        obtain ⟨o0, hr, _, _, _⟩ := HR9.out.head
        have hl0 : r0.length + 1 ≤ 1000000 := by have := HR9.out.left; simpa using this
        have c1 : w9.cell? ⟨rb, 1, none⟩ = some (.bool false) := cell_row hr rfl
        have c0 : w9.cell? ⟨rb, 0, none⟩ = some (.slice (some ⟨sb, o0, none⟩) (r0.length + 1) (r0.length + 1)) := cell_row hr rfl
        have t0 : ((r0.length : Int) + 1 == 0) = false := beq_eq_false_iff_ne.2 (by omega)
        clear hr
        go_wp2_with fail
        go_ret
        exact HFIN.out false rfl
end Go.Proofs.YtpodedhnlicckaaGreatDoor
