/- The reader: as many points as come. -/
import Derived.Test.YtpodedhnlicckaaGreatDoorTbRf
namespace Go.Proofs.YtpodedhnlicckaaGreatDoor
open Go.Shelf Go.RowKit Go.Sort
set_option linter.unusedVariables false
set_option linter.unusedSimpArgs false
def ptsC (l : List (Int × Bool)) : List Value := l.flatMap fun p => [.int .i64 p.1, .bool p.2]
theorem ptsC_snoc (l : List (Int × Bool)) (p : Int × Bool) : ptsC (l ++ [p]) = ptsC l ++ [.int .i64 p.1, .bool p.2] := by unfold ptsC; rw [List.flatMap_append]; simp
theorem infoP : (Tryz.prog.info? 57).map (fun i => (i.zero, i.size, i.bytes)) = some (some (.agg #[.int .i64 0, .bool false]), 2, 16) := by kernel_rfl
theorem tb_info2 {t : TypeId} {z : Value} {a b : Nat} (h : (Tryz.prog.info? t).map (fun i => (i.zero, i.size, i.bytes)) = some (some z, a, b)) : ∃ i, Tryz.prog.info? t = some i ∧ i.zero = some z ∧ i.size = a ∧ i.bytes = b := by
  cases hi : Tryz.prog.info? t with
  | none => rw [hi] at h; simp at h
  | some i => rw [hi] at h; simp at h; exact ⟨i, rfl, h.1, h.2.1, h.2.2⟩
theorem ptS_ok (l : List UInt8) : i64ok (ptS l).1.1 := by
  unfold ptS
  split
  · exact ⟨by show (-9223372036854775808 : Int) ≤ 0; omega, by show (0 : Int) ≤ _; omega⟩
  · have := digS_lt l.dropLast
    exact ⟨by show _ ≤ (((digS l.dropLast).1 : Nat) : Int); omega, by show (((digS l.dropLast).1 : Nat) : Int) ≤ _; omega⟩
def ptF (q : ByteArray) : (Int × Bool) × Bool := ptS q.data.toList
structure PtS (rb sb pb o n : Nat) (bd : Bool) (dn : Int) (sg : Bool) (V : World) : Prop where
  a : V.cell? ⟨rb, 0, none⟩ = some (.slice (some ⟨sb, o, none⟩) n n)
  b : V.cell? ⟨rb, 1, none⟩ = some (.bool bd)
  c : V.cell? ⟨pb, 0, none⟩ = some (.int .i64 dn)
  d : V.cell? ⟨pb, 1, none⟩ = some (.bool sg)
structure AlP (rb sb : Nat) (all : List ByteArray) (R : List (Int × Bool) × List ByteArray × Bool) (w : World) (e : Ending) (w' : World) : Prop where
  ret : ∃ v, e = .returned v ∧ w'.ownsRow w.heap.size 57 2 v R.1.length (ptsC R.1)
  rd : RdAt rb sb all R.2.1 R.2.2 w'
  on : Only (fun i => i = rb) w w'
  ok : ∀ p ∈ R.1, i64ok p.1
set_option maxHeartbeats 4000000 in
set_option maxRecDepth 100000 in
theorem allP_any (rb sb : Nat) (all ws st : List ByteArray) (bad : Bool) (sa : Option Addr) (sc : Nat) (w : World) (h : RdAt rb sb all ws bad w) (hst : SliceAt w sa st.length (strV st)) (hsb : ∀ b o, sa = some ⟨b, o, none⟩ → b ≠ rb) (hsm : st.length ≤ 1000000) :
    Calls Tryz.prog 68 #[.pointer (some ⟨rb, 0, none⟩), .func (.func 69) #[] #[], .slice sa st.length sc] w (AlP rb sb all (allS st ptF ws bad) w) := by
  have HR := Lib.hid h; have HST := Lib.hid hst; have HSB := Lib.hid hsb
  have HAL : Hid (AllR st ptF (allS st ptF ws bad) [] ws bad) := by show AllR _ _ _ _ _ _; unfold AllR; simp
  generalize allS st ptF ws bad = R at *
  obtain ⟨i0, hi, hz0, hz1, hz2⟩ := tb_info2 infoP
  have HIn := Lib.hid hi; have HZ0 := Lib.hid hz0; have HZ1 := Lib.hid hz1; have HZ2 := Lib.hid hz2
  clear hi hz0 hz1 hz2 h hst hsb
  have hrl := HR.out.lt
  have HSL : Hid (sb < w.heap.size) := heap_lt HR.out.row
  go_enter Tryz.func68, Tryz.ntmps68
  go_wp2_with fail
  go_loopw [7] (fun v wr => ∃ (out : List (Int × Bool)) (us : List ByteArray) (bd : Bool) (oa : Option Addr) (oc : Nat), v = .slice oa out.length oc ∧ Hid (RdAt rb sb all us bd wr) ∧ Hid (AllR st ptF R out us bd) ∧ Hid (wr.ownsRow w.heap.size 57 2 (.slice oa out.length oc) out.length (ptsC out)) ∧ Hid (Only (fun i => i = rb) w wr) ∧ us.length + out.length ≤ 1000000 ∧ Hid (∀ p ∈ out, i64ok p.1)) (fun v _ => 1000001 - lenOf v)
  case atStart => exact ⟨[], ws, bad, none, 0, rfl, HR, HAL, World.ownsRow_nil _ _ _ _, Only.refl _ _, by have := HR.out.left; simp; omega, fun p hp => by cases hp⟩
  case round =>
    clear HAL HR
    obtain ⟨out, us, bd, oa, oc, rfl, HR, HAL, HO, HON, hlen, HOKS⟩ := hrel
    have HSW : Hid (SliceAt wr sa st.length (strV st)) := HST.out.only HON.out (fun b o h _ => HSB.out b o h)
    cases us with
    | nil =>
      obtain ⟨a, h1⟩ := HR.out.nil
      have c0 : wr.cell? ⟨rb, 0, none⟩ = some (.slice a 0 0) := cell_row h1 rfl
      have HD : Hid (R = (out, [], bd)) := HAL.out.done (.inl rfl)
      have HFIN : Hid (AlP rb sb all R w (.returned (.slice oa out.length oc)) wr) := by
        show AlP _ _ _ _ _ _ _
        rw [HD.out]
        exact ⟨⟨_, rfl, HO.out⟩, HR.out, HON.out, HOKS.out⟩
      clear h1 HAL HR HO HON HSW HD
      go_wp2_with fail
      go_ret
      exact HFIN.out
    | cons q r =>
      obtain ⟨o, h1, x0, hsl, h3⟩ := HR.out.head
      have c0 : wr.cell? ⟨rb, 0, none⟩ = some (.slice (some ⟨sb, o, none⟩) (r.length + 1) (r.length + 1)) := cell_row h1 rfl
      have hl : r.length + 1 ≤ 1000000 := by have := HR.out.left; simpa using this
      have hq := HR.out.head_size
      have HCT := Lib.hid (contains_str sa sc st q wr HSW.out hsm)
      cases hh : hasS st q with
      | true =>
        rw [hh] at HCT
        have HD : Hid (R = (out, q :: r, bd)) := HAL.out.done (.inr ⟨q, r, rfl, hh⟩)
        have HFIN : Hid (AlP rb sb all R w (.returned (.slice oa out.length oc)) wr) := by
          show AlP _ _ _ _ _ _ _
          rw [HD.out]
          exact ⟨⟨_, rfl, HO.out⟩, HR.out, HON.out, HOKS.out⟩
        clear h1 HAL HR HO HON HSW HD hh h3
        go_wp2_with fail
        refine HCT.out.mono ?_
        rintro e w2 ⟨rfl, hw2⟩
        obtain rfl : wr = w2 := hw2.symm
        go_wp2_with fail
        go_ret
        exact HFIN.out
      | false =>
        rw [hh] at HCT
        have HAS := Lib.hid (HAL.out.step hh)
        have HDG := Lib.hid (point_any q wr (by omega))
        clear h1 HAL HSW hh
        go_wp2_with fail
        refine HCT.out.mono ?_
        rintro e w2 ⟨rfl, hw2⟩
        obtain rfl : wr = w2 := hw2.symm
        clear HCT
        go_wp2_with fail
        refine HDG.out.mono ?_
        rintro e w1 ⟨rfl, hb⟩
        have HR1 := Lib.hid (HR.out.kept hb)
        have HO1 := Lib.hid (tb_own HO.out (Only.of_below (fun _ => False) hb) (fun _ _ h => h))
        have HN1 : Hid (Only (fun i => i = rb) w w1) := HON.out.trans (Only.of_below _ hb)
        have HAS : Hid (AllR st ptF R (out ++ [((ptS q.data.toList).1.1, (ptS q.data.toList).1.2)]) r (bd || !(ptS q.data.toList).2)) := HAS.out
        have hdn : i64ok (ptS q.data.toList).1.1 := ptS_ok _
        generalize ptS q.data.toList = d at *
        obtain ⟨⟨dn, sg⟩, db⟩ := d
        clear hb HDG HR HO HON c0 x0 hsl h3
        go_upto_region 4 with fail
        have PB0 : Hid ((w1.alloc (.cells #[.int .i64 dn, .bool sg] 57)).heap[w1.heap.size]? = some (.cells #[.int .i64 dn, .bool sg] 57 (0, 0))) := heap_alloc_new _ _
        have HB0 : Hid (Below w1.heap.size w1 (w1.alloc (.cells #[.int .i64 dn, .bool sg] 57))) := tb_alloc_below _ _
        have HNP : Hid (some w1.heap.size ≠ (Value.slice oa out.length oc).ownBlock) := fun e => by have := (HO1.out.lt _ e.symm).2; omega
        obtain ⟨pb, hpb⟩ : ∃ pb, pb = w1.heap.size := ⟨_, rfl⟩
        rw [← hpb] at PB0 HNP ⊢
        have HPW : Hid (w.heap.size ≤ pb) := by show _ ≤ _; rw [hpb]; exact HN1.out.size
        clear hpb
        generalize w1.alloc (.cells #[.int .i64 dn, .bool sg] 57) = w2 at *
        have HR2 := Lib.hid (HR1.out.kept HB0.out)
        have HO2 := Lib.hid (tb_own HO1.out (Only.of_below (fun _ => False) HB0.out) (fun _ _ h => h))
        have HN2 : Hid (Only (fun i => i = rb) w w2) := HN1.out.trans (Only.of_below _ HB0.out)
        clear HR1 HO1 HN1 HB0
        obtain ⟨o, h1, x0, hsl, h3⟩ := HR2.out.head
        have c0 : w2.cell? ⟨rb, 0, none⟩ = some (.slice (some ⟨sb, o, none⟩) (r.length + 1) (r.length + 1)) := cell_row h1 rfl
        have c1 : w2.cell? ⟨rb, 1, none⟩ = some (.bool bd) := cell_row h1 rfl
        have f1 : w2.frozen? ⟨rb, 1, none⟩ = false := frozen_of_row _ _ _ _ _ h1
        have f0 : w2.frozen? ⟨rb, 0, none⟩ = false := frozen_of_row _ _ _ _ _ h1
        have HRD : Hid (w2.drew.heap[rb]? = some (.cells #[.slice (some ⟨sb, o, none⟩) (r.length + 1) (r.length + 1), .bool bd] 96 (0, 0))) := h1
        have HPD : Hid (w2.drew.heap[pb]? = some (.cells #[.int .i64 dn, .bool sg] 57 (0, 0))) := PB0.out
        have HPL : Hid (pb < w2.heap.size) := heap_lt PB0.out
        have HRA : Hid ((w2.drew.alloc (.cells #[.int .i64 dn, .bool sg] 57)).heap[rb]? = some (.cells #[.slice (some ⟨sb, o, none⟩) (r.length + 1) (r.length + 1), .bool bd] 96 (0, 0))) := tb_kept HRD.out (tb_alloc_below _ _)
        have HPA : Hid ((w2.drew.alloc (.cells #[.int .i64 dn, .bool sg] 57)).heap[pb]? = some (.cells #[.int .i64 dn, .bool sg] 57 (0, 0))) := tb_kept HPD.out (tb_alloc_below _ _)
        have HOA : Hid ((w2.drew.alloc (.cells #[.int .i64 dn, .bool sg] 57)).ownsRow w.heap.size 57 2 (.slice oa out.length oc) out.length (ptsC out)) := tb_own HO2.out (Only.of_below (fun _ => False) ((Below.drew (Below.refl _ w2)).alloc (Nat.le_refl _) _)) (fun _ _ h => h)
        have HCW : Hid (w.heap.size ≤ w2.heap.size) := HN2.out.size
        have hb1 : out.length ≤ 1000000 := by omega
        have HSA : Hid ((w2.drew.alloc (.cells #[.int .i64 dn, .bool sg] 57)).heap[sb]? = w2.heap[sb]?) := (tb_alloc_below w2.drew _).block sb hsl
        have HNA : Hid (Only (fun i => i = rb) w (w2.drew.alloc (.cells #[.int .i64 dn, .bool sg] 57))) := HN2.out.drew.alloc _
        have HNR : Hid (∀ b, b < w.heap.size → some b ≠ (Value.slice oa out.length oc).ownBlock) := fun b hb e => by have := (HO2.out.lt b e.symm).1; omega
        have HDN := Lib.hid hdn
        clear h1 x0 hdn PB0 HPW
        cases bd with
        | true =>
          cases r with
          | nil =>
            have k0 : Hid (∀ W : World, W.heap[rb]? = some (.cells #[.slice (some ⟨sb, o, none⟩) (([] : List ByteArray).length + 1) (([] : List ByteArray).length + 1), .bool true] 96 (0, 0)) → W.heap[pb]? = some (.cells #[.int .i64 dn, .bool sg] 57 (0, 0)) → PtS rb sb pb o (([] : List ByteArray).length + 1) true dn sg W) := fun W h h' => ⟨cell_row h rfl, cell_row h rfl, cell_row h' rfl, cell_row h' rfl⟩
            have KS : Hid (∀ V : World, PtS rb sb pb o (([] : List ByteArray).length + 1) true dn sg V → (V.cell? ⟨rb, 0, none⟩ = some (.slice (some ⟨sb, o, none⟩) (([] : List ByteArray).length + 1) (([] : List ByteArray).length + 1)) ∧ V.cell? ⟨rb, 1, none⟩ = some (.bool true) ∧ V.cell? ⟨pb, 0, none⟩ = some (.int .i64 dn) ∧ V.cell? ⟨pb, 1, none⟩ = some (.bool sg))) := fun V h => ⟨h.a, h.b, h.c, h.d⟩
            refine wp_region_T (PtS rb sb pb o (([] : List ByteArray).length + 1) true dn sg) [22, 25] (by kernel_rfl) ?_
            change wpAnyT _ _ _ _ _ _ _ _ _ (World.drew _)
            have S1 := k0.out _ HRD.out HPD.out
            clear c0 c1 f0 f1
            refine wpAnyT_pure (i := 0) (v := ?_) rfl (by kernel_rfl) (by kernel_rfl) (by kernel_rfl) (by kernel_rfl) (fun _ _ _ h => h) (Or.inl ⟨by kernel_rfl, ?_⟩) (fun _ => by assumption) ?_
            rotate_left
            · intro V hV; clear hV; go_simp; try (with_reducible rfl)
            try simp only [Act.put, List.getElem_toArray, List.getElem_cons_succ, List.getElem_cons_zero, List.setIfInBounds_toArray, List.set_cons_zero, List.set_cons_succ]
            refine wpAnyT_pure (i := 1) (v := ?_) rfl (by kernel_rfl) (by kernel_rfl) (by kernel_rfl) (by kernel_rfl) (fun _ _ _ h => h) (Or.inl ⟨by kernel_rfl, ?_⟩) (fun _ => by assumption) ?_
            rotate_left
            · intro V hV; clear hV; go_simp; try (with_reducible rfl)
            try simp only [Act.put, List.getElem_toArray, List.getElem_cons_succ, List.getElem_cons_zero, List.setIfInBounds_toArray, List.set_cons_zero, List.set_cons_succ]
            refine wpAnyT_pure (i := 2) (v := ?_) rfl (by kernel_rfl) (by kernel_rfl) (by kernel_rfl) (by kernel_rfl) (fun _ _ _ h => h) (Or.inl ⟨by kernel_rfl, ?_⟩) (fun _ => by assumption) ?_
            rotate_left
            · intro V hV; clear hV; go_simp; try (with_reducible rfl)
            try simp only [Act.put, List.getElem_toArray, List.getElem_cons_succ, List.getElem_cons_zero, List.setIfInBounds_toArray, List.set_cons_zero, List.set_cons_succ]
            refine wpAnyT_take (i := 3) (v := ?_) rfl (by kernel_rfl) (by kernel_rfl) (by kernel_rfl) (by kernel_rfl) (fun _ _ _ h => h) (Or.inl ⟨by kernel_rfl, ?_⟩) (by assumption) ?_
            rotate_left
            · intro V hV; have k := KS.out V hV; clear hV; go_simp; try (with_reducible rfl)
            try simp only [Act.put, List.getElem_toArray, List.getElem_cons_succ, List.getElem_cons_zero, List.setIfInBounds_toArray, List.set_cons_zero, List.set_cons_succ]
            refine wpAnyT_pure (i := 6) (v := ?_) rfl (by kernel_rfl) (by kernel_rfl) (by kernel_rfl) (by kernel_rfl) (fun _ _ _ h => h) (Or.inl ⟨by kernel_rfl, ?_⟩) (fun _ => by assumption) ?_
            rotate_left
            · intro V hV; clear hV; go_simp; try (with_reducible rfl)
            try simp only [Act.put, List.getElem_toArray, List.getElem_cons_succ, List.getElem_cons_zero, List.setIfInBounds_toArray, List.set_cons_zero, List.set_cons_succ]
            refine wpAnyT_pure (i := 7) (v := ?_) rfl (by kernel_rfl) (by kernel_rfl) (by kernel_rfl) (by kernel_rfl) (fun _ _ _ h => h) (Or.inl ⟨by kernel_rfl, ?_⟩) (fun _ => by assumption) ?_
            rotate_left
            · intro V hV; clear hV; go_simp; try (with_reducible rfl)
            try simp only [Act.put, List.getElem_toArray, List.getElem_cons_succ, List.getElem_cons_zero, List.setIfInBounds_toArray, List.set_cons_zero, List.set_cons_succ]
            refine wpAnyT_pure (i := 8) (v := ?_) rfl (by kernel_rfl) (by kernel_rfl) (by kernel_rfl) (by kernel_rfl) (fun _ _ _ h => h) (Or.inl ⟨by kernel_rfl, ?_⟩) (fun _ => by assumption) ?_
            rotate_left
            · intro V hV; clear hV; go_simp; try (with_reducible rfl)
            try simp only [Act.put, List.getElem_toArray, List.getElem_cons_succ, List.getElem_cons_zero, List.setIfInBounds_toArray, List.set_cons_zero, List.set_cons_succ]
            refine wpAnyT_take (i := 9) (v := ?_) rfl (by kernel_rfl) (by kernel_rfl) (by kernel_rfl) (by kernel_rfl) (fun _ _ _ h => h) (Or.inl ⟨by kernel_rfl, ?_⟩) (by assumption) ?_
            rotate_left
            · intro V hV; have k := KS.out V hV; clear hV; go_simp; try (with_reducible rfl)
            try simp only [Act.put, List.getElem_toArray, List.getElem_cons_succ, List.getElem_cons_zero, List.setIfInBounds_toArray, List.set_cons_zero, List.set_cons_succ]
            refine wpAnyT_pure (i := 14) (v := ?_) rfl (by kernel_rfl) (by kernel_rfl) (by kernel_rfl) (by kernel_rfl) (fun _ _ _ h => h) (Or.inl ⟨by kernel_rfl, ?_⟩) (fun _ => by assumption) ?_
            rotate_left
            · intro V hV; clear hV; go_simp; try (with_reducible rfl)
            try simp only [Act.put, List.getElem_toArray, List.getElem_cons_succ, List.getElem_cons_zero, List.setIfInBounds_toArray, List.set_cons_zero, List.set_cons_succ]
            refine wpAnyT_pure (i := 15) (v := ?_) rfl (by kernel_rfl) (by kernel_rfl) (by kernel_rfl) (by kernel_rfl) (fun _ _ _ h => h) (Or.inl ⟨by kernel_rfl, ?_⟩) (fun _ => by assumption) ?_
            rotate_left
            · intro V hV; clear hV; go_simp; try (with_reducible rfl)
            try simp only [Act.put, List.getElem_toArray, List.getElem_cons_succ, List.getElem_cons_zero, List.setIfInBounds_toArray, List.set_cons_zero, List.set_cons_succ]
            refine wpAnyT_pure (i := 16) (v := ?_) rfl (by kernel_rfl) (by kernel_rfl) (by kernel_rfl) (by kernel_rfl) (fun _ _ _ h => h) (Or.inl ⟨by kernel_rfl, ?_⟩) (fun _ => by assumption) ?_
            rotate_left
            · intro V hV; clear hV; go_simp; try (with_reducible rfl)
            try simp only [Act.put, List.getElem_toArray, List.getElem_cons_succ, List.getElem_cons_zero, List.setIfInBounds_toArray, List.set_cons_zero, List.set_cons_succ]
            refine wpAnyT_take (i := 17) (v := ?_) rfl (by kernel_rfl) (by kernel_rfl) (by kernel_rfl) (by kernel_rfl) (fun _ _ _ h => h) (Or.inl ⟨by kernel_rfl, ?_⟩) (by assumption) ?_
            rotate_left
            · intro V hV; have k := KS.out V hV; clear hV; go_simp; try (with_reducible rfl)
            try simp only [Act.put, List.getElem_toArray, List.getElem_cons_succ, List.getElem_cons_zero, List.setIfInBounds_toArray, List.set_cons_zero, List.set_cons_succ]
            refine wpAnyT_pure (i := 18) (v := ?_) rfl (by kernel_rfl) (by kernel_rfl) (by kernel_rfl) (by kernel_rfl) (fun _ _ _ h => h) (Or.inl ⟨by kernel_rfl, ?_⟩) (fun _ => by assumption) ?_
            rotate_left
            · intro V hV; clear hV; go_simp; try (with_reducible rfl)
            try simp only [Act.put, List.getElem_toArray, List.getElem_cons_succ, List.getElem_cons_zero, List.setIfInBounds_toArray, List.set_cons_zero, List.set_cons_succ]
            refine wpAnyT_one (i := 4) (by kernel_rfl) rfl (fun K hK => ?_)
            go_simp
            refine hK.out _ _ (fun _ => k0.out _ HRA.out HPA.out) ?_
            clear hK K S1
            try simp only [Act.put, List.getElem_toArray, List.getElem_cons_succ, List.getElem_cons_zero, List.setIfInBounds_toArray, List.set_cons_zero, List.set_cons_succ]
            have S2 := k0.out _ HRA.out HPA.out
            refine wpAnyT_one (i := 5) (by kernel_rfl) rfl (fun K hK => ?_)
            refine step_append_lies _ (by rfl) _ _ _ (by rfl) w.heap.size 57 i0 (.agg #[.int .i64 0, .bool false]) 2 16 Tryz.underlying27 HIn.out HZ0.out HZ1.out HZ2.out rfl (by omega) _ out.length (ptsC out) (by rfl) HOA.out ⟨w2.heap.size, 0, none⟩ 1 1 [.int .i64 dn, .bool sg] (by rfl) (by rfl) (World.news_of_block (heap_alloc_new w2.drew _)) (by simp [Value.oneCell']) (by omega) (by unfold maxLen; omega) (by omega) (by have := HCW.out; simp; omega) (w2.heap.size + 1) (by simp) ?_
            intro gg cap w8 hown8 hgrow hat hlt8
            have HR8 : Hid (RdAt rb sb all (q :: ([] : List ByteArray)) true w8) := HR2.out.put (a := some ⟨sb, o, none⟩) ((hgrow.block rb (by simp; have := HCW.out; omega) (HNR.out rb hrl)).trans HRA.out) ((hgrow.block sb (by simp; have := HCW.out; have := HSL.out; omega) (HNR.out sb HSL.out)).trans HSA.out) (fun _ => ⟨o, rfl, h3⟩)
            have h8 : w8.heap[rb]? = some (.cells #[.slice (some ⟨sb, o, none⟩) (([] : List ByteArray).length + 1) (([] : List ByteArray).length + 1), .bool true] 96 (0, 0)) := (hgrow.block rb (by simp; have := HCW.out; omega) (HNR.out rb hrl)).trans HRA.out
            have hp8 : w8.heap[pb]? = some (.cells #[.int .i64 dn, .bool sg] 57 (0, 0)) := (hgrow.block pb (by simp; have := HPL.out; omega) HNP.out).trans HPA.out
            have HN8 : Hid (Only (fun i => i = rb) w w8) := HNA.out.fresh (Only.grown hgrow (fun g hg => .inr (HOA.out.lt g hg).1))
            have HO8 := Lib.hid hown8
            clear hown8 hgrow hat hlt8 S2
            refine hK.out _ _ (fun _ => k0.out _ h8 hp8) ?_
            clear hK K
            try simp only [Act.put, List.getElem_toArray, List.getElem_cons_succ, List.getElem_cons_zero, List.setIfInBounds_toArray, List.set_cons_zero, List.set_cons_succ]
            have S3 := k0.out _ h8 hp8
            refine wpAnyT_pure (i := 10) (v := ?_) rfl (by kernel_rfl) (by kernel_rfl) (by kernel_rfl) (by kernel_rfl) (fun _ _ _ h => h) (Or.inl ⟨by kernel_rfl, ?_⟩) (fun _ => by assumption) ?_
            rotate_left
            · intro V hV; clear hV; go_simp; try (with_reducible rfl)
            try simp only [Act.put, List.getElem_toArray, List.getElem_cons_succ, List.getElem_cons_zero, List.setIfInBounds_toArray, List.set_cons_zero, List.set_cons_succ]
            refine wpAnyT_pure (i := 11) (v := undef) rfl (by kernel_rfl) (by kernel_rfl) (by kernel_rfl) (by kernel_rfl) (fun _ _ _ h => h) (Or.inr ⟨by kernel_rfl, rfl⟩) (fun _ => by assumption) ?_
            try simp only [Act.put, List.getElem_toArray, List.getElem_cons_succ, List.getElem_cons_zero, List.setIfInBounds_toArray, List.set_cons_zero, List.set_cons_succ]
            refine wpAnyT_pure (i := 12) (v := undef) rfl (by kernel_rfl) (by kernel_rfl) (by kernel_rfl) (by kernel_rfl) (fun _ _ _ h => h) (Or.inr ⟨by kernel_rfl, rfl⟩) (fun _ => by assumption) ?_
            try simp only [Act.put, List.getElem_toArray, List.getElem_cons_succ, List.getElem_cons_zero, List.setIfInBounds_toArray, List.set_cons_zero, List.set_cons_succ]
            refine wpAnyT_pure (i := 13) (v := ?_) rfl (by kernel_rfl) (by kernel_rfl) (by kernel_rfl) (by kernel_rfl) (fun _ _ _ h => h) (Or.inl ⟨by kernel_rfl, ?_⟩) (fun _ => by assumption) ?_
            rotate_left
            · intro V hV; clear hV; go_simp; try (with_reducible rfl)
            try simp only [Act.put, List.getElem_toArray, List.getElem_cons_succ, List.getElem_cons_zero, List.setIfInBounds_toArray, List.set_cons_zero, List.set_cons_succ]
            refine wpAnyT_pure (i := 19) (v := ?_) rfl (by kernel_rfl) (by kernel_rfl) (by kernel_rfl) (by kernel_rfl) (fun _ _ _ h => h) (Or.inl ⟨by kernel_rfl, ?_⟩) (fun _ => by assumption) ?_
            rotate_left
            · intro V hV; clear hV; go_simp; try (with_reducible rfl)
            try simp only [Act.put, List.getElem_toArray, List.getElem_cons_succ, List.getElem_cons_zero, List.setIfInBounds_toArray, List.set_cons_zero, List.set_cons_succ]
            refine wpAnyT_pure (i := 20) (v := ?_) rfl (by kernel_rfl) (by kernel_rfl) (by kernel_rfl) (by kernel_rfl) (fun _ _ _ h => h) (Or.inl ⟨by kernel_rfl, ?_⟩) (fun _ => by assumption) ?_
            rotate_left
            · intro V hV; clear hV; go_simp; try (with_reducible rfl)
            try simp only [Act.put, List.getElem_toArray, List.getElem_cons_succ, List.getElem_cons_zero, List.setIfInBounds_toArray, List.set_cons_zero, List.set_cons_succ]
            refine wpAnyT_pure (i := 21) (v := ?_) rfl (by kernel_rfl) (by kernel_rfl) (by kernel_rfl) (by kernel_rfl) (fun _ _ _ h => h) (Or.inl ⟨by kernel_rfl, ?_⟩) (fun _ => by assumption) ?_
            rotate_left
            · intro V hV; clear hV; go_simp; try (with_reducible rfl)
            try simp only [Act.put, List.getElem_toArray, List.getElem_cons_succ, List.getElem_cons_zero, List.setIfInBounds_toArray, List.set_cons_zero, List.set_cons_succ]
            have e0 : w8.cell? ⟨rb, 0, none⟩ = some (.slice (some ⟨sb, o, none⟩) (([] : List ByteArray).length + 1) (([] : List ByteArray).length + 1)) := S3.a
            have e1 : w8.cell? ⟨rb, 1, none⟩ = some (.bool true) := S3.b
            have g0 : w8.frozen? ⟨rb, 0, none⟩ = false := frozen_of_row _ _ _ _ _ h8
            have g1 : w8.frozen? ⟨rb, 1, none⟩ = false := frozen_of_row _ _ _ _ _ h8
            clear S3
            refine wpAnyT_one (i := 22) (by kernel_rfl) rfl (fun K hK => ?_)
            go_simp
            refine hK.out _ _ (fun h => absurd (show false = true from h) (by decide)) ?_
            clear hK K
            try simp only [Act.put, List.getElem_toArray, List.getElem_cons_succ, List.getElem_cons_zero, List.setIfInBounds_toArray, List.set_cons_zero, List.set_cons_succ]
            refine wpAnyT_pure (i := 23) (v := ?_) rfl (by kernel_rfl) (by kernel_rfl) (by kernel_rfl) (by kernel_rfl) (fun _ _ _ h => h) (Or.inl ⟨by kernel_rfl, ?_⟩) (fun h => absurd (show false = true from h) (by decide)) ?_
            rotate_left
            · intro V hV; clear hV; go_simp; try (with_reducible rfl)
            try simp only [Act.put, List.getElem_toArray, List.getElem_cons_succ, List.getElem_cons_zero, List.setIfInBounds_toArray, List.set_cons_zero, List.set_cons_succ]
            refine wpAnyT_pure (i := 24) (v := ?_) rfl (by kernel_rfl) (by kernel_rfl) (by kernel_rfl) (by kernel_rfl) (fun _ _ _ h => h) (Or.inl ⟨by kernel_rfl, ?_⟩) (fun h => absurd (show false = true from h) (by decide)) ?_
            rotate_left
            · intro V hV; clear hV; go_simp; try (with_reducible rfl)
            try simp only [Act.put, List.getElem_toArray, List.getElem_cons_succ, List.getElem_cons_zero, List.setIfInBounds_toArray, List.set_cons_zero, List.set_cons_succ]
            refine wpAnyT_one (i := 25) (by kernel_rfl) rfl (fun K hK => ?_)
            go_simp
            refine hK.out _ _ (fun h => absurd (show false = true from h) (by decide)) ?_
            clear hK K
            try simp only [Act.put, List.getElem_toArray, List.getElem_cons_succ, List.getElem_cons_zero, List.setIfInBounds_toArray, List.set_cons_zero, List.set_cons_succ]
            refine wpAnyT_done (by kernel_rfl) ?_ _
            have HRE : Hid (RdAt rb sb all ([] : List ByteArray) true ((w8.setCell ⟨rb, 1, none⟩ (.bool true)).setCell ⟨rb, 0, none⟩ (.slice (some ⟨sb, o, none⟩) ([] : List ByteArray).length ([] : List ByteArray).length))) := HR8.out.put (a := some ⟨sb, o, none⟩) (ws' := ([] : List ByteArray)) (heap_setCell_same _ _ _ _ _ _ (heap_setCell_same _ _ _ _ _ _ h8)) ((heap_setCell_other _ _ _ _ HR8.out.ne).trans (heap_setCell_other _ _ _ _ HR8.out.ne)) (fun hn => by first | exact ⟨_, rfl, drop_next h3⟩ | exact absurd rfl hn)
            have HNE : Hid (Only (fun i => i = rb) w8 ((w8.setCell ⟨rb, 1, none⟩ (.bool true)).setCell ⟨rb, 0, none⟩ (.slice (some ⟨sb, o, none⟩) ([] : List ByteArray).length ([] : List ByteArray).length))) := ((Only.refl (fun i => i = rb) w8).set 1 _ (.inr rfl)).set 0 _ (.inr rfl)
            have HOE : Hid (((w8.setCell ⟨rb, 1, none⟩ (.bool true)).setCell ⟨rb, 0, none⟩ (.slice (some ⟨sb, o, none⟩) ([] : List ByteArray).length ([] : List ByteArray).length)).ownsRow w.heap.size 57 2 (.slice (some ⟨gg, 0, none⟩) (out ++ [(dn, sg)]).length cap) (out ++ [(dn, sg)]).length (ptsC (out ++ [(dn, sg)]))) := by
              show World.ownsRow _ _ _ _ _ _ _
              rw [ptsC_snoc, List.length_append]
              exact tb_own HO8.out HNE.out (fun k hk e => by have := (HO8.out.lt k hk).1; omega)
            have HNF : Hid (Only (fun i => i = rb) w ((w8.setCell ⟨rb, 1, none⟩ (.bool true)).setCell ⟨rb, 0, none⟩ (.slice (some ⟨sb, o, none⟩) ([] : List ByteArray).length ([] : List ByteArray).length))) := HN8.out.trans (HNE.out.mono (fun _ _ h => h))
            have HAE : Hid (AllR st ptF R (out ++ [(dn, sg)]) ([] : List ByteArray) true) := HAS.out
            have hle : ([] : List ByteArray).length + (out ++ [(dn, sg)]).length ≤ 1000000 := by
              have h := hlen
              simp only [List.length_append, List.length_cons, List.length_nil] at h ⊢
              omega
            have hvl : Value.slice (some ⟨gg, 0, none⟩) (out.length + 1) cap = .slice (some ⟨gg, 0, none⟩) (out ++ [(dn, sg)]).length cap := by rw [List.length_append]; rfl
            have HKS : Hid (∀ p ∈ out ++ [(dn, sg)], i64ok p.1) := fun p hp => by
              rcases List.mem_append.1 hp with h | h
              · exact HOKS.out p h
              · obtain rfl := List.mem_singleton.1 h; exact HDN.out
            have HVL := Lib.hid hvl
            clear hvl h8 hp8 HPA HPD HPL HNP HR8 HO8 HN8 HNE h3 e0 e1 g0 g1 HAS KS k0 HSA HNA HRA HRD HOA HO2 HR2
            go_wp2_with fail
            go_roundw
            case rel => exact ⟨out ++ [(dn, sg)], ([] : List ByteArray), true, some ⟨gg, 0, none⟩, cap, HVL.out, HRE, HAE, HOE, HNF, hle, HKS⟩
            case measure => simp [lenOf]; omega
          | cons q2 r2 =>
            have hbd : (1 : Int) ≤ (r2.length : Int) + 1 + 1 := by omega
            have k0 : Hid (∀ W : World, W.heap[rb]? = some (.cells #[.slice (some ⟨sb, o, none⟩) ((q2 :: r2).length + 1) ((q2 :: r2).length + 1), .bool true] 96 (0, 0)) → W.heap[pb]? = some (.cells #[.int .i64 dn, .bool sg] 57 (0, 0)) → PtS rb sb pb o ((q2 :: r2).length + 1) true dn sg W) := fun W h h' => ⟨cell_row h rfl, cell_row h rfl, cell_row h' rfl, cell_row h' rfl⟩
            have KS : Hid (∀ V : World, PtS rb sb pb o ((q2 :: r2).length + 1) true dn sg V → (V.cell? ⟨rb, 0, none⟩ = some (.slice (some ⟨sb, o, none⟩) ((q2 :: r2).length + 1) ((q2 :: r2).length + 1)) ∧ V.cell? ⟨rb, 1, none⟩ = some (.bool true) ∧ V.cell? ⟨pb, 0, none⟩ = some (.int .i64 dn) ∧ V.cell? ⟨pb, 1, none⟩ = some (.bool sg))) := fun V h => ⟨h.a, h.b, h.c, h.d⟩
            refine wp_region_T (PtS rb sb pb o ((q2 :: r2).length + 1) true dn sg) [22, 25] (by kernel_rfl) ?_
            change wpAnyT _ _ _ _ _ _ _ _ _ (World.drew _)
            have S1 := k0.out _ HRD.out HPD.out
            clear c0 c1 f0 f1
            refine wpAnyT_pure (i := 0) (v := ?_) rfl (by kernel_rfl) (by kernel_rfl) (by kernel_rfl) (by kernel_rfl) (fun _ _ _ h => h) (Or.inl ⟨by kernel_rfl, ?_⟩) (fun _ => by assumption) ?_
            rotate_left
            · intro V hV; clear hV; go_simp; try (with_reducible rfl)
            try simp only [Act.put, List.getElem_toArray, List.getElem_cons_succ, List.getElem_cons_zero, List.setIfInBounds_toArray, List.set_cons_zero, List.set_cons_succ]
            refine wpAnyT_pure (i := 1) (v := ?_) rfl (by kernel_rfl) (by kernel_rfl) (by kernel_rfl) (by kernel_rfl) (fun _ _ _ h => h) (Or.inl ⟨by kernel_rfl, ?_⟩) (fun _ => by assumption) ?_
            rotate_left
            · intro V hV; clear hV; go_simp; try (with_reducible rfl)
            try simp only [Act.put, List.getElem_toArray, List.getElem_cons_succ, List.getElem_cons_zero, List.setIfInBounds_toArray, List.set_cons_zero, List.set_cons_succ]
            refine wpAnyT_pure (i := 2) (v := ?_) rfl (by kernel_rfl) (by kernel_rfl) (by kernel_rfl) (by kernel_rfl) (fun _ _ _ h => h) (Or.inl ⟨by kernel_rfl, ?_⟩) (fun _ => by assumption) ?_
            rotate_left
            · intro V hV; clear hV; go_simp; try (with_reducible rfl)
            try simp only [Act.put, List.getElem_toArray, List.getElem_cons_succ, List.getElem_cons_zero, List.setIfInBounds_toArray, List.set_cons_zero, List.set_cons_succ]
            refine wpAnyT_take (i := 3) (v := ?_) rfl (by kernel_rfl) (by kernel_rfl) (by kernel_rfl) (by kernel_rfl) (fun _ _ _ h => h) (Or.inl ⟨by kernel_rfl, ?_⟩) (by assumption) ?_
            rotate_left
            · intro V hV; have k := KS.out V hV; clear hV; go_simp; try (with_reducible rfl)
            try simp only [Act.put, List.getElem_toArray, List.getElem_cons_succ, List.getElem_cons_zero, List.setIfInBounds_toArray, List.set_cons_zero, List.set_cons_succ]
            refine wpAnyT_pure (i := 6) (v := ?_) rfl (by kernel_rfl) (by kernel_rfl) (by kernel_rfl) (by kernel_rfl) (fun _ _ _ h => h) (Or.inl ⟨by kernel_rfl, ?_⟩) (fun _ => by assumption) ?_
            rotate_left
            · intro V hV; clear hV; go_simp; try (with_reducible rfl)
            try simp only [Act.put, List.getElem_toArray, List.getElem_cons_succ, List.getElem_cons_zero, List.setIfInBounds_toArray, List.set_cons_zero, List.set_cons_succ]
            refine wpAnyT_pure (i := 7) (v := ?_) rfl (by kernel_rfl) (by kernel_rfl) (by kernel_rfl) (by kernel_rfl) (fun _ _ _ h => h) (Or.inl ⟨by kernel_rfl, ?_⟩) (fun _ => by assumption) ?_
            rotate_left
            · intro V hV; clear hV; go_simp; try (with_reducible rfl)
            try simp only [Act.put, List.getElem_toArray, List.getElem_cons_succ, List.getElem_cons_zero, List.setIfInBounds_toArray, List.set_cons_zero, List.set_cons_succ]
            refine wpAnyT_pure (i := 8) (v := ?_) rfl (by kernel_rfl) (by kernel_rfl) (by kernel_rfl) (by kernel_rfl) (fun _ _ _ h => h) (Or.inl ⟨by kernel_rfl, ?_⟩) (fun _ => by assumption) ?_
            rotate_left
            · intro V hV; clear hV; go_simp; try (with_reducible rfl)
            try simp only [Act.put, List.getElem_toArray, List.getElem_cons_succ, List.getElem_cons_zero, List.setIfInBounds_toArray, List.set_cons_zero, List.set_cons_succ]
            refine wpAnyT_take (i := 9) (v := ?_) rfl (by kernel_rfl) (by kernel_rfl) (by kernel_rfl) (by kernel_rfl) (fun _ _ _ h => h) (Or.inl ⟨by kernel_rfl, ?_⟩) (by assumption) ?_
            rotate_left
            · intro V hV; have k := KS.out V hV; clear hV; go_simp; try (with_reducible rfl)
            try simp only [Act.put, List.getElem_toArray, List.getElem_cons_succ, List.getElem_cons_zero, List.setIfInBounds_toArray, List.set_cons_zero, List.set_cons_succ]
            refine wpAnyT_pure (i := 14) (v := ?_) rfl (by kernel_rfl) (by kernel_rfl) (by kernel_rfl) (by kernel_rfl) (fun _ _ _ h => h) (Or.inl ⟨by kernel_rfl, ?_⟩) (fun _ => by assumption) ?_
            rotate_left
            · intro V hV; clear hV; go_simp; try (with_reducible rfl)
            try simp only [Act.put, List.getElem_toArray, List.getElem_cons_succ, List.getElem_cons_zero, List.setIfInBounds_toArray, List.set_cons_zero, List.set_cons_succ]
            refine wpAnyT_pure (i := 15) (v := ?_) rfl (by kernel_rfl) (by kernel_rfl) (by kernel_rfl) (by kernel_rfl) (fun _ _ _ h => h) (Or.inl ⟨by kernel_rfl, ?_⟩) (fun _ => by assumption) ?_
            rotate_left
            · intro V hV; clear hV; go_simp; try (with_reducible rfl)
            try simp only [Act.put, List.getElem_toArray, List.getElem_cons_succ, List.getElem_cons_zero, List.setIfInBounds_toArray, List.set_cons_zero, List.set_cons_succ]
            refine wpAnyT_pure (i := 16) (v := ?_) rfl (by kernel_rfl) (by kernel_rfl) (by kernel_rfl) (by kernel_rfl) (fun _ _ _ h => h) (Or.inl ⟨by kernel_rfl, ?_⟩) (fun _ => by assumption) ?_
            rotate_left
            · intro V hV; clear hV; go_simp; try (with_reducible rfl)
            try simp only [Act.put, List.getElem_toArray, List.getElem_cons_succ, List.getElem_cons_zero, List.setIfInBounds_toArray, List.set_cons_zero, List.set_cons_succ]
            refine wpAnyT_take (i := 17) (v := ?_) rfl (by kernel_rfl) (by kernel_rfl) (by kernel_rfl) (by kernel_rfl) (fun _ _ _ h => h) (Or.inl ⟨by kernel_rfl, ?_⟩) (by assumption) ?_
            rotate_left
            · intro V hV; have k := KS.out V hV; clear hV; go_simp; try (with_reducible rfl)
            try simp only [Act.put, List.getElem_toArray, List.getElem_cons_succ, List.getElem_cons_zero, List.setIfInBounds_toArray, List.set_cons_zero, List.set_cons_succ]
            refine wpAnyT_pure (i := 18) (v := ?_) rfl (by kernel_rfl) (by kernel_rfl) (by kernel_rfl) (by kernel_rfl) (fun _ _ _ h => h) (Or.inl ⟨by kernel_rfl, ?_⟩) (fun _ => by assumption) ?_
            rotate_left
            · intro V hV; clear hV; go_simp; try (with_reducible rfl)
            try simp only [Act.put, List.getElem_toArray, List.getElem_cons_succ, List.getElem_cons_zero, List.setIfInBounds_toArray, List.set_cons_zero, List.set_cons_succ]
            refine wpAnyT_one (i := 4) (by kernel_rfl) rfl (fun K hK => ?_)
            go_simp
            refine hK.out _ _ (fun _ => k0.out _ HRA.out HPA.out) ?_
            clear hK K S1
            try simp only [Act.put, List.getElem_toArray, List.getElem_cons_succ, List.getElem_cons_zero, List.setIfInBounds_toArray, List.set_cons_zero, List.set_cons_succ]
            have S2 := k0.out _ HRA.out HPA.out
            refine wpAnyT_one (i := 5) (by kernel_rfl) rfl (fun K hK => ?_)
            refine step_append_lies _ (by rfl) _ _ _ (by rfl) w.heap.size 57 i0 (.agg #[.int .i64 0, .bool false]) 2 16 Tryz.underlying27 HIn.out HZ0.out HZ1.out HZ2.out rfl (by omega) _ out.length (ptsC out) (by rfl) HOA.out ⟨w2.heap.size, 0, none⟩ 1 1 [.int .i64 dn, .bool sg] (by rfl) (by rfl) (World.news_of_block (heap_alloc_new w2.drew _)) (by simp [Value.oneCell']) (by omega) (by unfold maxLen; omega) (by omega) (by have := HCW.out; simp; omega) (w2.heap.size + 1) (by simp) ?_
            intro gg cap w8 hown8 hgrow hat hlt8
            have HR8 : Hid (RdAt rb sb all (q :: (q2 :: r2)) true w8) := HR2.out.put (a := some ⟨sb, o, none⟩) ((hgrow.block rb (by simp; have := HCW.out; omega) (HNR.out rb hrl)).trans HRA.out) ((hgrow.block sb (by simp; have := HCW.out; have := HSL.out; omega) (HNR.out sb HSL.out)).trans HSA.out) (fun _ => ⟨o, rfl, h3⟩)
            have h8 : w8.heap[rb]? = some (.cells #[.slice (some ⟨sb, o, none⟩) ((q2 :: r2).length + 1) ((q2 :: r2).length + 1), .bool true] 96 (0, 0)) := (hgrow.block rb (by simp; have := HCW.out; omega) (HNR.out rb hrl)).trans HRA.out
            have hp8 : w8.heap[pb]? = some (.cells #[.int .i64 dn, .bool sg] 57 (0, 0)) := (hgrow.block pb (by simp; have := HPL.out; omega) HNP.out).trans HPA.out
            have HN8 : Hid (Only (fun i => i = rb) w w8) := HNA.out.fresh (Only.grown hgrow (fun g hg => .inr (HOA.out.lt g hg).1))
            have HO8 := Lib.hid hown8
            clear hown8 hgrow hat hlt8 S2
            refine hK.out _ _ (fun _ => k0.out _ h8 hp8) ?_
            clear hK K
            try simp only [Act.put, List.getElem_toArray, List.getElem_cons_succ, List.getElem_cons_zero, List.setIfInBounds_toArray, List.set_cons_zero, List.set_cons_succ]
            have S3 := k0.out _ h8 hp8
            refine wpAnyT_pure (i := 10) (v := ?_) rfl (by kernel_rfl) (by kernel_rfl) (by kernel_rfl) (by kernel_rfl) (fun _ _ _ h => h) (Or.inl ⟨by kernel_rfl, ?_⟩) (fun _ => by assumption) ?_
            rotate_left
            · intro V hV; clear hV; go_simp; try (with_reducible rfl)
            try simp only [Act.put, List.getElem_toArray, List.getElem_cons_succ, List.getElem_cons_zero, List.setIfInBounds_toArray, List.set_cons_zero, List.set_cons_succ]
            refine wpAnyT_pure (i := 11) (v := undef) rfl (by kernel_rfl) (by kernel_rfl) (by kernel_rfl) (by kernel_rfl) (fun _ _ _ h => h) (Or.inr ⟨by kernel_rfl, rfl⟩) (fun _ => by assumption) ?_
            try simp only [Act.put, List.getElem_toArray, List.getElem_cons_succ, List.getElem_cons_zero, List.setIfInBounds_toArray, List.set_cons_zero, List.set_cons_succ]
            refine wpAnyT_pure (i := 12) (v := undef) rfl (by kernel_rfl) (by kernel_rfl) (by kernel_rfl) (by kernel_rfl) (fun _ _ _ h => h) (Or.inr ⟨by kernel_rfl, rfl⟩) (fun _ => by assumption) ?_
            try simp only [Act.put, List.getElem_toArray, List.getElem_cons_succ, List.getElem_cons_zero, List.setIfInBounds_toArray, List.set_cons_zero, List.set_cons_succ]
            refine wpAnyT_pure (i := 13) (v := ?_) rfl (by kernel_rfl) (by kernel_rfl) (by kernel_rfl) (by kernel_rfl) (fun _ _ _ h => h) (Or.inl ⟨by kernel_rfl, ?_⟩) (fun _ => by assumption) ?_
            rotate_left
            · intro V hV; clear hV; go_simp; try (with_reducible rfl)
            try simp only [Act.put, List.getElem_toArray, List.getElem_cons_succ, List.getElem_cons_zero, List.setIfInBounds_toArray, List.set_cons_zero, List.set_cons_succ]
            refine wpAnyT_pure (i := 19) (v := ?_) rfl (by kernel_rfl) (by kernel_rfl) (by kernel_rfl) (by kernel_rfl) (fun _ _ _ h => h) (Or.inl ⟨by kernel_rfl, ?_⟩) (fun _ => by assumption) ?_
            rotate_left
            · intro V hV; clear hV; go_simp; try (with_reducible rfl)
            try simp only [Act.put, List.getElem_toArray, List.getElem_cons_succ, List.getElem_cons_zero, List.setIfInBounds_toArray, List.set_cons_zero, List.set_cons_succ]
            refine wpAnyT_pure (i := 20) (v := ?_) rfl (by kernel_rfl) (by kernel_rfl) (by kernel_rfl) (by kernel_rfl) (fun _ _ _ h => h) (Or.inl ⟨by kernel_rfl, ?_⟩) (fun _ => by assumption) ?_
            rotate_left
            · intro V hV; clear hV; go_simp; try (with_reducible rfl)
            try simp only [Act.put, List.getElem_toArray, List.getElem_cons_succ, List.getElem_cons_zero, List.setIfInBounds_toArray, List.set_cons_zero, List.set_cons_succ]
            refine wpAnyT_pure (i := 21) (v := ?_) rfl (by kernel_rfl) (by kernel_rfl) (by kernel_rfl) (by kernel_rfl) (fun _ _ _ h => h) (Or.inl ⟨by kernel_rfl, ?_⟩) (fun _ => by assumption) ?_
            rotate_left
            · intro V hV; clear hV; go_simp; try (with_reducible rfl)
            try simp only [Act.put, List.getElem_toArray, List.getElem_cons_succ, List.getElem_cons_zero, List.setIfInBounds_toArray, List.set_cons_zero, List.set_cons_succ]
            have e0 : w8.cell? ⟨rb, 0, none⟩ = some (.slice (some ⟨sb, o, none⟩) ((q2 :: r2).length + 1) ((q2 :: r2).length + 1)) := S3.a
            have e1 : w8.cell? ⟨rb, 1, none⟩ = some (.bool true) := S3.b
            have g0 : w8.frozen? ⟨rb, 0, none⟩ = false := frozen_of_row _ _ _ _ _ h8
            have g1 : w8.frozen? ⟨rb, 1, none⟩ = false := frozen_of_row _ _ _ _ _ h8
            clear S3
            refine wpAnyT_one (i := 22) (by kernel_rfl) rfl (fun K hK => ?_)
            go_simp
            refine hK.out _ _ (fun h => absurd (show false = true from h) (by decide)) ?_
            clear hK K
            try simp only [Act.put, List.getElem_toArray, List.getElem_cons_succ, List.getElem_cons_zero, List.setIfInBounds_toArray, List.set_cons_zero, List.set_cons_succ]
            refine wpAnyT_pure (i := 23) (v := ?_) rfl (by kernel_rfl) (by kernel_rfl) (by kernel_rfl) (by kernel_rfl) (fun _ _ _ h => h) (Or.inl ⟨by kernel_rfl, ?_⟩) (fun h => absurd (show false = true from h) (by decide)) ?_
            rotate_left
            · intro V hV; clear hV; go_simp; try (with_reducible rfl)
            try simp only [Act.put, List.getElem_toArray, List.getElem_cons_succ, List.getElem_cons_zero, List.setIfInBounds_toArray, List.set_cons_zero, List.set_cons_succ]
            refine wpAnyT_pure (i := 24) (v := ?_) rfl (by kernel_rfl) (by kernel_rfl) (by kernel_rfl) (by kernel_rfl) (fun _ _ _ h => h) (Or.inl ⟨by kernel_rfl, ?_⟩) (fun h => absurd (show false = true from h) (by decide)) ?_
            rotate_left
            · intro V hV; clear hV; go_simp; try (with_reducible rfl)
            try simp only [Act.put, List.getElem_toArray, List.getElem_cons_succ, List.getElem_cons_zero, List.setIfInBounds_toArray, List.set_cons_zero, List.set_cons_succ]
            refine wpAnyT_one (i := 25) (by kernel_rfl) rfl (fun K hK => ?_)
            go_simp
            refine hK.out _ _ (fun h => absurd (show false = true from h) (by decide)) ?_
            clear hK K
            try simp only [Act.put, List.getElem_toArray, List.getElem_cons_succ, List.getElem_cons_zero, List.setIfInBounds_toArray, List.set_cons_zero, List.set_cons_succ]
            refine wpAnyT_done (by kernel_rfl) ?_ _
            have HRE : Hid (RdAt rb sb all (q2 :: r2) true ((w8.setCell ⟨rb, 1, none⟩ (.bool true)).setCell ⟨rb, 0, none⟩ (.slice (some ⟨sb, o + 1, none⟩) (q2 :: r2).length (q2 :: r2).length))) := HR8.out.put (a := some ⟨sb, o + 1, none⟩) (ws' := (q2 :: r2)) (heap_setCell_same _ _ _ _ _ _ (heap_setCell_same _ _ _ _ _ _ h8)) ((heap_setCell_other _ _ _ _ HR8.out.ne).trans (heap_setCell_other _ _ _ _ HR8.out.ne)) (fun hn => by first | exact ⟨_, rfl, drop_next h3⟩ | exact absurd rfl hn)
            have HNE : Hid (Only (fun i => i = rb) w8 ((w8.setCell ⟨rb, 1, none⟩ (.bool true)).setCell ⟨rb, 0, none⟩ (.slice (some ⟨sb, o + 1, none⟩) (q2 :: r2).length (q2 :: r2).length))) := ((Only.refl (fun i => i = rb) w8).set 1 _ (.inr rfl)).set 0 _ (.inr rfl)
            have HOE : Hid (((w8.setCell ⟨rb, 1, none⟩ (.bool true)).setCell ⟨rb, 0, none⟩ (.slice (some ⟨sb, o + 1, none⟩) (q2 :: r2).length (q2 :: r2).length)).ownsRow w.heap.size 57 2 (.slice (some ⟨gg, 0, none⟩) (out ++ [(dn, sg)]).length cap) (out ++ [(dn, sg)]).length (ptsC (out ++ [(dn, sg)]))) := by
              show World.ownsRow _ _ _ _ _ _ _
              rw [ptsC_snoc, List.length_append]
              exact tb_own HO8.out HNE.out (fun k hk e => by have := (HO8.out.lt k hk).1; omega)
            have HNF : Hid (Only (fun i => i = rb) w ((w8.setCell ⟨rb, 1, none⟩ (.bool true)).setCell ⟨rb, 0, none⟩ (.slice (some ⟨sb, o + 1, none⟩) (q2 :: r2).length (q2 :: r2).length))) := HN8.out.trans (HNE.out.mono (fun _ _ h => h))
            have HAE : Hid (AllR st ptF R (out ++ [(dn, sg)]) (q2 :: r2) true) := HAS.out
            have hle : (q2 :: r2).length + (out ++ [(dn, sg)]).length ≤ 1000000 := by
              have h := hlen
              simp only [List.length_append, List.length_cons, List.length_nil] at h ⊢
              omega
            have hvl : Value.slice (some ⟨gg, 0, none⟩) (out.length + 1) cap = .slice (some ⟨gg, 0, none⟩) (out ++ [(dn, sg)]).length cap := by rw [List.length_append]; rfl
            have HKS : Hid (∀ p ∈ out ++ [(dn, sg)], i64ok p.1) := fun p hp => by
              rcases List.mem_append.1 hp with h | h
              · exact HOKS.out p h
              · obtain rfl := List.mem_singleton.1 h; exact HDN.out
            have HVL := Lib.hid hvl
            clear hvl h8 hp8 HPA HPD HPL HNP HR8 HO8 HN8 HNE h3 e0 e1 g0 g1 HAS KS k0 HSA HNA HRA HRD HOA HO2 HR2
            go_wp2_with fail
            go_roundw
            case rel => exact ⟨out ++ [(dn, sg)], (q2 :: r2), true, some ⟨gg, 0, none⟩, cap, HVL.out, HRE, HAE, HOE, HNF, hle, HKS⟩
            case measure => simp [lenOf]; omega
        | false =>
          cases db with
          | true =>
            cases r with
            | nil =>
              have k0 : Hid (∀ W : World, W.heap[rb]? = some (.cells #[.slice (some ⟨sb, o, none⟩) (([] : List ByteArray).length + 1) (([] : List ByteArray).length + 1), .bool false] 96 (0, 0)) → W.heap[pb]? = some (.cells #[.int .i64 dn, .bool sg] 57 (0, 0)) → PtS rb sb pb o (([] : List ByteArray).length + 1) false dn sg W) := fun W h h' => ⟨cell_row h rfl, cell_row h rfl, cell_row h' rfl, cell_row h' rfl⟩
              have KS : Hid (∀ V : World, PtS rb sb pb o (([] : List ByteArray).length + 1) false dn sg V → (V.cell? ⟨rb, 0, none⟩ = some (.slice (some ⟨sb, o, none⟩) (([] : List ByteArray).length + 1) (([] : List ByteArray).length + 1)) ∧ V.cell? ⟨rb, 1, none⟩ = some (.bool false) ∧ V.cell? ⟨pb, 0, none⟩ = some (.int .i64 dn) ∧ V.cell? ⟨pb, 1, none⟩ = some (.bool sg))) := fun V h => ⟨h.a, h.b, h.c, h.d⟩
              refine wp_region_T (PtS rb sb pb o (([] : List ByteArray).length + 1) false dn sg) [22, 25] (by kernel_rfl) ?_
              change wpAnyT _ _ _ _ _ _ _ _ _ (World.drew _)
              have S1 := k0.out _ HRD.out HPD.out
              clear c0 c1 f0 f1
              refine wpAnyT_pure (i := 0) (v := ?_) rfl (by kernel_rfl) (by kernel_rfl) (by kernel_rfl) (by kernel_rfl) (fun _ _ _ h => h) (Or.inl ⟨by kernel_rfl, ?_⟩) (fun _ => by assumption) ?_
              rotate_left
              · intro V hV; clear hV; go_simp; try (with_reducible rfl)
              try simp only [Act.put, List.getElem_toArray, List.getElem_cons_succ, List.getElem_cons_zero, List.setIfInBounds_toArray, List.set_cons_zero, List.set_cons_succ]
              refine wpAnyT_pure (i := 1) (v := ?_) rfl (by kernel_rfl) (by kernel_rfl) (by kernel_rfl) (by kernel_rfl) (fun _ _ _ h => h) (Or.inl ⟨by kernel_rfl, ?_⟩) (fun _ => by assumption) ?_
              rotate_left
              · intro V hV; clear hV; go_simp; try (with_reducible rfl)
              try simp only [Act.put, List.getElem_toArray, List.getElem_cons_succ, List.getElem_cons_zero, List.setIfInBounds_toArray, List.set_cons_zero, List.set_cons_succ]
              refine wpAnyT_pure (i := 2) (v := ?_) rfl (by kernel_rfl) (by kernel_rfl) (by kernel_rfl) (by kernel_rfl) (fun _ _ _ h => h) (Or.inl ⟨by kernel_rfl, ?_⟩) (fun _ => by assumption) ?_
              rotate_left
              · intro V hV; clear hV; go_simp; try (with_reducible rfl)
              try simp only [Act.put, List.getElem_toArray, List.getElem_cons_succ, List.getElem_cons_zero, List.setIfInBounds_toArray, List.set_cons_zero, List.set_cons_succ]
              refine wpAnyT_take (i := 3) (v := ?_) rfl (by kernel_rfl) (by kernel_rfl) (by kernel_rfl) (by kernel_rfl) (fun _ _ _ h => h) (Or.inl ⟨by kernel_rfl, ?_⟩) (by assumption) ?_
              rotate_left
              · intro V hV; have k := KS.out V hV; clear hV; go_simp; try (with_reducible rfl)
              try simp only [Act.put, List.getElem_toArray, List.getElem_cons_succ, List.getElem_cons_zero, List.setIfInBounds_toArray, List.set_cons_zero, List.set_cons_succ]
              refine wpAnyT_pure (i := 6) (v := ?_) rfl (by kernel_rfl) (by kernel_rfl) (by kernel_rfl) (by kernel_rfl) (fun _ _ _ h => h) (Or.inl ⟨by kernel_rfl, ?_⟩) (fun _ => by assumption) ?_
              rotate_left
              · intro V hV; clear hV; go_simp; try (with_reducible rfl)
              try simp only [Act.put, List.getElem_toArray, List.getElem_cons_succ, List.getElem_cons_zero, List.setIfInBounds_toArray, List.set_cons_zero, List.set_cons_succ]
              refine wpAnyT_pure (i := 7) (v := ?_) rfl (by kernel_rfl) (by kernel_rfl) (by kernel_rfl) (by kernel_rfl) (fun _ _ _ h => h) (Or.inl ⟨by kernel_rfl, ?_⟩) (fun _ => by assumption) ?_
              rotate_left
              · intro V hV; clear hV; go_simp; try (with_reducible rfl)
              try simp only [Act.put, List.getElem_toArray, List.getElem_cons_succ, List.getElem_cons_zero, List.setIfInBounds_toArray, List.set_cons_zero, List.set_cons_succ]
              refine wpAnyT_pure (i := 8) (v := ?_) rfl (by kernel_rfl) (by kernel_rfl) (by kernel_rfl) (by kernel_rfl) (fun _ _ _ h => h) (Or.inl ⟨by kernel_rfl, ?_⟩) (fun _ => by assumption) ?_
              rotate_left
              · intro V hV; clear hV; go_simp; try (with_reducible rfl)
              try simp only [Act.put, List.getElem_toArray, List.getElem_cons_succ, List.getElem_cons_zero, List.setIfInBounds_toArray, List.set_cons_zero, List.set_cons_succ]
              refine wpAnyT_take (i := 9) (v := ?_) rfl (by kernel_rfl) (by kernel_rfl) (by kernel_rfl) (by kernel_rfl) (fun _ _ _ h => h) (Or.inl ⟨by kernel_rfl, ?_⟩) (by assumption) ?_
              rotate_left
              · intro V hV; have k := KS.out V hV; clear hV; go_simp; try (with_reducible rfl)
              try simp only [Act.put, List.getElem_toArray, List.getElem_cons_succ, List.getElem_cons_zero, List.setIfInBounds_toArray, List.set_cons_zero, List.set_cons_succ]
              refine wpAnyT_pure (i := 14) (v := ?_) rfl (by kernel_rfl) (by kernel_rfl) (by kernel_rfl) (by kernel_rfl) (fun _ _ _ h => h) (Or.inl ⟨by kernel_rfl, ?_⟩) (fun _ => by assumption) ?_
              rotate_left
              · intro V hV; clear hV; go_simp; try (with_reducible rfl)
              try simp only [Act.put, List.getElem_toArray, List.getElem_cons_succ, List.getElem_cons_zero, List.setIfInBounds_toArray, List.set_cons_zero, List.set_cons_succ]
              refine wpAnyT_pure (i := 15) (v := ?_) rfl (by kernel_rfl) (by kernel_rfl) (by kernel_rfl) (by kernel_rfl) (fun _ _ _ h => h) (Or.inl ⟨by kernel_rfl, ?_⟩) (fun _ => by assumption) ?_
              rotate_left
              · intro V hV; clear hV; go_simp; try (with_reducible rfl)
              try simp only [Act.put, List.getElem_toArray, List.getElem_cons_succ, List.getElem_cons_zero, List.setIfInBounds_toArray, List.set_cons_zero, List.set_cons_succ]
              refine wpAnyT_pure (i := 16) (v := ?_) rfl (by kernel_rfl) (by kernel_rfl) (by kernel_rfl) (by kernel_rfl) (fun _ _ _ h => h) (Or.inl ⟨by kernel_rfl, ?_⟩) (fun _ => by assumption) ?_
              rotate_left
              · intro V hV; clear hV; go_simp; try (with_reducible rfl)
              try simp only [Act.put, List.getElem_toArray, List.getElem_cons_succ, List.getElem_cons_zero, List.setIfInBounds_toArray, List.set_cons_zero, List.set_cons_succ]
              refine wpAnyT_take (i := 17) (v := ?_) rfl (by kernel_rfl) (by kernel_rfl) (by kernel_rfl) (by kernel_rfl) (fun _ _ _ h => h) (Or.inl ⟨by kernel_rfl, ?_⟩) (by assumption) ?_
              rotate_left
              · intro V hV; have k := KS.out V hV; clear hV; go_simp; try (with_reducible rfl)
              try simp only [Act.put, List.getElem_toArray, List.getElem_cons_succ, List.getElem_cons_zero, List.setIfInBounds_toArray, List.set_cons_zero, List.set_cons_succ]
              refine wpAnyT_pure (i := 18) (v := ?_) rfl (by kernel_rfl) (by kernel_rfl) (by kernel_rfl) (by kernel_rfl) (fun _ _ _ h => h) (Or.inl ⟨by kernel_rfl, ?_⟩) (fun _ => by assumption) ?_
              rotate_left
              · intro V hV; clear hV; go_simp; try (with_reducible rfl)
              try simp only [Act.put, List.getElem_toArray, List.getElem_cons_succ, List.getElem_cons_zero, List.setIfInBounds_toArray, List.set_cons_zero, List.set_cons_succ]
              refine wpAnyT_one (i := 4) (by kernel_rfl) rfl (fun K hK => ?_)
              go_simp
              refine hK.out _ _ (fun _ => k0.out _ HRA.out HPA.out) ?_
              clear hK K S1
              try simp only [Act.put, List.getElem_toArray, List.getElem_cons_succ, List.getElem_cons_zero, List.setIfInBounds_toArray, List.set_cons_zero, List.set_cons_succ]
              have S2 := k0.out _ HRA.out HPA.out
              refine wpAnyT_one (i := 5) (by kernel_rfl) rfl (fun K hK => ?_)
              refine step_append_lies _ (by rfl) _ _ _ (by rfl) w.heap.size 57 i0 (.agg #[.int .i64 0, .bool false]) 2 16 Tryz.underlying27 HIn.out HZ0.out HZ1.out HZ2.out rfl (by omega) _ out.length (ptsC out) (by rfl) HOA.out ⟨w2.heap.size, 0, none⟩ 1 1 [.int .i64 dn, .bool sg] (by rfl) (by rfl) (World.news_of_block (heap_alloc_new w2.drew _)) (by simp [Value.oneCell']) (by omega) (by unfold maxLen; omega) (by omega) (by have := HCW.out; simp; omega) (w2.heap.size + 1) (by simp) ?_
              intro gg cap w8 hown8 hgrow hat hlt8
              have HR8 : Hid (RdAt rb sb all (q :: ([] : List ByteArray)) false w8) := HR2.out.put (a := some ⟨sb, o, none⟩) ((hgrow.block rb (by simp; have := HCW.out; omega) (HNR.out rb hrl)).trans HRA.out) ((hgrow.block sb (by simp; have := HCW.out; have := HSL.out; omega) (HNR.out sb HSL.out)).trans HSA.out) (fun _ => ⟨o, rfl, h3⟩)
              have h8 : w8.heap[rb]? = some (.cells #[.slice (some ⟨sb, o, none⟩) (([] : List ByteArray).length + 1) (([] : List ByteArray).length + 1), .bool false] 96 (0, 0)) := (hgrow.block rb (by simp; have := HCW.out; omega) (HNR.out rb hrl)).trans HRA.out
              have hp8 : w8.heap[pb]? = some (.cells #[.int .i64 dn, .bool sg] 57 (0, 0)) := (hgrow.block pb (by simp; have := HPL.out; omega) HNP.out).trans HPA.out
              have HN8 : Hid (Only (fun i => i = rb) w w8) := HNA.out.fresh (Only.grown hgrow (fun g hg => .inr (HOA.out.lt g hg).1))
              have HO8 := Lib.hid hown8
              clear hown8 hgrow hat hlt8 S2
              refine hK.out _ _ (fun _ => k0.out _ h8 hp8) ?_
              clear hK K
              try simp only [Act.put, List.getElem_toArray, List.getElem_cons_succ, List.getElem_cons_zero, List.setIfInBounds_toArray, List.set_cons_zero, List.set_cons_succ]
              have S3 := k0.out _ h8 hp8
              refine wpAnyT_pure (i := 10) (v := ?_) rfl (by kernel_rfl) (by kernel_rfl) (by kernel_rfl) (by kernel_rfl) (fun _ _ _ h => h) (Or.inl ⟨by kernel_rfl, ?_⟩) (fun _ => by assumption) ?_
              rotate_left
              · intro V hV; clear hV; go_simp; try (with_reducible rfl)
              try simp only [Act.put, List.getElem_toArray, List.getElem_cons_succ, List.getElem_cons_zero, List.setIfInBounds_toArray, List.set_cons_zero, List.set_cons_succ]
              refine wpAnyT_pure (i := 11) (v := ?_) rfl (by kernel_rfl) (by kernel_rfl) (by kernel_rfl) (by kernel_rfl) (fun _ _ _ h => h) (Or.inl ⟨by kernel_rfl, ?_⟩) (fun _ => by assumption) ?_
              rotate_left
              · intro V hV; clear hV; go_simp; try (with_reducible rfl)
              try simp only [Act.put, List.getElem_toArray, List.getElem_cons_succ, List.getElem_cons_zero, List.setIfInBounds_toArray, List.set_cons_zero, List.set_cons_succ]
              refine wpAnyT_pure (i := 12) (v := ?_) rfl (by kernel_rfl) (by kernel_rfl) (by kernel_rfl) (by kernel_rfl) (fun _ _ _ h => h) (Or.inl ⟨by kernel_rfl, ?_⟩) (fun _ => by assumption) ?_
              rotate_left
              · intro V hV; clear hV; go_simp; try (with_reducible rfl)
              try simp only [Act.put, List.getElem_toArray, List.getElem_cons_succ, List.getElem_cons_zero, List.setIfInBounds_toArray, List.set_cons_zero, List.set_cons_succ]
              refine wpAnyT_pure (i := 13) (v := ?_) rfl (by kernel_rfl) (by kernel_rfl) (by kernel_rfl) (by kernel_rfl) (fun _ _ _ h => h) (Or.inl ⟨by kernel_rfl, ?_⟩) (fun _ => by assumption) ?_
              rotate_left
              · intro V hV; clear hV; go_simp; try (with_reducible rfl)
              try simp only [Act.put, List.getElem_toArray, List.getElem_cons_succ, List.getElem_cons_zero, List.setIfInBounds_toArray, List.set_cons_zero, List.set_cons_succ]
              refine wpAnyT_pure (i := 19) (v := ?_) rfl (by kernel_rfl) (by kernel_rfl) (by kernel_rfl) (by kernel_rfl) (fun _ _ _ h => h) (Or.inl ⟨by kernel_rfl, ?_⟩) (fun _ => by assumption) ?_
              rotate_left
              · intro V hV; clear hV; go_simp; try (with_reducible rfl)
              try simp only [Act.put, List.getElem_toArray, List.getElem_cons_succ, List.getElem_cons_zero, List.setIfInBounds_toArray, List.set_cons_zero, List.set_cons_succ]
              refine wpAnyT_pure (i := 20) (v := ?_) rfl (by kernel_rfl) (by kernel_rfl) (by kernel_rfl) (by kernel_rfl) (fun _ _ _ h => h) (Or.inl ⟨by kernel_rfl, ?_⟩) (fun _ => by assumption) ?_
              rotate_left
              · intro V hV; clear hV; go_simp; try (with_reducible rfl)
              try simp only [Act.put, List.getElem_toArray, List.getElem_cons_succ, List.getElem_cons_zero, List.setIfInBounds_toArray, List.set_cons_zero, List.set_cons_succ]
              refine wpAnyT_pure (i := 21) (v := ?_) rfl (by kernel_rfl) (by kernel_rfl) (by kernel_rfl) (by kernel_rfl) (fun _ _ _ h => h) (Or.inl ⟨by kernel_rfl, ?_⟩) (fun _ => by assumption) ?_
              rotate_left
              · intro V hV; clear hV; go_simp; try (with_reducible rfl)
              try simp only [Act.put, List.getElem_toArray, List.getElem_cons_succ, List.getElem_cons_zero, List.setIfInBounds_toArray, List.set_cons_zero, List.set_cons_succ]
              have e0 : w8.cell? ⟨rb, 0, none⟩ = some (.slice (some ⟨sb, o, none⟩) (([] : List ByteArray).length + 1) (([] : List ByteArray).length + 1)) := S3.a
              have e1 : w8.cell? ⟨rb, 1, none⟩ = some (.bool false) := S3.b
              have g0 : w8.frozen? ⟨rb, 0, none⟩ = false := frozen_of_row _ _ _ _ _ h8
              have g1 : w8.frozen? ⟨rb, 1, none⟩ = false := frozen_of_row _ _ _ _ _ h8
              clear S3
              refine wpAnyT_one (i := 22) (by kernel_rfl) rfl (fun K hK => ?_)
              go_simp
              refine hK.out _ _ (fun h => absurd (show false = true from h) (by decide)) ?_
              clear hK K
              try simp only [Act.put, List.getElem_toArray, List.getElem_cons_succ, List.getElem_cons_zero, List.setIfInBounds_toArray, List.set_cons_zero, List.set_cons_succ]
              refine wpAnyT_pure (i := 23) (v := ?_) rfl (by kernel_rfl) (by kernel_rfl) (by kernel_rfl) (by kernel_rfl) (fun _ _ _ h => h) (Or.inl ⟨by kernel_rfl, ?_⟩) (fun h => absurd (show false = true from h) (by decide)) ?_
              rotate_left
              · intro V hV; clear hV; go_simp; try (with_reducible rfl)
              try simp only [Act.put, List.getElem_toArray, List.getElem_cons_succ, List.getElem_cons_zero, List.setIfInBounds_toArray, List.set_cons_zero, List.set_cons_succ]
              refine wpAnyT_pure (i := 24) (v := ?_) rfl (by kernel_rfl) (by kernel_rfl) (by kernel_rfl) (by kernel_rfl) (fun _ _ _ h => h) (Or.inl ⟨by kernel_rfl, ?_⟩) (fun h => absurd (show false = true from h) (by decide)) ?_
              rotate_left
              · intro V hV; clear hV; go_simp; try (with_reducible rfl)
              try simp only [Act.put, List.getElem_toArray, List.getElem_cons_succ, List.getElem_cons_zero, List.setIfInBounds_toArray, List.set_cons_zero, List.set_cons_succ]
              refine wpAnyT_one (i := 25) (by kernel_rfl) rfl (fun K hK => ?_)
              go_simp
              refine hK.out _ _ (fun h => absurd (show false = true from h) (by decide)) ?_
              clear hK K
              try simp only [Act.put, List.getElem_toArray, List.getElem_cons_succ, List.getElem_cons_zero, List.setIfInBounds_toArray, List.set_cons_zero, List.set_cons_succ]
              refine wpAnyT_done (by kernel_rfl) ?_ _
              have HRE : Hid (RdAt rb sb all ([] : List ByteArray) false ((w8.setCell ⟨rb, 1, none⟩ (.bool false)).setCell ⟨rb, 0, none⟩ (.slice (some ⟨sb, o, none⟩) ([] : List ByteArray).length ([] : List ByteArray).length))) := HR8.out.put (a := some ⟨sb, o, none⟩) (ws' := ([] : List ByteArray)) (heap_setCell_same _ _ _ _ _ _ (heap_setCell_same _ _ _ _ _ _ h8)) ((heap_setCell_other _ _ _ _ HR8.out.ne).trans (heap_setCell_other _ _ _ _ HR8.out.ne)) (fun hn => by first | exact ⟨_, rfl, drop_next h3⟩ | exact absurd rfl hn)
              have HNE : Hid (Only (fun i => i = rb) w8 ((w8.setCell ⟨rb, 1, none⟩ (.bool false)).setCell ⟨rb, 0, none⟩ (.slice (some ⟨sb, o, none⟩) ([] : List ByteArray).length ([] : List ByteArray).length))) := ((Only.refl (fun i => i = rb) w8).set 1 _ (.inr rfl)).set 0 _ (.inr rfl)
              have HOE : Hid (((w8.setCell ⟨rb, 1, none⟩ (.bool false)).setCell ⟨rb, 0, none⟩ (.slice (some ⟨sb, o, none⟩) ([] : List ByteArray).length ([] : List ByteArray).length)).ownsRow w.heap.size 57 2 (.slice (some ⟨gg, 0, none⟩) (out ++ [(dn, sg)]).length cap) (out ++ [(dn, sg)]).length (ptsC (out ++ [(dn, sg)]))) := by
                show World.ownsRow _ _ _ _ _ _ _
                rw [ptsC_snoc, List.length_append]
                exact tb_own HO8.out HNE.out (fun k hk e => by have := (HO8.out.lt k hk).1; omega)
              have HNF : Hid (Only (fun i => i = rb) w ((w8.setCell ⟨rb, 1, none⟩ (.bool false)).setCell ⟨rb, 0, none⟩ (.slice (some ⟨sb, o, none⟩) ([] : List ByteArray).length ([] : List ByteArray).length))) := HN8.out.trans (HNE.out.mono (fun _ _ h => h))
              have HAE : Hid (AllR st ptF R (out ++ [(dn, sg)]) ([] : List ByteArray) false) := HAS.out
              have hle : ([] : List ByteArray).length + (out ++ [(dn, sg)]).length ≤ 1000000 := by
                have h := hlen
                simp only [List.length_append, List.length_cons, List.length_nil] at h ⊢
                omega
              have hvl : Value.slice (some ⟨gg, 0, none⟩) (out.length + 1) cap = .slice (some ⟨gg, 0, none⟩) (out ++ [(dn, sg)]).length cap := by rw [List.length_append]; rfl
              have HKS : Hid (∀ p ∈ out ++ [(dn, sg)], i64ok p.1) := fun p hp => by
                rcases List.mem_append.1 hp with h | h
                · exact HOKS.out p h
                · obtain rfl := List.mem_singleton.1 h; exact HDN.out
              have HVL := Lib.hid hvl
              clear hvl h8 hp8 HPA HPD HPL HNP HR8 HO8 HN8 HNE h3 e0 e1 g0 g1 HAS KS k0 HSA HNA HRA HRD HOA HO2 HR2
              go_wp2_with fail
              go_roundw
              case rel => exact ⟨out ++ [(dn, sg)], ([] : List ByteArray), false, some ⟨gg, 0, none⟩, cap, HVL.out, HRE, HAE, HOE, HNF, hle, HKS⟩
              case measure => simp [lenOf]; omega
            | cons q2 r2 =>
              have hbd : (1 : Int) ≤ (r2.length : Int) + 1 + 1 := by omega
              have k0 : Hid (∀ W : World, W.heap[rb]? = some (.cells #[.slice (some ⟨sb, o, none⟩) ((q2 :: r2).length + 1) ((q2 :: r2).length + 1), .bool false] 96 (0, 0)) → W.heap[pb]? = some (.cells #[.int .i64 dn, .bool sg] 57 (0, 0)) → PtS rb sb pb o ((q2 :: r2).length + 1) false dn sg W) := fun W h h' => ⟨cell_row h rfl, cell_row h rfl, cell_row h' rfl, cell_row h' rfl⟩
              have KS : Hid (∀ V : World, PtS rb sb pb o ((q2 :: r2).length + 1) false dn sg V → (V.cell? ⟨rb, 0, none⟩ = some (.slice (some ⟨sb, o, none⟩) ((q2 :: r2).length + 1) ((q2 :: r2).length + 1)) ∧ V.cell? ⟨rb, 1, none⟩ = some (.bool false) ∧ V.cell? ⟨pb, 0, none⟩ = some (.int .i64 dn) ∧ V.cell? ⟨pb, 1, none⟩ = some (.bool sg))) := fun V h => ⟨h.a, h.b, h.c, h.d⟩
              refine wp_region_T (PtS rb sb pb o ((q2 :: r2).length + 1) false dn sg) [22, 25] (by kernel_rfl) ?_
              change wpAnyT _ _ _ _ _ _ _ _ _ (World.drew _)
              have S1 := k0.out _ HRD.out HPD.out
              clear c0 c1 f0 f1
              refine wpAnyT_pure (i := 0) (v := ?_) rfl (by kernel_rfl) (by kernel_rfl) (by kernel_rfl) (by kernel_rfl) (fun _ _ _ h => h) (Or.inl ⟨by kernel_rfl, ?_⟩) (fun _ => by assumption) ?_
              rotate_left
              · intro V hV; clear hV; go_simp; try (with_reducible rfl)
              try simp only [Act.put, List.getElem_toArray, List.getElem_cons_succ, List.getElem_cons_zero, List.setIfInBounds_toArray, List.set_cons_zero, List.set_cons_succ]
              refine wpAnyT_pure (i := 1) (v := ?_) rfl (by kernel_rfl) (by kernel_rfl) (by kernel_rfl) (by kernel_rfl) (fun _ _ _ h => h) (Or.inl ⟨by kernel_rfl, ?_⟩) (fun _ => by assumption) ?_
              rotate_left
              · intro V hV; clear hV; go_simp; try (with_reducible rfl)
              try simp only [Act.put, List.getElem_toArray, List.getElem_cons_succ, List.getElem_cons_zero, List.setIfInBounds_toArray, List.set_cons_zero, List.set_cons_succ]
              refine wpAnyT_pure (i := 2) (v := ?_) rfl (by kernel_rfl) (by kernel_rfl) (by kernel_rfl) (by kernel_rfl) (fun _ _ _ h => h) (Or.inl ⟨by kernel_rfl, ?_⟩) (fun _ => by assumption) ?_
              rotate_left
              · intro V hV; clear hV; go_simp; try (with_reducible rfl)
              try simp only [Act.put, List.getElem_toArray, List.getElem_cons_succ, List.getElem_cons_zero, List.setIfInBounds_toArray, List.set_cons_zero, List.set_cons_succ]
              refine wpAnyT_take (i := 3) (v := ?_) rfl (by kernel_rfl) (by kernel_rfl) (by kernel_rfl) (by kernel_rfl) (fun _ _ _ h => h) (Or.inl ⟨by kernel_rfl, ?_⟩) (by assumption) ?_
              rotate_left
              · intro V hV; have k := KS.out V hV; clear hV; go_simp; try (with_reducible rfl)
              try simp only [Act.put, List.getElem_toArray, List.getElem_cons_succ, List.getElem_cons_zero, List.setIfInBounds_toArray, List.set_cons_zero, List.set_cons_succ]
              refine wpAnyT_pure (i := 6) (v := ?_) rfl (by kernel_rfl) (by kernel_rfl) (by kernel_rfl) (by kernel_rfl) (fun _ _ _ h => h) (Or.inl ⟨by kernel_rfl, ?_⟩) (fun _ => by assumption) ?_
              rotate_left
              · intro V hV; clear hV; go_simp; try (with_reducible rfl)
              try simp only [Act.put, List.getElem_toArray, List.getElem_cons_succ, List.getElem_cons_zero, List.setIfInBounds_toArray, List.set_cons_zero, List.set_cons_succ]
              refine wpAnyT_pure (i := 7) (v := ?_) rfl (by kernel_rfl) (by kernel_rfl) (by kernel_rfl) (by kernel_rfl) (fun _ _ _ h => h) (Or.inl ⟨by kernel_rfl, ?_⟩) (fun _ => by assumption) ?_
              rotate_left
              · intro V hV; clear hV; go_simp; try (with_reducible rfl)
              try simp only [Act.put, List.getElem_toArray, List.getElem_cons_succ, List.getElem_cons_zero, List.setIfInBounds_toArray, List.set_cons_zero, List.set_cons_succ]
              refine wpAnyT_pure (i := 8) (v := ?_) rfl (by kernel_rfl) (by kernel_rfl) (by kernel_rfl) (by kernel_rfl) (fun _ _ _ h => h) (Or.inl ⟨by kernel_rfl, ?_⟩) (fun _ => by assumption) ?_
              rotate_left
              · intro V hV; clear hV; go_simp; try (with_reducible rfl)
              try simp only [Act.put, List.getElem_toArray, List.getElem_cons_succ, List.getElem_cons_zero, List.setIfInBounds_toArray, List.set_cons_zero, List.set_cons_succ]
              refine wpAnyT_take (i := 9) (v := ?_) rfl (by kernel_rfl) (by kernel_rfl) (by kernel_rfl) (by kernel_rfl) (fun _ _ _ h => h) (Or.inl ⟨by kernel_rfl, ?_⟩) (by assumption) ?_
              rotate_left
              · intro V hV; have k := KS.out V hV; clear hV; go_simp; try (with_reducible rfl)
              try simp only [Act.put, List.getElem_toArray, List.getElem_cons_succ, List.getElem_cons_zero, List.setIfInBounds_toArray, List.set_cons_zero, List.set_cons_succ]
              refine wpAnyT_pure (i := 14) (v := ?_) rfl (by kernel_rfl) (by kernel_rfl) (by kernel_rfl) (by kernel_rfl) (fun _ _ _ h => h) (Or.inl ⟨by kernel_rfl, ?_⟩) (fun _ => by assumption) ?_
              rotate_left
              · intro V hV; clear hV; go_simp; try (with_reducible rfl)
              try simp only [Act.put, List.getElem_toArray, List.getElem_cons_succ, List.getElem_cons_zero, List.setIfInBounds_toArray, List.set_cons_zero, List.set_cons_succ]
              refine wpAnyT_pure (i := 15) (v := ?_) rfl (by kernel_rfl) (by kernel_rfl) (by kernel_rfl) (by kernel_rfl) (fun _ _ _ h => h) (Or.inl ⟨by kernel_rfl, ?_⟩) (fun _ => by assumption) ?_
              rotate_left
              · intro V hV; clear hV; go_simp; try (with_reducible rfl)
              try simp only [Act.put, List.getElem_toArray, List.getElem_cons_succ, List.getElem_cons_zero, List.setIfInBounds_toArray, List.set_cons_zero, List.set_cons_succ]
              refine wpAnyT_pure (i := 16) (v := ?_) rfl (by kernel_rfl) (by kernel_rfl) (by kernel_rfl) (by kernel_rfl) (fun _ _ _ h => h) (Or.inl ⟨by kernel_rfl, ?_⟩) (fun _ => by assumption) ?_
              rotate_left
              · intro V hV; clear hV; go_simp; try (with_reducible rfl)
              try simp only [Act.put, List.getElem_toArray, List.getElem_cons_succ, List.getElem_cons_zero, List.setIfInBounds_toArray, List.set_cons_zero, List.set_cons_succ]
              refine wpAnyT_take (i := 17) (v := ?_) rfl (by kernel_rfl) (by kernel_rfl) (by kernel_rfl) (by kernel_rfl) (fun _ _ _ h => h) (Or.inl ⟨by kernel_rfl, ?_⟩) (by assumption) ?_
              rotate_left
              · intro V hV; have k := KS.out V hV; clear hV; go_simp; try (with_reducible rfl)
              try simp only [Act.put, List.getElem_toArray, List.getElem_cons_succ, List.getElem_cons_zero, List.setIfInBounds_toArray, List.set_cons_zero, List.set_cons_succ]
              refine wpAnyT_pure (i := 18) (v := ?_) rfl (by kernel_rfl) (by kernel_rfl) (by kernel_rfl) (by kernel_rfl) (fun _ _ _ h => h) (Or.inl ⟨by kernel_rfl, ?_⟩) (fun _ => by assumption) ?_
              rotate_left
              · intro V hV; clear hV; go_simp; try (with_reducible rfl)
              try simp only [Act.put, List.getElem_toArray, List.getElem_cons_succ, List.getElem_cons_zero, List.setIfInBounds_toArray, List.set_cons_zero, List.set_cons_succ]
              refine wpAnyT_one (i := 4) (by kernel_rfl) rfl (fun K hK => ?_)
              go_simp
              refine hK.out _ _ (fun _ => k0.out _ HRA.out HPA.out) ?_
              clear hK K S1
              try simp only [Act.put, List.getElem_toArray, List.getElem_cons_succ, List.getElem_cons_zero, List.setIfInBounds_toArray, List.set_cons_zero, List.set_cons_succ]
              have S2 := k0.out _ HRA.out HPA.out
              refine wpAnyT_one (i := 5) (by kernel_rfl) rfl (fun K hK => ?_)
              refine step_append_lies _ (by rfl) _ _ _ (by rfl) w.heap.size 57 i0 (.agg #[.int .i64 0, .bool false]) 2 16 Tryz.underlying27 HIn.out HZ0.out HZ1.out HZ2.out rfl (by omega) _ out.length (ptsC out) (by rfl) HOA.out ⟨w2.heap.size, 0, none⟩ 1 1 [.int .i64 dn, .bool sg] (by rfl) (by rfl) (World.news_of_block (heap_alloc_new w2.drew _)) (by simp [Value.oneCell']) (by omega) (by unfold maxLen; omega) (by omega) (by have := HCW.out; simp; omega) (w2.heap.size + 1) (by simp) ?_
              intro gg cap w8 hown8 hgrow hat hlt8
              have HR8 : Hid (RdAt rb sb all (q :: (q2 :: r2)) false w8) := HR2.out.put (a := some ⟨sb, o, none⟩) ((hgrow.block rb (by simp; have := HCW.out; omega) (HNR.out rb hrl)).trans HRA.out) ((hgrow.block sb (by simp; have := HCW.out; have := HSL.out; omega) (HNR.out sb HSL.out)).trans HSA.out) (fun _ => ⟨o, rfl, h3⟩)
              have h8 : w8.heap[rb]? = some (.cells #[.slice (some ⟨sb, o, none⟩) ((q2 :: r2).length + 1) ((q2 :: r2).length + 1), .bool false] 96 (0, 0)) := (hgrow.block rb (by simp; have := HCW.out; omega) (HNR.out rb hrl)).trans HRA.out
              have hp8 : w8.heap[pb]? = some (.cells #[.int .i64 dn, .bool sg] 57 (0, 0)) := (hgrow.block pb (by simp; have := HPL.out; omega) HNP.out).trans HPA.out
              have HN8 : Hid (Only (fun i => i = rb) w w8) := HNA.out.fresh (Only.grown hgrow (fun g hg => .inr (HOA.out.lt g hg).1))
              have HO8 := Lib.hid hown8
              clear hown8 hgrow hat hlt8 S2
              refine hK.out _ _ (fun _ => k0.out _ h8 hp8) ?_
              clear hK K
              try simp only [Act.put, List.getElem_toArray, List.getElem_cons_succ, List.getElem_cons_zero, List.setIfInBounds_toArray, List.set_cons_zero, List.set_cons_succ]
              have S3 := k0.out _ h8 hp8
              refine wpAnyT_pure (i := 10) (v := ?_) rfl (by kernel_rfl) (by kernel_rfl) (by kernel_rfl) (by kernel_rfl) (fun _ _ _ h => h) (Or.inl ⟨by kernel_rfl, ?_⟩) (fun _ => by assumption) ?_
              rotate_left
              · intro V hV; clear hV; go_simp; try (with_reducible rfl)
              try simp only [Act.put, List.getElem_toArray, List.getElem_cons_succ, List.getElem_cons_zero, List.setIfInBounds_toArray, List.set_cons_zero, List.set_cons_succ]
              refine wpAnyT_pure (i := 11) (v := ?_) rfl (by kernel_rfl) (by kernel_rfl) (by kernel_rfl) (by kernel_rfl) (fun _ _ _ h => h) (Or.inl ⟨by kernel_rfl, ?_⟩) (fun _ => by assumption) ?_
              rotate_left
              · intro V hV; clear hV; go_simp; try (with_reducible rfl)
              try simp only [Act.put, List.getElem_toArray, List.getElem_cons_succ, List.getElem_cons_zero, List.setIfInBounds_toArray, List.set_cons_zero, List.set_cons_succ]
              refine wpAnyT_pure (i := 12) (v := ?_) rfl (by kernel_rfl) (by kernel_rfl) (by kernel_rfl) (by kernel_rfl) (fun _ _ _ h => h) (Or.inl ⟨by kernel_rfl, ?_⟩) (fun _ => by assumption) ?_
              rotate_left
              · intro V hV; clear hV; go_simp; try (with_reducible rfl)
              try simp only [Act.put, List.getElem_toArray, List.getElem_cons_succ, List.getElem_cons_zero, List.setIfInBounds_toArray, List.set_cons_zero, List.set_cons_succ]
              refine wpAnyT_pure (i := 13) (v := ?_) rfl (by kernel_rfl) (by kernel_rfl) (by kernel_rfl) (by kernel_rfl) (fun _ _ _ h => h) (Or.inl ⟨by kernel_rfl, ?_⟩) (fun _ => by assumption) ?_
              rotate_left
              · intro V hV; clear hV; go_simp; try (with_reducible rfl)
              try simp only [Act.put, List.getElem_toArray, List.getElem_cons_succ, List.getElem_cons_zero, List.setIfInBounds_toArray, List.set_cons_zero, List.set_cons_succ]
              refine wpAnyT_pure (i := 19) (v := ?_) rfl (by kernel_rfl) (by kernel_rfl) (by kernel_rfl) (by kernel_rfl) (fun _ _ _ h => h) (Or.inl ⟨by kernel_rfl, ?_⟩) (fun _ => by assumption) ?_
              rotate_left
              · intro V hV; clear hV; go_simp; try (with_reducible rfl)
              try simp only [Act.put, List.getElem_toArray, List.getElem_cons_succ, List.getElem_cons_zero, List.setIfInBounds_toArray, List.set_cons_zero, List.set_cons_succ]
              refine wpAnyT_pure (i := 20) (v := ?_) rfl (by kernel_rfl) (by kernel_rfl) (by kernel_rfl) (by kernel_rfl) (fun _ _ _ h => h) (Or.inl ⟨by kernel_rfl, ?_⟩) (fun _ => by assumption) ?_
              rotate_left
              · intro V hV; clear hV; go_simp; try (with_reducible rfl)
              try simp only [Act.put, List.getElem_toArray, List.getElem_cons_succ, List.getElem_cons_zero, List.setIfInBounds_toArray, List.set_cons_zero, List.set_cons_succ]
              refine wpAnyT_pure (i := 21) (v := ?_) rfl (by kernel_rfl) (by kernel_rfl) (by kernel_rfl) (by kernel_rfl) (fun _ _ _ h => h) (Or.inl ⟨by kernel_rfl, ?_⟩) (fun _ => by assumption) ?_
              rotate_left
              · intro V hV; clear hV; go_simp; try (with_reducible rfl)
              try simp only [Act.put, List.getElem_toArray, List.getElem_cons_succ, List.getElem_cons_zero, List.setIfInBounds_toArray, List.set_cons_zero, List.set_cons_succ]
              have e0 : w8.cell? ⟨rb, 0, none⟩ = some (.slice (some ⟨sb, o, none⟩) ((q2 :: r2).length + 1) ((q2 :: r2).length + 1)) := S3.a
              have e1 : w8.cell? ⟨rb, 1, none⟩ = some (.bool false) := S3.b
              have g0 : w8.frozen? ⟨rb, 0, none⟩ = false := frozen_of_row _ _ _ _ _ h8
              have g1 : w8.frozen? ⟨rb, 1, none⟩ = false := frozen_of_row _ _ _ _ _ h8
              clear S3
              refine wpAnyT_one (i := 22) (by kernel_rfl) rfl (fun K hK => ?_)
              go_simp
              refine hK.out _ _ (fun h => absurd (show false = true from h) (by decide)) ?_
              clear hK K
              try simp only [Act.put, List.getElem_toArray, List.getElem_cons_succ, List.getElem_cons_zero, List.setIfInBounds_toArray, List.set_cons_zero, List.set_cons_succ]
              refine wpAnyT_pure (i := 23) (v := ?_) rfl (by kernel_rfl) (by kernel_rfl) (by kernel_rfl) (by kernel_rfl) (fun _ _ _ h => h) (Or.inl ⟨by kernel_rfl, ?_⟩) (fun h => absurd (show false = true from h) (by decide)) ?_
              rotate_left
              · intro V hV; clear hV; go_simp; try (with_reducible rfl)
              try simp only [Act.put, List.getElem_toArray, List.getElem_cons_succ, List.getElem_cons_zero, List.setIfInBounds_toArray, List.set_cons_zero, List.set_cons_succ]
              refine wpAnyT_pure (i := 24) (v := ?_) rfl (by kernel_rfl) (by kernel_rfl) (by kernel_rfl) (by kernel_rfl) (fun _ _ _ h => h) (Or.inl ⟨by kernel_rfl, ?_⟩) (fun h => absurd (show false = true from h) (by decide)) ?_
              rotate_left
              · intro V hV; clear hV; go_simp; try (with_reducible rfl)
              try simp only [Act.put, List.getElem_toArray, List.getElem_cons_succ, List.getElem_cons_zero, List.setIfInBounds_toArray, List.set_cons_zero, List.set_cons_succ]
              refine wpAnyT_one (i := 25) (by kernel_rfl) rfl (fun K hK => ?_)
              go_simp
              refine hK.out _ _ (fun h => absurd (show false = true from h) (by decide)) ?_
              clear hK K
              try simp only [Act.put, List.getElem_toArray, List.getElem_cons_succ, List.getElem_cons_zero, List.setIfInBounds_toArray, List.set_cons_zero, List.set_cons_succ]
              refine wpAnyT_done (by kernel_rfl) ?_ _
              have HRE : Hid (RdAt rb sb all (q2 :: r2) false ((w8.setCell ⟨rb, 1, none⟩ (.bool false)).setCell ⟨rb, 0, none⟩ (.slice (some ⟨sb, o + 1, none⟩) (q2 :: r2).length (q2 :: r2).length))) := HR8.out.put (a := some ⟨sb, o + 1, none⟩) (ws' := (q2 :: r2)) (heap_setCell_same _ _ _ _ _ _ (heap_setCell_same _ _ _ _ _ _ h8)) ((heap_setCell_other _ _ _ _ HR8.out.ne).trans (heap_setCell_other _ _ _ _ HR8.out.ne)) (fun hn => by first | exact ⟨_, rfl, drop_next h3⟩ | exact absurd rfl hn)
              have HNE : Hid (Only (fun i => i = rb) w8 ((w8.setCell ⟨rb, 1, none⟩ (.bool false)).setCell ⟨rb, 0, none⟩ (.slice (some ⟨sb, o + 1, none⟩) (q2 :: r2).length (q2 :: r2).length))) := ((Only.refl (fun i => i = rb) w8).set 1 _ (.inr rfl)).set 0 _ (.inr rfl)
              have HOE : Hid (((w8.setCell ⟨rb, 1, none⟩ (.bool false)).setCell ⟨rb, 0, none⟩ (.slice (some ⟨sb, o + 1, none⟩) (q2 :: r2).length (q2 :: r2).length)).ownsRow w.heap.size 57 2 (.slice (some ⟨gg, 0, none⟩) (out ++ [(dn, sg)]).length cap) (out ++ [(dn, sg)]).length (ptsC (out ++ [(dn, sg)]))) := by
                show World.ownsRow _ _ _ _ _ _ _
                rw [ptsC_snoc, List.length_append]
                exact tb_own HO8.out HNE.out (fun k hk e => by have := (HO8.out.lt k hk).1; omega)
              have HNF : Hid (Only (fun i => i = rb) w ((w8.setCell ⟨rb, 1, none⟩ (.bool false)).setCell ⟨rb, 0, none⟩ (.slice (some ⟨sb, o + 1, none⟩) (q2 :: r2).length (q2 :: r2).length))) := HN8.out.trans (HNE.out.mono (fun _ _ h => h))
              have HAE : Hid (AllR st ptF R (out ++ [(dn, sg)]) (q2 :: r2) false) := HAS.out
              have hle : (q2 :: r2).length + (out ++ [(dn, sg)]).length ≤ 1000000 := by
                have h := hlen
                simp only [List.length_append, List.length_cons, List.length_nil] at h ⊢
                omega
              have hvl : Value.slice (some ⟨gg, 0, none⟩) (out.length + 1) cap = .slice (some ⟨gg, 0, none⟩) (out ++ [(dn, sg)]).length cap := by rw [List.length_append]; rfl
              have HKS : Hid (∀ p ∈ out ++ [(dn, sg)], i64ok p.1) := fun p hp => by
                rcases List.mem_append.1 hp with h | h
                · exact HOKS.out p h
                · obtain rfl := List.mem_singleton.1 h; exact HDN.out
              have HVL := Lib.hid hvl
              clear hvl h8 hp8 HPA HPD HPL HNP HR8 HO8 HN8 HNE h3 e0 e1 g0 g1 HAS KS k0 HSA HNA HRA HRD HOA HO2 HR2
              go_wp2_with fail
              go_roundw
              case rel => exact ⟨out ++ [(dn, sg)], (q2 :: r2), false, some ⟨gg, 0, none⟩, cap, HVL.out, HRE, HAE, HOE, HNF, hle, HKS⟩
              case measure => simp [lenOf]; omega
          | false =>
            cases r with
            | nil =>
              have k0 : Hid (∀ W : World, W.heap[rb]? = some (.cells #[.slice (some ⟨sb, o, none⟩) (([] : List ByteArray).length + 1) (([] : List ByteArray).length + 1), .bool false] 96 (0, 0)) → W.heap[pb]? = some (.cells #[.int .i64 dn, .bool sg] 57 (0, 0)) → PtS rb sb pb o (([] : List ByteArray).length + 1) false dn sg W) := fun W h h' => ⟨cell_row h rfl, cell_row h rfl, cell_row h' rfl, cell_row h' rfl⟩
              have KS : Hid (∀ V : World, PtS rb sb pb o (([] : List ByteArray).length + 1) false dn sg V → (V.cell? ⟨rb, 0, none⟩ = some (.slice (some ⟨sb, o, none⟩) (([] : List ByteArray).length + 1) (([] : List ByteArray).length + 1)) ∧ V.cell? ⟨rb, 1, none⟩ = some (.bool false) ∧ V.cell? ⟨pb, 0, none⟩ = some (.int .i64 dn) ∧ V.cell? ⟨pb, 1, none⟩ = some (.bool sg))) := fun V h => ⟨h.a, h.b, h.c, h.d⟩
              refine wp_region_T (PtS rb sb pb o (([] : List ByteArray).length + 1) false dn sg) [22, 25] (by kernel_rfl) ?_
              change wpAnyT _ _ _ _ _ _ _ _ _ (World.drew _)
              have S1 := k0.out _ HRD.out HPD.out
              clear c0 c1 f0 f1
              refine wpAnyT_pure (i := 0) (v := ?_) rfl (by kernel_rfl) (by kernel_rfl) (by kernel_rfl) (by kernel_rfl) (fun _ _ _ h => h) (Or.inl ⟨by kernel_rfl, ?_⟩) (fun _ => by assumption) ?_
              rotate_left
              · intro V hV; clear hV; go_simp; try (with_reducible rfl)
              try simp only [Act.put, List.getElem_toArray, List.getElem_cons_succ, List.getElem_cons_zero, List.setIfInBounds_toArray, List.set_cons_zero, List.set_cons_succ]
              refine wpAnyT_pure (i := 1) (v := ?_) rfl (by kernel_rfl) (by kernel_rfl) (by kernel_rfl) (by kernel_rfl) (fun _ _ _ h => h) (Or.inl ⟨by kernel_rfl, ?_⟩) (fun _ => by assumption) ?_
              rotate_left
              · intro V hV; clear hV; go_simp; try (with_reducible rfl)
              try simp only [Act.put, List.getElem_toArray, List.getElem_cons_succ, List.getElem_cons_zero, List.setIfInBounds_toArray, List.set_cons_zero, List.set_cons_succ]
              refine wpAnyT_pure (i := 2) (v := ?_) rfl (by kernel_rfl) (by kernel_rfl) (by kernel_rfl) (by kernel_rfl) (fun _ _ _ h => h) (Or.inl ⟨by kernel_rfl, ?_⟩) (fun _ => by assumption) ?_
              rotate_left
              · intro V hV; clear hV; go_simp; try (with_reducible rfl)
              try simp only [Act.put, List.getElem_toArray, List.getElem_cons_succ, List.getElem_cons_zero, List.setIfInBounds_toArray, List.set_cons_zero, List.set_cons_succ]
              refine wpAnyT_take (i := 3) (v := ?_) rfl (by kernel_rfl) (by kernel_rfl) (by kernel_rfl) (by kernel_rfl) (fun _ _ _ h => h) (Or.inl ⟨by kernel_rfl, ?_⟩) (by assumption) ?_
              rotate_left
              · intro V hV; have k := KS.out V hV; clear hV; go_simp; try (with_reducible rfl)
              try simp only [Act.put, List.getElem_toArray, List.getElem_cons_succ, List.getElem_cons_zero, List.setIfInBounds_toArray, List.set_cons_zero, List.set_cons_succ]
              refine wpAnyT_pure (i := 6) (v := ?_) rfl (by kernel_rfl) (by kernel_rfl) (by kernel_rfl) (by kernel_rfl) (fun _ _ _ h => h) (Or.inl ⟨by kernel_rfl, ?_⟩) (fun _ => by assumption) ?_
              rotate_left
              · intro V hV; clear hV; go_simp; try (with_reducible rfl)
              try simp only [Act.put, List.getElem_toArray, List.getElem_cons_succ, List.getElem_cons_zero, List.setIfInBounds_toArray, List.set_cons_zero, List.set_cons_succ]
              refine wpAnyT_pure (i := 7) (v := ?_) rfl (by kernel_rfl) (by kernel_rfl) (by kernel_rfl) (by kernel_rfl) (fun _ _ _ h => h) (Or.inl ⟨by kernel_rfl, ?_⟩) (fun _ => by assumption) ?_
              rotate_left
              · intro V hV; clear hV; go_simp; try (with_reducible rfl)
              try simp only [Act.put, List.getElem_toArray, List.getElem_cons_succ, List.getElem_cons_zero, List.setIfInBounds_toArray, List.set_cons_zero, List.set_cons_succ]
              refine wpAnyT_pure (i := 8) (v := ?_) rfl (by kernel_rfl) (by kernel_rfl) (by kernel_rfl) (by kernel_rfl) (fun _ _ _ h => h) (Or.inl ⟨by kernel_rfl, ?_⟩) (fun _ => by assumption) ?_
              rotate_left
              · intro V hV; clear hV; go_simp; try (with_reducible rfl)
              try simp only [Act.put, List.getElem_toArray, List.getElem_cons_succ, List.getElem_cons_zero, List.setIfInBounds_toArray, List.set_cons_zero, List.set_cons_succ]
              refine wpAnyT_take (i := 9) (v := ?_) rfl (by kernel_rfl) (by kernel_rfl) (by kernel_rfl) (by kernel_rfl) (fun _ _ _ h => h) (Or.inl ⟨by kernel_rfl, ?_⟩) (by assumption) ?_
              rotate_left
              · intro V hV; have k := KS.out V hV; clear hV; go_simp; try (with_reducible rfl)
              try simp only [Act.put, List.getElem_toArray, List.getElem_cons_succ, List.getElem_cons_zero, List.setIfInBounds_toArray, List.set_cons_zero, List.set_cons_succ]
              refine wpAnyT_pure (i := 14) (v := ?_) rfl (by kernel_rfl) (by kernel_rfl) (by kernel_rfl) (by kernel_rfl) (fun _ _ _ h => h) (Or.inl ⟨by kernel_rfl, ?_⟩) (fun _ => by assumption) ?_
              rotate_left
              · intro V hV; clear hV; go_simp; try (with_reducible rfl)
              try simp only [Act.put, List.getElem_toArray, List.getElem_cons_succ, List.getElem_cons_zero, List.setIfInBounds_toArray, List.set_cons_zero, List.set_cons_succ]
              refine wpAnyT_pure (i := 15) (v := ?_) rfl (by kernel_rfl) (by kernel_rfl) (by kernel_rfl) (by kernel_rfl) (fun _ _ _ h => h) (Or.inl ⟨by kernel_rfl, ?_⟩) (fun _ => by assumption) ?_
              rotate_left
              · intro V hV; clear hV; go_simp; try (with_reducible rfl)
              try simp only [Act.put, List.getElem_toArray, List.getElem_cons_succ, List.getElem_cons_zero, List.setIfInBounds_toArray, List.set_cons_zero, List.set_cons_succ]
              refine wpAnyT_pure (i := 16) (v := ?_) rfl (by kernel_rfl) (by kernel_rfl) (by kernel_rfl) (by kernel_rfl) (fun _ _ _ h => h) (Or.inl ⟨by kernel_rfl, ?_⟩) (fun _ => by assumption) ?_
              rotate_left
              · intro V hV; clear hV; go_simp; try (with_reducible rfl)
              try simp only [Act.put, List.getElem_toArray, List.getElem_cons_succ, List.getElem_cons_zero, List.setIfInBounds_toArray, List.set_cons_zero, List.set_cons_succ]
              refine wpAnyT_take (i := 17) (v := ?_) rfl (by kernel_rfl) (by kernel_rfl) (by kernel_rfl) (by kernel_rfl) (fun _ _ _ h => h) (Or.inl ⟨by kernel_rfl, ?_⟩) (by assumption) ?_
              rotate_left
              · intro V hV; have k := KS.out V hV; clear hV; go_simp; try (with_reducible rfl)
              try simp only [Act.put, List.getElem_toArray, List.getElem_cons_succ, List.getElem_cons_zero, List.setIfInBounds_toArray, List.set_cons_zero, List.set_cons_succ]
              refine wpAnyT_pure (i := 18) (v := ?_) rfl (by kernel_rfl) (by kernel_rfl) (by kernel_rfl) (by kernel_rfl) (fun _ _ _ h => h) (Or.inl ⟨by kernel_rfl, ?_⟩) (fun _ => by assumption) ?_
              rotate_left
              · intro V hV; clear hV; go_simp; try (with_reducible rfl)
              try simp only [Act.put, List.getElem_toArray, List.getElem_cons_succ, List.getElem_cons_zero, List.setIfInBounds_toArray, List.set_cons_zero, List.set_cons_succ]
              refine wpAnyT_one (i := 4) (by kernel_rfl) rfl (fun K hK => ?_)
              go_simp
              refine hK.out _ _ (fun _ => k0.out _ HRA.out HPA.out) ?_
              clear hK K S1
              try simp only [Act.put, List.getElem_toArray, List.getElem_cons_succ, List.getElem_cons_zero, List.setIfInBounds_toArray, List.set_cons_zero, List.set_cons_succ]
              have S2 := k0.out _ HRA.out HPA.out
              refine wpAnyT_one (i := 5) (by kernel_rfl) rfl (fun K hK => ?_)
              refine step_append_lies _ (by rfl) _ _ _ (by rfl) w.heap.size 57 i0 (.agg #[.int .i64 0, .bool false]) 2 16 Tryz.underlying27 HIn.out HZ0.out HZ1.out HZ2.out rfl (by omega) _ out.length (ptsC out) (by rfl) HOA.out ⟨w2.heap.size, 0, none⟩ 1 1 [.int .i64 dn, .bool sg] (by rfl) (by rfl) (World.news_of_block (heap_alloc_new w2.drew _)) (by simp [Value.oneCell']) (by omega) (by unfold maxLen; omega) (by omega) (by have := HCW.out; simp; omega) (w2.heap.size + 1) (by simp) ?_
              intro gg cap w8 hown8 hgrow hat hlt8
              have HR8 : Hid (RdAt rb sb all (q :: ([] : List ByteArray)) false w8) := HR2.out.put (a := some ⟨sb, o, none⟩) ((hgrow.block rb (by simp; have := HCW.out; omega) (HNR.out rb hrl)).trans HRA.out) ((hgrow.block sb (by simp; have := HCW.out; have := HSL.out; omega) (HNR.out sb HSL.out)).trans HSA.out) (fun _ => ⟨o, rfl, h3⟩)
              have h8 : w8.heap[rb]? = some (.cells #[.slice (some ⟨sb, o, none⟩) (([] : List ByteArray).length + 1) (([] : List ByteArray).length + 1), .bool false] 96 (0, 0)) := (hgrow.block rb (by simp; have := HCW.out; omega) (HNR.out rb hrl)).trans HRA.out
              have hp8 : w8.heap[pb]? = some (.cells #[.int .i64 dn, .bool sg] 57 (0, 0)) := (hgrow.block pb (by simp; have := HPL.out; omega) HNP.out).trans HPA.out
              have HN8 : Hid (Only (fun i => i = rb) w w8) := HNA.out.fresh (Only.grown hgrow (fun g hg => .inr (HOA.out.lt g hg).1))
              have HO8 := Lib.hid hown8
              clear hown8 hgrow hat hlt8 S2
              refine hK.out _ _ (fun _ => k0.out _ h8 hp8) ?_
              clear hK K
              try simp only [Act.put, List.getElem_toArray, List.getElem_cons_succ, List.getElem_cons_zero, List.setIfInBounds_toArray, List.set_cons_zero, List.set_cons_succ]
              have S3 := k0.out _ h8 hp8
              refine wpAnyT_pure (i := 10) (v := ?_) rfl (by kernel_rfl) (by kernel_rfl) (by kernel_rfl) (by kernel_rfl) (fun _ _ _ h => h) (Or.inl ⟨by kernel_rfl, ?_⟩) (fun _ => by assumption) ?_
              rotate_left
              · intro V hV; clear hV; go_simp; try (with_reducible rfl)
              try simp only [Act.put, List.getElem_toArray, List.getElem_cons_succ, List.getElem_cons_zero, List.setIfInBounds_toArray, List.set_cons_zero, List.set_cons_succ]
              refine wpAnyT_pure (i := 11) (v := ?_) rfl (by kernel_rfl) (by kernel_rfl) (by kernel_rfl) (by kernel_rfl) (fun _ _ _ h => h) (Or.inl ⟨by kernel_rfl, ?_⟩) (fun _ => by assumption) ?_
              rotate_left
              · intro V hV; clear hV; go_simp; try (with_reducible rfl)
              try simp only [Act.put, List.getElem_toArray, List.getElem_cons_succ, List.getElem_cons_zero, List.setIfInBounds_toArray, List.set_cons_zero, List.set_cons_succ]
              refine wpAnyT_pure (i := 12) (v := ?_) rfl (by kernel_rfl) (by kernel_rfl) (by kernel_rfl) (by kernel_rfl) (fun _ _ _ h => h) (Or.inl ⟨by kernel_rfl, ?_⟩) (fun _ => by assumption) ?_
              rotate_left
              · intro V hV; clear hV; go_simp; try (with_reducible rfl)
              try simp only [Act.put, List.getElem_toArray, List.getElem_cons_succ, List.getElem_cons_zero, List.setIfInBounds_toArray, List.set_cons_zero, List.set_cons_succ]
              refine wpAnyT_pure (i := 13) (v := ?_) rfl (by kernel_rfl) (by kernel_rfl) (by kernel_rfl) (by kernel_rfl) (fun _ _ _ h => h) (Or.inl ⟨by kernel_rfl, ?_⟩) (fun _ => by assumption) ?_
              rotate_left
              · intro V hV; clear hV; go_simp; try (with_reducible rfl)
              try simp only [Act.put, List.getElem_toArray, List.getElem_cons_succ, List.getElem_cons_zero, List.setIfInBounds_toArray, List.set_cons_zero, List.set_cons_succ]
              refine wpAnyT_pure (i := 19) (v := ?_) rfl (by kernel_rfl) (by kernel_rfl) (by kernel_rfl) (by kernel_rfl) (fun _ _ _ h => h) (Or.inl ⟨by kernel_rfl, ?_⟩) (fun _ => by assumption) ?_
              rotate_left
              · intro V hV; clear hV; go_simp; try (with_reducible rfl)
              try simp only [Act.put, List.getElem_toArray, List.getElem_cons_succ, List.getElem_cons_zero, List.setIfInBounds_toArray, List.set_cons_zero, List.set_cons_succ]
              refine wpAnyT_pure (i := 20) (v := ?_) rfl (by kernel_rfl) (by kernel_rfl) (by kernel_rfl) (by kernel_rfl) (fun _ _ _ h => h) (Or.inl ⟨by kernel_rfl, ?_⟩) (fun _ => by assumption) ?_
              rotate_left
              · intro V hV; clear hV; go_simp; try (with_reducible rfl)
              try simp only [Act.put, List.getElem_toArray, List.getElem_cons_succ, List.getElem_cons_zero, List.setIfInBounds_toArray, List.set_cons_zero, List.set_cons_succ]
              refine wpAnyT_pure (i := 21) (v := ?_) rfl (by kernel_rfl) (by kernel_rfl) (by kernel_rfl) (by kernel_rfl) (fun _ _ _ h => h) (Or.inl ⟨by kernel_rfl, ?_⟩) (fun _ => by assumption) ?_
              rotate_left
              · intro V hV; clear hV; go_simp; try (with_reducible rfl)
              try simp only [Act.put, List.getElem_toArray, List.getElem_cons_succ, List.getElem_cons_zero, List.setIfInBounds_toArray, List.set_cons_zero, List.set_cons_succ]
              have e0 : w8.cell? ⟨rb, 0, none⟩ = some (.slice (some ⟨sb, o, none⟩) (([] : List ByteArray).length + 1) (([] : List ByteArray).length + 1)) := S3.a
              have e1 : w8.cell? ⟨rb, 1, none⟩ = some (.bool false) := S3.b
              have g0 : w8.frozen? ⟨rb, 0, none⟩ = false := frozen_of_row _ _ _ _ _ h8
              have g1 : w8.frozen? ⟨rb, 1, none⟩ = false := frozen_of_row _ _ _ _ _ h8
              clear S3
              refine wpAnyT_one (i := 22) (by kernel_rfl) rfl (fun K hK => ?_)
              go_simp
              refine hK.out _ _ (fun h => absurd (show false = true from h) (by decide)) ?_
              clear hK K
              try simp only [Act.put, List.getElem_toArray, List.getElem_cons_succ, List.getElem_cons_zero, List.setIfInBounds_toArray, List.set_cons_zero, List.set_cons_succ]
              refine wpAnyT_pure (i := 23) (v := ?_) rfl (by kernel_rfl) (by kernel_rfl) (by kernel_rfl) (by kernel_rfl) (fun _ _ _ h => h) (Or.inl ⟨by kernel_rfl, ?_⟩) (fun h => absurd (show false = true from h) (by decide)) ?_
              rotate_left
              · intro V hV; clear hV; go_simp; try (with_reducible rfl)
              try simp only [Act.put, List.getElem_toArray, List.getElem_cons_succ, List.getElem_cons_zero, List.setIfInBounds_toArray, List.set_cons_zero, List.set_cons_succ]
              refine wpAnyT_pure (i := 24) (v := ?_) rfl (by kernel_rfl) (by kernel_rfl) (by kernel_rfl) (by kernel_rfl) (fun _ _ _ h => h) (Or.inl ⟨by kernel_rfl, ?_⟩) (fun h => absurd (show false = true from h) (by decide)) ?_
              rotate_left
              · intro V hV; clear hV; go_simp; try (with_reducible rfl)
              try simp only [Act.put, List.getElem_toArray, List.getElem_cons_succ, List.getElem_cons_zero, List.setIfInBounds_toArray, List.set_cons_zero, List.set_cons_succ]
              refine wpAnyT_one (i := 25) (by kernel_rfl) rfl (fun K hK => ?_)
              go_simp
              refine hK.out _ _ (fun h => absurd (show false = true from h) (by decide)) ?_
              clear hK K
              try simp only [Act.put, List.getElem_toArray, List.getElem_cons_succ, List.getElem_cons_zero, List.setIfInBounds_toArray, List.set_cons_zero, List.set_cons_succ]
              refine wpAnyT_done (by kernel_rfl) ?_ _
              have HRE : Hid (RdAt rb sb all ([] : List ByteArray) true ((w8.setCell ⟨rb, 1, none⟩ (.bool true)).setCell ⟨rb, 0, none⟩ (.slice (some ⟨sb, o, none⟩) ([] : List ByteArray).length ([] : List ByteArray).length))) := HR8.out.put (a := some ⟨sb, o, none⟩) (ws' := ([] : List ByteArray)) (heap_setCell_same _ _ _ _ _ _ (heap_setCell_same _ _ _ _ _ _ h8)) ((heap_setCell_other _ _ _ _ HR8.out.ne).trans (heap_setCell_other _ _ _ _ HR8.out.ne)) (fun hn => by first | exact ⟨_, rfl, drop_next h3⟩ | exact absurd rfl hn)
              have HNE : Hid (Only (fun i => i = rb) w8 ((w8.setCell ⟨rb, 1, none⟩ (.bool true)).setCell ⟨rb, 0, none⟩ (.slice (some ⟨sb, o, none⟩) ([] : List ByteArray).length ([] : List ByteArray).length))) := ((Only.refl (fun i => i = rb) w8).set 1 _ (.inr rfl)).set 0 _ (.inr rfl)
              have HOE : Hid (((w8.setCell ⟨rb, 1, none⟩ (.bool true)).setCell ⟨rb, 0, none⟩ (.slice (some ⟨sb, o, none⟩) ([] : List ByteArray).length ([] : List ByteArray).length)).ownsRow w.heap.size 57 2 (.slice (some ⟨gg, 0, none⟩) (out ++ [(dn, sg)]).length cap) (out ++ [(dn, sg)]).length (ptsC (out ++ [(dn, sg)]))) := by
                show World.ownsRow _ _ _ _ _ _ _
                rw [ptsC_snoc, List.length_append]
                exact tb_own HO8.out HNE.out (fun k hk e => by have := (HO8.out.lt k hk).1; omega)
              have HNF : Hid (Only (fun i => i = rb) w ((w8.setCell ⟨rb, 1, none⟩ (.bool true)).setCell ⟨rb, 0, none⟩ (.slice (some ⟨sb, o, none⟩) ([] : List ByteArray).length ([] : List ByteArray).length))) := HN8.out.trans (HNE.out.mono (fun _ _ h => h))
              have HAE : Hid (AllR st ptF R (out ++ [(dn, sg)]) ([] : List ByteArray) true) := HAS.out
              have hle : ([] : List ByteArray).length + (out ++ [(dn, sg)]).length ≤ 1000000 := by
                have h := hlen
                simp only [List.length_append, List.length_cons, List.length_nil] at h ⊢
                omega
              have hvl : Value.slice (some ⟨gg, 0, none⟩) (out.length + 1) cap = .slice (some ⟨gg, 0, none⟩) (out ++ [(dn, sg)]).length cap := by rw [List.length_append]; rfl
              have HKS : Hid (∀ p ∈ out ++ [(dn, sg)], i64ok p.1) := fun p hp => by
                rcases List.mem_append.1 hp with h | h
                · exact HOKS.out p h
                · obtain rfl := List.mem_singleton.1 h; exact HDN.out
              have HVL := Lib.hid hvl
              clear hvl h8 hp8 HPA HPD HPL HNP HR8 HO8 HN8 HNE h3 e0 e1 g0 g1 HAS KS k0 HSA HNA HRA HRD HOA HO2 HR2
              go_wp2_with fail
              go_roundw
              case rel => exact ⟨out ++ [(dn, sg)], ([] : List ByteArray), true, some ⟨gg, 0, none⟩, cap, HVL.out, HRE, HAE, HOE, HNF, hle, HKS⟩
              case measure => simp [lenOf]; omega
            | cons q2 r2 =>
              have hbd : (1 : Int) ≤ (r2.length : Int) + 1 + 1 := by omega
              have k0 : Hid (∀ W : World, W.heap[rb]? = some (.cells #[.slice (some ⟨sb, o, none⟩) ((q2 :: r2).length + 1) ((q2 :: r2).length + 1), .bool false] 96 (0, 0)) → W.heap[pb]? = some (.cells #[.int .i64 dn, .bool sg] 57 (0, 0)) → PtS rb sb pb o ((q2 :: r2).length + 1) false dn sg W) := fun W h h' => ⟨cell_row h rfl, cell_row h rfl, cell_row h' rfl, cell_row h' rfl⟩
              have KS : Hid (∀ V : World, PtS rb sb pb o ((q2 :: r2).length + 1) false dn sg V → (V.cell? ⟨rb, 0, none⟩ = some (.slice (some ⟨sb, o, none⟩) ((q2 :: r2).length + 1) ((q2 :: r2).length + 1)) ∧ V.cell? ⟨rb, 1, none⟩ = some (.bool false) ∧ V.cell? ⟨pb, 0, none⟩ = some (.int .i64 dn) ∧ V.cell? ⟨pb, 1, none⟩ = some (.bool sg))) := fun V h => ⟨h.a, h.b, h.c, h.d⟩
              refine wp_region_T (PtS rb sb pb o ((q2 :: r2).length + 1) false dn sg) [22, 25] (by kernel_rfl) ?_
              change wpAnyT _ _ _ _ _ _ _ _ _ (World.drew _)
              have S1 := k0.out _ HRD.out HPD.out
              clear c0 c1 f0 f1
              refine wpAnyT_pure (i := 0) (v := ?_) rfl (by kernel_rfl) (by kernel_rfl) (by kernel_rfl) (by kernel_rfl) (fun _ _ _ h => h) (Or.inl ⟨by kernel_rfl, ?_⟩) (fun _ => by assumption) ?_
              rotate_left
              · intro V hV; clear hV; go_simp; try (with_reducible rfl)
              try simp only [Act.put, List.getElem_toArray, List.getElem_cons_succ, List.getElem_cons_zero, List.setIfInBounds_toArray, List.set_cons_zero, List.set_cons_succ]
              refine wpAnyT_pure (i := 1) (v := ?_) rfl (by kernel_rfl) (by kernel_rfl) (by kernel_rfl) (by kernel_rfl) (fun _ _ _ h => h) (Or.inl ⟨by kernel_rfl, ?_⟩) (fun _ => by assumption) ?_
              rotate_left
              · intro V hV; clear hV; go_simp; try (with_reducible rfl)
              try simp only [Act.put, List.getElem_toArray, List.getElem_cons_succ, List.getElem_cons_zero, List.setIfInBounds_toArray, List.set_cons_zero, List.set_cons_succ]
              refine wpAnyT_pure (i := 2) (v := ?_) rfl (by kernel_rfl) (by kernel_rfl) (by kernel_rfl) (by kernel_rfl) (fun _ _ _ h => h) (Or.inl ⟨by kernel_rfl, ?_⟩) (fun _ => by assumption) ?_
              rotate_left
              · intro V hV; clear hV; go_simp; try (with_reducible rfl)
              try simp only [Act.put, List.getElem_toArray, List.getElem_cons_succ, List.getElem_cons_zero, List.setIfInBounds_toArray, List.set_cons_zero, List.set_cons_succ]
              refine wpAnyT_take (i := 3) (v := ?_) rfl (by kernel_rfl) (by kernel_rfl) (by kernel_rfl) (by kernel_rfl) (fun _ _ _ h => h) (Or.inl ⟨by kernel_rfl, ?_⟩) (by assumption) ?_
              rotate_left
              · intro V hV; have k := KS.out V hV; clear hV; go_simp; try (with_reducible rfl)
              try simp only [Act.put, List.getElem_toArray, List.getElem_cons_succ, List.getElem_cons_zero, List.setIfInBounds_toArray, List.set_cons_zero, List.set_cons_succ]
              refine wpAnyT_pure (i := 6) (v := ?_) rfl (by kernel_rfl) (by kernel_rfl) (by kernel_rfl) (by kernel_rfl) (fun _ _ _ h => h) (Or.inl ⟨by kernel_rfl, ?_⟩) (fun _ => by assumption) ?_
              rotate_left
              · intro V hV; clear hV; go_simp; try (with_reducible rfl)
              try simp only [Act.put, List.getElem_toArray, List.getElem_cons_succ, List.getElem_cons_zero, List.setIfInBounds_toArray, List.set_cons_zero, List.set_cons_succ]
              refine wpAnyT_pure (i := 7) (v := ?_) rfl (by kernel_rfl) (by kernel_rfl) (by kernel_rfl) (by kernel_rfl) (fun _ _ _ h => h) (Or.inl ⟨by kernel_rfl, ?_⟩) (fun _ => by assumption) ?_
              rotate_left
              · intro V hV; clear hV; go_simp; try (with_reducible rfl)
              try simp only [Act.put, List.getElem_toArray, List.getElem_cons_succ, List.getElem_cons_zero, List.setIfInBounds_toArray, List.set_cons_zero, List.set_cons_succ]
              refine wpAnyT_pure (i := 8) (v := ?_) rfl (by kernel_rfl) (by kernel_rfl) (by kernel_rfl) (by kernel_rfl) (fun _ _ _ h => h) (Or.inl ⟨by kernel_rfl, ?_⟩) (fun _ => by assumption) ?_
              rotate_left
              · intro V hV; clear hV; go_simp; try (with_reducible rfl)
              try simp only [Act.put, List.getElem_toArray, List.getElem_cons_succ, List.getElem_cons_zero, List.setIfInBounds_toArray, List.set_cons_zero, List.set_cons_succ]
              refine wpAnyT_take (i := 9) (v := ?_) rfl (by kernel_rfl) (by kernel_rfl) (by kernel_rfl) (by kernel_rfl) (fun _ _ _ h => h) (Or.inl ⟨by kernel_rfl, ?_⟩) (by assumption) ?_
              rotate_left
              · intro V hV; have k := KS.out V hV; clear hV; go_simp; try (with_reducible rfl)
              try simp only [Act.put, List.getElem_toArray, List.getElem_cons_succ, List.getElem_cons_zero, List.setIfInBounds_toArray, List.set_cons_zero, List.set_cons_succ]
              refine wpAnyT_pure (i := 14) (v := ?_) rfl (by kernel_rfl) (by kernel_rfl) (by kernel_rfl) (by kernel_rfl) (fun _ _ _ h => h) (Or.inl ⟨by kernel_rfl, ?_⟩) (fun _ => by assumption) ?_
              rotate_left
              · intro V hV; clear hV; go_simp; try (with_reducible rfl)
              try simp only [Act.put, List.getElem_toArray, List.getElem_cons_succ, List.getElem_cons_zero, List.setIfInBounds_toArray, List.set_cons_zero, List.set_cons_succ]
              refine wpAnyT_pure (i := 15) (v := ?_) rfl (by kernel_rfl) (by kernel_rfl) (by kernel_rfl) (by kernel_rfl) (fun _ _ _ h => h) (Or.inl ⟨by kernel_rfl, ?_⟩) (fun _ => by assumption) ?_
              rotate_left
              · intro V hV; clear hV; go_simp; try (with_reducible rfl)
              try simp only [Act.put, List.getElem_toArray, List.getElem_cons_succ, List.getElem_cons_zero, List.setIfInBounds_toArray, List.set_cons_zero, List.set_cons_succ]
              refine wpAnyT_pure (i := 16) (v := ?_) rfl (by kernel_rfl) (by kernel_rfl) (by kernel_rfl) (by kernel_rfl) (fun _ _ _ h => h) (Or.inl ⟨by kernel_rfl, ?_⟩) (fun _ => by assumption) ?_
              rotate_left
              · intro V hV; clear hV; go_simp; try (with_reducible rfl)
              try simp only [Act.put, List.getElem_toArray, List.getElem_cons_succ, List.getElem_cons_zero, List.setIfInBounds_toArray, List.set_cons_zero, List.set_cons_succ]
              refine wpAnyT_take (i := 17) (v := ?_) rfl (by kernel_rfl) (by kernel_rfl) (by kernel_rfl) (by kernel_rfl) (fun _ _ _ h => h) (Or.inl ⟨by kernel_rfl, ?_⟩) (by assumption) ?_
              rotate_left
              · intro V hV; have k := KS.out V hV; clear hV; go_simp; try (with_reducible rfl)
              try simp only [Act.put, List.getElem_toArray, List.getElem_cons_succ, List.getElem_cons_zero, List.setIfInBounds_toArray, List.set_cons_zero, List.set_cons_succ]
              refine wpAnyT_pure (i := 18) (v := ?_) rfl (by kernel_rfl) (by kernel_rfl) (by kernel_rfl) (by kernel_rfl) (fun _ _ _ h => h) (Or.inl ⟨by kernel_rfl, ?_⟩) (fun _ => by assumption) ?_
              rotate_left
              · intro V hV; clear hV; go_simp; try (with_reducible rfl)
              try simp only [Act.put, List.getElem_toArray, List.getElem_cons_succ, List.getElem_cons_zero, List.setIfInBounds_toArray, List.set_cons_zero, List.set_cons_succ]
              refine wpAnyT_one (i := 4) (by kernel_rfl) rfl (fun K hK => ?_)
              go_simp
              refine hK.out _ _ (fun _ => k0.out _ HRA.out HPA.out) ?_
              clear hK K S1
              try simp only [Act.put, List.getElem_toArray, List.getElem_cons_succ, List.getElem_cons_zero, List.setIfInBounds_toArray, List.set_cons_zero, List.set_cons_succ]
              have S2 := k0.out _ HRA.out HPA.out
              refine wpAnyT_one (i := 5) (by kernel_rfl) rfl (fun K hK => ?_)
              refine step_append_lies _ (by rfl) _ _ _ (by rfl) w.heap.size 57 i0 (.agg #[.int .i64 0, .bool false]) 2 16 Tryz.underlying27 HIn.out HZ0.out HZ1.out HZ2.out rfl (by omega) _ out.length (ptsC out) (by rfl) HOA.out ⟨w2.heap.size, 0, none⟩ 1 1 [.int .i64 dn, .bool sg] (by rfl) (by rfl) (World.news_of_block (heap_alloc_new w2.drew _)) (by simp [Value.oneCell']) (by omega) (by unfold maxLen; omega) (by omega) (by have := HCW.out; simp; omega) (w2.heap.size + 1) (by simp) ?_
              intro gg cap w8 hown8 hgrow hat hlt8
              have HR8 : Hid (RdAt rb sb all (q :: (q2 :: r2)) false w8) := HR2.out.put (a := some ⟨sb, o, none⟩) ((hgrow.block rb (by simp; have := HCW.out; omega) (HNR.out rb hrl)).trans HRA.out) ((hgrow.block sb (by simp; have := HCW.out; have := HSL.out; omega) (HNR.out sb HSL.out)).trans HSA.out) (fun _ => ⟨o, rfl, h3⟩)
              have h8 : w8.heap[rb]? = some (.cells #[.slice (some ⟨sb, o, none⟩) ((q2 :: r2).length + 1) ((q2 :: r2).length + 1), .bool false] 96 (0, 0)) := (hgrow.block rb (by simp; have := HCW.out; omega) (HNR.out rb hrl)).trans HRA.out
              have hp8 : w8.heap[pb]? = some (.cells #[.int .i64 dn, .bool sg] 57 (0, 0)) := (hgrow.block pb (by simp; have := HPL.out; omega) HNP.out).trans HPA.out
              have HN8 : Hid (Only (fun i => i = rb) w w8) := HNA.out.fresh (Only.grown hgrow (fun g hg => .inr (HOA.out.lt g hg).1))
              have HO8 := Lib.hid hown8
              clear hown8 hgrow hat hlt8 S2
              refine hK.out _ _ (fun _ => k0.out _ h8 hp8) ?_
              clear hK K
              try simp only [Act.put, List.getElem_toArray, List.getElem_cons_succ, List.getElem_cons_zero, List.setIfInBounds_toArray, List.set_cons_zero, List.set_cons_succ]
              have S3 := k0.out _ h8 hp8
              refine wpAnyT_pure (i := 10) (v := ?_) rfl (by kernel_rfl) (by kernel_rfl) (by kernel_rfl) (by kernel_rfl) (fun _ _ _ h => h) (Or.inl ⟨by kernel_rfl, ?_⟩) (fun _ => by assumption) ?_
              rotate_left
              · intro V hV; clear hV; go_simp; try (with_reducible rfl)
              try simp only [Act.put, List.getElem_toArray, List.getElem_cons_succ, List.getElem_cons_zero, List.setIfInBounds_toArray, List.set_cons_zero, List.set_cons_succ]
              refine wpAnyT_pure (i := 11) (v := ?_) rfl (by kernel_rfl) (by kernel_rfl) (by kernel_rfl) (by kernel_rfl) (fun _ _ _ h => h) (Or.inl ⟨by kernel_rfl, ?_⟩) (fun _ => by assumption) ?_
              rotate_left
              · intro V hV; clear hV; go_simp; try (with_reducible rfl)
              try simp only [Act.put, List.getElem_toArray, List.getElem_cons_succ, List.getElem_cons_zero, List.setIfInBounds_toArray, List.set_cons_zero, List.set_cons_succ]
              refine wpAnyT_pure (i := 12) (v := ?_) rfl (by kernel_rfl) (by kernel_rfl) (by kernel_rfl) (by kernel_rfl) (fun _ _ _ h => h) (Or.inl ⟨by kernel_rfl, ?_⟩) (fun _ => by assumption) ?_
              rotate_left
              · intro V hV; clear hV; go_simp; try (with_reducible rfl)
              try simp only [Act.put, List.getElem_toArray, List.getElem_cons_succ, List.getElem_cons_zero, List.setIfInBounds_toArray, List.set_cons_zero, List.set_cons_succ]
              refine wpAnyT_pure (i := 13) (v := ?_) rfl (by kernel_rfl) (by kernel_rfl) (by kernel_rfl) (by kernel_rfl) (fun _ _ _ h => h) (Or.inl ⟨by kernel_rfl, ?_⟩) (fun _ => by assumption) ?_
              rotate_left
              · intro V hV; clear hV; go_simp; try (with_reducible rfl)
              try simp only [Act.put, List.getElem_toArray, List.getElem_cons_succ, List.getElem_cons_zero, List.setIfInBounds_toArray, List.set_cons_zero, List.set_cons_succ]
              refine wpAnyT_pure (i := 19) (v := ?_) rfl (by kernel_rfl) (by kernel_rfl) (by kernel_rfl) (by kernel_rfl) (fun _ _ _ h => h) (Or.inl ⟨by kernel_rfl, ?_⟩) (fun _ => by assumption) ?_
              rotate_left
              · intro V hV; clear hV; go_simp; try (with_reducible rfl)
              try simp only [Act.put, List.getElem_toArray, List.getElem_cons_succ, List.getElem_cons_zero, List.setIfInBounds_toArray, List.set_cons_zero, List.set_cons_succ]
              refine wpAnyT_pure (i := 20) (v := ?_) rfl (by kernel_rfl) (by kernel_rfl) (by kernel_rfl) (by kernel_rfl) (fun _ _ _ h => h) (Or.inl ⟨by kernel_rfl, ?_⟩) (fun _ => by assumption) ?_
              rotate_left
              · intro V hV; clear hV; go_simp; try (with_reducible rfl)
              try simp only [Act.put, List.getElem_toArray, List.getElem_cons_succ, List.getElem_cons_zero, List.setIfInBounds_toArray, List.set_cons_zero, List.set_cons_succ]
              refine wpAnyT_pure (i := 21) (v := ?_) rfl (by kernel_rfl) (by kernel_rfl) (by kernel_rfl) (by kernel_rfl) (fun _ _ _ h => h) (Or.inl ⟨by kernel_rfl, ?_⟩) (fun _ => by assumption) ?_
              rotate_left
              · intro V hV; clear hV; go_simp; try (with_reducible rfl)
              try simp only [Act.put, List.getElem_toArray, List.getElem_cons_succ, List.getElem_cons_zero, List.setIfInBounds_toArray, List.set_cons_zero, List.set_cons_succ]
              have e0 : w8.cell? ⟨rb, 0, none⟩ = some (.slice (some ⟨sb, o, none⟩) ((q2 :: r2).length + 1) ((q2 :: r2).length + 1)) := S3.a
              have e1 : w8.cell? ⟨rb, 1, none⟩ = some (.bool false) := S3.b
              have g0 : w8.frozen? ⟨rb, 0, none⟩ = false := frozen_of_row _ _ _ _ _ h8
              have g1 : w8.frozen? ⟨rb, 1, none⟩ = false := frozen_of_row _ _ _ _ _ h8
              clear S3
              refine wpAnyT_one (i := 22) (by kernel_rfl) rfl (fun K hK => ?_)
              go_simp
              refine hK.out _ _ (fun h => absurd (show false = true from h) (by decide)) ?_
              clear hK K
              try simp only [Act.put, List.getElem_toArray, List.getElem_cons_succ, List.getElem_cons_zero, List.setIfInBounds_toArray, List.set_cons_zero, List.set_cons_succ]
              refine wpAnyT_pure (i := 23) (v := ?_) rfl (by kernel_rfl) (by kernel_rfl) (by kernel_rfl) (by kernel_rfl) (fun _ _ _ h => h) (Or.inl ⟨by kernel_rfl, ?_⟩) (fun h => absurd (show false = true from h) (by decide)) ?_
              rotate_left
              · intro V hV; clear hV; go_simp; try (with_reducible rfl)
              try simp only [Act.put, List.getElem_toArray, List.getElem_cons_succ, List.getElem_cons_zero, List.setIfInBounds_toArray, List.set_cons_zero, List.set_cons_succ]
              refine wpAnyT_pure (i := 24) (v := ?_) rfl (by kernel_rfl) (by kernel_rfl) (by kernel_rfl) (by kernel_rfl) (fun _ _ _ h => h) (Or.inl ⟨by kernel_rfl, ?_⟩) (fun h => absurd (show false = true from h) (by decide)) ?_
              rotate_left
              · intro V hV; clear hV; go_simp; try (with_reducible rfl)
              try simp only [Act.put, List.getElem_toArray, List.getElem_cons_succ, List.getElem_cons_zero, List.setIfInBounds_toArray, List.set_cons_zero, List.set_cons_succ]
              refine wpAnyT_one (i := 25) (by kernel_rfl) rfl (fun K hK => ?_)
              go_simp
              refine hK.out _ _ (fun h => absurd (show false = true from h) (by decide)) ?_
              clear hK K
              try simp only [Act.put, List.getElem_toArray, List.getElem_cons_succ, List.getElem_cons_zero, List.setIfInBounds_toArray, List.set_cons_zero, List.set_cons_succ]
              refine wpAnyT_done (by kernel_rfl) ?_ _
              have HRE : Hid (RdAt rb sb all (q2 :: r2) true ((w8.setCell ⟨rb, 1, none⟩ (.bool true)).setCell ⟨rb, 0, none⟩ (.slice (some ⟨sb, o + 1, none⟩) (q2 :: r2).length (q2 :: r2).length))) := HR8.out.put (a := some ⟨sb, o + 1, none⟩) (ws' := (q2 :: r2)) (heap_setCell_same _ _ _ _ _ _ (heap_setCell_same _ _ _ _ _ _ h8)) ((heap_setCell_other _ _ _ _ HR8.out.ne).trans (heap_setCell_other _ _ _ _ HR8.out.ne)) (fun hn => by first | exact ⟨_, rfl, drop_next h3⟩ | exact absurd rfl hn)
              have HNE : Hid (Only (fun i => i = rb) w8 ((w8.setCell ⟨rb, 1, none⟩ (.bool true)).setCell ⟨rb, 0, none⟩ (.slice (some ⟨sb, o + 1, none⟩) (q2 :: r2).length (q2 :: r2).length))) := ((Only.refl (fun i => i = rb) w8).set 1 _ (.inr rfl)).set 0 _ (.inr rfl)
              have HOE : Hid (((w8.setCell ⟨rb, 1, none⟩ (.bool true)).setCell ⟨rb, 0, none⟩ (.slice (some ⟨sb, o + 1, none⟩) (q2 :: r2).length (q2 :: r2).length)).ownsRow w.heap.size 57 2 (.slice (some ⟨gg, 0, none⟩) (out ++ [(dn, sg)]).length cap) (out ++ [(dn, sg)]).length (ptsC (out ++ [(dn, sg)]))) := by
                show World.ownsRow _ _ _ _ _ _ _
                rw [ptsC_snoc, List.length_append]
                exact tb_own HO8.out HNE.out (fun k hk e => by have := (HO8.out.lt k hk).1; omega)
              have HNF : Hid (Only (fun i => i = rb) w ((w8.setCell ⟨rb, 1, none⟩ (.bool true)).setCell ⟨rb, 0, none⟩ (.slice (some ⟨sb, o + 1, none⟩) (q2 :: r2).length (q2 :: r2).length))) := HN8.out.trans (HNE.out.mono (fun _ _ h => h))
              have HAE : Hid (AllR st ptF R (out ++ [(dn, sg)]) (q2 :: r2) true) := HAS.out
              have hle : (q2 :: r2).length + (out ++ [(dn, sg)]).length ≤ 1000000 := by
                have h := hlen
                simp only [List.length_append, List.length_cons, List.length_nil] at h ⊢
                omega
              have hvl : Value.slice (some ⟨gg, 0, none⟩) (out.length + 1) cap = .slice (some ⟨gg, 0, none⟩) (out ++ [(dn, sg)]).length cap := by rw [List.length_append]; rfl
              have HKS : Hid (∀ p ∈ out ++ [(dn, sg)], i64ok p.1) := fun p hp => by
                rcases List.mem_append.1 hp with h | h
                · exact HOKS.out p h
                · obtain rfl := List.mem_singleton.1 h; exact HDN.out
              have HVL := Lib.hid hvl
              clear hvl h8 hp8 HPA HPD HPL HNP HR8 HO8 HN8 HNE h3 e0 e1 g0 g1 HAS KS k0 HSA HNA HRA HRD HOA HO2 HR2
              go_wp2_with fail
              go_roundw
              case rel => exact ⟨out ++ [(dn, sg)], (q2 :: r2), true, some ⟨gg, 0, none⟩, cap, HVL.out, HRE, HAE, HOE, HNF, hle, HKS⟩
              case measure => simp [lenOf]; omega
end Go.Proofs.YtpodedhnlicckaaGreatDoor
