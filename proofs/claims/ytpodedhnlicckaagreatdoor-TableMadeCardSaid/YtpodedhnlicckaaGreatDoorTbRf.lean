/- The reader: as many as come. -/
import Derived.Test.YtpodedhnlicckaaGreatDoorTbRe
import Derived.Test.YtpodedhnlicckaaGreatDoorTabC
import Derived.Test.YtpodedhnlicckaaGreatDoorTake
import Derived.Deep.RegionHeld3
import Derived.Deep.AppendLies
namespace Go.Proofs.YtpodedhnlicckaaGreatDoor
open Go.Shelf Go.RowKit Go.Sort
set_option linter.unusedVariables false
set_option linter.unusedSimpArgs false
theorem data_inj {q s : ByteArray} (e : q.toList = s.toList) : q = s := by
  apply ByteArray.ext; apply Array.toList_inj.1
  rw [ByteArray.toList_eq, ByteArray.toList_eq] at e; exact e
def strV (ws : List ByteArray) (i : Nat) : Value := .string (ws.getD i ⟨#[]⟩)
def hasS (ws : List ByteArray) (x : ByteArray) : Bool := ws.any fun y => decide (y = x)
theorem hasS_yes {ws : List ByteArray} {x : ByteArray} {k : Nat} (h : k < ws.length) (e : x = ws.getD k ⟨#[]⟩) : hasS ws x = true := by
  unfold hasS
  rw [List.any_eq_true]
  refine ⟨ws[k], List.getElem_mem h, ?_⟩
  rw [List.getD_eq_getElem?_getD, List.getElem?_eq_getElem h] at e
  exact decide_eq_true e.symm
theorem hasS_no {ws : List ByteArray} {x : ByteArray} (h : ∀ j, j < ws.length → ws.getD j ⟨#[]⟩ ≠ x) : hasS ws x = false := by
  unfold hasS
  rw [List.any_eq_false]
  intro y hy e
  obtain ⟨j, hj, rfl⟩ := List.mem_iff_getElem.1 hy
  have := h j hj
  rw [List.getD_eq_getElem?_getD, List.getElem?_eq_getElem hj] at this
  exact this (of_decide_eq_true e)
set_option maxHeartbeats 1000000 in
theorem index_str2 (a : Option Addr) (c : Nat) (ws : List ByteArray) (x : ByteArray) (w : World) (h : SliceAt w a ws.length (strV ws)) (hm : ws.length ≤ 1000000) :
    Calls Tryz.prog 111 #[.slice a ws.length c, .string x] w fun e w' => (∃ k : Int, e = .returned (.int .i64 k) ∧ decide (0 ≤ k) = hasS ws x) ∧ w' = w := by
  have H := Lib.hid h
  clear h
  go_enter Tryz.func111, Tryz.ntmps111
  go_wp2_with fail
  go_loopw [8] (fun i wr => ∃ k : Nat, k ≤ ws.length ∧ i = .int .i64 k ∧ Hid (∀ j, j < k → ws.getD j ⟨#[]⟩ ≠ x) ∧ wr = w) (fun i _ => ws.length - (intOf i).toNat)
  case atStart => exact ⟨0, Nat.zero_le _, rfl, fun j hj => absurd hj (by omega), by first | trivial | rfl⟩
  case round =>
    obtain ⟨k, hk, rfl, NO, rfl⟩ := hrel
    by_cases hlt : k < ws.length
    · obtain ⟨b, off, rfl, hb, hx⟩ := H.out.at (by omega)
      have x0 : wr.cell? ⟨b, off + k, none⟩ = some (.string (ws.getD k ⟨#[]⟩)) := hx k hlt
      clear hx
      by_cases hx : x = ws.getD k ⟨#[]⟩
      · have HT : Hid (hasS ws x = true) := hasS_yes hlt hx
        rw [← hx] at x0
        clear hx
        go_wp2_with fail
        go_ret
        exact ⟨⟨_, rfl, by rw [HT.out]; simp⟩, by first | trivial | rfl⟩
      · have HX : Hid (x ≠ ws.getD k ⟨#[]⟩) := hx
        have t : (x.toList == (ws.getD k ⟨#[]⟩).toList) = false := beq_eq_false_iff_ne.2 (fun e => hx (data_inj e))
        clear hx
        generalize hy : ws.getD k ⟨#[]⟩ = y at *
        have HY := Lib.hid hy
        clear hy
        go_wp2_with fail
        go_roundw
        case rel => exact ⟨k + 1, by omega, by go_num, fun j hj => (by
          by_cases e : j < k
          · exact NO.out j e
          · obtain rfl : j = k := by omega
            rw [HY.out]; exact fun h => HX.out h.symm), by first | trivial | rfl⟩
        case measure => simp [intOf]; omega
    · obtain rfl : k = ws.length := by omega
      have HF : Hid (hasS ws x = false) := hasS_no NO.out
      go_wp2_with fail
      go_ret
      exact ⟨⟨_, rfl, by rw [HF.out]; rfl⟩, by first | trivial | rfl⟩
theorem contains_str (a : Option Addr) (c : Nat) (ws : List ByteArray) (x : ByteArray) (w : World) (h : SliceAt w a ws.length (strV ws)) (hm : ws.length ≤ 1000000) :
    Calls Tryz.prog 92 #[.slice a ws.length c, .string x] w fun e w' => e = .returned (.bool (hasS ws x)) ∧ w' = w := by
  have HI := Lib.hid (index_str2 a c ws x w h hm)
  clear h
  generalize hasS ws x = r at *
  go_enter Tryz.func92, Tryz.ntmps92
  go_wp2_with fail
  (with_reducible refine HI.out.mono ?_)
  rintro e w2 ⟨⟨k, rfl, hk⟩, rfl⟩
  go_wp2_with fail
  go_ret
  exact ⟨rfl, by first | trivial | rfl⟩
/-- As many as come, up to one of some words. -/
def allS {α : Type} (st : List ByteArray) (f : ByteArray → α × Bool) : List ByteArray → Bool → List α × List ByteArray × Bool
  | [], bad => ([], [], bad)
  | q :: r, bad => if hasS st q = true then ([], q :: r, bad) else ((f q).1 :: (allS st f r (bad || !(f q).2)).1, (allS st f r (bad || !(f q).2)).2)
theorem allS_nil {α : Type} (st : List ByteArray) (f : ByteArray → α × Bool) (bad : Bool) : allS st f [] bad = ([], [], bad) := rfl
theorem allS_stop {α : Type} {st : List ByteArray} {f : ByteArray → α × Bool} {q : ByteArray} {r : List ByteArray} {bad : Bool} (h : hasS st q = true) : allS st f (q :: r) bad = ([], q :: r, bad) := if_pos h
theorem allS_go {α : Type} {st : List ByteArray} {f : ByteArray → α × Bool} {q : ByteArray} {r : List ByteArray} {bad : Bool} (h : hasS st q = false) : allS st f (q :: r) bad = ((f q).1 :: (allS st f r (bad || !(f q).2)).1, (allS st f r (bad || !(f q).2)).2) := if_neg (by rw [h]; decide)
/-- What is left to do, out of a state under way. -/
def AllR {α : Type} (st : List ByteArray) (f : ByteArray → α × Bool) (R : List α × List ByteArray × Bool) (out : List α) (ws : List ByteArray) (bad : Bool) : Prop := R = (out ++ (allS st f ws bad).1, (allS st f ws bad).2)
theorem AllR.step {α : Type} {st : List ByteArray} {f : ByteArray → α × Bool} {R : List α × List ByteArray × Bool} {out : List α} {q : ByteArray} {r : List ByteArray} {bad : Bool} (h : AllR st f R out (q :: r) bad) (hq : hasS st q = false) : AllR st f R (out ++ [(f q).1]) r (bad || !(f q).2) := by
  unfold AllR at *
  rw [h, allS_go hq]; simp
theorem AllR.done {α : Type} {st : List ByteArray} {f : ByteArray → α × Bool} {R : List α × List ByteArray × Bool} {out : List α} {ws : List ByteArray} {bad : Bool} (h : AllR st f R out ws bad) (hq : ws = [] ∨ ∃ q r, ws = q :: r ∧ hasS st q = true) : R = (out, ws, bad) := by
  unfold AllR at h
  rcases hq with rfl | ⟨q, r, rfl, hq⟩
  · rw [h, allS_nil]; simp
  · rw [h, allS_stop hq]; simp
def lenOf (v : Value) : Nat := match v with | .slice _ n _ => n | _ => 0
def digF (q : ByteArray) : Int × Bool := (((digS q.data.toList).1 : Nat), (digS q.data.toList).2)
structure AlI (rb sb : Nat) (all : List ByteArray) (R : List Int × List ByteArray × Bool) (w : World) (e : Ending) (w' : World) : Prop where
  ret : ∃ v, e = .returned v ∧ w'.ownsRow w.heap.size 3 1 v R.1.length (intsV R.1)
  rd : RdAt rb sb all R.2.1 R.2.2 w'
  on : Only (fun i => i = rb) w w'
set_option maxHeartbeats 4000000 in
set_option maxRecDepth 100000 in
theorem allI_any (rb sb : Nat) (all ws st : List ByteArray) (bad : Bool) (sa : Option Addr) (sc : Nat) (w : World) (h : RdAt rb sb all ws bad w) (hst : SliceAt w sa st.length (strV st)) (hsb : ∀ b o, sa = some ⟨b, o, none⟩ → b ≠ rb) (hsm : st.length ≤ 1000000) :
    Calls Tryz.prog 66 #[.pointer (some ⟨rb, 0, none⟩), .func (.func 67) #[] #[], .slice sa st.length sc] w (AlI rb sb all (allS st digF ws bad) w) := by
  have HR := Lib.hid h; have HST := Lib.hid hst; have HSB := Lib.hid hsb
  have HAL : Hid (AllR st digF (allS st digF ws bad) [] ws bad) := by show AllR _ _ _ _ _ _; unfold AllR; simp
  generalize allS st digF ws bad = R at *
  obtain ⟨i0, hi, hz0, hz1, hz2⟩ := tb_info infoI
  have HIn := Lib.hid hi; have HZ0 := Lib.hid hz0; have HZ1 := Lib.hid hz1; have HZ2 := Lib.hid hz2
  clear hi hz0 hz1 hz2 h hst hsb
  have hrl := HR.out.lt
  have HSL : Hid (sb < w.heap.size) := heap_lt HR.out.row
  go_enter Tryz.func66, Tryz.ntmps66
  go_wp2_with fail
  go_loopw [7] (fun v wr => ∃ (out : List Int) (us : List ByteArray) (bd : Bool) (oa : Option Addr) (oc : Nat), v = .slice oa out.length oc ∧ Hid (RdAt rb sb all us bd wr) ∧ Hid (AllR st digF R out us bd) ∧ Hid (wr.ownsRow w.heap.size 3 1 (.slice oa out.length oc) out.length (intsV out)) ∧ Hid (Only (fun i => i = rb) w wr) ∧ us.length + out.length ≤ 1000000) (fun v _ => 1000001 - lenOf v)
  case atStart => exact ⟨[], ws, bad, none, 0, rfl, HR, HAL, World.ownsRow_nil _ _ _ _, Only.refl _ _, by have := HR.out.left; simp; omega⟩
  case round =>
    clear HAL HR
    obtain ⟨out, us, bd, oa, oc, rfl, HR, HAL, HO, HON, hlen⟩ := hrel
    have HSW : Hid (SliceAt wr sa st.length (strV st)) := HST.out.only HON.out (fun b o h _ => HSB.out b o h)
    cases us with
    | nil =>
      obtain ⟨a, h1⟩ := HR.out.nil
      have c0 : wr.cell? ⟨rb, 0, none⟩ = some (.slice a 0 0) := cell_row h1 rfl
      have HD : Hid (R = (out, [], bd)) := HAL.out.done (.inl rfl)
      have HFIN : Hid (AlI rb sb all R w (.returned (.slice oa out.length oc)) wr) := by
        show AlI _ _ _ _ _ _ _
        rw [HD.out]
        exact ⟨⟨_, rfl, HO.out⟩, HR.out, HON.out⟩
      clear h1 HAL HR HO HON HSW HD
      go_wp2_with fail
      go_ret
      exact HFIN.out
    | cons q r =>
      obtain ⟨o, h1, x0, hsl, h3⟩ := HR.out.head
      have c0 : wr.cell? ⟨rb, 0, none⟩ = some (.slice (some ⟨sb, o, none⟩) (r.length + 1) (r.length + 1)) := cell_row h1 rfl
      have hl : r.length + 1 ≤ 1000000 := by have := HR.out.left; simpa using this
      have hq := HR.out.head_size
      have HCT := Lib.hid (contains_str sa sc st q wr HSW.out hsm)
      cases hh : hasS st q with
      | true =>
        rw [hh] at HCT
        have HD : Hid (R = (out, q :: r, bd)) := HAL.out.done (.inr ⟨q, r, rfl, hh⟩)
        have HFIN : Hid (AlI rb sb all R w (.returned (.slice oa out.length oc)) wr) := by
          show AlI _ _ _ _ _ _ _
          rw [HD.out]
          exact ⟨⟨_, rfl, HO.out⟩, HR.out, HON.out⟩
        clear h1 HAL HR HO HON HSW HD hh h3
        go_wp2_with fail
        refine HCT.out.mono ?_
        rintro e w2 ⟨rfl, hw2⟩
        obtain rfl : wr = w2 := hw2.symm
        go_wp2_with fail
        go_ret
        exact HFIN.out
      | false =>
        rw [hh] at HCT
        have HAS := Lib.hid (HAL.out.step hh)
        have HDG := Lib.hid (digits_any q wr (by omega))
        clear h1 HAL HSW hh
        go_wp2_with fail
        refine HCT.out.mono ?_
        rintro e w2 ⟨rfl, hw2⟩
        obtain rfl : wr = w2 := hw2.symm
        clear HCT
        go_wp2_with fail
        refine HDG.out.mono ?_
        rintro e w1 ⟨rfl, hb⟩
        have HR1 := Lib.hid (HR.out.kept hb)
        have HO1 := Lib.hid (tb_own HO.out (Only.of_below (fun _ => False) hb) (fun _ _ h => h))
        have HN1 : Hid (Only (fun i => i = rb) w w1) := HON.out.trans (Only.of_below _ hb)
        have HAS : Hid (AllR st digF R (out ++ [((digS q.data.toList).1 : Int)]) r (bd || !(digS q.data.toList).2)) := HAS.out
        generalize digS q.data.toList = d at *
        obtain ⟨dn, db⟩ := d
        clear hb HDG HR HO HON c0 x0 hsl h3
        obtain ⟨o, h1, x0, hsl, h3⟩ := HR1.out.head
        have c0 : w1.cell? ⟨rb, 0, none⟩ = some (.slice (some ⟨sb, o, none⟩) (r.length + 1) (r.length + 1)) := cell_row h1 rfl
        have c1 : w1.cell? ⟨rb, 1, none⟩ = some (.bool bd) := cell_row h1 rfl
        have f1 : w1.frozen? ⟨rb, 1, none⟩ = false := frozen_of_row _ _ _ _ _ h1
        have f0 : w1.frozen? ⟨rb, 0, none⟩ = false := frozen_of_row _ _ _ _ _ h1
        go_upto_region 4 with fail
        have HRD : Hid (w1.drew.heap[rb]? = some (.cells #[.slice (some ⟨sb, o, none⟩) (r.length + 1) (r.length + 1), .bool bd] 96 (0, 0))) := h1
        have HRA : Hid ((w1.drew.alloc (.cells #[.int .i64 (dn : Int)] 3)).heap[rb]? = some (.cells #[.slice (some ⟨sb, o, none⟩) (r.length + 1) (r.length + 1), .bool bd] 96 (0, 0))) := tb_kept HRD.out (tb_alloc_below _ _)
        have HOA : Hid ((w1.drew.alloc (.cells #[.int .i64 (dn : Int)] 3)).ownsRow w.heap.size 3 1 (.slice oa out.length oc) out.length (intsV out)) := tb_own HO1.out (Only.of_below (fun _ => False) ((Below.drew (Below.refl _ w1)).alloc (Nat.le_refl _) _)) (fun _ _ h => h)
        have HCW : Hid (w.heap.size ≤ w1.heap.size) := HN1.out.size
        have hb1 : out.length ≤ 1000000 := by omega
        have HSA : Hid ((w1.drew.alloc (.cells #[.int .i64 (dn : Int)] 3)).heap[sb]? = w1.heap[sb]?) := (tb_alloc_below w1.drew _).block sb hsl
        have HNA : Hid (Only (fun i => i = rb) w (w1.drew.alloc (.cells #[.int .i64 (dn : Int)] 3))) := HN1.out.drew.alloc _
        have HNR : Hid (∀ b, b < w.heap.size → some b ≠ (Value.slice oa out.length oc).ownBlock) := fun b hb e => by have := (HO1.out.lt b e.symm).1; omega
        clear h1 x0
        cases bd with
        | true =>
          cases r with
          | nil =>
            have k0 : Hid (∀ W : World, W.heap[rb]? = some (.cells #[.slice (some ⟨sb, o, none⟩) (([] : List ByteArray).length + 1) (([] : List ByteArray).length + 1), .bool true] 96 (0, 0)) → W.cell? ⟨rb, 0, none⟩ = some (.slice (some ⟨sb, o, none⟩) (([] : List ByteArray).length + 1) (([] : List ByteArray).length + 1)) ∧ W.cell? ⟨rb, 1, none⟩ = some (.bool true)) := fun W h => ⟨cell_row h rfl, cell_row h rfl⟩
            have KS : Hid (∀ V : World, (V.cell? ⟨rb, 0, none⟩ = some (.slice (some ⟨sb, o, none⟩) (([] : List ByteArray).length + 1) (([] : List ByteArray).length + 1)) ∧ V.cell? ⟨rb, 1, none⟩ = some (.bool true)) → (V.cell? ⟨rb, 0, none⟩ = some (.slice (some ⟨sb, o, none⟩) (([] : List ByteArray).length + 1) (([] : List ByteArray).length + 1)) ∧ V.cell? ⟨rb, 1, none⟩ = some (.bool true))) := fun V h => h
            refine wp_region_T (fun V => V.cell? ⟨rb, 0, none⟩ = some (.slice (some ⟨sb, o, none⟩) (([] : List ByteArray).length + 1) (([] : List ByteArray).length + 1)) ∧ V.cell? ⟨rb, 1, none⟩ = some (.bool true)) [22, 25] (by kernel_rfl) ?_
            change wpAnyT _ _ _ _ _ _ _ _ _ (World.drew _)
            have S1 := k0.out _ HRD.out
            clear c0 c1 f0 f1
            refine wpAnyT_pure (i := 0) (v := ?_) rfl (by kernel_rfl) (by kernel_rfl) (by kernel_rfl) (by kernel_rfl) (fun _ _ _ h => h) (Or.inl ⟨by kernel_rfl, ?_⟩) (fun _ => by assumption) ?_
            rotate_left
            · intro V hV; clear hV; go_simp; try (with_reducible rfl)
            try simp only [Act.put, List.getElem_toArray, List.getElem_cons_succ, List.getElem_cons_zero, List.setIfInBounds_toArray, List.set_cons_zero, List.set_cons_succ]
            refine wpAnyT_pure (i := 1) (v := ?_) rfl (by kernel_rfl) (by kernel_rfl) (by kernel_rfl) (by kernel_rfl) (fun _ _ _ h => h) (Or.inl ⟨by kernel_rfl, ?_⟩) (fun _ => by assumption) ?_
            rotate_left
            · intro V hV; clear hV; go_simp; try (with_reducible rfl)
            try simp only [Act.put, List.getElem_toArray, List.getElem_cons_succ, List.getElem_cons_zero, List.setIfInBounds_toArray, List.set_cons_zero, List.set_cons_succ]
            refine wpAnyT_pure (i := 2) (v := ?_) rfl (by kernel_rfl) (by kernel_rfl) (by kernel_rfl) (by kernel_rfl) (fun _ _ _ h => h) (Or.inl ⟨by kernel_rfl, ?_⟩) (fun _ => by assumption) ?_
            rotate_left
            · intro V hV; clear hV; go_simp; try (with_reducible rfl)
            try simp only [Act.put, List.getElem_toArray, List.getElem_cons_succ, List.getElem_cons_zero, List.setIfInBounds_toArray, List.set_cons_zero, List.set_cons_succ]
            refine wpAnyT_pure (i := 3) (v := ?_) rfl (by kernel_rfl) (by kernel_rfl) (by kernel_rfl) (by kernel_rfl) (fun _ _ _ h => h) (Or.inl ⟨by kernel_rfl, ?_⟩) (fun _ => by assumption) ?_
            rotate_left
            · intro V hV; clear hV; go_simp; try (with_reducible rfl)
            try simp only [Act.put, List.getElem_toArray, List.getElem_cons_succ, List.getElem_cons_zero, List.setIfInBounds_toArray, List.set_cons_zero, List.set_cons_succ]
            refine wpAnyT_pure (i := 6) (v := ?_) rfl (by kernel_rfl) (by kernel_rfl) (by kernel_rfl) (by kernel_rfl) (fun _ _ _ h => h) (Or.inl ⟨by kernel_rfl, ?_⟩) (fun _ => by assumption) ?_
            rotate_left
            · intro V hV; clear hV; go_simp; try (with_reducible rfl)
            try simp only [Act.put, List.getElem_toArray, List.getElem_cons_succ, List.getElem_cons_zero, List.setIfInBounds_toArray, List.set_cons_zero, List.set_cons_succ]
            refine wpAnyT_pure (i := 7) (v := ?_) rfl (by kernel_rfl) (by kernel_rfl) (by kernel_rfl) (by kernel_rfl) (fun _ _ _ h => h) (Or.inl ⟨by kernel_rfl, ?_⟩) (fun _ => by assumption) ?_
            rotate_left
            · intro V hV; clear hV; go_simp; try (with_reducible rfl)
            try simp only [Act.put, List.getElem_toArray, List.getElem_cons_succ, List.getElem_cons_zero, List.setIfInBounds_toArray, List.set_cons_zero, List.set_cons_succ]
            refine wpAnyT_pure (i := 8) (v := ?_) rfl (by kernel_rfl) (by kernel_rfl) (by kernel_rfl) (by kernel_rfl) (fun _ _ _ h => h) (Or.inl ⟨by kernel_rfl, ?_⟩) (fun _ => by assumption) ?_
            rotate_left
            · intro V hV; clear hV; go_simp; try (with_reducible rfl)
            try simp only [Act.put, List.getElem_toArray, List.getElem_cons_succ, List.getElem_cons_zero, List.setIfInBounds_toArray, List.set_cons_zero, List.set_cons_succ]
            refine wpAnyT_take (i := 9) (v := ?_) rfl (by kernel_rfl) (by kernel_rfl) (by kernel_rfl) (by kernel_rfl) (fun _ _ _ h => h) (Or.inl ⟨by kernel_rfl, ?_⟩) (by assumption) ?_
            rotate_left
            · intro V hV; have k := KS.out V hV; clear hV; go_simp; try (with_reducible rfl)
            try simp only [Act.put, List.getElem_toArray, List.getElem_cons_succ, List.getElem_cons_zero, List.setIfInBounds_toArray, List.set_cons_zero, List.set_cons_succ]
            refine wpAnyT_pure (i := 14) (v := ?_) rfl (by kernel_rfl) (by kernel_rfl) (by kernel_rfl) (by kernel_rfl) (fun _ _ _ h => h) (Or.inl ⟨by kernel_rfl, ?_⟩) (fun _ => by assumption) ?_
            rotate_left
            · intro V hV; clear hV; go_simp; try (with_reducible rfl)
            try simp only [Act.put, List.getElem_toArray, List.getElem_cons_succ, List.getElem_cons_zero, List.setIfInBounds_toArray, List.set_cons_zero, List.set_cons_succ]
            refine wpAnyT_pure (i := 15) (v := ?_) rfl (by kernel_rfl) (by kernel_rfl) (by kernel_rfl) (by kernel_rfl) (fun _ _ _ h => h) (Or.inl ⟨by kernel_rfl, ?_⟩) (fun _ => by assumption) ?_
            rotate_left
            · intro V hV; clear hV; go_simp; try (with_reducible rfl)
            try simp only [Act.put, List.getElem_toArray, List.getElem_cons_succ, List.getElem_cons_zero, List.setIfInBounds_toArray, List.set_cons_zero, List.set_cons_succ]
            refine wpAnyT_pure (i := 16) (v := ?_) rfl (by kernel_rfl) (by kernel_rfl) (by kernel_rfl) (by kernel_rfl) (fun _ _ _ h => h) (Or.inl ⟨by kernel_rfl, ?_⟩) (fun _ => by assumption) ?_
            rotate_left
            · intro V hV; clear hV; go_simp; try (with_reducible rfl)
            try simp only [Act.put, List.getElem_toArray, List.getElem_cons_succ, List.getElem_cons_zero, List.setIfInBounds_toArray, List.set_cons_zero, List.set_cons_succ]
            refine wpAnyT_take (i := 17) (v := ?_) rfl (by kernel_rfl) (by kernel_rfl) (by kernel_rfl) (by kernel_rfl) (fun _ _ _ h => h) (Or.inl ⟨by kernel_rfl, ?_⟩) (by assumption) ?_
            rotate_left
            · intro V hV; have k := KS.out V hV; clear hV; go_simp; try (with_reducible rfl)
            try simp only [Act.put, List.getElem_toArray, List.getElem_cons_succ, List.getElem_cons_zero, List.setIfInBounds_toArray, List.set_cons_zero, List.set_cons_succ]
            refine wpAnyT_pure (i := 18) (v := ?_) rfl (by kernel_rfl) (by kernel_rfl) (by kernel_rfl) (by kernel_rfl) (fun _ _ _ h => h) (Or.inl ⟨by kernel_rfl, ?_⟩) (fun _ => by assumption) ?_
            rotate_left
            · intro V hV; clear hV; go_simp; try (with_reducible rfl)
            try simp only [Act.put, List.getElem_toArray, List.getElem_cons_succ, List.getElem_cons_zero, List.setIfInBounds_toArray, List.set_cons_zero, List.set_cons_succ]
            refine wpAnyT_one (i := 4) (by kernel_rfl) rfl (fun K hK => ?_)
            go_simp
            refine hK.out _ _ (fun _ => k0.out _ HRA.out) ?_
            clear hK K S1
            try simp only [Act.put, List.getElem_toArray, List.getElem_cons_succ, List.getElem_cons_zero, List.setIfInBounds_toArray, List.set_cons_zero, List.set_cons_succ]
            have S2 := k0.out _ HRA.out
            refine wpAnyT_one (i := 5) (by kernel_rfl) rfl (fun K hK => ?_)
            refine step_append_lies _ (by rfl) _ _ _ (by rfl) w.heap.size 3 i0 (.int .i64 0) 1 8 Tryz.underlying22 HIn.out HZ0.out HZ1.out HZ2.out rfl (by omega) _ out.length (intsV out) (by rfl) HOA.out ⟨w1.heap.size, 0, none⟩ 1 1 [.int .i64 (dn : Int)] (by rfl) (by rfl) (cell_one_new _ _ _) (by simp [Value.oneCell']) (by omega) (by unfold maxLen; omega) (by omega) (by have := HCW.out; simp; omega) (w1.heap.size + 1) (by simp) ?_
            intro gg cap w8 hown8 hgrow hat hlt8
            have HR8 : Hid (RdAt rb sb all (q :: ([] : List ByteArray)) true w8) := HR1.out.put (a := some ⟨sb, o, none⟩) ((hgrow.block rb (by simp; have := HCW.out; omega) (HNR.out rb hrl)).trans HRA.out) ((hgrow.block sb (by simp; have := HCW.out; have := HSL.out; omega) (HNR.out sb HSL.out)).trans HSA.out) (fun _ => ⟨o, rfl, h3⟩)
            have h8 : w8.heap[rb]? = some (.cells #[.slice (some ⟨sb, o, none⟩) (([] : List ByteArray).length + 1) (([] : List ByteArray).length + 1), .bool true] 96 (0, 0)) := (hgrow.block rb (by simp; have := HCW.out; omega) (HNR.out rb hrl)).trans HRA.out
            have HN8 : Hid (Only (fun i => i = rb) w w8) := HNA.out.fresh (Only.grown hgrow (fun g hg => .inr (HOA.out.lt g hg).1))
            have HO8 := Lib.hid hown8
            clear hown8 hgrow hat hlt8 S2
            refine hK.out _ _ (fun _ => k0.out _ h8) ?_
            clear hK K
            try simp only [Act.put, List.getElem_toArray, List.getElem_cons_succ, List.getElem_cons_zero, List.setIfInBounds_toArray, List.set_cons_zero, List.set_cons_succ]
            have S3 := k0.out _ h8
            refine wpAnyT_pure (i := 10) (v := ?_) rfl (by kernel_rfl) (by kernel_rfl) (by kernel_rfl) (by kernel_rfl) (fun _ _ _ h => h) (Or.inl ⟨by kernel_rfl, ?_⟩) (fun _ => by assumption) ?_
            rotate_left
            · intro V hV; clear hV; go_simp; try (with_reducible rfl)
            try simp only [Act.put, List.getElem_toArray, List.getElem_cons_succ, List.getElem_cons_zero, List.setIfInBounds_toArray, List.set_cons_zero, List.set_cons_succ]
            refine wpAnyT_pure (i := 11) (v := undef) rfl (by kernel_rfl) (by kernel_rfl) (by kernel_rfl) (by kernel_rfl) (fun _ _ _ h => h) (Or.inr ⟨by kernel_rfl, rfl⟩) (fun _ => by assumption) ?_
            try simp only [Act.put, List.getElem_toArray, List.getElem_cons_succ, List.getElem_cons_zero, List.setIfInBounds_toArray, List.set_cons_zero, List.set_cons_succ]
            refine wpAnyT_pure (i := 12) (v := undef) rfl (by kernel_rfl) (by kernel_rfl) (by kernel_rfl) (by kernel_rfl) (fun _ _ _ h => h) (Or.inr ⟨by kernel_rfl, rfl⟩) (fun _ => by assumption) ?_
            try simp only [Act.put, List.getElem_toArray, List.getElem_cons_succ, List.getElem_cons_zero, List.setIfInBounds_toArray, List.set_cons_zero, List.set_cons_succ]
            refine wpAnyT_pure (i := 13) (v := ?_) rfl (by kernel_rfl) (by kernel_rfl) (by kernel_rfl) (by kernel_rfl) (fun _ _ _ h => h) (Or.inl ⟨by kernel_rfl, ?_⟩) (fun _ => by assumption) ?_
            rotate_left
            · intro V hV; clear hV; go_simp; try (with_reducible rfl)
            try simp only [Act.put, List.getElem_toArray, List.getElem_cons_succ, List.getElem_cons_zero, List.setIfInBounds_toArray, List.set_cons_zero, List.set_cons_succ]
            refine wpAnyT_pure (i := 19) (v := ?_) rfl (by kernel_rfl) (by kernel_rfl) (by kernel_rfl) (by kernel_rfl) (fun _ _ _ h => h) (Or.inl ⟨by kernel_rfl, ?_⟩) (fun _ => by assumption) ?_
            rotate_left
            · intro V hV; clear hV; go_simp; try (with_reducible rfl)
            try simp only [Act.put, List.getElem_toArray, List.getElem_cons_succ, List.getElem_cons_zero, List.setIfInBounds_toArray, List.set_cons_zero, List.set_cons_succ]
            refine wpAnyT_pure (i := 20) (v := ?_) rfl (by kernel_rfl) (by kernel_rfl) (by kernel_rfl) (by kernel_rfl) (fun _ _ _ h => h) (Or.inl ⟨by kernel_rfl, ?_⟩) (fun _ => by assumption) ?_
            rotate_left
            · intro V hV; clear hV; go_simp; try (with_reducible rfl)
            try simp only [Act.put, List.getElem_toArray, List.getElem_cons_succ, List.getElem_cons_zero, List.setIfInBounds_toArray, List.set_cons_zero, List.set_cons_succ]
            refine wpAnyT_pure (i := 21) (v := ?_) rfl (by kernel_rfl) (by kernel_rfl) (by kernel_rfl) (by kernel_rfl) (fun _ _ _ h => h) (Or.inl ⟨by kernel_rfl, ?_⟩) (fun _ => by assumption) ?_
            rotate_left
            · intro V hV; clear hV; go_simp; try (with_reducible rfl)
            try simp only [Act.put, List.getElem_toArray, List.getElem_cons_succ, List.getElem_cons_zero, List.setIfInBounds_toArray, List.set_cons_zero, List.set_cons_succ]
            have e0 : w8.cell? ⟨rb, 0, none⟩ = some (.slice (some ⟨sb, o, none⟩) (([] : List ByteArray).length + 1) (([] : List ByteArray).length + 1)) := S3.1
            have e1 : w8.cell? ⟨rb, 1, none⟩ = some (.bool true) := S3.2
            have g0 : w8.frozen? ⟨rb, 0, none⟩ = false := frozen_of_row _ _ _ _ _ h8
            have g1 : w8.frozen? ⟨rb, 1, none⟩ = false := frozen_of_row _ _ _ _ _ h8
            clear S3
            refine wpAnyT_one (i := 22) (by kernel_rfl) rfl (fun K hK => ?_)
            go_simp
            refine hK.out _ _ (fun h => absurd (show false = true from h) (by decide)) ?_
            clear hK K
            try simp only [Act.put, List.getElem_toArray, List.getElem_cons_succ, List.getElem_cons_zero, List.setIfInBounds_toArray, List.set_cons_zero, List.set_cons_succ]
            refine wpAnyT_pure (i := 23) (v := ?_) rfl (by kernel_rfl) (by kernel_rfl) (by kernel_rfl) (by kernel_rfl) (fun _ _ _ h => h) (Or.inl ⟨by kernel_rfl, ?_⟩) (fun h => absurd (show false = true from h) (by decide)) ?_
            rotate_left
            · intro V hV; clear hV; go_simp; try (with_reducible rfl)
            try simp only [Act.put, List.getElem_toArray, List.getElem_cons_succ, List.getElem_cons_zero, List.setIfInBounds_toArray, List.set_cons_zero, List.set_cons_succ]
            refine wpAnyT_pure (i := 24) (v := ?_) rfl (by kernel_rfl) (by kernel_rfl) (by kernel_rfl) (by kernel_rfl) (fun _ _ _ h => h) (Or.inl ⟨by kernel_rfl, ?_⟩) (fun h => absurd (show false = true from h) (by decide)) ?_
            rotate_left
            · intro V hV; clear hV; go_simp; try (with_reducible rfl)
            try simp only [Act.put, List.getElem_toArray, List.getElem_cons_succ, List.getElem_cons_zero, List.setIfInBounds_toArray, List.set_cons_zero, List.set_cons_succ]
            refine wpAnyT_one (i := 25) (by kernel_rfl) rfl (fun K hK => ?_)
            go_simp
            refine hK.out _ _ (fun h => absurd (show false = true from h) (by decide)) ?_
            clear hK K
            try simp only [Act.put, List.getElem_toArray, List.getElem_cons_succ, List.getElem_cons_zero, List.setIfInBounds_toArray, List.set_cons_zero, List.set_cons_succ]
            refine wpAnyT_done (by kernel_rfl) ?_ _
            have HRE : Hid (RdAt rb sb all ([] : List ByteArray) true ((w8.setCell ⟨rb, 1, none⟩ (.bool true)).setCell ⟨rb, 0, none⟩ (.slice (some ⟨sb, o, none⟩) ([] : List ByteArray).length ([] : List ByteArray).length))) := HR8.out.put (a := some ⟨sb, o, none⟩) (ws' := ([] : List ByteArray)) (heap_setCell_same _ _ _ _ _ _ (heap_setCell_same _ _ _ _ _ _ h8)) ((heap_setCell_other _ _ _ _ HR8.out.ne).trans (heap_setCell_other _ _ _ _ HR8.out.ne)) (fun hn => by first | exact ⟨_, rfl, drop_next h3⟩ | exact absurd rfl hn)
            have HNE : Hid (Only (fun i => i = rb) w8 ((w8.setCell ⟨rb, 1, none⟩ (.bool true)).setCell ⟨rb, 0, none⟩ (.slice (some ⟨sb, o, none⟩) ([] : List ByteArray).length ([] : List ByteArray).length))) := ((Only.refl (fun i => i = rb) w8).set 1 _ (.inr rfl)).set 0 _ (.inr rfl)
            have HOE : Hid (((w8.setCell ⟨rb, 1, none⟩ (.bool true)).setCell ⟨rb, 0, none⟩ (.slice (some ⟨sb, o, none⟩) ([] : List ByteArray).length ([] : List ByteArray).length)).ownsRow w.heap.size 3 1 (.slice (some ⟨gg, 0, none⟩) (out ++ [(dn : Int)]).length cap) (out ++ [(dn : Int)]).length (intsV (out ++ [(dn : Int)]))) := by
              show World.ownsRow _ _ _ _ _ _ _
              rw [intsV_snoc, List.length_append]
              exact tb_own HO8.out HNE.out (fun k hk e => by have := (HO8.out.lt k hk).1; omega)
            have HNF : Hid (Only (fun i => i = rb) w ((w8.setCell ⟨rb, 1, none⟩ (.bool true)).setCell ⟨rb, 0, none⟩ (.slice (some ⟨sb, o, none⟩) ([] : List ByteArray).length ([] : List ByteArray).length))) := HN8.out.trans (HNE.out.mono (fun _ _ h => h))
            have HAE : Hid (AllR st digF R (out ++ [(dn : Int)]) ([] : List ByteArray) true) := HAS.out
            have hle : ([] : List ByteArray).length + (out ++ [(dn : Int)]).length ≤ 1000000 := by
              have h := hlen
              simp only [List.length_append, List.length_cons, List.length_nil] at h ⊢
              omega
            have hvl : Value.slice (some ⟨gg, 0, none⟩) (out.length + 1) cap = .slice (some ⟨gg, 0, none⟩) (out ++ [(dn : Int)]).length cap := by rw [List.length_append]; rfl
            have HVL := Lib.hid hvl
            clear hvl h8 HR8 HO8 HN8 HNE h3 e0 e1 g0 g1 HAS KS k0 HSA HNA HRA HRD HOA HO1 HR1
            go_wp2_with fail
            go_roundw
            case rel => exact ⟨out ++ [(dn : Int)], ([] : List ByteArray), true, some ⟨gg, 0, none⟩, cap, HVL.out, HRE, HAE, HOE, HNF, hle⟩
            case measure => simp [lenOf]; omega
          | cons q2 r2 =>
            have hbd : (1 : Int) ≤ (r2.length : Int) + 1 + 1 := by omega
            have k0 : Hid (∀ W : World, W.heap[rb]? = some (.cells #[.slice (some ⟨sb, o, none⟩) ((q2 :: r2).length + 1) ((q2 :: r2).length + 1), .bool true] 96 (0, 0)) → W.cell? ⟨rb, 0, none⟩ = some (.slice (some ⟨sb, o, none⟩) ((q2 :: r2).length + 1) ((q2 :: r2).length + 1)) ∧ W.cell? ⟨rb, 1, none⟩ = some (.bool true)) := fun W h => ⟨cell_row h rfl, cell_row h rfl⟩
            have KS : Hid (∀ V : World, (V.cell? ⟨rb, 0, none⟩ = some (.slice (some ⟨sb, o, none⟩) ((q2 :: r2).length + 1) ((q2 :: r2).length + 1)) ∧ V.cell? ⟨rb, 1, none⟩ = some (.bool true)) → (V.cell? ⟨rb, 0, none⟩ = some (.slice (some ⟨sb, o, none⟩) ((q2 :: r2).length + 1) ((q2 :: r2).length + 1)) ∧ V.cell? ⟨rb, 1, none⟩ = some (.bool true))) := fun V h => h
            refine wp_region_T (fun V => V.cell? ⟨rb, 0, none⟩ = some (.slice (some ⟨sb, o, none⟩) ((q2 :: r2).length + 1) ((q2 :: r2).length + 1)) ∧ V.cell? ⟨rb, 1, none⟩ = some (.bool true)) [22, 25] (by kernel_rfl) ?_
            change wpAnyT _ _ _ _ _ _ _ _ _ (World.drew _)
            have S1 := k0.out _ HRD.out
            clear c0 c1 f0 f1
            refine wpAnyT_pure (i := 0) (v := ?_) rfl (by kernel_rfl) (by kernel_rfl) (by kernel_rfl) (by kernel_rfl) (fun _ _ _ h => h) (Or.inl ⟨by kernel_rfl, ?_⟩) (fun _ => by assumption) ?_
            rotate_left
            · intro V hV; clear hV; go_simp; try (with_reducible rfl)
            try simp only [Act.put, List.getElem_toArray, List.getElem_cons_succ, List.getElem_cons_zero, List.setIfInBounds_toArray, List.set_cons_zero, List.set_cons_succ]
            refine wpAnyT_pure (i := 1) (v := ?_) rfl (by kernel_rfl) (by kernel_rfl) (by kernel_rfl) (by kernel_rfl) (fun _ _ _ h => h) (Or.inl ⟨by kernel_rfl, ?_⟩) (fun _ => by assumption) ?_
            rotate_left
            · intro V hV; clear hV; go_simp; try (with_reducible rfl)
            try simp only [Act.put, List.getElem_toArray, List.getElem_cons_succ, List.getElem_cons_zero, List.setIfInBounds_toArray, List.set_cons_zero, List.set_cons_succ]
            refine wpAnyT_pure (i := 2) (v := ?_) rfl (by kernel_rfl) (by kernel_rfl) (by kernel_rfl) (by kernel_rfl) (fun _ _ _ h => h) (Or.inl ⟨by kernel_rfl, ?_⟩) (fun _ => by assumption) ?_
            rotate_left
            · intro V hV; clear hV; go_simp; try (with_reducible rfl)
            try simp only [Act.put, List.getElem_toArray, List.getElem_cons_succ, List.getElem_cons_zero, List.setIfInBounds_toArray, List.set_cons_zero, List.set_cons_succ]
            refine wpAnyT_pure (i := 3) (v := ?_) rfl (by kernel_rfl) (by kernel_rfl) (by kernel_rfl) (by kernel_rfl) (fun _ _ _ h => h) (Or.inl ⟨by kernel_rfl, ?_⟩) (fun _ => by assumption) ?_
            rotate_left
            · intro V hV; clear hV; go_simp; try (with_reducible rfl)
            try simp only [Act.put, List.getElem_toArray, List.getElem_cons_succ, List.getElem_cons_zero, List.setIfInBounds_toArray, List.set_cons_zero, List.set_cons_succ]
            refine wpAnyT_pure (i := 6) (v := ?_) rfl (by kernel_rfl) (by kernel_rfl) (by kernel_rfl) (by kernel_rfl) (fun _ _ _ h => h) (Or.inl ⟨by kernel_rfl, ?_⟩) (fun _ => by assumption) ?_
            rotate_left
            · intro V hV; clear hV; go_simp; try (with_reducible rfl)
            try simp only [Act.put, List.getElem_toArray, List.getElem_cons_succ, List.getElem_cons_zero, List.setIfInBounds_toArray, List.set_cons_zero, List.set_cons_succ]
            refine wpAnyT_pure (i := 7) (v := ?_) rfl (by kernel_rfl) (by kernel_rfl) (by kernel_rfl) (by kernel_rfl) (fun _ _ _ h => h) (Or.inl ⟨by kernel_rfl, ?_⟩) (fun _ => by assumption) ?_
            rotate_left
            · intro V hV; clear hV; go_simp; try (with_reducible rfl)
            try simp only [Act.put, List.getElem_toArray, List.getElem_cons_succ, List.getElem_cons_zero, List.setIfInBounds_toArray, List.set_cons_zero, List.set_cons_succ]
            refine wpAnyT_pure (i := 8) (v := ?_) rfl (by kernel_rfl) (by kernel_rfl) (by kernel_rfl) (by kernel_rfl) (fun _ _ _ h => h) (Or.inl ⟨by kernel_rfl, ?_⟩) (fun _ => by assumption) ?_
            rotate_left
            · intro V hV; clear hV; go_simp; try (with_reducible rfl)
            try simp only [Act.put, List.getElem_toArray, List.getElem_cons_succ, List.getElem_cons_zero, List.setIfInBounds_toArray, List.set_cons_zero, List.set_cons_succ]
            refine wpAnyT_take (i := 9) (v := ?_) rfl (by kernel_rfl) (by kernel_rfl) (by kernel_rfl) (by kernel_rfl) (fun _ _ _ h => h) (Or.inl ⟨by kernel_rfl, ?_⟩) (by assumption) ?_
            rotate_left
            · intro V hV; have k := KS.out V hV; clear hV; go_simp; try (with_reducible rfl)
            try simp only [Act.put, List.getElem_toArray, List.getElem_cons_succ, List.getElem_cons_zero, List.setIfInBounds_toArray, List.set_cons_zero, List.set_cons_succ]
            refine wpAnyT_pure (i := 14) (v := ?_) rfl (by kernel_rfl) (by kernel_rfl) (by kernel_rfl) (by kernel_rfl) (fun _ _ _ h => h) (Or.inl ⟨by kernel_rfl, ?_⟩) (fun _ => by assumption) ?_
            rotate_left
            · intro V hV; clear hV; go_simp; try (with_reducible rfl)
            try simp only [Act.put, List.getElem_toArray, List.getElem_cons_succ, List.getElem_cons_zero, List.setIfInBounds_toArray, List.set_cons_zero, List.set_cons_succ]
            refine wpAnyT_pure (i := 15) (v := ?_) rfl (by kernel_rfl) (by kernel_rfl) (by kernel_rfl) (by kernel_rfl) (fun _ _ _ h => h) (Or.inl ⟨by kernel_rfl, ?_⟩) (fun _ => by assumption) ?_
            rotate_left
            · intro V hV; clear hV; go_simp; try (with_reducible rfl)
            try simp only [Act.put, List.getElem_toArray, List.getElem_cons_succ, List.getElem_cons_zero, List.setIfInBounds_toArray, List.set_cons_zero, List.set_cons_succ]
            refine wpAnyT_pure (i := 16) (v := ?_) rfl (by kernel_rfl) (by kernel_rfl) (by kernel_rfl) (by kernel_rfl) (fun _ _ _ h => h) (Or.inl ⟨by kernel_rfl, ?_⟩) (fun _ => by assumption) ?_
            rotate_left
            · intro V hV; clear hV; go_simp; try (with_reducible rfl)
            try simp only [Act.put, List.getElem_toArray, List.getElem_cons_succ, List.getElem_cons_zero, List.setIfInBounds_toArray, List.set_cons_zero, List.set_cons_succ]
            refine wpAnyT_take (i := 17) (v := ?_) rfl (by kernel_rfl) (by kernel_rfl) (by kernel_rfl) (by kernel_rfl) (fun _ _ _ h => h) (Or.inl ⟨by kernel_rfl, ?_⟩) (by assumption) ?_
            rotate_left
            · intro V hV; have k := KS.out V hV; clear hV; go_simp; try (with_reducible rfl)
            try simp only [Act.put, List.getElem_toArray, List.getElem_cons_succ, List.getElem_cons_zero, List.setIfInBounds_toArray, List.set_cons_zero, List.set_cons_succ]
            refine wpAnyT_pure (i := 18) (v := ?_) rfl (by kernel_rfl) (by kernel_rfl) (by kernel_rfl) (by kernel_rfl) (fun _ _ _ h => h) (Or.inl ⟨by kernel_rfl, ?_⟩) (fun _ => by assumption) ?_
            rotate_left
            · intro V hV; clear hV; go_simp; try (with_reducible rfl)
            try simp only [Act.put, List.getElem_toArray, List.getElem_cons_succ, List.getElem_cons_zero, List.setIfInBounds_toArray, List.set_cons_zero, List.set_cons_succ]
            refine wpAnyT_one (i := 4) (by kernel_rfl) rfl (fun K hK => ?_)
            go_simp
            refine hK.out _ _ (fun _ => k0.out _ HRA.out) ?_
            clear hK K S1
            try simp only [Act.put, List.getElem_toArray, List.getElem_cons_succ, List.getElem_cons_zero, List.setIfInBounds_toArray, List.set_cons_zero, List.set_cons_succ]
            have S2 := k0.out _ HRA.out
            refine wpAnyT_one (i := 5) (by kernel_rfl) rfl (fun K hK => ?_)
            refine step_append_lies _ (by rfl) _ _ _ (by rfl) w.heap.size 3 i0 (.int .i64 0) 1 8 Tryz.underlying22 HIn.out HZ0.out HZ1.out HZ2.out rfl (by omega) _ out.length (intsV out) (by rfl) HOA.out ⟨w1.heap.size, 0, none⟩ 1 1 [.int .i64 (dn : Int)] (by rfl) (by rfl) (cell_one_new _ _ _) (by simp [Value.oneCell']) (by omega) (by unfold maxLen; omega) (by omega) (by have := HCW.out; simp; omega) (w1.heap.size + 1) (by simp) ?_
            intro gg cap w8 hown8 hgrow hat hlt8
            have HR8 : Hid (RdAt rb sb all (q :: (q2 :: r2)) true w8) := HR1.out.put (a := some ⟨sb, o, none⟩) ((hgrow.block rb (by simp; have := HCW.out; omega) (HNR.out rb hrl)).trans HRA.out) ((hgrow.block sb (by simp; have := HCW.out; have := HSL.out; omega) (HNR.out sb HSL.out)).trans HSA.out) (fun _ => ⟨o, rfl, h3⟩)
            have h8 : w8.heap[rb]? = some (.cells #[.slice (some ⟨sb, o, none⟩) ((q2 :: r2).length + 1) ((q2 :: r2).length + 1), .bool true] 96 (0, 0)) := (hgrow.block rb (by simp; have := HCW.out; omega) (HNR.out rb hrl)).trans HRA.out
            have HN8 : Hid (Only (fun i => i = rb) w w8) := HNA.out.fresh (Only.grown hgrow (fun g hg => .inr (HOA.out.lt g hg).1))
            have HO8 := Lib.hid hown8
            clear hown8 hgrow hat hlt8 S2
            refine hK.out _ _ (fun _ => k0.out _ h8) ?_
            clear hK K
            try simp only [Act.put, List.getElem_toArray, List.getElem_cons_succ, List.getElem_cons_zero, List.setIfInBounds_toArray, List.set_cons_zero, List.set_cons_succ]
            have S3 := k0.out _ h8
            refine wpAnyT_pure (i := 10) (v := ?_) rfl (by kernel_rfl) (by kernel_rfl) (by kernel_rfl) (by kernel_rfl) (fun _ _ _ h => h) (Or.inl ⟨by kernel_rfl, ?_⟩) (fun _ => by assumption) ?_
            rotate_left
            · intro V hV; clear hV; go_simp; try (with_reducible rfl)
            try simp only [Act.put, List.getElem_toArray, List.getElem_cons_succ, List.getElem_cons_zero, List.setIfInBounds_toArray, List.set_cons_zero, List.set_cons_succ]
            refine wpAnyT_pure (i := 11) (v := undef) rfl (by kernel_rfl) (by kernel_rfl) (by kernel_rfl) (by kernel_rfl) (fun _ _ _ h => h) (Or.inr ⟨by kernel_rfl, rfl⟩) (fun _ => by assumption) ?_
            try simp only [Act.put, List.getElem_toArray, List.getElem_cons_succ, List.getElem_cons_zero, List.setIfInBounds_toArray, List.set_cons_zero, List.set_cons_succ]
            refine wpAnyT_pure (i := 12) (v := undef) rfl (by kernel_rfl) (by kernel_rfl) (by kernel_rfl) (by kernel_rfl) (fun _ _ _ h => h) (Or.inr ⟨by kernel_rfl, rfl⟩) (fun _ => by assumption) ?_
            try simp only [Act.put, List.getElem_toArray, List.getElem_cons_succ, List.getElem_cons_zero, List.setIfInBounds_toArray, List.set_cons_zero, List.set_cons_succ]
            refine wpAnyT_pure (i := 13) (v := ?_) rfl (by kernel_rfl) (by kernel_rfl) (by kernel_rfl) (by kernel_rfl) (fun _ _ _ h => h) (Or.inl ⟨by kernel_rfl, ?_⟩) (fun _ => by assumption) ?_
            rotate_left
            · intro V hV; clear hV; go_simp; try (with_reducible rfl)
            try simp only [Act.put, List.getElem_toArray, List.getElem_cons_succ, List.getElem_cons_zero, List.setIfInBounds_toArray, List.set_cons_zero, List.set_cons_succ]
            refine wpAnyT_pure (i := 19) (v := ?_) rfl (by kernel_rfl) (by kernel_rfl) (by kernel_rfl) (by kernel_rfl) (fun _ _ _ h => h) (Or.inl ⟨by kernel_rfl, ?_⟩) (fun _ => by assumption) ?_
            rotate_left
            · intro V hV; clear hV; go_simp; try (with_reducible rfl)
            try simp only [Act.put, List.getElem_toArray, List.getElem_cons_succ, List.getElem_cons_zero, List.setIfInBounds_toArray, List.set_cons_zero, List.set_cons_succ]
            refine wpAnyT_pure (i := 20) (v := ?_) rfl (by kernel_rfl) (by kernel_rfl) (by kernel_rfl) (by kernel_rfl) (fun _ _ _ h => h) (Or.inl ⟨by kernel_rfl, ?_⟩) (fun _ => by assumption) ?_
            rotate_left
            · intro V hV; clear hV; go_simp; try (with_reducible rfl)
            try simp only [Act.put, List.getElem_toArray, List.getElem_cons_succ, List.getElem_cons_zero, List.setIfInBounds_toArray, List.set_cons_zero, List.set_cons_succ]
            refine wpAnyT_pure (i := 21) (v := ?_) rfl (by kernel_rfl) (by kernel_rfl) (by kernel_rfl) (by kernel_rfl) (fun _ _ _ h => h) (Or.inl ⟨by kernel_rfl, ?_⟩) (fun _ => by assumption) ?_
            rotate_left
            · intro V hV; clear hV; go_simp; try (with_reducible rfl)
            try simp only [Act.put, List.getElem_toArray, List.getElem_cons_succ, List.getElem_cons_zero, List.setIfInBounds_toArray, List.set_cons_zero, List.set_cons_succ]
            have e0 : w8.cell? ⟨rb, 0, none⟩ = some (.slice (some ⟨sb, o, none⟩) ((q2 :: r2).length + 1) ((q2 :: r2).length + 1)) := S3.1
            have e1 : w8.cell? ⟨rb, 1, none⟩ = some (.bool true) := S3.2
            have g0 : w8.frozen? ⟨rb, 0, none⟩ = false := frozen_of_row _ _ _ _ _ h8
            have g1 : w8.frozen? ⟨rb, 1, none⟩ = false := frozen_of_row _ _ _ _ _ h8
            clear S3
            refine wpAnyT_one (i := 22) (by kernel_rfl) rfl (fun K hK => ?_)
            go_simp
            refine hK.out _ _ (fun h => absurd (show false = true from h) (by decide)) ?_
            clear hK K
            try simp only [Act.put, List.getElem_toArray, List.getElem_cons_succ, List.getElem_cons_zero, List.setIfInBounds_toArray, List.set_cons_zero, List.set_cons_succ]
            refine wpAnyT_pure (i := 23) (v := ?_) rfl (by kernel_rfl) (by kernel_rfl) (by kernel_rfl) (by kernel_rfl) (fun _ _ _ h => h) (Or.inl ⟨by kernel_rfl, ?_⟩) (fun h => absurd (show false = true from h) (by decide)) ?_
            rotate_left
            · intro V hV; clear hV; go_simp; try (with_reducible rfl)
            try simp only [Act.put, List.getElem_toArray, List.getElem_cons_succ, List.getElem_cons_zero, List.setIfInBounds_toArray, List.set_cons_zero, List.set_cons_succ]
            refine wpAnyT_pure (i := 24) (v := ?_) rfl (by kernel_rfl) (by kernel_rfl) (by kernel_rfl) (by kernel_rfl) (fun _ _ _ h => h) (Or.inl ⟨by kernel_rfl, ?_⟩) (fun h => absurd (show false = true from h) (by decide)) ?_
            rotate_left
            · intro V hV; clear hV; go_simp; try (with_reducible rfl)
            try simp only [Act.put, List.getElem_toArray, List.getElem_cons_succ, List.getElem_cons_zero, List.setIfInBounds_toArray, List.set_cons_zero, List.set_cons_succ]
            refine wpAnyT_one (i := 25) (by kernel_rfl) rfl (fun K hK => ?_)
            go_simp
            refine hK.out _ _ (fun h => absurd (show false = true from h) (by decide)) ?_
            clear hK K
            try simp only [Act.put, List.getElem_toArray, List.getElem_cons_succ, List.getElem_cons_zero, List.setIfInBounds_toArray, List.set_cons_zero, List.set_cons_succ]
            refine wpAnyT_done (by kernel_rfl) ?_ _
            have HRE : Hid (RdAt rb sb all (q2 :: r2) true ((w8.setCell ⟨rb, 1, none⟩ (.bool true)).setCell ⟨rb, 0, none⟩ (.slice (some ⟨sb, o + 1, none⟩) (q2 :: r2).length (q2 :: r2).length))) := HR8.out.put (a := some ⟨sb, o + 1, none⟩) (ws' := (q2 :: r2)) (heap_setCell_same _ _ _ _ _ _ (heap_setCell_same _ _ _ _ _ _ h8)) ((heap_setCell_other _ _ _ _ HR8.out.ne).trans (heap_setCell_other _ _ _ _ HR8.out.ne)) (fun hn => by first | exact ⟨_, rfl, drop_next h3⟩ | exact absurd rfl hn)
            have HNE : Hid (Only (fun i => i = rb) w8 ((w8.setCell ⟨rb, 1, none⟩ (.bool true)).setCell ⟨rb, 0, none⟩ (.slice (some ⟨sb, o + 1, none⟩) (q2 :: r2).length (q2 :: r2).length))) := ((Only.refl (fun i => i = rb) w8).set 1 _ (.inr rfl)).set 0 _ (.inr rfl)
            have HOE : Hid (((w8.setCell ⟨rb, 1, none⟩ (.bool true)).setCell ⟨rb, 0, none⟩ (.slice (some ⟨sb, o + 1, none⟩) (q2 :: r2).length (q2 :: r2).length)).ownsRow w.heap.size 3 1 (.slice (some ⟨gg, 0, none⟩) (out ++ [(dn : Int)]).length cap) (out ++ [(dn : Int)]).length (intsV (out ++ [(dn : Int)]))) := by
              show World.ownsRow _ _ _ _ _ _ _
              rw [intsV_snoc, List.length_append]
              exact tb_own HO8.out HNE.out (fun k hk e => by have := (HO8.out.lt k hk).1; omega)
            have HNF : Hid (Only (fun i => i = rb) w ((w8.setCell ⟨rb, 1, none⟩ (.bool true)).setCell ⟨rb, 0, none⟩ (.slice (some ⟨sb, o + 1, none⟩) (q2 :: r2).length (q2 :: r2).length))) := HN8.out.trans (HNE.out.mono (fun _ _ h => h))
            have HAE : Hid (AllR st digF R (out ++ [(dn : Int)]) (q2 :: r2) true) := HAS.out
            have hle : (q2 :: r2).length + (out ++ [(dn : Int)]).length ≤ 1000000 := by
              have h := hlen
              simp only [List.length_append, List.length_cons, List.length_nil] at h ⊢
              omega
            have hvl : Value.slice (some ⟨gg, 0, none⟩) (out.length + 1) cap = .slice (some ⟨gg, 0, none⟩) (out ++ [(dn : Int)]).length cap := by rw [List.length_append]; rfl
            have HVL := Lib.hid hvl
            clear hvl h8 HR8 HO8 HN8 HNE h3 e0 e1 g0 g1 HAS KS k0 HSA HNA HRA HRD HOA HO1 HR1
            go_wp2_with fail
            go_roundw
            case rel => exact ⟨out ++ [(dn : Int)], (q2 :: r2), true, some ⟨gg, 0, none⟩, cap, HVL.out, HRE, HAE, HOE, HNF, hle⟩
            case measure => simp [lenOf]; omega
        | false =>
          cases db with
          | true =>
            cases r with
            | nil =>
              have k0 : Hid (∀ W : World, W.heap[rb]? = some (.cells #[.slice (some ⟨sb, o, none⟩) (([] : List ByteArray).length + 1) (([] : List ByteArray).length + 1), .bool false] 96 (0, 0)) → W.cell? ⟨rb, 0, none⟩ = some (.slice (some ⟨sb, o, none⟩) (([] : List ByteArray).length + 1) (([] : List ByteArray).length + 1)) ∧ W.cell? ⟨rb, 1, none⟩ = some (.bool false)) := fun W h => ⟨cell_row h rfl, cell_row h rfl⟩
              have KS : Hid (∀ V : World, (V.cell? ⟨rb, 0, none⟩ = some (.slice (some ⟨sb, o, none⟩) (([] : List ByteArray).length + 1) (([] : List ByteArray).length + 1)) ∧ V.cell? ⟨rb, 1, none⟩ = some (.bool false)) → (V.cell? ⟨rb, 0, none⟩ = some (.slice (some ⟨sb, o, none⟩) (([] : List ByteArray).length + 1) (([] : List ByteArray).length + 1)) ∧ V.cell? ⟨rb, 1, none⟩ = some (.bool false))) := fun V h => h
              refine wp_region_T (fun V => V.cell? ⟨rb, 0, none⟩ = some (.slice (some ⟨sb, o, none⟩) (([] : List ByteArray).length + 1) (([] : List ByteArray).length + 1)) ∧ V.cell? ⟨rb, 1, none⟩ = some (.bool false)) [22, 25] (by kernel_rfl) ?_
              change wpAnyT _ _ _ _ _ _ _ _ _ (World.drew _)
              have S1 := k0.out _ HRD.out
              clear c0 c1 f0 f1
              refine wpAnyT_pure (i := 0) (v := ?_) rfl (by kernel_rfl) (by kernel_rfl) (by kernel_rfl) (by kernel_rfl) (fun _ _ _ h => h) (Or.inl ⟨by kernel_rfl, ?_⟩) (fun _ => by assumption) ?_
              rotate_left
              · intro V hV; clear hV; go_simp; try (with_reducible rfl)
              try simp only [Act.put, List.getElem_toArray, List.getElem_cons_succ, List.getElem_cons_zero, List.setIfInBounds_toArray, List.set_cons_zero, List.set_cons_succ]
              refine wpAnyT_pure (i := 1) (v := ?_) rfl (by kernel_rfl) (by kernel_rfl) (by kernel_rfl) (by kernel_rfl) (fun _ _ _ h => h) (Or.inl ⟨by kernel_rfl, ?_⟩) (fun _ => by assumption) ?_
              rotate_left
              · intro V hV; clear hV; go_simp; try (with_reducible rfl)
              try simp only [Act.put, List.getElem_toArray, List.getElem_cons_succ, List.getElem_cons_zero, List.setIfInBounds_toArray, List.set_cons_zero, List.set_cons_succ]
              refine wpAnyT_pure (i := 2) (v := ?_) rfl (by kernel_rfl) (by kernel_rfl) (by kernel_rfl) (by kernel_rfl) (fun _ _ _ h => h) (Or.inl ⟨by kernel_rfl, ?_⟩) (fun _ => by assumption) ?_
              rotate_left
              · intro V hV; clear hV; go_simp; try (with_reducible rfl)
              try simp only [Act.put, List.getElem_toArray, List.getElem_cons_succ, List.getElem_cons_zero, List.setIfInBounds_toArray, List.set_cons_zero, List.set_cons_succ]
              refine wpAnyT_pure (i := 3) (v := ?_) rfl (by kernel_rfl) (by kernel_rfl) (by kernel_rfl) (by kernel_rfl) (fun _ _ _ h => h) (Or.inl ⟨by kernel_rfl, ?_⟩) (fun _ => by assumption) ?_
              rotate_left
              · intro V hV; clear hV; go_simp; try (with_reducible rfl)
              try simp only [Act.put, List.getElem_toArray, List.getElem_cons_succ, List.getElem_cons_zero, List.setIfInBounds_toArray, List.set_cons_zero, List.set_cons_succ]
              refine wpAnyT_pure (i := 6) (v := ?_) rfl (by kernel_rfl) (by kernel_rfl) (by kernel_rfl) (by kernel_rfl) (fun _ _ _ h => h) (Or.inl ⟨by kernel_rfl, ?_⟩) (fun _ => by assumption) ?_
              rotate_left
              · intro V hV; clear hV; go_simp; try (with_reducible rfl)
              try simp only [Act.put, List.getElem_toArray, List.getElem_cons_succ, List.getElem_cons_zero, List.setIfInBounds_toArray, List.set_cons_zero, List.set_cons_succ]
              refine wpAnyT_pure (i := 7) (v := ?_) rfl (by kernel_rfl) (by kernel_rfl) (by kernel_rfl) (by kernel_rfl) (fun _ _ _ h => h) (Or.inl ⟨by kernel_rfl, ?_⟩) (fun _ => by assumption) ?_
              rotate_left
              · intro V hV; clear hV; go_simp; try (with_reducible rfl)
              try simp only [Act.put, List.getElem_toArray, List.getElem_cons_succ, List.getElem_cons_zero, List.setIfInBounds_toArray, List.set_cons_zero, List.set_cons_succ]
              refine wpAnyT_pure (i := 8) (v := ?_) rfl (by kernel_rfl) (by kernel_rfl) (by kernel_rfl) (by kernel_rfl) (fun _ _ _ h => h) (Or.inl ⟨by kernel_rfl, ?_⟩) (fun _ => by assumption) ?_
              rotate_left
              · intro V hV; clear hV; go_simp; try (with_reducible rfl)
              try simp only [Act.put, List.getElem_toArray, List.getElem_cons_succ, List.getElem_cons_zero, List.setIfInBounds_toArray, List.set_cons_zero, List.set_cons_succ]
              refine wpAnyT_take (i := 9) (v := ?_) rfl (by kernel_rfl) (by kernel_rfl) (by kernel_rfl) (by kernel_rfl) (fun _ _ _ h => h) (Or.inl ⟨by kernel_rfl, ?_⟩) (by assumption) ?_
              rotate_left
              · intro V hV; have k := KS.out V hV; clear hV; go_simp; try (with_reducible rfl)
              try simp only [Act.put, List.getElem_toArray, List.getElem_cons_succ, List.getElem_cons_zero, List.setIfInBounds_toArray, List.set_cons_zero, List.set_cons_succ]
              refine wpAnyT_pure (i := 14) (v := ?_) rfl (by kernel_rfl) (by kernel_rfl) (by kernel_rfl) (by kernel_rfl) (fun _ _ _ h => h) (Or.inl ⟨by kernel_rfl, ?_⟩) (fun _ => by assumption) ?_
              rotate_left
              · intro V hV; clear hV; go_simp; try (with_reducible rfl)
              try simp only [Act.put, List.getElem_toArray, List.getElem_cons_succ, List.getElem_cons_zero, List.setIfInBounds_toArray, List.set_cons_zero, List.set_cons_succ]
              refine wpAnyT_pure (i := 15) (v := ?_) rfl (by kernel_rfl) (by kernel_rfl) (by kernel_rfl) (by kernel_rfl) (fun _ _ _ h => h) (Or.inl ⟨by kernel_rfl, ?_⟩) (fun _ => by assumption) ?_
              rotate_left
              · intro V hV; clear hV; go_simp; try (with_reducible rfl)
              try simp only [Act.put, List.getElem_toArray, List.getElem_cons_succ, List.getElem_cons_zero, List.setIfInBounds_toArray, List.set_cons_zero, List.set_cons_succ]
              refine wpAnyT_pure (i := 16) (v := ?_) rfl (by kernel_rfl) (by kernel_rfl) (by kernel_rfl) (by kernel_rfl) (fun _ _ _ h => h) (Or.inl ⟨by kernel_rfl, ?_⟩) (fun _ => by assumption) ?_
              rotate_left
              · intro V hV; clear hV; go_simp; try (with_reducible rfl)
              try simp only [Act.put, List.getElem_toArray, List.getElem_cons_succ, List.getElem_cons_zero, List.setIfInBounds_toArray, List.set_cons_zero, List.set_cons_succ]
              refine wpAnyT_take (i := 17) (v := ?_) rfl (by kernel_rfl) (by kernel_rfl) (by kernel_rfl) (by kernel_rfl) (fun _ _ _ h => h) (Or.inl ⟨by kernel_rfl, ?_⟩) (by assumption) ?_
              rotate_left
              · intro V hV; have k := KS.out V hV; clear hV; go_simp; try (with_reducible rfl)
              try simp only [Act.put, List.getElem_toArray, List.getElem_cons_succ, List.getElem_cons_zero, List.setIfInBounds_toArray, List.set_cons_zero, List.set_cons_succ]
              refine wpAnyT_pure (i := 18) (v := ?_) rfl (by kernel_rfl) (by kernel_rfl) (by kernel_rfl) (by kernel_rfl) (fun _ _ _ h => h) (Or.inl ⟨by kernel_rfl, ?_⟩) (fun _ => by assumption) ?_
              rotate_left
              · intro V hV; clear hV; go_simp; try (with_reducible rfl)
              try simp only [Act.put, List.getElem_toArray, List.getElem_cons_succ, List.getElem_cons_zero, List.setIfInBounds_toArray, List.set_cons_zero, List.set_cons_succ]
              refine wpAnyT_one (i := 4) (by kernel_rfl) rfl (fun K hK => ?_)
              go_simp
              refine hK.out _ _ (fun _ => k0.out _ HRA.out) ?_
              clear hK K S1
              try simp only [Act.put, List.getElem_toArray, List.getElem_cons_succ, List.getElem_cons_zero, List.setIfInBounds_toArray, List.set_cons_zero, List.set_cons_succ]
              have S2 := k0.out _ HRA.out
              refine wpAnyT_one (i := 5) (by kernel_rfl) rfl (fun K hK => ?_)
              refine step_append_lies _ (by rfl) _ _ _ (by rfl) w.heap.size 3 i0 (.int .i64 0) 1 8 Tryz.underlying22 HIn.out HZ0.out HZ1.out HZ2.out rfl (by omega) _ out.length (intsV out) (by rfl) HOA.out ⟨w1.heap.size, 0, none⟩ 1 1 [.int .i64 (dn : Int)] (by rfl) (by rfl) (cell_one_new _ _ _) (by simp [Value.oneCell']) (by omega) (by unfold maxLen; omega) (by omega) (by have := HCW.out; simp; omega) (w1.heap.size + 1) (by simp) ?_
              intro gg cap w8 hown8 hgrow hat hlt8
              have HR8 : Hid (RdAt rb sb all (q :: ([] : List ByteArray)) false w8) := HR1.out.put (a := some ⟨sb, o, none⟩) ((hgrow.block rb (by simp; have := HCW.out; omega) (HNR.out rb hrl)).trans HRA.out) ((hgrow.block sb (by simp; have := HCW.out; have := HSL.out; omega) (HNR.out sb HSL.out)).trans HSA.out) (fun _ => ⟨o, rfl, h3⟩)
              have h8 : w8.heap[rb]? = some (.cells #[.slice (some ⟨sb, o, none⟩) (([] : List ByteArray).length + 1) (([] : List ByteArray).length + 1), .bool false] 96 (0, 0)) := (hgrow.block rb (by simp; have := HCW.out; omega) (HNR.out rb hrl)).trans HRA.out
              have HN8 : Hid (Only (fun i => i = rb) w w8) := HNA.out.fresh (Only.grown hgrow (fun g hg => .inr (HOA.out.lt g hg).1))
              have HO8 := Lib.hid hown8
              clear hown8 hgrow hat hlt8 S2
              refine hK.out _ _ (fun _ => k0.out _ h8) ?_
              clear hK K
              try simp only [Act.put, List.getElem_toArray, List.getElem_cons_succ, List.getElem_cons_zero, List.setIfInBounds_toArray, List.set_cons_zero, List.set_cons_succ]
              have S3 := k0.out _ h8
              refine wpAnyT_pure (i := 10) (v := ?_) rfl (by kernel_rfl) (by kernel_rfl) (by kernel_rfl) (by kernel_rfl) (fun _ _ _ h => h) (Or.inl ⟨by kernel_rfl, ?_⟩) (fun _ => by assumption) ?_
              rotate_left
              · intro V hV; clear hV; go_simp; try (with_reducible rfl)
              try simp only [Act.put, List.getElem_toArray, List.getElem_cons_succ, List.getElem_cons_zero, List.setIfInBounds_toArray, List.set_cons_zero, List.set_cons_succ]
              refine wpAnyT_pure (i := 11) (v := ?_) rfl (by kernel_rfl) (by kernel_rfl) (by kernel_rfl) (by kernel_rfl) (fun _ _ _ h => h) (Or.inl ⟨by kernel_rfl, ?_⟩) (fun _ => by assumption) ?_
              rotate_left
              · intro V hV; clear hV; go_simp; try (with_reducible rfl)
              try simp only [Act.put, List.getElem_toArray, List.getElem_cons_succ, List.getElem_cons_zero, List.setIfInBounds_toArray, List.set_cons_zero, List.set_cons_succ]
              refine wpAnyT_pure (i := 12) (v := ?_) rfl (by kernel_rfl) (by kernel_rfl) (by kernel_rfl) (by kernel_rfl) (fun _ _ _ h => h) (Or.inl ⟨by kernel_rfl, ?_⟩) (fun _ => by assumption) ?_
              rotate_left
              · intro V hV; clear hV; go_simp; try (with_reducible rfl)
              try simp only [Act.put, List.getElem_toArray, List.getElem_cons_succ, List.getElem_cons_zero, List.setIfInBounds_toArray, List.set_cons_zero, List.set_cons_succ]
              refine wpAnyT_pure (i := 13) (v := ?_) rfl (by kernel_rfl) (by kernel_rfl) (by kernel_rfl) (by kernel_rfl) (fun _ _ _ h => h) (Or.inl ⟨by kernel_rfl, ?_⟩) (fun _ => by assumption) ?_
              rotate_left
              · intro V hV; clear hV; go_simp; try (with_reducible rfl)
              try simp only [Act.put, List.getElem_toArray, List.getElem_cons_succ, List.getElem_cons_zero, List.setIfInBounds_toArray, List.set_cons_zero, List.set_cons_succ]
              refine wpAnyT_pure (i := 19) (v := ?_) rfl (by kernel_rfl) (by kernel_rfl) (by kernel_rfl) (by kernel_rfl) (fun _ _ _ h => h) (Or.inl ⟨by kernel_rfl, ?_⟩) (fun _ => by assumption) ?_
              rotate_left
              · intro V hV; clear hV; go_simp; try (with_reducible rfl)
              try simp only [Act.put, List.getElem_toArray, List.getElem_cons_succ, List.getElem_cons_zero, List.setIfInBounds_toArray, List.set_cons_zero, List.set_cons_succ]
              refine wpAnyT_pure (i := 20) (v := ?_) rfl (by kernel_rfl) (by kernel_rfl) (by kernel_rfl) (by kernel_rfl) (fun _ _ _ h => h) (Or.inl ⟨by kernel_rfl, ?_⟩) (fun _ => by assumption) ?_
              rotate_left
              · intro V hV; clear hV; go_simp; try (with_reducible rfl)
              try simp only [Act.put, List.getElem_toArray, List.getElem_cons_succ, List.getElem_cons_zero, List.setIfInBounds_toArray, List.set_cons_zero, List.set_cons_succ]
              refine wpAnyT_pure (i := 21) (v := ?_) rfl (by kernel_rfl) (by kernel_rfl) (by kernel_rfl) (by kernel_rfl) (fun _ _ _ h => h) (Or.inl ⟨by kernel_rfl, ?_⟩) (fun _ => by assumption) ?_
              rotate_left
              · intro V hV; clear hV; go_simp; try (with_reducible rfl)
              try simp only [Act.put, List.getElem_toArray, List.getElem_cons_succ, List.getElem_cons_zero, List.setIfInBounds_toArray, List.set_cons_zero, List.set_cons_succ]
              have e0 : w8.cell? ⟨rb, 0, none⟩ = some (.slice (some ⟨sb, o, none⟩) (([] : List ByteArray).length + 1) (([] : List ByteArray).length + 1)) := S3.1
              have e1 : w8.cell? ⟨rb, 1, none⟩ = some (.bool false) := S3.2
              have g0 : w8.frozen? ⟨rb, 0, none⟩ = false := frozen_of_row _ _ _ _ _ h8
              have g1 : w8.frozen? ⟨rb, 1, none⟩ = false := frozen_of_row _ _ _ _ _ h8
              clear S3
              refine wpAnyT_one (i := 22) (by kernel_rfl) rfl (fun K hK => ?_)
              go_simp
              refine hK.out _ _ (fun h => absurd (show false = true from h) (by decide)) ?_
              clear hK K
              try simp only [Act.put, List.getElem_toArray, List.getElem_cons_succ, List.getElem_cons_zero, List.setIfInBounds_toArray, List.set_cons_zero, List.set_cons_succ]
              refine wpAnyT_pure (i := 23) (v := ?_) rfl (by kernel_rfl) (by kernel_rfl) (by kernel_rfl) (by kernel_rfl) (fun _ _ _ h => h) (Or.inl ⟨by kernel_rfl, ?_⟩) (fun h => absurd (show false = true from h) (by decide)) ?_
              rotate_left
              · intro V hV; clear hV; go_simp; try (with_reducible rfl)
              try simp only [Act.put, List.getElem_toArray, List.getElem_cons_succ, List.getElem_cons_zero, List.setIfInBounds_toArray, List.set_cons_zero, List.set_cons_succ]
              refine wpAnyT_pure (i := 24) (v := ?_) rfl (by kernel_rfl) (by kernel_rfl) (by kernel_rfl) (by kernel_rfl) (fun _ _ _ h => h) (Or.inl ⟨by kernel_rfl, ?_⟩) (fun h => absurd (show false = true from h) (by decide)) ?_
              rotate_left
              · intro V hV; clear hV; go_simp; try (with_reducible rfl)
              try simp only [Act.put, List.getElem_toArray, List.getElem_cons_succ, List.getElem_cons_zero, List.setIfInBounds_toArray, List.set_cons_zero, List.set_cons_succ]
              refine wpAnyT_one (i := 25) (by kernel_rfl) rfl (fun K hK => ?_)
              go_simp
              refine hK.out _ _ (fun h => absurd (show false = true from h) (by decide)) ?_
              clear hK K
              try simp only [Act.put, List.getElem_toArray, List.getElem_cons_succ, List.getElem_cons_zero, List.setIfInBounds_toArray, List.set_cons_zero, List.set_cons_succ]
              refine wpAnyT_done (by kernel_rfl) ?_ _
              have HRE : Hid (RdAt rb sb all ([] : List ByteArray) false ((w8.setCell ⟨rb, 1, none⟩ (.bool false)).setCell ⟨rb, 0, none⟩ (.slice (some ⟨sb, o, none⟩) ([] : List ByteArray).length ([] : List ByteArray).length))) := HR8.out.put (a := some ⟨sb, o, none⟩) (ws' := ([] : List ByteArray)) (heap_setCell_same _ _ _ _ _ _ (heap_setCell_same _ _ _ _ _ _ h8)) ((heap_setCell_other _ _ _ _ HR8.out.ne).trans (heap_setCell_other _ _ _ _ HR8.out.ne)) (fun hn => by first | exact ⟨_, rfl, drop_next h3⟩ | exact absurd rfl hn)
              have HNE : Hid (Only (fun i => i = rb) w8 ((w8.setCell ⟨rb, 1, none⟩ (.bool false)).setCell ⟨rb, 0, none⟩ (.slice (some ⟨sb, o, none⟩) ([] : List ByteArray).length ([] : List ByteArray).length))) := ((Only.refl (fun i => i = rb) w8).set 1 _ (.inr rfl)).set 0 _ (.inr rfl)
              have HOE : Hid (((w8.setCell ⟨rb, 1, none⟩ (.bool false)).setCell ⟨rb, 0, none⟩ (.slice (some ⟨sb, o, none⟩) ([] : List ByteArray).length ([] : List ByteArray).length)).ownsRow w.heap.size 3 1 (.slice (some ⟨gg, 0, none⟩) (out ++ [(dn : Int)]).length cap) (out ++ [(dn : Int)]).length (intsV (out ++ [(dn : Int)]))) := by
                show World.ownsRow _ _ _ _ _ _ _
                rw [intsV_snoc, List.length_append]
                exact tb_own HO8.out HNE.out (fun k hk e => by have := (HO8.out.lt k hk).1; omega)
              have HNF : Hid (Only (fun i => i = rb) w ((w8.setCell ⟨rb, 1, none⟩ (.bool false)).setCell ⟨rb, 0, none⟩ (.slice (some ⟨sb, o, none⟩) ([] : List ByteArray).length ([] : List ByteArray).length))) := HN8.out.trans (HNE.out.mono (fun _ _ h => h))
              have HAE : Hid (AllR st digF R (out ++ [(dn : Int)]) ([] : List ByteArray) false) := HAS.out
              have hle : ([] : List ByteArray).length + (out ++ [(dn : Int)]).length ≤ 1000000 := by
                have h := hlen
                simp only [List.length_append, List.length_cons, List.length_nil] at h ⊢
                omega
              have hvl : Value.slice (some ⟨gg, 0, none⟩) (out.length + 1) cap = .slice (some ⟨gg, 0, none⟩) (out ++ [(dn : Int)]).length cap := by rw [List.length_append]; rfl
              have HVL := Lib.hid hvl
              clear hvl h8 HR8 HO8 HN8 HNE h3 e0 e1 g0 g1 HAS KS k0 HSA HNA HRA HRD HOA HO1 HR1
              go_wp2_with fail
              go_roundw
              case rel => exact ⟨out ++ [(dn : Int)], ([] : List ByteArray), false, some ⟨gg, 0, none⟩, cap, HVL.out, HRE, HAE, HOE, HNF, hle⟩
              case measure => simp [lenOf]; omega
            | cons q2 r2 =>
              have hbd : (1 : Int) ≤ (r2.length : Int) + 1 + 1 := by omega
              have k0 : Hid (∀ W : World, W.heap[rb]? = some (.cells #[.slice (some ⟨sb, o, none⟩) ((q2 :: r2).length + 1) ((q2 :: r2).length + 1), .bool false] 96 (0, 0)) → W.cell? ⟨rb, 0, none⟩ = some (.slice (some ⟨sb, o, none⟩) ((q2 :: r2).length + 1) ((q2 :: r2).length + 1)) ∧ W.cell? ⟨rb, 1, none⟩ = some (.bool false)) := fun W h => ⟨cell_row h rfl, cell_row h rfl⟩
              have KS : Hid (∀ V : World, (V.cell? ⟨rb, 0, none⟩ = some (.slice (some ⟨sb, o, none⟩) ((q2 :: r2).length + 1) ((q2 :: r2).length + 1)) ∧ V.cell? ⟨rb, 1, none⟩ = some (.bool false)) → (V.cell? ⟨rb, 0, none⟩ = some (.slice (some ⟨sb, o, none⟩) ((q2 :: r2).length + 1) ((q2 :: r2).length + 1)) ∧ V.cell? ⟨rb, 1, none⟩ = some (.bool false))) := fun V h => h
              refine wp_region_T (fun V => V.cell? ⟨rb, 0, none⟩ = some (.slice (some ⟨sb, o, none⟩) ((q2 :: r2).length + 1) ((q2 :: r2).length + 1)) ∧ V.cell? ⟨rb, 1, none⟩ = some (.bool false)) [22, 25] (by kernel_rfl) ?_
              change wpAnyT _ _ _ _ _ _ _ _ _ (World.drew _)
              have S1 := k0.out _ HRD.out
              clear c0 c1 f0 f1
              refine wpAnyT_pure (i := 0) (v := ?_) rfl (by kernel_rfl) (by kernel_rfl) (by kernel_rfl) (by kernel_rfl) (fun _ _ _ h => h) (Or.inl ⟨by kernel_rfl, ?_⟩) (fun _ => by assumption) ?_
              rotate_left
              · intro V hV; clear hV; go_simp; try (with_reducible rfl)
              try simp only [Act.put, List.getElem_toArray, List.getElem_cons_succ, List.getElem_cons_zero, List.setIfInBounds_toArray, List.set_cons_zero, List.set_cons_succ]
              refine wpAnyT_pure (i := 1) (v := ?_) rfl (by kernel_rfl) (by kernel_rfl) (by kernel_rfl) (by kernel_rfl) (fun _ _ _ h => h) (Or.inl ⟨by kernel_rfl, ?_⟩) (fun _ => by assumption) ?_
              rotate_left
              · intro V hV; clear hV; go_simp; try (with_reducible rfl)
              try simp only [Act.put, List.getElem_toArray, List.getElem_cons_succ, List.getElem_cons_zero, List.setIfInBounds_toArray, List.set_cons_zero, List.set_cons_succ]
              refine wpAnyT_pure (i := 2) (v := ?_) rfl (by kernel_rfl) (by kernel_rfl) (by kernel_rfl) (by kernel_rfl) (fun _ _ _ h => h) (Or.inl ⟨by kernel_rfl, ?_⟩) (fun _ => by assumption) ?_
              rotate_left
              · intro V hV; clear hV; go_simp; try (with_reducible rfl)
              try simp only [Act.put, List.getElem_toArray, List.getElem_cons_succ, List.getElem_cons_zero, List.setIfInBounds_toArray, List.set_cons_zero, List.set_cons_succ]
              refine wpAnyT_pure (i := 3) (v := ?_) rfl (by kernel_rfl) (by kernel_rfl) (by kernel_rfl) (by kernel_rfl) (fun _ _ _ h => h) (Or.inl ⟨by kernel_rfl, ?_⟩) (fun _ => by assumption) ?_
              rotate_left
              · intro V hV; clear hV; go_simp; try (with_reducible rfl)
              try simp only [Act.put, List.getElem_toArray, List.getElem_cons_succ, List.getElem_cons_zero, List.setIfInBounds_toArray, List.set_cons_zero, List.set_cons_succ]
              refine wpAnyT_pure (i := 6) (v := ?_) rfl (by kernel_rfl) (by kernel_rfl) (by kernel_rfl) (by kernel_rfl) (fun _ _ _ h => h) (Or.inl ⟨by kernel_rfl, ?_⟩) (fun _ => by assumption) ?_
              rotate_left
              · intro V hV; clear hV; go_simp; try (with_reducible rfl)
              try simp only [Act.put, List.getElem_toArray, List.getElem_cons_succ, List.getElem_cons_zero, List.setIfInBounds_toArray, List.set_cons_zero, List.set_cons_succ]
              refine wpAnyT_pure (i := 7) (v := ?_) rfl (by kernel_rfl) (by kernel_rfl) (by kernel_rfl) (by kernel_rfl) (fun _ _ _ h => h) (Or.inl ⟨by kernel_rfl, ?_⟩) (fun _ => by assumption) ?_
              rotate_left
              · intro V hV; clear hV; go_simp; try (with_reducible rfl)
              try simp only [Act.put, List.getElem_toArray, List.getElem_cons_succ, List.getElem_cons_zero, List.setIfInBounds_toArray, List.set_cons_zero, List.set_cons_succ]
              refine wpAnyT_pure (i := 8) (v := ?_) rfl (by kernel_rfl) (by kernel_rfl) (by kernel_rfl) (by kernel_rfl) (fun _ _ _ h => h) (Or.inl ⟨by kernel_rfl, ?_⟩) (fun _ => by assumption) ?_
              rotate_left
              · intro V hV; clear hV; go_simp; try (with_reducible rfl)
              try simp only [Act.put, List.getElem_toArray, List.getElem_cons_succ, List.getElem_cons_zero, List.setIfInBounds_toArray, List.set_cons_zero, List.set_cons_succ]
              refine wpAnyT_take (i := 9) (v := ?_) rfl (by kernel_rfl) (by kernel_rfl) (by kernel_rfl) (by kernel_rfl) (fun _ _ _ h => h) (Or.inl ⟨by kernel_rfl, ?_⟩) (by assumption) ?_
              rotate_left
              · intro V hV; have k := KS.out V hV; clear hV; go_simp; try (with_reducible rfl)
              try simp only [Act.put, List.getElem_toArray, List.getElem_cons_succ, List.getElem_cons_zero, List.setIfInBounds_toArray, List.set_cons_zero, List.set_cons_succ]
              refine wpAnyT_pure (i := 14) (v := ?_) rfl (by kernel_rfl) (by kernel_rfl) (by kernel_rfl) (by kernel_rfl) (fun _ _ _ h => h) (Or.inl ⟨by kernel_rfl, ?_⟩) (fun _ => by assumption) ?_
              rotate_left
              · intro V hV; clear hV; go_simp; try (with_reducible rfl)
              try simp only [Act.put, List.getElem_toArray, List.getElem_cons_succ, List.getElem_cons_zero, List.setIfInBounds_toArray, List.set_cons_zero, List.set_cons_succ]
              refine wpAnyT_pure (i := 15) (v := ?_) rfl (by kernel_rfl) (by kernel_rfl) (by kernel_rfl) (by kernel_rfl) (fun _ _ _ h => h) (Or.inl ⟨by kernel_rfl, ?_⟩) (fun _ => by assumption) ?_
              rotate_left
              · intro V hV; clear hV; go_simp; try (with_reducible rfl)
              try simp only [Act.put, List.getElem_toArray, List.getElem_cons_succ, List.getElem_cons_zero, List.setIfInBounds_toArray, List.set_cons_zero, List.set_cons_succ]
              refine wpAnyT_pure (i := 16) (v := ?_) rfl (by kernel_rfl) (by kernel_rfl) (by kernel_rfl) (by kernel_rfl) (fun _ _ _ h => h) (Or.inl ⟨by kernel_rfl, ?_⟩) (fun _ => by assumption) ?_
              rotate_left
              · intro V hV; clear hV; go_simp; try (with_reducible rfl)
              try simp only [Act.put, List.getElem_toArray, List.getElem_cons_succ, List.getElem_cons_zero, List.setIfInBounds_toArray, List.set_cons_zero, List.set_cons_succ]
              refine wpAnyT_take (i := 17) (v := ?_) rfl (by kernel_rfl) (by kernel_rfl) (by kernel_rfl) (by kernel_rfl) (fun _ _ _ h => h) (Or.inl ⟨by kernel_rfl, ?_⟩) (by assumption) ?_
              rotate_left
              · intro V hV; have k := KS.out V hV; clear hV; go_simp; try (with_reducible rfl)
              try simp only [Act.put, List.getElem_toArray, List.getElem_cons_succ, List.getElem_cons_zero, List.setIfInBounds_toArray, List.set_cons_zero, List.set_cons_succ]
              refine wpAnyT_pure (i := 18) (v := ?_) rfl (by kernel_rfl) (by kernel_rfl) (by kernel_rfl) (by kernel_rfl) (fun _ _ _ h => h) (Or.inl ⟨by kernel_rfl, ?_⟩) (fun _ => by assumption) ?_
              rotate_left
              · intro V hV; clear hV; go_simp; try (with_reducible rfl)
              try simp only [Act.put, List.getElem_toArray, List.getElem_cons_succ, List.getElem_cons_zero, List.setIfInBounds_toArray, List.set_cons_zero, List.set_cons_succ]
              refine wpAnyT_one (i := 4) (by kernel_rfl) rfl (fun K hK => ?_)
              go_simp
              refine hK.out _ _ (fun _ => k0.out _ HRA.out) ?_
              clear hK K S1
              try simp only [Act.put, List.getElem_toArray, List.getElem_cons_succ, List.getElem_cons_zero, List.setIfInBounds_toArray, List.set_cons_zero, List.set_cons_succ]
              have S2 := k0.out _ HRA.out
              refine wpAnyT_one (i := 5) (by kernel_rfl) rfl (fun K hK => ?_)
              refine step_append_lies _ (by rfl) _ _ _ (by rfl) w.heap.size 3 i0 (.int .i64 0) 1 8 Tryz.underlying22 HIn.out HZ0.out HZ1.out HZ2.out rfl (by omega) _ out.length (intsV out) (by rfl) HOA.out ⟨w1.heap.size, 0, none⟩ 1 1 [.int .i64 (dn : Int)] (by rfl) (by rfl) (cell_one_new _ _ _) (by simp [Value.oneCell']) (by omega) (by unfold maxLen; omega) (by omega) (by have := HCW.out; simp; omega) (w1.heap.size + 1) (by simp) ?_
              intro gg cap w8 hown8 hgrow hat hlt8
              have HR8 : Hid (RdAt rb sb all (q :: (q2 :: r2)) false w8) := HR1.out.put (a := some ⟨sb, o, none⟩) ((hgrow.block rb (by simp; have := HCW.out; omega) (HNR.out rb hrl)).trans HRA.out) ((hgrow.block sb (by simp; have := HCW.out; have := HSL.out; omega) (HNR.out sb HSL.out)).trans HSA.out) (fun _ => ⟨o, rfl, h3⟩)
              have h8 : w8.heap[rb]? = some (.cells #[.slice (some ⟨sb, o, none⟩) ((q2 :: r2).length + 1) ((q2 :: r2).length + 1), .bool false] 96 (0, 0)) := (hgrow.block rb (by simp; have := HCW.out; omega) (HNR.out rb hrl)).trans HRA.out
              have HN8 : Hid (Only (fun i => i = rb) w w8) := HNA.out.fresh (Only.grown hgrow (fun g hg => .inr (HOA.out.lt g hg).1))
              have HO8 := Lib.hid hown8
              clear hown8 hgrow hat hlt8 S2
              refine hK.out _ _ (fun _ => k0.out _ h8) ?_
              clear hK K
              try simp only [Act.put, List.getElem_toArray, List.getElem_cons_succ, List.getElem_cons_zero, List.setIfInBounds_toArray, List.set_cons_zero, List.set_cons_succ]
              have S3 := k0.out _ h8
              refine wpAnyT_pure (i := 10) (v := ?_) rfl (by kernel_rfl) (by kernel_rfl) (by kernel_rfl) (by kernel_rfl) (fun _ _ _ h => h) (Or.inl ⟨by kernel_rfl, ?_⟩) (fun _ => by assumption) ?_
              rotate_left
              · intro V hV; clear hV; go_simp; try (with_reducible rfl)
              try simp only [Act.put, List.getElem_toArray, List.getElem_cons_succ, List.getElem_cons_zero, List.setIfInBounds_toArray, List.set_cons_zero, List.set_cons_succ]
              refine wpAnyT_pure (i := 11) (v := ?_) rfl (by kernel_rfl) (by kernel_rfl) (by kernel_rfl) (by kernel_rfl) (fun _ _ _ h => h) (Or.inl ⟨by kernel_rfl, ?_⟩) (fun _ => by assumption) ?_
              rotate_left
              · intro V hV; clear hV; go_simp; try (with_reducible rfl)
              try simp only [Act.put, List.getElem_toArray, List.getElem_cons_succ, List.getElem_cons_zero, List.setIfInBounds_toArray, List.set_cons_zero, List.set_cons_succ]
              refine wpAnyT_pure (i := 12) (v := ?_) rfl (by kernel_rfl) (by kernel_rfl) (by kernel_rfl) (by kernel_rfl) (fun _ _ _ h => h) (Or.inl ⟨by kernel_rfl, ?_⟩) (fun _ => by assumption) ?_
              rotate_left
              · intro V hV; clear hV; go_simp; try (with_reducible rfl)
              try simp only [Act.put, List.getElem_toArray, List.getElem_cons_succ, List.getElem_cons_zero, List.setIfInBounds_toArray, List.set_cons_zero, List.set_cons_succ]
              refine wpAnyT_pure (i := 13) (v := ?_) rfl (by kernel_rfl) (by kernel_rfl) (by kernel_rfl) (by kernel_rfl) (fun _ _ _ h => h) (Or.inl ⟨by kernel_rfl, ?_⟩) (fun _ => by assumption) ?_
              rotate_left
              · intro V hV; clear hV; go_simp; try (with_reducible rfl)
              try simp only [Act.put, List.getElem_toArray, List.getElem_cons_succ, List.getElem_cons_zero, List.setIfInBounds_toArray, List.set_cons_zero, List.set_cons_succ]
              refine wpAnyT_pure (i := 19) (v := ?_) rfl (by kernel_rfl) (by kernel_rfl) (by kernel_rfl) (by kernel_rfl) (fun _ _ _ h => h) (Or.inl ⟨by kernel_rfl, ?_⟩) (fun _ => by assumption) ?_
              rotate_left
              · intro V hV; clear hV; go_simp; try (with_reducible rfl)
              try simp only [Act.put, List.getElem_toArray, List.getElem_cons_succ, List.getElem_cons_zero, List.setIfInBounds_toArray, List.set_cons_zero, List.set_cons_succ]
              refine wpAnyT_pure (i := 20) (v := ?_) rfl (by kernel_rfl) (by kernel_rfl) (by kernel_rfl) (by kernel_rfl) (fun _ _ _ h => h) (Or.inl ⟨by kernel_rfl, ?_⟩) (fun _ => by assumption) ?_
              rotate_left
              · intro V hV; clear hV; go_simp; try (with_reducible rfl)
              try simp only [Act.put, List.getElem_toArray, List.getElem_cons_succ, List.getElem_cons_zero, List.setIfInBounds_toArray, List.set_cons_zero, List.set_cons_succ]
              refine wpAnyT_pure (i := 21) (v := ?_) rfl (by kernel_rfl) (by kernel_rfl) (by kernel_rfl) (by kernel_rfl) (fun _ _ _ h => h) (Or.inl ⟨by kernel_rfl, ?_⟩) (fun _ => by assumption) ?_
              rotate_left
              · intro V hV; clear hV; go_simp; try (with_reducible rfl)
              try simp only [Act.put, List.getElem_toArray, List.getElem_cons_succ, List.getElem_cons_zero, List.setIfInBounds_toArray, List.set_cons_zero, List.set_cons_succ]
              have e0 : w8.cell? ⟨rb, 0, none⟩ = some (.slice (some ⟨sb, o, none⟩) ((q2 :: r2).length + 1) ((q2 :: r2).length + 1)) := S3.1
              have e1 : w8.cell? ⟨rb, 1, none⟩ = some (.bool false) := S3.2
              have g0 : w8.frozen? ⟨rb, 0, none⟩ = false := frozen_of_row _ _ _ _ _ h8
              have g1 : w8.frozen? ⟨rb, 1, none⟩ = false := frozen_of_row _ _ _ _ _ h8
              clear S3
              refine wpAnyT_one (i := 22) (by kernel_rfl) rfl (fun K hK => ?_)
              go_simp
              refine hK.out _ _ (fun h => absurd (show false = true from h) (by decide)) ?_
              clear hK K
              try simp only [Act.put, List.getElem_toArray, List.getElem_cons_succ, List.getElem_cons_zero, List.setIfInBounds_toArray, List.set_cons_zero, List.set_cons_succ]
              refine wpAnyT_pure (i := 23) (v := ?_) rfl (by kernel_rfl) (by kernel_rfl) (by kernel_rfl) (by kernel_rfl) (fun _ _ _ h => h) (Or.inl ⟨by kernel_rfl, ?_⟩) (fun h => absurd (show false = true from h) (by decide)) ?_
              rotate_left
              · intro V hV; clear hV; go_simp; try (with_reducible rfl)
              try simp only [Act.put, List.getElem_toArray, List.getElem_cons_succ, List.getElem_cons_zero, List.setIfInBounds_toArray, List.set_cons_zero, List.set_cons_succ]
              refine wpAnyT_pure (i := 24) (v := ?_) rfl (by kernel_rfl) (by kernel_rfl) (by kernel_rfl) (by kernel_rfl) (fun _ _ _ h => h) (Or.inl ⟨by kernel_rfl, ?_⟩) (fun h => absurd (show false = true from h) (by decide)) ?_
              rotate_left
              · intro V hV; clear hV; go_simp; try (with_reducible rfl)
              try simp only [Act.put, List.getElem_toArray, List.getElem_cons_succ, List.getElem_cons_zero, List.setIfInBounds_toArray, List.set_cons_zero, List.set_cons_succ]
              refine wpAnyT_one (i := 25) (by kernel_rfl) rfl (fun K hK => ?_)
              go_simp
              refine hK.out _ _ (fun h => absurd (show false = true from h) (by decide)) ?_
              clear hK K
              try simp only [Act.put, List.getElem_toArray, List.getElem_cons_succ, List.getElem_cons_zero, List.setIfInBounds_toArray, List.set_cons_zero, List.set_cons_succ]
              refine wpAnyT_done (by kernel_rfl) ?_ _
              have HRE : Hid (RdAt rb sb all (q2 :: r2) false ((w8.setCell ⟨rb, 1, none⟩ (.bool false)).setCell ⟨rb, 0, none⟩ (.slice (some ⟨sb, o + 1, none⟩) (q2 :: r2).length (q2 :: r2).length))) := HR8.out.put (a := some ⟨sb, o + 1, none⟩) (ws' := (q2 :: r2)) (heap_setCell_same _ _ _ _ _ _ (heap_setCell_same _ _ _ _ _ _ h8)) ((heap_setCell_other _ _ _ _ HR8.out.ne).trans (heap_setCell_other _ _ _ _ HR8.out.ne)) (fun hn => by first | exact ⟨_, rfl, drop_next h3⟩ | exact absurd rfl hn)
              have HNE : Hid (Only (fun i => i = rb) w8 ((w8.setCell ⟨rb, 1, none⟩ (.bool false)).setCell ⟨rb, 0, none⟩ (.slice (some ⟨sb, o + 1, none⟩) (q2 :: r2).length (q2 :: r2).length))) := ((Only.refl (fun i => i = rb) w8).set 1 _ (.inr rfl)).set 0 _ (.inr rfl)
              have HOE : Hid (((w8.setCell ⟨rb, 1, none⟩ (.bool false)).setCell ⟨rb, 0, none⟩ (.slice (some ⟨sb, o + 1, none⟩) (q2 :: r2).length (q2 :: r2).length)).ownsRow w.heap.size 3 1 (.slice (some ⟨gg, 0, none⟩) (out ++ [(dn : Int)]).length cap) (out ++ [(dn : Int)]).length (intsV (out ++ [(dn : Int)]))) := by
                show World.ownsRow _ _ _ _ _ _ _
                rw [intsV_snoc, List.length_append]
                exact tb_own HO8.out HNE.out (fun k hk e => by have := (HO8.out.lt k hk).1; omega)
              have HNF : Hid (Only (fun i => i = rb) w ((w8.setCell ⟨rb, 1, none⟩ (.bool false)).setCell ⟨rb, 0, none⟩ (.slice (some ⟨sb, o + 1, none⟩) (q2 :: r2).length (q2 :: r2).length))) := HN8.out.trans (HNE.out.mono (fun _ _ h => h))
              have HAE : Hid (AllR st digF R (out ++ [(dn : Int)]) (q2 :: r2) false) := HAS.out
              have hle : (q2 :: r2).length + (out ++ [(dn : Int)]).length ≤ 1000000 := by
                have h := hlen
                simp only [List.length_append, List.length_cons, List.length_nil] at h ⊢
                omega
              have hvl : Value.slice (some ⟨gg, 0, none⟩) (out.length + 1) cap = .slice (some ⟨gg, 0, none⟩) (out ++ [(dn : Int)]).length cap := by rw [List.length_append]; rfl
              have HVL := Lib.hid hvl
              clear hvl h8 HR8 HO8 HN8 HNE h3 e0 e1 g0 g1 HAS KS k0 HSA HNA HRA HRD HOA HO1 HR1
              go_wp2_with fail
              go_roundw
              case rel => exact ⟨out ++ [(dn : Int)], (q2 :: r2), false, some ⟨gg, 0, none⟩, cap, HVL.out, HRE, HAE, HOE, HNF, hle⟩
              case measure => simp [lenOf]; omega
          | false =>
            cases r with
            | nil =>
              have k0 : Hid (∀ W : World, W.heap[rb]? = some (.cells #[.slice (some ⟨sb, o, none⟩) (([] : List ByteArray).length + 1) (([] : List ByteArray).length + 1), .bool false] 96 (0, 0)) → W.cell? ⟨rb, 0, none⟩ = some (.slice (some ⟨sb, o, none⟩) (([] : List ByteArray).length + 1) (([] : List ByteArray).length + 1)) ∧ W.cell? ⟨rb, 1, none⟩ = some (.bool false)) := fun W h => ⟨cell_row h rfl, cell_row h rfl⟩
              have KS : Hid (∀ V : World, (V.cell? ⟨rb, 0, none⟩ = some (.slice (some ⟨sb, o, none⟩) (([] : List ByteArray).length + 1) (([] : List ByteArray).length + 1)) ∧ V.cell? ⟨rb, 1, none⟩ = some (.bool false)) → (V.cell? ⟨rb, 0, none⟩ = some (.slice (some ⟨sb, o, none⟩) (([] : List ByteArray).length + 1) (([] : List ByteArray).length + 1)) ∧ V.cell? ⟨rb, 1, none⟩ = some (.bool false))) := fun V h => h
              refine wp_region_T (fun V => V.cell? ⟨rb, 0, none⟩ = some (.slice (some ⟨sb, o, none⟩) (([] : List ByteArray).length + 1) (([] : List ByteArray).length + 1)) ∧ V.cell? ⟨rb, 1, none⟩ = some (.bool false)) [22, 25] (by kernel_rfl) ?_
              change wpAnyT _ _ _ _ _ _ _ _ _ (World.drew _)
              have S1 := k0.out _ HRD.out
              clear c0 c1 f0 f1
              refine wpAnyT_pure (i := 0) (v := ?_) rfl (by kernel_rfl) (by kernel_rfl) (by kernel_rfl) (by kernel_rfl) (fun _ _ _ h => h) (Or.inl ⟨by kernel_rfl, ?_⟩) (fun _ => by assumption) ?_
              rotate_left
              · intro V hV; clear hV; go_simp; try (with_reducible rfl)
              try simp only [Act.put, List.getElem_toArray, List.getElem_cons_succ, List.getElem_cons_zero, List.setIfInBounds_toArray, List.set_cons_zero, List.set_cons_succ]
              refine wpAnyT_pure (i := 1) (v := ?_) rfl (by kernel_rfl) (by kernel_rfl) (by kernel_rfl) (by kernel_rfl) (fun _ _ _ h => h) (Or.inl ⟨by kernel_rfl, ?_⟩) (fun _ => by assumption) ?_
              rotate_left
              · intro V hV; clear hV; go_simp; try (with_reducible rfl)
              try simp only [Act.put, List.getElem_toArray, List.getElem_cons_succ, List.getElem_cons_zero, List.setIfInBounds_toArray, List.set_cons_zero, List.set_cons_succ]
              refine wpAnyT_pure (i := 2) (v := ?_) rfl (by kernel_rfl) (by kernel_rfl) (by kernel_rfl) (by kernel_rfl) (fun _ _ _ h => h) (Or.inl ⟨by kernel_rfl, ?_⟩) (fun _ => by assumption) ?_
              rotate_left
              · intro V hV; clear hV; go_simp; try (with_reducible rfl)
              try simp only [Act.put, List.getElem_toArray, List.getElem_cons_succ, List.getElem_cons_zero, List.setIfInBounds_toArray, List.set_cons_zero, List.set_cons_succ]
              refine wpAnyT_pure (i := 3) (v := ?_) rfl (by kernel_rfl) (by kernel_rfl) (by kernel_rfl) (by kernel_rfl) (fun _ _ _ h => h) (Or.inl ⟨by kernel_rfl, ?_⟩) (fun _ => by assumption) ?_
              rotate_left
              · intro V hV; clear hV; go_simp; try (with_reducible rfl)
              try simp only [Act.put, List.getElem_toArray, List.getElem_cons_succ, List.getElem_cons_zero, List.setIfInBounds_toArray, List.set_cons_zero, List.set_cons_succ]
              refine wpAnyT_pure (i := 6) (v := ?_) rfl (by kernel_rfl) (by kernel_rfl) (by kernel_rfl) (by kernel_rfl) (fun _ _ _ h => h) (Or.inl ⟨by kernel_rfl, ?_⟩) (fun _ => by assumption) ?_
              rotate_left
              · intro V hV; clear hV; go_simp; try (with_reducible rfl)
              try simp only [Act.put, List.getElem_toArray, List.getElem_cons_succ, List.getElem_cons_zero, List.setIfInBounds_toArray, List.set_cons_zero, List.set_cons_succ]
              refine wpAnyT_pure (i := 7) (v := ?_) rfl (by kernel_rfl) (by kernel_rfl) (by kernel_rfl) (by kernel_rfl) (fun _ _ _ h => h) (Or.inl ⟨by kernel_rfl, ?_⟩) (fun _ => by assumption) ?_
              rotate_left
              · intro V hV; clear hV; go_simp; try (with_reducible rfl)
              try simp only [Act.put, List.getElem_toArray, List.getElem_cons_succ, List.getElem_cons_zero, List.setIfInBounds_toArray, List.set_cons_zero, List.set_cons_succ]
              refine wpAnyT_pure (i := 8) (v := ?_) rfl (by kernel_rfl) (by kernel_rfl) (by kernel_rfl) (by kernel_rfl) (fun _ _ _ h => h) (Or.inl ⟨by kernel_rfl, ?_⟩) (fun _ => by assumption) ?_
              rotate_left
              · intro V hV; clear hV; go_simp; try (with_reducible rfl)
              try simp only [Act.put, List.getElem_toArray, List.getElem_cons_succ, List.getElem_cons_zero, List.setIfInBounds_toArray, List.set_cons_zero, List.set_cons_succ]
              refine wpAnyT_take (i := 9) (v := ?_) rfl (by kernel_rfl) (by kernel_rfl) (by kernel_rfl) (by kernel_rfl) (fun _ _ _ h => h) (Or.inl ⟨by kernel_rfl, ?_⟩) (by assumption) ?_
              rotate_left
              · intro V hV; have k := KS.out V hV; clear hV; go_simp; try (with_reducible rfl)
              try simp only [Act.put, List.getElem_toArray, List.getElem_cons_succ, List.getElem_cons_zero, List.setIfInBounds_toArray, List.set_cons_zero, List.set_cons_succ]
              refine wpAnyT_pure (i := 14) (v := ?_) rfl (by kernel_rfl) (by kernel_rfl) (by kernel_rfl) (by kernel_rfl) (fun _ _ _ h => h) (Or.inl ⟨by kernel_rfl, ?_⟩) (fun _ => by assumption) ?_
              rotate_left
              · intro V hV; clear hV; go_simp; try (with_reducible rfl)
              try simp only [Act.put, List.getElem_toArray, List.getElem_cons_succ, List.getElem_cons_zero, List.setIfInBounds_toArray, List.set_cons_zero, List.set_cons_succ]
              refine wpAnyT_pure (i := 15) (v := ?_) rfl (by kernel_rfl) (by kernel_rfl) (by kernel_rfl) (by kernel_rfl) (fun _ _ _ h => h) (Or.inl ⟨by kernel_rfl, ?_⟩) (fun _ => by assumption) ?_
              rotate_left
              · intro V hV; clear hV; go_simp; try (with_reducible rfl)
              try simp only [Act.put, List.getElem_toArray, List.getElem_cons_succ, List.getElem_cons_zero, List.setIfInBounds_toArray, List.set_cons_zero, List.set_cons_succ]
              refine wpAnyT_pure (i := 16) (v := ?_) rfl (by kernel_rfl) (by kernel_rfl) (by kernel_rfl) (by kernel_rfl) (fun _ _ _ h => h) (Or.inl ⟨by kernel_rfl, ?_⟩) (fun _ => by assumption) ?_
              rotate_left
              · intro V hV; clear hV; go_simp; try (with_reducible rfl)
              try simp only [Act.put, List.getElem_toArray, List.getElem_cons_succ, List.getElem_cons_zero, List.setIfInBounds_toArray, List.set_cons_zero, List.set_cons_succ]
              refine wpAnyT_take (i := 17) (v := ?_) rfl (by kernel_rfl) (by kernel_rfl) (by kernel_rfl) (by kernel_rfl) (fun _ _ _ h => h) (Or.inl ⟨by kernel_rfl, ?_⟩) (by assumption) ?_
              rotate_left
              · intro V hV; have k := KS.out V hV; clear hV; go_simp; try (with_reducible rfl)
              try simp only [Act.put, List.getElem_toArray, List.getElem_cons_succ, List.getElem_cons_zero, List.setIfInBounds_toArray, List.set_cons_zero, List.set_cons_succ]
              refine wpAnyT_pure (i := 18) (v := ?_) rfl (by kernel_rfl) (by kernel_rfl) (by kernel_rfl) (by kernel_rfl) (fun _ _ _ h => h) (Or.inl ⟨by kernel_rfl, ?_⟩) (fun _ => by assumption) ?_
              rotate_left
              · intro V hV; clear hV; go_simp; try (with_reducible rfl)
              try simp only [Act.put, List.getElem_toArray, List.getElem_cons_succ, List.getElem_cons_zero, List.setIfInBounds_toArray, List.set_cons_zero, List.set_cons_succ]
              refine wpAnyT_one (i := 4) (by kernel_rfl) rfl (fun K hK => ?_)
              go_simp
              refine hK.out _ _ (fun _ => k0.out _ HRA.out) ?_
              clear hK K S1
              try simp only [Act.put, List.getElem_toArray, List.getElem_cons_succ, List.getElem_cons_zero, List.setIfInBounds_toArray, List.set_cons_zero, List.set_cons_succ]
              have S2 := k0.out _ HRA.out
              refine wpAnyT_one (i := 5) (by kernel_rfl) rfl (fun K hK => ?_)
              refine step_append_lies _ (by rfl) _ _ _ (by rfl) w.heap.size 3 i0 (.int .i64 0) 1 8 Tryz.underlying22 HIn.out HZ0.out HZ1.out HZ2.out rfl (by omega) _ out.length (intsV out) (by rfl) HOA.out ⟨w1.heap.size, 0, none⟩ 1 1 [.int .i64 (dn : Int)] (by rfl) (by rfl) (cell_one_new _ _ _) (by simp [Value.oneCell']) (by omega) (by unfold maxLen; omega) (by omega) (by have := HCW.out; simp; omega) (w1.heap.size + 1) (by simp) ?_
              intro gg cap w8 hown8 hgrow hat hlt8
              have HR8 : Hid (RdAt rb sb all (q :: ([] : List ByteArray)) false w8) := HR1.out.put (a := some ⟨sb, o, none⟩) ((hgrow.block rb (by simp; have := HCW.out; omega) (HNR.out rb hrl)).trans HRA.out) ((hgrow.block sb (by simp; have := HCW.out; have := HSL.out; omega) (HNR.out sb HSL.out)).trans HSA.out) (fun _ => ⟨o, rfl, h3⟩)
              have h8 : w8.heap[rb]? = some (.cells #[.slice (some ⟨sb, o, none⟩) (([] : List ByteArray).length + 1) (([] : List ByteArray).length + 1), .bool false] 96 (0, 0)) := (hgrow.block rb (by simp; have := HCW.out; omega) (HNR.out rb hrl)).trans HRA.out
              have HN8 : Hid (Only (fun i => i = rb) w w8) := HNA.out.fresh (Only.grown hgrow (fun g hg => .inr (HOA.out.lt g hg).1))
              have HO8 := Lib.hid hown8
              clear hown8 hgrow hat hlt8 S2
              refine hK.out _ _ (fun _ => k0.out _ h8) ?_
              clear hK K
              try simp only [Act.put, List.getElem_toArray, List.getElem_cons_succ, List.getElem_cons_zero, List.setIfInBounds_toArray, List.set_cons_zero, List.set_cons_succ]
              have S3 := k0.out _ h8
              refine wpAnyT_pure (i := 10) (v := ?_) rfl (by kernel_rfl) (by kernel_rfl) (by kernel_rfl) (by kernel_rfl) (fun _ _ _ h => h) (Or.inl ⟨by kernel_rfl, ?_⟩) (fun _ => by assumption) ?_
              rotate_left
              · intro V hV; clear hV; go_simp; try (with_reducible rfl)
              try simp only [Act.put, List.getElem_toArray, List.getElem_cons_succ, List.getElem_cons_zero, List.setIfInBounds_toArray, List.set_cons_zero, List.set_cons_succ]
              refine wpAnyT_pure (i := 11) (v := ?_) rfl (by kernel_rfl) (by kernel_rfl) (by kernel_rfl) (by kernel_rfl) (fun _ _ _ h => h) (Or.inl ⟨by kernel_rfl, ?_⟩) (fun _ => by assumption) ?_
              rotate_left
              · intro V hV; clear hV; go_simp; try (with_reducible rfl)
              try simp only [Act.put, List.getElem_toArray, List.getElem_cons_succ, List.getElem_cons_zero, List.setIfInBounds_toArray, List.set_cons_zero, List.set_cons_succ]
              refine wpAnyT_pure (i := 12) (v := ?_) rfl (by kernel_rfl) (by kernel_rfl) (by kernel_rfl) (by kernel_rfl) (fun _ _ _ h => h) (Or.inl ⟨by kernel_rfl, ?_⟩) (fun _ => by assumption) ?_
              rotate_left
              · intro V hV; clear hV; go_simp; try (with_reducible rfl)
              try simp only [Act.put, List.getElem_toArray, List.getElem_cons_succ, List.getElem_cons_zero, List.setIfInBounds_toArray, List.set_cons_zero, List.set_cons_succ]
              refine wpAnyT_pure (i := 13) (v := ?_) rfl (by kernel_rfl) (by kernel_rfl) (by kernel_rfl) (by kernel_rfl) (fun _ _ _ h => h) (Or.inl ⟨by kernel_rfl, ?_⟩) (fun _ => by assumption) ?_
              rotate_left
              · intro V hV; clear hV; go_simp; try (with_reducible rfl)
              try simp only [Act.put, List.getElem_toArray, List.getElem_cons_succ, List.getElem_cons_zero, List.setIfInBounds_toArray, List.set_cons_zero, List.set_cons_succ]
              refine wpAnyT_pure (i := 19) (v := ?_) rfl (by kernel_rfl) (by kernel_rfl) (by kernel_rfl) (by kernel_rfl) (fun _ _ _ h => h) (Or.inl ⟨by kernel_rfl, ?_⟩) (fun _ => by assumption) ?_
              rotate_left
              · intro V hV; clear hV; go_simp; try (with_reducible rfl)
              try simp only [Act.put, List.getElem_toArray, List.getElem_cons_succ, List.getElem_cons_zero, List.setIfInBounds_toArray, List.set_cons_zero, List.set_cons_succ]
              refine wpAnyT_pure (i := 20) (v := ?_) rfl (by kernel_rfl) (by kernel_rfl) (by kernel_rfl) (by kernel_rfl) (fun _ _ _ h => h) (Or.inl ⟨by kernel_rfl, ?_⟩) (fun _ => by assumption) ?_
              rotate_left
              · intro V hV; clear hV; go_simp; try (with_reducible rfl)
              try simp only [Act.put, List.getElem_toArray, List.getElem_cons_succ, List.getElem_cons_zero, List.setIfInBounds_toArray, List.set_cons_zero, List.set_cons_succ]
              refine wpAnyT_pure (i := 21) (v := ?_) rfl (by kernel_rfl) (by kernel_rfl) (by kernel_rfl) (by kernel_rfl) (fun _ _ _ h => h) (Or.inl ⟨by kernel_rfl, ?_⟩) (fun _ => by assumption) ?_
              rotate_left
              · intro V hV; clear hV; go_simp; try (with_reducible rfl)
              try simp only [Act.put, List.getElem_toArray, List.getElem_cons_succ, List.getElem_cons_zero, List.setIfInBounds_toArray, List.set_cons_zero, List.set_cons_succ]
              have e0 : w8.cell? ⟨rb, 0, none⟩ = some (.slice (some ⟨sb, o, none⟩) (([] : List ByteArray).length + 1) (([] : List ByteArray).length + 1)) := S3.1
              have e1 : w8.cell? ⟨rb, 1, none⟩ = some (.bool false) := S3.2
              have g0 : w8.frozen? ⟨rb, 0, none⟩ = false := frozen_of_row _ _ _ _ _ h8
              have g1 : w8.frozen? ⟨rb, 1, none⟩ = false := frozen_of_row _ _ _ _ _ h8
              clear S3
              refine wpAnyT_one (i := 22) (by kernel_rfl) rfl (fun K hK => ?_)
              go_simp
              refine hK.out _ _ (fun h => absurd (show false = true from h) (by decide)) ?_
              clear hK K
              try simp only [Act.put, List.getElem_toArray, List.getElem_cons_succ, List.getElem_cons_zero, List.setIfInBounds_toArray, List.set_cons_zero, List.set_cons_succ]
              refine wpAnyT_pure (i := 23) (v := ?_) rfl (by kernel_rfl) (by kernel_rfl) (by kernel_rfl) (by kernel_rfl) (fun _ _ _ h => h) (Or.inl ⟨by kernel_rfl, ?_⟩) (fun h => absurd (show false = true from h) (by decide)) ?_
              rotate_left
              · intro V hV; clear hV; go_simp; try (with_reducible rfl)
              try simp only [Act.put, List.getElem_toArray, List.getElem_cons_succ, List.getElem_cons_zero, List.setIfInBounds_toArray, List.set_cons_zero, List.set_cons_succ]
              refine wpAnyT_pure (i := 24) (v := ?_) rfl (by kernel_rfl) (by kernel_rfl) (by kernel_rfl) (by kernel_rfl) (fun _ _ _ h => h) (Or.inl ⟨by kernel_rfl, ?_⟩) (fun h => absurd (show false = true from h) (by decide)) ?_
              rotate_left
              · intro V hV; clear hV; go_simp; try (with_reducible rfl)
              try simp only [Act.put, List.getElem_toArray, List.getElem_cons_succ, List.getElem_cons_zero, List.setIfInBounds_toArray, List.set_cons_zero, List.set_cons_succ]
              refine wpAnyT_one (i := 25) (by kernel_rfl) rfl (fun K hK => ?_)
              go_simp
              refine hK.out _ _ (fun h => absurd (show false = true from h) (by decide)) ?_
              clear hK K
              try simp only [Act.put, List.getElem_toArray, List.getElem_cons_succ, List.getElem_cons_zero, List.setIfInBounds_toArray, List.set_cons_zero, List.set_cons_succ]
              refine wpAnyT_done (by kernel_rfl) ?_ _
              have HRE : Hid (RdAt rb sb all ([] : List ByteArray) true ((w8.setCell ⟨rb, 1, none⟩ (.bool true)).setCell ⟨rb, 0, none⟩ (.slice (some ⟨sb, o, none⟩) ([] : List ByteArray).length ([] : List ByteArray).length))) := HR8.out.put (a := some ⟨sb, o, none⟩) (ws' := ([] : List ByteArray)) (heap_setCell_same _ _ _ _ _ _ (heap_setCell_same _ _ _ _ _ _ h8)) ((heap_setCell_other _ _ _ _ HR8.out.ne).trans (heap_setCell_other _ _ _ _ HR8.out.ne)) (fun hn => by first | exact ⟨_, rfl, drop_next h3⟩ | exact absurd rfl hn)
              have HNE : Hid (Only (fun i => i = rb) w8 ((w8.setCell ⟨rb, 1, none⟩ (.bool true)).setCell ⟨rb, 0, none⟩ (.slice (some ⟨sb, o, none⟩) ([] : List ByteArray).length ([] : List ByteArray).length))) := ((Only.refl (fun i => i = rb) w8).set 1 _ (.inr rfl)).set 0 _ (.inr rfl)
              have HOE : Hid (((w8.setCell ⟨rb, 1, none⟩ (.bool true)).setCell ⟨rb, 0, none⟩ (.slice (some ⟨sb, o, none⟩) ([] : List ByteArray).length ([] : List ByteArray).length)).ownsRow w.heap.size 3 1 (.slice (some ⟨gg, 0, none⟩) (out ++ [(dn : Int)]).length cap) (out ++ [(dn : Int)]).length (intsV (out ++ [(dn : Int)]))) := by
                show World.ownsRow _ _ _ _ _ _ _
                rw [intsV_snoc, List.length_append]
                exact tb_own HO8.out HNE.out (fun k hk e => by have := (HO8.out.lt k hk).1; omega)
              have HNF : Hid (Only (fun i => i = rb) w ((w8.setCell ⟨rb, 1, none⟩ (.bool true)).setCell ⟨rb, 0, none⟩ (.slice (some ⟨sb, o, none⟩) ([] : List ByteArray).length ([] : List ByteArray).length))) := HN8.out.trans (HNE.out.mono (fun _ _ h => h))
              have HAE : Hid (AllR st digF R (out ++ [(dn : Int)]) ([] : List ByteArray) true) := HAS.out
              have hle : ([] : List ByteArray).length + (out ++ [(dn : Int)]).length ≤ 1000000 := by
                have h := hlen
                simp only [List.length_append, List.length_cons, List.length_nil] at h ⊢
                omega
              have hvl : Value.slice (some ⟨gg, 0, none⟩) (out.length + 1) cap = .slice (some ⟨gg, 0, none⟩) (out ++ [(dn : Int)]).length cap := by rw [List.length_append]; rfl
              have HVL := Lib.hid hvl
              clear hvl h8 HR8 HO8 HN8 HNE h3 e0 e1 g0 g1 HAS KS k0 HSA HNA HRA HRD HOA HO1 HR1
              go_wp2_with fail
              go_roundw
              case rel => exact ⟨out ++ [(dn : Int)], ([] : List ByteArray), true, some ⟨gg, 0, none⟩, cap, HVL.out, HRE, HAE, HOE, HNF, hle⟩
              case measure => simp [lenOf]; omega
            | cons q2 r2 =>
              have hbd : (1 : Int) ≤ (r2.length : Int) + 1 + 1 := by omega
              have k0 : Hid (∀ W : World, W.heap[rb]? = some (.cells #[.slice (some ⟨sb, o, none⟩) ((q2 :: r2).length + 1) ((q2 :: r2).length + 1), .bool false] 96 (0, 0)) → W.cell? ⟨rb, 0, none⟩ = some (.slice (some ⟨sb, o, none⟩) ((q2 :: r2).length + 1) ((q2 :: r2).length + 1)) ∧ W.cell? ⟨rb, 1, none⟩ = some (.bool false)) := fun W h => ⟨cell_row h rfl, cell_row h rfl⟩
              have KS : Hid (∀ V : World, (V.cell? ⟨rb, 0, none⟩ = some (.slice (some ⟨sb, o, none⟩) ((q2 :: r2).length + 1) ((q2 :: r2).length + 1)) ∧ V.cell? ⟨rb, 1, none⟩ = some (.bool false)) → (V.cell? ⟨rb, 0, none⟩ = some (.slice (some ⟨sb, o, none⟩) ((q2 :: r2).length + 1) ((q2 :: r2).length + 1)) ∧ V.cell? ⟨rb, 1, none⟩ = some (.bool false))) := fun V h => h
              refine wp_region_T (fun V => V.cell? ⟨rb, 0, none⟩ = some (.slice (some ⟨sb, o, none⟩) ((q2 :: r2).length + 1) ((q2 :: r2).length + 1)) ∧ V.cell? ⟨rb, 1, none⟩ = some (.bool false)) [22, 25] (by kernel_rfl) ?_
              change wpAnyT _ _ _ _ _ _ _ _ _ (World.drew _)
              have S1 := k0.out _ HRD.out
              clear c0 c1 f0 f1
              refine wpAnyT_pure (i := 0) (v := ?_) rfl (by kernel_rfl) (by kernel_rfl) (by kernel_rfl) (by kernel_rfl) (fun _ _ _ h => h) (Or.inl ⟨by kernel_rfl, ?_⟩) (fun _ => by assumption) ?_
              rotate_left
              · intro V hV; clear hV; go_simp; try (with_reducible rfl)
              try simp only [Act.put, List.getElem_toArray, List.getElem_cons_succ, List.getElem_cons_zero, List.setIfInBounds_toArray, List.set_cons_zero, List.set_cons_succ]
              refine wpAnyT_pure (i := 1) (v := ?_) rfl (by kernel_rfl) (by kernel_rfl) (by kernel_rfl) (by kernel_rfl) (fun _ _ _ h => h) (Or.inl ⟨by kernel_rfl, ?_⟩) (fun _ => by assumption) ?_
              rotate_left
              · intro V hV; clear hV; go_simp; try (with_reducible rfl)
              try simp only [Act.put, List.getElem_toArray, List.getElem_cons_succ, List.getElem_cons_zero, List.setIfInBounds_toArray, List.set_cons_zero, List.set_cons_succ]
              refine wpAnyT_pure (i := 2) (v := ?_) rfl (by kernel_rfl) (by kernel_rfl) (by kernel_rfl) (by kernel_rfl) (fun _ _ _ h => h) (Or.inl ⟨by kernel_rfl, ?_⟩) (fun _ => by assumption) ?_
              rotate_left
              · intro V hV; clear hV; go_simp; try (with_reducible rfl)
              try simp only [Act.put, List.getElem_toArray, List.getElem_cons_succ, List.getElem_cons_zero, List.setIfInBounds_toArray, List.set_cons_zero, List.set_cons_succ]
              refine wpAnyT_pure (i := 3) (v := ?_) rfl (by kernel_rfl) (by kernel_rfl) (by kernel_rfl) (by kernel_rfl) (fun _ _ _ h => h) (Or.inl ⟨by kernel_rfl, ?_⟩) (fun _ => by assumption) ?_
              rotate_left
              · intro V hV; clear hV; go_simp; try (with_reducible rfl)
              try simp only [Act.put, List.getElem_toArray, List.getElem_cons_succ, List.getElem_cons_zero, List.setIfInBounds_toArray, List.set_cons_zero, List.set_cons_succ]
              refine wpAnyT_pure (i := 6) (v := ?_) rfl (by kernel_rfl) (by kernel_rfl) (by kernel_rfl) (by kernel_rfl) (fun _ _ _ h => h) (Or.inl ⟨by kernel_rfl, ?_⟩) (fun _ => by assumption) ?_
              rotate_left
              · intro V hV; clear hV; go_simp; try (with_reducible rfl)
              try simp only [Act.put, List.getElem_toArray, List.getElem_cons_succ, List.getElem_cons_zero, List.setIfInBounds_toArray, List.set_cons_zero, List.set_cons_succ]
              refine wpAnyT_pure (i := 7) (v := ?_) rfl (by kernel_rfl) (by kernel_rfl) (by kernel_rfl) (by kernel_rfl) (fun _ _ _ h => h) (Or.inl ⟨by kernel_rfl, ?_⟩) (fun _ => by assumption) ?_
              rotate_left
              · intro V hV; clear hV; go_simp; try (with_reducible rfl)
              try simp only [Act.put, List.getElem_toArray, List.getElem_cons_succ, List.getElem_cons_zero, List.setIfInBounds_toArray, List.set_cons_zero, List.set_cons_succ]
              refine wpAnyT_pure (i := 8) (v := ?_) rfl (by kernel_rfl) (by kernel_rfl) (by kernel_rfl) (by kernel_rfl) (fun _ _ _ h => h) (Or.inl ⟨by kernel_rfl, ?_⟩) (fun _ => by assumption) ?_
              rotate_left
              · intro V hV; clear hV; go_simp; try (with_reducible rfl)
              try simp only [Act.put, List.getElem_toArray, List.getElem_cons_succ, List.getElem_cons_zero, List.setIfInBounds_toArray, List.set_cons_zero, List.set_cons_succ]
              refine wpAnyT_take (i := 9) (v := ?_) rfl (by kernel_rfl) (by kernel_rfl) (by kernel_rfl) (by kernel_rfl) (fun _ _ _ h => h) (Or.inl ⟨by kernel_rfl, ?_⟩) (by assumption) ?_
              rotate_left
              · intro V hV; have k := KS.out V hV; clear hV; go_simp; try (with_reducible rfl)
              try simp only [Act.put, List.getElem_toArray, List.getElem_cons_succ, List.getElem_cons_zero, List.setIfInBounds_toArray, List.set_cons_zero, List.set_cons_succ]
              refine wpAnyT_pure (i := 14) (v := ?_) rfl (by kernel_rfl) (by kernel_rfl) (by kernel_rfl) (by kernel_rfl) (fun _ _ _ h => h) (Or.inl ⟨by kernel_rfl, ?_⟩) (fun _ => by assumption) ?_
              rotate_left
              · intro V hV; clear hV; go_simp; try (with_reducible rfl)
              try simp only [Act.put, List.getElem_toArray, List.getElem_cons_succ, List.getElem_cons_zero, List.setIfInBounds_toArray, List.set_cons_zero, List.set_cons_succ]
              refine wpAnyT_pure (i := 15) (v := ?_) rfl (by kernel_rfl) (by kernel_rfl) (by kernel_rfl) (by kernel_rfl) (fun _ _ _ h => h) (Or.inl ⟨by kernel_rfl, ?_⟩) (fun _ => by assumption) ?_
              rotate_left
              · intro V hV; clear hV; go_simp; try (with_reducible rfl)
              try simp only [Act.put, List.getElem_toArray, List.getElem_cons_succ, List.getElem_cons_zero, List.setIfInBounds_toArray, List.set_cons_zero, List.set_cons_succ]
              refine wpAnyT_pure (i := 16) (v := ?_) rfl (by kernel_rfl) (by kernel_rfl) (by kernel_rfl) (by kernel_rfl) (fun _ _ _ h => h) (Or.inl ⟨by kernel_rfl, ?_⟩) (fun _ => by assumption) ?_
              rotate_left
              · intro V hV; clear hV; go_simp; try (with_reducible rfl)
              try simp only [Act.put, List.getElem_toArray, List.getElem_cons_succ, List.getElem_cons_zero, List.setIfInBounds_toArray, List.set_cons_zero, List.set_cons_succ]
              refine wpAnyT_take (i := 17) (v := ?_) rfl (by kernel_rfl) (by kernel_rfl) (by kernel_rfl) (by kernel_rfl) (fun _ _ _ h => h) (Or.inl ⟨by kernel_rfl, ?_⟩) (by assumption) ?_
              rotate_left
              · intro V hV; have k := KS.out V hV; clear hV; go_simp; try (with_reducible rfl)
              try simp only [Act.put, List.getElem_toArray, List.getElem_cons_succ, List.getElem_cons_zero, List.setIfInBounds_toArray, List.set_cons_zero, List.set_cons_succ]
              refine wpAnyT_pure (i := 18) (v := ?_) rfl (by kernel_rfl) (by kernel_rfl) (by kernel_rfl) (by kernel_rfl) (fun _ _ _ h => h) (Or.inl ⟨by kernel_rfl, ?_⟩) (fun _ => by assumption) ?_
              rotate_left
              · intro V hV; clear hV; go_simp; try (with_reducible rfl)
              try simp only [Act.put, List.getElem_toArray, List.getElem_cons_succ, List.getElem_cons_zero, List.setIfInBounds_toArray, List.set_cons_zero, List.set_cons_succ]
              refine wpAnyT_one (i := 4) (by kernel_rfl) rfl (fun K hK => ?_)
              go_simp
              refine hK.out _ _ (fun _ => k0.out _ HRA.out) ?_
              clear hK K S1
              try simp only [Act.put, List.getElem_toArray, List.getElem_cons_succ, List.getElem_cons_zero, List.setIfInBounds_toArray, List.set_cons_zero, List.set_cons_succ]
              have S2 := k0.out _ HRA.out
              refine wpAnyT_one (i := 5) (by kernel_rfl) rfl (fun K hK => ?_)
              refine step_append_lies _ (by rfl) _ _ _ (by rfl) w.heap.size 3 i0 (.int .i64 0) 1 8 Tryz.underlying22 HIn.out HZ0.out HZ1.out HZ2.out rfl (by omega) _ out.length (intsV out) (by rfl) HOA.out ⟨w1.heap.size, 0, none⟩ 1 1 [.int .i64 (dn : Int)] (by rfl) (by rfl) (cell_one_new _ _ _) (by simp [Value.oneCell']) (by omega) (by unfold maxLen; omega) (by omega) (by have := HCW.out; simp; omega) (w1.heap.size + 1) (by simp) ?_
              intro gg cap w8 hown8 hgrow hat hlt8
              have HR8 : Hid (RdAt rb sb all (q :: (q2 :: r2)) false w8) := HR1.out.put (a := some ⟨sb, o, none⟩) ((hgrow.block rb (by simp; have := HCW.out; omega) (HNR.out rb hrl)).trans HRA.out) ((hgrow.block sb (by simp; have := HCW.out; have := HSL.out; omega) (HNR.out sb HSL.out)).trans HSA.out) (fun _ => ⟨o, rfl, h3⟩)
              have h8 : w8.heap[rb]? = some (.cells #[.slice (some ⟨sb, o, none⟩) ((q2 :: r2).length + 1) ((q2 :: r2).length + 1), .bool false] 96 (0, 0)) := (hgrow.block rb (by simp; have := HCW.out; omega) (HNR.out rb hrl)).trans HRA.out
              have HN8 : Hid (Only (fun i => i = rb) w w8) := HNA.out.fresh (Only.grown hgrow (fun g hg => .inr (HOA.out.lt g hg).1))
              have HO8 := Lib.hid hown8
              clear hown8 hgrow hat hlt8 S2
              refine hK.out _ _ (fun _ => k0.out _ h8) ?_
              clear hK K
              try simp only [Act.put, List.getElem_toArray, List.getElem_cons_succ, List.getElem_cons_zero, List.setIfInBounds_toArray, List.set_cons_zero, List.set_cons_succ]
              have S3 := k0.out _ h8
              refine wpAnyT_pure (i := 10) (v := ?_) rfl (by kernel_rfl) (by kernel_rfl) (by kernel_rfl) (by kernel_rfl) (fun _ _ _ h => h) (Or.inl ⟨by kernel_rfl, ?_⟩) (fun _ => by assumption) ?_
              rotate_left
              · intro V hV; clear hV; go_simp; try (with_reducible rfl)
              try simp only [Act.put, List.getElem_toArray, List.getElem_cons_succ, List.getElem_cons_zero, List.setIfInBounds_toArray, List.set_cons_zero, List.set_cons_succ]
              refine wpAnyT_pure (i := 11) (v := ?_) rfl (by kernel_rfl) (by kernel_rfl) (by kernel_rfl) (by kernel_rfl) (fun _ _ _ h => h) (Or.inl ⟨by kernel_rfl, ?_⟩) (fun _ => by assumption) ?_
              rotate_left
              · intro V hV; clear hV; go_simp; try (with_reducible rfl)
              try simp only [Act.put, List.getElem_toArray, List.getElem_cons_succ, List.getElem_cons_zero, List.setIfInBounds_toArray, List.set_cons_zero, List.set_cons_succ]
              refine wpAnyT_pure (i := 12) (v := ?_) rfl (by kernel_rfl) (by kernel_rfl) (by kernel_rfl) (by kernel_rfl) (fun _ _ _ h => h) (Or.inl ⟨by kernel_rfl, ?_⟩) (fun _ => by assumption) ?_
              rotate_left
              · intro V hV; clear hV; go_simp; try (with_reducible rfl)
              try simp only [Act.put, List.getElem_toArray, List.getElem_cons_succ, List.getElem_cons_zero, List.setIfInBounds_toArray, List.set_cons_zero, List.set_cons_succ]
              refine wpAnyT_pure (i := 13) (v := ?_) rfl (by kernel_rfl) (by kernel_rfl) (by kernel_rfl) (by kernel_rfl) (fun _ _ _ h => h) (Or.inl ⟨by kernel_rfl, ?_⟩) (fun _ => by assumption) ?_
              rotate_left
              · intro V hV; clear hV; go_simp; try (with_reducible rfl)
              try simp only [Act.put, List.getElem_toArray, List.getElem_cons_succ, List.getElem_cons_zero, List.setIfInBounds_toArray, List.set_cons_zero, List.set_cons_succ]
              refine wpAnyT_pure (i := 19) (v := ?_) rfl (by kernel_rfl) (by kernel_rfl) (by kernel_rfl) (by kernel_rfl) (fun _ _ _ h => h) (Or.inl ⟨by kernel_rfl, ?_⟩) (fun _ => by assumption) ?_
              rotate_left
              · intro V hV; clear hV; go_simp; try (with_reducible rfl)
              try simp only [Act.put, List.getElem_toArray, List.getElem_cons_succ, List.getElem_cons_zero, List.setIfInBounds_toArray, List.set_cons_zero, List.set_cons_succ]
              refine wpAnyT_pure (i := 20) (v := ?_) rfl (by kernel_rfl) (by kernel_rfl) (by kernel_rfl) (by kernel_rfl) (fun _ _ _ h => h) (Or.inl ⟨by kernel_rfl, ?_⟩) (fun _ => by assumption) ?_
              rotate_left
              · intro V hV; clear hV; go_simp; try (with_reducible rfl)
              try simp only [Act.put, List.getElem_toArray, List.getElem_cons_succ, List.getElem_cons_zero, List.setIfInBounds_toArray, List.set_cons_zero, List.set_cons_succ]
              refine wpAnyT_pure (i := 21) (v := ?_) rfl (by kernel_rfl) (by kernel_rfl) (by kernel_rfl) (by kernel_rfl) (fun _ _ _ h => h) (Or.inl ⟨by kernel_rfl, ?_⟩) (fun _ => by assumption) ?_
              rotate_left
              · intro V hV; clear hV; go_simp; try (with_reducible rfl)
              try simp only [Act.put, List.getElem_toArray, List.getElem_cons_succ, List.getElem_cons_zero, List.setIfInBounds_toArray, List.set_cons_zero, List.set_cons_succ]
              have e0 : w8.cell? ⟨rb, 0, none⟩ = some (.slice (some ⟨sb, o, none⟩) ((q2 :: r2).length + 1) ((q2 :: r2).length + 1)) := S3.1
              have e1 : w8.cell? ⟨rb, 1, none⟩ = some (.bool false) := S3.2
              have g0 : w8.frozen? ⟨rb, 0, none⟩ = false := frozen_of_row _ _ _ _ _ h8
              have g1 : w8.frozen? ⟨rb, 1, none⟩ = false := frozen_of_row _ _ _ _ _ h8
              clear S3
              refine wpAnyT_one (i := 22) (by kernel_rfl) rfl (fun K hK => ?_)
              go_simp
              refine hK.out _ _ (fun h => absurd (show false = true from h) (by decide)) ?_
              clear hK K
              try simp only [Act.put, List.getElem_toArray, List.getElem_cons_succ, List.getElem_cons_zero, List.setIfInBounds_toArray, List.set_cons_zero, List.set_cons_succ]
              refine wpAnyT_pure (i := 23) (v := ?_) rfl (by kernel_rfl) (by kernel_rfl) (by kernel_rfl) (by kernel_rfl) (fun _ _ _ h => h) (Or.inl ⟨by kernel_rfl, ?_⟩) (fun h => absurd (show false = true from h) (by decide)) ?_
              rotate_left
              · intro V hV; clear hV; go_simp; try (with_reducible rfl)
              try simp only [Act.put, List.getElem_toArray, List.getElem_cons_succ, List.getElem_cons_zero, List.setIfInBounds_toArray, List.set_cons_zero, List.set_cons_succ]
              refine wpAnyT_pure (i := 24) (v := ?_) rfl (by kernel_rfl) (by kernel_rfl) (by kernel_rfl) (by kernel_rfl) (fun _ _ _ h => h) (Or.inl ⟨by kernel_rfl, ?_⟩) (fun h => absurd (show false = true from h) (by decide)) ?_
              rotate_left
              · intro V hV; clear hV; go_simp; try (with_reducible rfl)
              try simp only [Act.put, List.getElem_toArray, List.getElem_cons_succ, List.getElem_cons_zero, List.setIfInBounds_toArray, List.set_cons_zero, List.set_cons_succ]
              refine wpAnyT_one (i := 25) (by kernel_rfl) rfl (fun K hK => ?_)
              go_simp
              refine hK.out _ _ (fun h => absurd (show false = true from h) (by decide)) ?_
              clear hK K
              try simp only [Act.put, List.getElem_toArray, List.getElem_cons_succ, List.getElem_cons_zero, List.setIfInBounds_toArray, List.set_cons_zero, List.set_cons_succ]
              refine wpAnyT_done (by kernel_rfl) ?_ _
              have HRE : Hid (RdAt rb sb all (q2 :: r2) true ((w8.setCell ⟨rb, 1, none⟩ (.bool true)).setCell ⟨rb, 0, none⟩ (.slice (some ⟨sb, o + 1, none⟩) (q2 :: r2).length (q2 :: r2).length))) := HR8.out.put (a := some ⟨sb, o + 1, none⟩) (ws' := (q2 :: r2)) (heap_setCell_same _ _ _ _ _ _ (heap_setCell_same _ _ _ _ _ _ h8)) ((heap_setCell_other _ _ _ _ HR8.out.ne).trans (heap_setCell_other _ _ _ _ HR8.out.ne)) (fun hn => by first | exact ⟨_, rfl, drop_next h3⟩ | exact absurd rfl hn)
              have HNE : Hid (Only (fun i => i = rb) w8 ((w8.setCell ⟨rb, 1, none⟩ (.bool true)).setCell ⟨rb, 0, none⟩ (.slice (some ⟨sb, o + 1, none⟩) (q2 :: r2).length (q2 :: r2).length))) := ((Only.refl (fun i => i = rb) w8).set 1 _ (.inr rfl)).set 0 _ (.inr rfl)
              have HOE : Hid (((w8.setCell ⟨rb, 1, none⟩ (.bool true)).setCell ⟨rb, 0, none⟩ (.slice (some ⟨sb, o + 1, none⟩) (q2 :: r2).length (q2 :: r2).length)).ownsRow w.heap.size 3 1 (.slice (some ⟨gg, 0, none⟩) (out ++ [(dn : Int)]).length cap) (out ++ [(dn : Int)]).length (intsV (out ++ [(dn : Int)]))) := by
                show World.ownsRow _ _ _ _ _ _ _
                rw [intsV_snoc, List.length_append]
                exact tb_own HO8.out HNE.out (fun k hk e => by have := (HO8.out.lt k hk).1; omega)
              have HNF : Hid (Only (fun i => i = rb) w ((w8.setCell ⟨rb, 1, none⟩ (.bool true)).setCell ⟨rb, 0, none⟩ (.slice (some ⟨sb, o + 1, none⟩) (q2 :: r2).length (q2 :: r2).length))) := HN8.out.trans (HNE.out.mono (fun _ _ h => h))
              have HAE : Hid (AllR st digF R (out ++ [(dn : Int)]) (q2 :: r2) true) := HAS.out
              have hle : (q2 :: r2).length + (out ++ [(dn : Int)]).length ≤ 1000000 := by
                have h := hlen
                simp only [List.length_append, List.length_cons, List.length_nil] at h ⊢
                omega
              have hvl : Value.slice (some ⟨gg, 0, none⟩) (out.length + 1) cap = .slice (some ⟨gg, 0, none⟩) (out ++ [(dn : Int)]).length cap := by rw [List.length_append]; rfl
              have HVL := Lib.hid hvl
              clear hvl h8 HR8 HO8 HN8 HNE h3 e0 e1 g0 g1 HAS KS k0 HSA HNA HRA HRD HOA HO1 HR1
              go_wp2_with fail
              go_roundw
              case rel => exact ⟨out ++ [(dn : Int)], (q2 :: r2), true, some ⟨gg, 0, none⟩, cap, HVL.out, HRE, HAE, HOE, HNF, hle⟩
              case measure => simp [lenOf]; omega
end Go.Proofs.YtpodedhnlicckaaGreatDoor
