/- A line: the walk; the first two lines. -/
import Derived.Test.YtpodedhnlicckaaGreatDoorTbTm
namespace Go.Proofs.YtpodedhnlicckaaGreatDoor
open Go.Shelf Go.RowKit Go.Sort
set_option linter.unusedVariables false
set_option linter.unusedSimpArgs false
def LineP (C tb : Nat) (T : Tab) (n : Nat) (l : List UInt8) (w : World) (e : Ending) (w' : World) : Prop :=
  (∃ ok, e = .returned (.bool ok) ∧ (∀ T', stepT T n l = some T' → ok = true ∧ TM C tb T' w') ∧ (stepT T n l = none → ok = false)) ∧ Below C w w'
theorem words_dat (s : ByteArray) : datL (wordsB s) = partL 32 s.data.toList := by
  rw [wordsB_part]
  unfold datL
  rw [List.map_map]
  conv => rhs; rw [← List.map_id (partL 32 s.data.toList)]
  exact List.map_congr_left fun q _ => bytesOf_data q
theorem part_len (c : UInt8) : ∀ (l x : List UInt8), x ∈ partL c l → x.length ≤ l.length
  | [], x, h => by simp [partL] at h; subst h; simp
  | b :: r, x, h => by
    by_cases hb : b = c
    · subst hb
      rw [partL_hit] at h
      rcases List.mem_cons.1 h with rfl | h
      · simp
      · have := part_len b r x h; simp; omega
    · cases hp : partL c r with
      | nil => exact absurd hp (partL_ne c r)
      | cons y t =>
        rw [partL_miss hb hp] at h
        rcases List.mem_cons.1 h with rfl | h
        · have := part_len c r y (by rw [hp]; simp); simp; omega
        · have := part_len c r x (by rw [hp]; simp [h]); simp; omega
theorem part_count (c : UInt8) : ∀ l : List UInt8, (partL c l).length ≤ l.length + 1
  | [] => by simp [partL]
  | b :: r => by
    have := part_count c r
    by_cases hb : b = c
    · subst hb; rw [partL_hit]; simp; omega
    · cases hp : partL c r with
      | nil => exact absurd hp (partL_ne c r)
      | cons y t => rw [partL_miss hb hp]; rw [hp] at this; simp at this ⊢; omega
theorem words_len (s : ByteArray) : (wordsB s).length ≤ s.size + 1 := by
  rw [wordsB_part, List.length_map]
  have := part_count 32 s.data.toList
  rw [size_list] at this; exact this
theorem words_size (s : ByteArray) : ∀ q ∈ wordsB s, q.size ≤ s.size := by
  intro q hq
  rw [wordsB_part] at hq
  obtain ⟨x, hx, rfl⟩ := List.mem_map.1 hq
  rw [bytesOf_size, ← size_list]
  exact part_len 32 _ _ hx
theorem words_ne (s : ByteArray) : wordsB s ≠ [] := by
  rw [wordsB_part]
  intro e
  exact partL_ne 32 _ (List.map_eq_nil_iff.1 e)
/-- The reader at first. -/
theorem rd_first (s : ByteArray) (w w1 : World) (hs : s.size ≤ 8000) (h1 : w1 = w.alloc (.cells ((wordsB s).map Value.string).toArray 9)) :
    RdAt w1.heap.size w.heap.size (wordsB s) (wordsB s) false (w1.alloc (.cells #[.slice (some ⟨w.heap.size, 0, none⟩) (wordsB s).length (wordsB s).length, .bool false] 96)) ∧ Below w.heap.size w (w1.alloc (.cells #[.slice (some ⟨w.heap.size, 0, none⟩) (wordsB s).length (wordsB s).length, .bool false] 96)) ∧ w1.heap.size = w.heap.size + 1 := by
  subst h1
  have e : (w.alloc (.cells ((wordsB s).map Value.string).toArray 9)).heap.size = w.heap.size + 1 := Array.size_push _
  refine ⟨⟨by omega, ⟨some ⟨w.heap.size, 0, none⟩, heap_alloc_new _ _, fun _ => ⟨0, rfl, rfl⟩⟩, tb_kept (heap_alloc_new _ _) (tb_alloc_below _ _), ?_, ?_⟩, ((Below.refl _ w).alloc (Nat.le_refl _) _).alloc (by rw [e]; omega) _, e⟩
  · have := words_len s; omega
  · intro q hq; have := words_size s q hq; omega
theorem okC_true {b : Bool} {us : List ByteArray} (h : okC b us = true) : b = false ∧ us = [] := by
  unfold okC at h
  simp only [Bool.and_eq_true, Bool.not_eq_true', List.isEmpty_iff] at h
  exact h
theorem numS2_lt (ws : List ByteArray) (b : Bool) : (numS2 ws b).1 < 100000 := by
  cases ws with
  | nil => show (0 : Nat) < _; omega
  | cons q r => exact digS_lt _
theorem RdAt.other {rb sb tb i : Nat} {all ws : List ByteArray} {bad : Bool} {w : World} {x : Value} (h : RdAt rb sb all ws bad w) (h1 : tb ≠ rb) (h2 : tb ≠ sb) : RdAt rb sb all ws bad (w.setCell ⟨tb, i, none⟩ x) := by
  obtain ⟨a, k1, k2⟩ := h.at_
  exact ⟨h.ne, ⟨a, (heap_setCell_other _ _ _ _ h1.symm).trans k1, k2⟩, (heap_setCell_other _ _ _ _ h2.symm).trans h.row, h.len, h.sz⟩
set_option maxHeartbeats 4000000 in
set_option maxRecDepth 100000 in
theorem line0_any (C tb : Nat) (T : Tab) (s : ByteArray) (w : World) (hT : TM C tb T w) (hs : s.size ≤ 8000) (hM : MaxW w) (hC : C ≤ w.heap.size) :
    Calls Tryz.prog 32 #[.pointer (some ⟨tb, 0, none⟩), .int .i64 0, .string s] w (LineP C tb T 0 s.data.toList w) := by
  have HT := Lib.hid hT; have HC := Lib.hid hC
  have HSP := Lib.hid (split_any s w (by omega) hM)
  have HTZ : Hid (tb < w.heap.size) := by obtain ⟨_, _, _, h, _⟩ := hT.at_; exact heap_lt h
  have HWN := Lib.hid (words_ne s)
  have HWD := Lib.hid (words_dat s)
  have HSZ : Hid (∀ w1 : World, w1 = w.alloc (.cells ((wordsB s).map Value.string).toArray 9) → RdAt w1.heap.size w.heap.size (wordsB s) (wordsB s) false (w1.alloc (.cells #[.slice (some ⟨w.heap.size, 0, none⟩) (wordsB s).length (wordsB s).length, .bool false] 96)) ∧ Below w.heap.size w (w1.alloc (.cells #[.slice (some ⟨w.heap.size, 0, none⟩) (wordsB s).length (wordsB s).length, .bool false] 96)) ∧ w1.heap.size = w.heap.size + 1) := fun w1 h => rd_first s w w1 hs h
  generalize wordsB s = all at *
  clear hT hC
  go_enter Tryz.func32, Tryz.ntmps32
  go_wp2_with fail
  refine HSP.out.mono ?_
  rintro e w1 ⟨rfl, hw1⟩
  obtain ⟨hr2, hb2, hz1⟩ := HSZ.out w1 hw1
  have HR2 := Lib.hid hr2; have HB2 := Lib.hid hb2; have HZ1 := Lib.hid hz1
  clear hr2 hb2 hz1 hw1 HSP HSZ
  go_upto_region 18 with fail
  generalize w1.alloc (.cells #[.slice (some ⟨w.heap.size, 0, none⟩) all.length all.length, .bool false] 96) = w2 at *
  obtain ⟨rb, hrb⟩ : ∃ rb, rb = w1.heap.size := ⟨_, rfl⟩
  obtain ⟨sb, hsb⟩ : ∃ sb, sb = w.heap.size := ⟨_, rfl⟩
  rw [← hrb] at HR2 HZ1 ⊢
  rw [← hsb] at HR2 HZ1 HTZ HC HB2
  have HRB : Hid (sb < rb) := by have := HZ1.out; show _ < _; omega
  clear hrb HZ1
  have HSB := Lib.hid hsb
  clear hsb
  go_wp2_with fail
  refine (word_any rb sb all all false (bytesOf wTr) w2 HR2.out).mono ?_
  rintro e w3 ⟨rfl, hr, ho⟩
  have HR3 := Lib.hid hr
  have HB3 : Hid (Below sb w w3) := HB2.out.trans (ho.below (by rw [HSB.out]; exact HB2.out.size) (fun i hi hm => by have := HRB.out; omega))
  clear hr ho HR2 HB2
  have HX : Hid (twoC (bytesOf wTr) all = twoC1 (wordS all false (bytesOf wTr))) := by show _ = _; rfl
  generalize wordS all false (bytesOf wTr) = x1 at *
  obtain ⟨us1, bd1⟩ := x1
  go_wp2_with fail
  refine (number_any rb sb all us1 bd1 w3 HR3.out).mono ?_
  rintro e w4 ⟨rfl, hr, ho⟩
  have HR4 := Lib.hid hr
  have HB4 : Hid (Below sb w w4) := HB3.out.trans (ho.below (by rw [HSB.out]; exact HB3.out.size) (fun i hi hm => by have := HRB.out; omega))
  clear hr ho HR3 HB3
  have HX : Hid (twoC (bytesOf wTr) all = numS2 us1 bd1) := HX.out
  have HXL : Hid ((numS2 us1 bd1).1 < 100000) := numS2_lt _ _
  generalize numS2 us1 bd1 = x2 at *
  obtain ⟨x, us, bd⟩ := x2
  have HT4 : Hid (TM C tb T w4) := HT.out.old (by rw [← HSB.out]; exact HB4.out)
  have HOX : Hid (i64ok (x : Int)) := by have h : x < 100000 := HXL.out; exact ⟨by omega, by omega⟩
  have HT5 := Lib.hid (HT4.out.tracks (x : Int) HOX.out)
  obtain ⟨vp, vr, zs, h1, _⟩ := HT4.out.at_
  have cc := cell_row (j := 0) h1 rfl
  have ff : w4.frozen? ⟨tb, 0, none⟩ = false := frozen_of_row _ _ _ _ _ h1
  have HR5 : Hid (RdAt rb sb all us bd (w4.setCell ⟨tb, 0, none⟩ (.int .i64 (x : Int)))) := HR4.out.other (by have := HTZ.out; have := HRB.out; omega) (by have := HTZ.out; omega)
  have HB5 : Hid (Below C w (w4.setCell ⟨tb, 0, none⟩ (.int .i64 (x : Int)))) := (HB4.out.mono HC.out).setCell (p := ⟨tb, 0, none⟩) HT.out.low _
  clear h1 HR4 HB4 HT4
  go_upto_region 26 with fail
  generalize w4.setCell ⟨tb, 0, none⟩ (.int .i64 (x : Int)) = w5 at *
  clear cc ff
  have HST : Hid (stepT T 0 s.data.toList = if okC bd us = true then some { T with tracks := (x : Int) } else none) := by
    show _ = _
    unfold stepT
    rw [if_pos rfl, ← HWD.out, two_law, HX.out]
    show Option.map _ (if okC bd us = true then _ else _) = _
    cases okC bd us <;> rfl
  have HFIN : Hid (∀ ok, ok = okC bd us → LineP C tb T 0 s.data.toList w (.returned (.bool ok)) w5) := fun ok hok => by
    refine ⟨⟨ok, rfl, fun T' h => ?_, fun h => ?_⟩, HB5.out⟩
    · rw [HST.out] at h
      subst hok
      cases hb : okC bd us with
      | true => rw [hb] at h; obtain rfl := Option.some.inj h; exact ⟨rfl, HT5.out⟩
      | false => rw [hb] at h; cases h
    · rw [HST.out] at h
      subst hok
      cases hb : okC bd us with
      | true => rw [hb] at h; cases h
      | false => rfl
  clear HST HX HT5 HB5 HT
  cases bd with
  | true =>
    obtain ⟨ra, hr, _⟩ := HR5.out.at_
    have c1 : w5.cell? ⟨rb, 1, none⟩ = some (.bool true) := cell_row hr rfl
    clear hr
    go_wp2_with fail
    go_ret
    exact HFIN.out false rfl
  | false =>
    cases us with
    | nil =>
      obtain ⟨ra, hr⟩ := HR5.out.nil
      have c1 : w5.cell? ⟨rb, 1, none⟩ = some (.bool false) := cell_row hr rfl
      have c0 : w5.cell? ⟨rb, 0, none⟩ = some (.slice ra 0 0) := cell_row hr rfl
      clear hr
      go_wp2_with fail
      go_ret
      exact HFIN.out true rfl
    | cons q0 r0 =>
      obtain ⟨o0, hr, _, _, _⟩ := HR5.out.head
      have hl0 : r0.length + 1 ≤ 1000000 := by have := HR5.out.left; simpa using this
      have c1 : w5.cell? ⟨rb, 1, none⟩ = some (.bool false) := cell_row hr rfl
      have c0 : w5.cell? ⟨rb, 0, none⟩ = some (.slice (some ⟨sb, o0, none⟩) (r0.length + 1) (r0.length + 1)) := cell_row hr rfl
      have t0 : ((r0.length : Int) + 1 == 0) = false := beq_eq_false_iff_ne.2 (by omega)
      clear hr
      go_wp2_with fail
      go_ret
      exact HFIN.out false rfl
set_option maxHeartbeats 4000000 in
set_option maxRecDepth 100000 in
theorem line1_any (C tb : Nat) (T : Tab) (s : ByteArray) (w : World) (hT : TM C tb T w) (hs : s.size ≤ 8000) (hM : MaxW w) (hC : C ≤ w.heap.size) :
    Calls Tryz.prog 32 #[.pointer (some ⟨tb, 0, none⟩), .int .i64 1, .string s] w (LineP C tb T 1 s.data.toList w) := by
  have HT := Lib.hid hT; have HC := Lib.hid hC
  have HSP := Lib.hid (split_any s w (by omega) hM)
  have HTZ : Hid (tb < w.heap.size) := by obtain ⟨_, _, _, h, _⟩ := hT.at_; exact heap_lt h
  have HWN := Lib.hid (words_ne s)
  have HWD := Lib.hid (words_dat s)
  have HSZ : Hid (∀ w1 : World, w1 = w.alloc (.cells ((wordsB s).map Value.string).toArray 9) → RdAt w1.heap.size w.heap.size (wordsB s) (wordsB s) false (w1.alloc (.cells #[.slice (some ⟨w.heap.size, 0, none⟩) (wordsB s).length (wordsB s).length, .bool false] 96)) ∧ Below w.heap.size w (w1.alloc (.cells #[.slice (some ⟨w.heap.size, 0, none⟩) (wordsB s).length (wordsB s).length, .bool false] 96)) ∧ w1.heap.size = w.heap.size + 1) := fun w1 h => rd_first s w w1 hs h
  generalize wordsB s = all at *
  clear hT hC
  go_enter Tryz.func32, Tryz.ntmps32
  go_wp2_with fail
  refine HSP.out.mono ?_
  rintro e w1 ⟨rfl, hw1⟩
  obtain ⟨hr2, hb2, hz1⟩ := HSZ.out w1 hw1
  have HR2 := Lib.hid hr2; have HB2 := Lib.hid hb2; have HZ1 := Lib.hid hz1
  clear hr2 hb2 hz1 hw1 HSP HSZ
  go_upto_region 21 with fail
  generalize w1.alloc (.cells #[.slice (some ⟨w.heap.size, 0, none⟩) all.length all.length, .bool false] 96) = w2 at *
  obtain ⟨rb, hrb⟩ : ∃ rb, rb = w1.heap.size := ⟨_, rfl⟩
  obtain ⟨sb, hsb⟩ : ∃ sb, sb = w.heap.size := ⟨_, rfl⟩
  rw [← hrb] at HR2 HZ1 ⊢
  rw [← hsb] at HR2 HZ1 HTZ HC HB2
  have HRB : Hid (sb < rb) := by have := HZ1.out; show _ < _; omega
  clear hrb HZ1
  have HSB := Lib.hid hsb
  clear hsb
  go_wp2_with fail
  refine (word_any rb sb all all false (bytesOf wSi) w2 HR2.out).mono ?_
  rintro e w3 ⟨rfl, hr, ho⟩
  have HR3 := Lib.hid hr
  have HB3 : Hid (Below sb w w3) := HB2.out.trans (ho.below (by rw [HSB.out]; exact HB2.out.size) (fun i hi hm => by have := HRB.out; omega))
  clear hr ho HR2 HB2
  have HX : Hid (twoC (bytesOf wSi) all = twoC1 (wordS all false (bytesOf wSi))) := by show _ = _; rfl
  generalize wordS all false (bytesOf wSi) = x1 at *
  obtain ⟨us1, bd1⟩ := x1
  go_wp2_with fail
  refine (number_any rb sb all us1 bd1 w3 HR3.out).mono ?_
  rintro e w4 ⟨rfl, hr, ho⟩
  have HR4 := Lib.hid hr
  have HB4 : Hid (Below sb w w4) := HB3.out.trans (ho.below (by rw [HSB.out]; exact HB3.out.size) (fun i hi hm => by have := HRB.out; omega))
  clear hr ho HR3 HB3
  have HX : Hid (twoC (bytesOf wSi) all = numS2 us1 bd1) := HX.out
  have HXL : Hid ((numS2 us1 bd1).1 < 100000) := numS2_lt _ _
  generalize numS2 us1 bd1 = x2 at *
  obtain ⟨x, us, bd⟩ := x2
  have HT4 : Hid (TM C tb T w4) := HT.out.old (by rw [← HSB.out]; exact HB4.out)
  have HOX : Hid (i64ok (x : Int)) := by have h : x < 100000 := HXL.out; exact ⟨by omega, by omega⟩
  have HT5 := Lib.hid (HT4.out.sigs (x : Int) HOX.out)
  obtain ⟨vp, vr, zs, h1, _⟩ := HT4.out.at_
  have cc := cell_row (j := 2) h1 rfl
  have ff : w4.frozen? ⟨tb, 2, none⟩ = false := frozen_of_row _ _ _ _ _ h1
  have HR5 : Hid (RdAt rb sb all us bd (w4.setCell ⟨tb, 2, none⟩ (.int .i64 (x : Int)))) := HR4.out.other (by have := HTZ.out; have := HRB.out; omega) (by have := HTZ.out; omega)
  have HB5 : Hid (Below C w (w4.setCell ⟨tb, 2, none⟩ (.int .i64 (x : Int)))) := (HB4.out.mono HC.out).setCell (p := ⟨tb, 2, none⟩) HT.out.low _
  clear h1 HR4 HB4 HT4
  go_upto_region 26 with fail
  generalize w4.setCell ⟨tb, 2, none⟩ (.int .i64 (x : Int)) = w5 at *
  clear cc ff
  have HST : Hid (stepT T 1 s.data.toList = if okC bd us = true then some { T with sigs := (x : Int) } else none) := by
    show _ = _
    unfold stepT
    rw [if_neg (by decide), if_pos rfl, ← HWD.out, two_law, HX.out]
    show Option.map _ (if okC bd us = true then _ else _) = _
    cases okC bd us <;> rfl
  have HFIN : Hid (∀ ok, ok = okC bd us → LineP C tb T 1 s.data.toList w (.returned (.bool ok)) w5) := fun ok hok => by
    refine ⟨⟨ok, rfl, fun T' h => ?_, fun h => ?_⟩, HB5.out⟩
    · rw [HST.out] at h
      subst hok
      cases hb : okC bd us with
      | true => rw [hb] at h; obtain rfl := Option.some.inj h; exact ⟨rfl, HT5.out⟩
      | false => rw [hb] at h; cases h
    · rw [HST.out] at h
      subst hok
      cases hb : okC bd us with
      | true => rw [hb] at h; cases h
      | false => rfl
  clear HST HX HT5 HB5 HT
  cases bd with
  | true =>
    obtain ⟨ra, hr, _⟩ := HR5.out.at_
    have c1 : w5.cell? ⟨rb, 1, none⟩ = some (.bool true) := cell_row hr rfl
    clear hr
    go_wp2_with fail
    go_ret
    exact HFIN.out false rfl
  | false =>
    cases us with
    | nil =>
      obtain ⟨ra, hr⟩ := HR5.out.nil
      have c1 : w5.cell? ⟨rb, 1, none⟩ = some (.bool false) := cell_row hr rfl
      have c0 : w5.cell? ⟨rb, 0, none⟩ = some (.slice ra 0 0) := cell_row hr rfl
      clear hr
      go_wp2_with fail
      go_ret
      exact HFIN.out true rfl
    | cons q0 r0 =>
      obtain ⟨o0, hr, _, _, _⟩ := HR5.out.head
      have hl0 : r0.length + 1 ≤ 1000000 := by have := HR5.out.left; simpa using this
      have c1 : w5.cell? ⟨rb, 1, none⟩ = some (.bool false) := cell_row hr rfl
      have c0 : w5.cell? ⟨rb, 0, none⟩ = some (.slice (some ⟨sb, o0, none⟩) (r0.length + 1) (r0.length + 1)) := cell_row hr rfl
      have t0 : ((r0.length : Int) + 1 == 0) = false := beq_eq_false_iff_ne.2 (by omega)
      clear hr
      go_wp2_with fail
      go_ret
      exact HFIN.out false rfl
end Go.Proofs.YtpodedhnlicckaaGreatDoor
