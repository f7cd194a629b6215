/- The reader in memory: a word, a number. -/
import Derived.Test.YtpodedhnlicckaaGreatDoorTbRd
namespace Go.Proofs.YtpodedhnlicckaaGreatDoor
open Go.Shelf Go.RowKit Go.Sort
set_option linter.unusedVariables false
set_option linter.unusedSimpArgs false
/-- The reader lies in block rb; the line's words lie in block sb; ws are those that are left. -/
structure RdAt (rb sb : Nat) (all ws : List ByteArray) (bad : Bool) (w : World) : Prop where
  ne : sb ≠ rb
  at_ : ∃ a, w.heap[rb]? = some (.cells #[.slice a ws.length ws.length, .bool bad] 96 (0, 0)) ∧ (ws ≠ [] → ∃ o, a = some ⟨sb, o, none⟩ ∧ ws = all.drop o)
  row : w.heap[sb]? = some (.cells (all.map Value.string).toArray 9 (0, 0))
  len : all.length ≤ 1000000
  sz : ∀ s ∈ all, s.size ≤ 1000000
theorem RdAt.lt {rb sb : Nat} {all ws : List ByteArray} {bad : Bool} {w : World} (h : RdAt rb sb all ws bad w) : rb < w.heap.size := by obtain ⟨a, h, _⟩ := h.at_; exact heap_lt h
theorem RdAt.kept {rb sb : Nat} {all ws : List ByteArray} {bad : Bool} {w w' : World} (h : RdAt rb sb all ws bad w) (hb : Below w.heap.size w w') : RdAt rb sb all ws bad w' := by
  obtain ⟨a, h1, h2⟩ := h.at_
  exact ⟨h.ne, ⟨a, tb_kept h1 hb, h2⟩, tb_kept h.row hb, h.len, h.sz⟩
theorem drop_cell {all ws : List ByteArray} {o : Nat} (h : ws = all.drop o) {k : Nat} {s : ByteArray} (hk : ws[k]? = some s) : ((all.map Value.string).toArray)[o + k]? = some (Value.string s) := by
  subst h
  rw [List.getElem?_drop] at hk
  rw [List.getElem?_toArray, List.getElem?_map, hk]; rfl
theorem RdAt.head {rb sb : Nat} {all r : List ByteArray} {q : ByteArray} {bad : Bool} {w : World} (h : RdAt rb sb all (q :: r) bad w) :
    ∃ o, w.heap[rb]? = some (.cells #[.slice (some ⟨sb, o, none⟩) (r.length + 1) (r.length + 1), .bool bad] 96 (0, 0)) ∧ w.cell? ⟨sb, o, none⟩ = some (.string q) ∧ sb < w.heap.size ∧ q :: r = all.drop o := by
  obtain ⟨a, h1, h2⟩ := h.at_
  obtain ⟨o, rfl, h3⟩ := h2 (by simp)
  exact ⟨o, h1, cell_row h.row (drop_cell h3 (k := 0) rfl), heap_lt h.row, h3⟩
theorem RdAt.head_size {rb sb : Nat} {all r : List ByteArray} {q : ByteArray} {bad : Bool} {w : World} (h : RdAt rb sb all (q :: r) bad w) : q.size ≤ 1000000 := by
  obtain ⟨o, _, _, _, h3⟩ := h.head
  exact h.sz q (List.mem_of_mem_drop (by rw [← h3]; simp))
theorem RdAt.left {rb sb : Nat} {all ws : List ByteArray} {bad : Bool} {w : World} (h : RdAt rb sb all ws bad w) : ws.length ≤ 1000000 := by
  cases ws with
  | nil => simp
  | cons q r =>
    obtain ⟨o, _, _, _, h3⟩ := h.head
    have := h.len
    rw [h3, List.length_drop]; omega
theorem RdAt.nil {rb sb : Nat} {all : List ByteArray} {bad : Bool} {w : World} (h : RdAt rb sb all [] bad w) : ∃ a, w.heap[rb]? = some (.cells #[.slice a 0 0, .bool bad] 96 (0, 0)) := by
  obtain ⟨a, h1, _⟩ := h.at_
  exact ⟨a, h1⟩
/-- The reader turned: its cells are these. -/
theorem RdAt.put {rb sb : Nat} {all ws ws' : List ByteArray} {bad bad' : Bool} {w w' : World} {a : Option Addr} (h : RdAt rb sb all ws bad w) (hr : w'.heap[rb]? = some (.cells #[.slice a ws'.length ws'.length, .bool bad'] 96 (0, 0))) (hs : w'.heap[sb]? = w.heap[sb]?) (ha : ws' ≠ [] → ∃ o, a = some ⟨sb, o, none⟩ ∧ ws' = all.drop o) : RdAt rb sb all ws' bad' w' :=
  ⟨h.ne, ⟨a, hr, ha⟩, hs.trans h.row, h.len, h.sz⟩
theorem drop_next {all r : List ByteArray} {q : ByteArray} {o : Nat} (h : q :: r = all.drop o) : r = all.drop (o + 1) := by
  rw [← List.drop_drop, ← h]; rfl
def wordS (ws : List ByteArray) (bad : Bool) (s : ByteArray) : List ByteArray × Bool :=
  match ws with | [] => ([], true) | q :: r => if q = s then (r, bad) else (q :: r, true)
def WdP (rb sb : Nat) (all : List ByteArray) (r : List ByteArray × Bool) (w : World) (e : Ending) (w' : World) : Prop := e = .returned (.tuple #[]) ∧ RdAt rb sb all r.1 r.2 w' ∧ Only (fun i => i = rb) w w'
theorem word_any (rb sb : Nat) (all ws : List ByteArray) (bad : Bool) (s : ByteArray) (w : World) (h : RdAt rb sb all ws bad w) : Calls Tryz.prog 64 #[.pointer (some ⟨rb, 0, none⟩), .string s] w (WdP rb sb all (wordS ws bad s) w) := by
  have HR := Lib.hid h
  have hl := h.left
  have HSET : Hid (∀ a, w.heap[rb]? = some (.cells #[.slice a ws.length ws.length, .bool bad] 96 (0, 0)) → (ws ≠ [] → ∃ o, a = some ⟨sb, o, none⟩ ∧ ws = all.drop o) → RdAt rb sb all ws true (w.setCell ⟨rb, 1, none⟩ (.bool true)) ∧ Only (fun i => i = rb) w (w.setCell ⟨rb, 1, none⟩ (.bool true))) := fun a h1 h2 =>
    ⟨HR.out.put (a := a) (heap_setCell_same _ _ _ _ _ _ h1) (heap_setCell_other _ _ _ _ HR.out.ne) h2, (Only.refl _ w).set 1 _ (.inr rfl)⟩
  cases ws with
  | nil =>
    obtain ⟨a, h1⟩ := h.nil
    have HE := Lib.hid (HSET.out a h1 (fun h => absurd rfl h))
    have c0 : w.cell? ⟨rb, 0, none⟩ = some (.slice a 0 0) := cell_row h1 rfl
    have c1 : w.cell? ⟨rb, 1, none⟩ = some (.bool bad) := cell_row h1 rfl
    have f1 : w.frozen? ⟨rb, 1, none⟩ = false := frozen_of_row _ _ _ _ _ h1
    clear h h1 HSET
    go_enter Tryz.func64, Tryz.ntmps64
    go_wp2_with fail
    refine bodyPost_ret (results_none rfl _ _ _) rfl ?_
    exact ⟨rfl, HE.out.1, HE.out.2⟩
  | cons q r =>
    obtain ⟨o, h1, x0, hsl, h3⟩ := h.head
    have HE := Lib.hid (HSET.out _ h1 (fun _ => ⟨o, rfl, h3⟩))
    have c0 : w.cell? ⟨rb, 0, none⟩ = some (.slice (some ⟨sb, o, none⟩) (r.length + 1) (r.length + 1)) := cell_row h1 rfl
    have c1 : w.cell? ⟨rb, 1, none⟩ = some (.bool bad) := cell_row h1 rfl
    have f1 : w.frozen? ⟨rb, 1, none⟩ = false := frozen_of_row _ _ _ _ _ h1
    have f0 : w.frozen? ⟨rb, 0, none⟩ = false := frozen_of_row _ _ _ _ _ h1
    have hl : r.length + 1 ≤ 1000000 := by simpa using hl
    clear HSET
    by_cases hq : q = s
    · subst hq
      have HW : Hid (wordS (q :: r) bad q = (r, bad)) := if_pos rfl
      have HR1 : Hid (r ≠ [] → RdAt rb sb all r bad (w.setCell ⟨rb, 0, none⟩ (.slice (some ⟨sb, o + 1, none⟩) r.length r.length)) ∧ Only (fun i => i = rb) w (w.setCell ⟨rb, 0, none⟩ (.slice (some ⟨sb, o + 1, none⟩) r.length r.length))) := fun hne =>
        ⟨HR.out.put (a := some ⟨sb, o + 1, none⟩) (heap_setCell_same _ _ _ _ _ _ h1) (heap_setCell_other _ _ _ _ HR.out.ne) (fun _ => ⟨o + 1, rfl, drop_next h3⟩), (Only.refl _ w).set 0 _ (.inr rfl)⟩
      have HR0 : Hid (r = [] → RdAt rb sb all r bad (w.setCell ⟨rb, 0, none⟩ (.slice (some ⟨sb, o, none⟩) r.length r.length)) ∧ Only (fun i => i = rb) w (w.setCell ⟨rb, 0, none⟩ (.slice (some ⟨sb, o, none⟩) r.length r.length))) := fun he =>
        ⟨HR.out.put (a := some ⟨sb, o, none⟩) (heap_setCell_same _ _ _ _ _ _ h1) (heap_setCell_other _ _ _ _ HR.out.ne) (fun h => absurd he h), (Only.refl _ w).set 0 _ (.inr rfl)⟩
      clear h h1 h3
      cases r with
      | nil =>
        have HX0 := Lib.hid (HR0.out rfl)
        clear HR1 HR0
        go_enter Tryz.func64, Tryz.ntmps64
        go_wp2_with fail
        go_end0
        exact ⟨rfl, by rw [HW.out]; exact HX0.out.1, HX0.out.2⟩
      | cons q2 r2 =>
        have HX1 := Lib.hid (HR1.out (by simp))
        clear HR0 HR1
        go_enter Tryz.func64, Tryz.ntmps64
        go_wp2_with fail
        go_end0
        exact ⟨rfl, by rw [HW.out]; exact HX1.out.1, HX1.out.2⟩
    · have HW : Hid (wordS (q :: r) bad s = (q :: r, true)) := if_neg hq
      have t1 : (q.toList == s.toList) = false := beq_eq_false_iff_ne.2 (fun e => hq (by apply ByteArray.ext; apply Array.toList_inj.1; rw [ByteArray.toList_eq, ByteArray.toList_eq] at e; exact e))
      have t2 : (q.toList != s.toList) = true := bne_iff_ne.2 (fun e => hq (by apply ByteArray.ext; apply Array.toList_inj.1; rw [ByteArray.toList_eq, ByteArray.toList_eq] at e; exact e))
      clear h h1 h3 hq
      go_enter Tryz.func64, Tryz.ntmps64
      go_wp2_with fail
      refine bodyPost_ret (results_none rfl _ _ _) rfl ?_
      exact ⟨rfl, by rw [HW.out]; exact HE.out.1, HE.out.2⟩
def numS2 (ws : List ByteArray) (bad : Bool) : Nat × List ByteArray × Bool :=
  match ws with | [] => (0, [], true) | q :: r => ((digS q.data.toList).1, r, bad || !(digS q.data.toList).2)
def NmP (rb sb : Nat) (all : List ByteArray) (r : Nat × List ByteArray × Bool) (w : World) (e : Ending) (w' : World) : Prop := e = .returned (.int .i64 (r.1 : Int)) ∧ RdAt rb sb all r.2.1 r.2.2 w' ∧ Only (fun i => i = rb) w w'
set_option maxHeartbeats 4000000 in
set_option maxRecDepth 100000 in
theorem number_any (rb sb : Nat) (all ws : List ByteArray) (bad : Bool) (w : World) (h : RdAt rb sb all ws bad w) : Calls Tryz.prog 65 #[.pointer (some ⟨rb, 0, none⟩)] w (NmP rb sb all (numS2 ws bad) w) := by
  have HR := Lib.hid h
  have hl := h.left
  cases ws with
  | nil =>
    obtain ⟨a, h1⟩ := h.nil
    have HE : Hid (RdAt rb sb all [] true (w.setCell ⟨rb, 1, none⟩ (.bool true)) ∧ Only (fun i => i = rb) w (w.setCell ⟨rb, 1, none⟩ (.bool true))) := ⟨HR.out.put (a := a) (ws' := []) (heap_setCell_same _ _ _ _ _ _ h1) (heap_setCell_other _ _ _ _ HR.out.ne) (fun h => absurd rfl h), (Only.refl _ w).set 1 _ (.inr rfl)⟩
    have c0 : w.cell? ⟨rb, 0, none⟩ = some (.slice a 0 0) := cell_row h1 rfl
    have c1 : w.cell? ⟨rb, 1, none⟩ = some (.bool bad) := cell_row h1 rfl
    have f1 : w.frozen? ⟨rb, 1, none⟩ = false := frozen_of_row _ _ _ _ _ h1
    clear h h1
    go_enter Tryz.func65, Tryz.ntmps65
    go_wp2_with fail
    go_ret
    exact ⟨rfl, HE.out.1, HE.out.2⟩
  | cons q r =>
    obtain ⟨o, h1, x0, hsl, h3⟩ := h.head
    have c0 : w.cell? ⟨rb, 0, none⟩ = some (.slice (some ⟨sb, o, none⟩) (r.length + 1) (r.length + 1)) := cell_row h1 rfl
    have hl : r.length + 1 ≤ 1000000 := by simpa using hl
    have hq := h.head_size
    have HDG := Lib.hid (digits_any q w (by omega))
    clear h
    go_enter Tryz.func65, Tryz.ntmps65
    go_wp2_with fail
    refine HDG.out.mono ?_
    rintro e w1 ⟨rfl, hb⟩
    have HR1 := Lib.hid (HR.out.kept hb)
    have HO1 : Hid (Only (fun i => i = rb) w w1) := Only.of_below _ hb
    have h1 := tb_kept h1 hb
    have HNS : Hid (numS2 (q :: r) bad = ((digS q.data.toList).1, r, bad || !(digS q.data.toList).2)) := rfl
    generalize digS q.data.toList = d at *
    obtain ⟨dn, db⟩ := d
    clear hb HDG HR c0 x0 hsl
    have c0 : w1.cell? ⟨rb, 0, none⟩ = some (.slice (some ⟨sb, o, none⟩) (r.length + 1) (r.length + 1)) := cell_row h1 rfl
    have c1 : w1.cell? ⟨rb, 1, none⟩ = some (.bool bad) := cell_row h1 rfl
    have f1 : w1.frozen? ⟨rb, 1, none⟩ = false := frozen_of_row _ _ _ _ _ h1
    have f0 : w1.frozen? ⟨rb, 0, none⟩ = false := frozen_of_row _ _ _ _ _ h1
    go_upto_region 5 with fail
    cases bad with
    | true =>
      cases r with
      | nil =>
        have HR3 : Hid (∀ W, W.heap[rb]? = some (.cells #[.slice (some ⟨sb, o, none⟩) 0 0, .bool true] 96 (0, 0)) → W.heap[sb]? = w1.heap[sb]? → RdAt rb sb all ([]) true W) := fun W hW hs => HR1.out.put (a := some ⟨sb, o, none⟩) (ws' := []) hW hs (fun hn => by first | exact ⟨_, rfl, drop_next h3⟩ | exact absurd rfl hn)
        have HE1 : Hid (RdAt rb sb all ([]) true (((w1.setCell ⟨rb, 1, none⟩ (.bool true)).setCell ⟨rb, 0, none⟩ (.slice (some ⟨sb, o, none⟩) 0 0)).drew) ∧ Only (fun i => i = rb) w (((w1.setCell ⟨rb, 1, none⟩ (.bool true)).setCell ⟨rb, 0, none⟩ (.slice (some ⟨sb, o, none⟩) 0 0)).drew)) :=
          ⟨HR3.out _ (show ((w1.setCell ⟨rb, 1, none⟩ (.bool true)).setCell ⟨rb, 0, none⟩ (.slice (some ⟨sb, o, none⟩) 0 0)).heap[rb]? = _ from heap_setCell_same _ _ _ _ _ _ (heap_setCell_same _ _ _ _ _ _ h1)) (show ((w1.setCell ⟨rb, 1, none⟩ (.bool true)).setCell ⟨rb, 0, none⟩ (.slice (some ⟨sb, o, none⟩) 0 0)).heap[sb]? = _ from (heap_setCell_other _ _ _ _ HR1.out.ne).trans (heap_setCell_other _ _ _ _ HR1.out.ne)), ((HO1.out.set 1 _ (.inr rfl)).set 0 _ (.inr rfl)).drew⟩
        clear HR3 h1 h3
        go_region
        all_goals go_wp2_with fail
        all_goals (go_ret; exact ⟨by rw [HNS.out]; rfl, by rw [HNS.out]; exact HE1.out.1, HE1.out.2⟩)
      | cons q2 r2 =>
        have HR3 : Hid (∀ W, W.heap[rb]? = some (.cells #[.slice (some ⟨sb, o + 1, none⟩) (r2.length + 1) (r2.length + 1), .bool true] 96 (0, 0)) → W.heap[sb]? = w1.heap[sb]? → RdAt rb sb all (q2 :: r2) true W) := fun W hW hs => HR1.out.put (a := some ⟨sb, o + 1, none⟩) (ws' := q2 :: r2) hW hs (fun hn => by first | exact ⟨_, rfl, drop_next h3⟩ | exact absurd rfl hn)
        have HE1 : Hid (RdAt rb sb all (q2 :: r2) true (((w1.setCell ⟨rb, 1, none⟩ (.bool true)).setCell ⟨rb, 0, none⟩ (.slice (some ⟨sb, o + 1, none⟩) (r2.length + 1) (r2.length + 1))).drew) ∧ Only (fun i => i = rb) w (((w1.setCell ⟨rb, 1, none⟩ (.bool true)).setCell ⟨rb, 0, none⟩ (.slice (some ⟨sb, o + 1, none⟩) (r2.length + 1) (r2.length + 1))).drew)) :=
          ⟨HR3.out _ (show ((w1.setCell ⟨rb, 1, none⟩ (.bool true)).setCell ⟨rb, 0, none⟩ (.slice (some ⟨sb, o + 1, none⟩) (r2.length + 1) (r2.length + 1))).heap[rb]? = _ from heap_setCell_same _ _ _ _ _ _ (heap_setCell_same _ _ _ _ _ _ h1)) (show ((w1.setCell ⟨rb, 1, none⟩ (.bool true)).setCell ⟨rb, 0, none⟩ (.slice (some ⟨sb, o + 1, none⟩) (r2.length + 1) (r2.length + 1))).heap[sb]? = _ from (heap_setCell_other _ _ _ _ HR1.out.ne).trans (heap_setCell_other _ _ _ _ HR1.out.ne)), ((HO1.out.set 1 _ (.inr rfl)).set 0 _ (.inr rfl)).drew⟩
        clear HR3 h1 h3
        go_region
        all_goals go_wp2_with fail
        all_goals (go_ret; exact ⟨by rw [HNS.out]; rfl, by rw [HNS.out]; exact HE1.out.1, HE1.out.2⟩)
    | false =>
      cases db with
      | true =>
        cases r with
        | nil =>
          have HR3 : Hid (∀ W, W.heap[rb]? = some (.cells #[.slice (some ⟨sb, o, none⟩) 0 0, .bool false] 96 (0, 0)) → W.heap[sb]? = w1.heap[sb]? → RdAt rb sb all ([]) false W) := fun W hW hs => HR1.out.put (a := some ⟨sb, o, none⟩) (ws' := []) hW hs (fun hn => by first | exact ⟨_, rfl, drop_next h3⟩ | exact absurd rfl hn)
          have HE1 : Hid (RdAt rb sb all ([]) false (((w1.setCell ⟨rb, 1, none⟩ (.bool false)).setCell ⟨rb, 0, none⟩ (.slice (some ⟨sb, o, none⟩) 0 0)).drew) ∧ Only (fun i => i = rb) w (((w1.setCell ⟨rb, 1, none⟩ (.bool false)).setCell ⟨rb, 0, none⟩ (.slice (some ⟨sb, o, none⟩) 0 0)).drew)) :=
            ⟨HR3.out _ (show ((w1.setCell ⟨rb, 1, none⟩ (.bool false)).setCell ⟨rb, 0, none⟩ (.slice (some ⟨sb, o, none⟩) 0 0)).heap[rb]? = _ from heap_setCell_same _ _ _ _ _ _ (heap_setCell_same _ _ _ _ _ _ h1)) (show ((w1.setCell ⟨rb, 1, none⟩ (.bool false)).setCell ⟨rb, 0, none⟩ (.slice (some ⟨sb, o, none⟩) 0 0)).heap[sb]? = _ from (heap_setCell_other _ _ _ _ HR1.out.ne).trans (heap_setCell_other _ _ _ _ HR1.out.ne)), ((HO1.out.set 1 _ (.inr rfl)).set 0 _ (.inr rfl)).drew⟩
          clear HR3 h1 h3
          go_region
          all_goals go_wp2_with fail
          all_goals (go_ret; exact ⟨by rw [HNS.out]; rfl, by rw [HNS.out]; exact HE1.out.1, HE1.out.2⟩)
        | cons q2 r2 =>
          have HR3 : Hid (∀ W, W.heap[rb]? = some (.cells #[.slice (some ⟨sb, o + 1, none⟩) (r2.length + 1) (r2.length + 1), .bool false] 96 (0, 0)) → W.heap[sb]? = w1.heap[sb]? → RdAt rb sb all (q2 :: r2) false W) := fun W hW hs => HR1.out.put (a := some ⟨sb, o + 1, none⟩) (ws' := q2 :: r2) hW hs (fun hn => by first | exact ⟨_, rfl, drop_next h3⟩ | exact absurd rfl hn)
          have HE1 : Hid (RdAt rb sb all (q2 :: r2) false (((w1.setCell ⟨rb, 1, none⟩ (.bool false)).setCell ⟨rb, 0, none⟩ (.slice (some ⟨sb, o + 1, none⟩) (r2.length + 1) (r2.length + 1))).drew) ∧ Only (fun i => i = rb) w (((w1.setCell ⟨rb, 1, none⟩ (.bool false)).setCell ⟨rb, 0, none⟩ (.slice (some ⟨sb, o + 1, none⟩) (r2.length + 1) (r2.length + 1))).drew)) :=
            ⟨HR3.out _ (show ((w1.setCell ⟨rb, 1, none⟩ (.bool false)).setCell ⟨rb, 0, none⟩ (.slice (some ⟨sb, o + 1, none⟩) (r2.length + 1) (r2.length + 1))).heap[rb]? = _ from heap_setCell_same _ _ _ _ _ _ (heap_setCell_same _ _ _ _ _ _ h1)) (show ((w1.setCell ⟨rb, 1, none⟩ (.bool false)).setCell ⟨rb, 0, none⟩ (.slice (some ⟨sb, o + 1, none⟩) (r2.length + 1) (r2.length + 1))).heap[sb]? = _ from (heap_setCell_other _ _ _ _ HR1.out.ne).trans (heap_setCell_other _ _ _ _ HR1.out.ne)), ((HO1.out.set 1 _ (.inr rfl)).set 0 _ (.inr rfl)).drew⟩
          clear HR3 h1 h3
          go_region
          all_goals go_wp2_with fail
          all_goals (go_ret; exact ⟨by rw [HNS.out]; rfl, by rw [HNS.out]; exact HE1.out.1, HE1.out.2⟩)
      | false =>
        cases r with
        | nil =>
          have HR3 : Hid (∀ W, W.heap[rb]? = some (.cells #[.slice (some ⟨sb, o, none⟩) 0 0, .bool true] 96 (0, 0)) → W.heap[sb]? = w1.heap[sb]? → RdAt rb sb all ([]) true W) := fun W hW hs => HR1.out.put (a := some ⟨sb, o, none⟩) (ws' := []) hW hs (fun hn => by first | exact ⟨_, rfl, drop_next h3⟩ | exact absurd rfl hn)
          have HE1 : Hid (RdAt rb sb all ([]) true (((w1.setCell ⟨rb, 1, none⟩ (.bool true)).setCell ⟨rb, 0, none⟩ (.slice (some ⟨sb, o, none⟩) 0 0)).drew) ∧ Only (fun i => i = rb) w (((w1.setCell ⟨rb, 1, none⟩ (.bool true)).setCell ⟨rb, 0, none⟩ (.slice (some ⟨sb, o, none⟩) 0 0)).drew)) :=
            ⟨HR3.out _ (show ((w1.setCell ⟨rb, 1, none⟩ (.bool true)).setCell ⟨rb, 0, none⟩ (.slice (some ⟨sb, o, none⟩) 0 0)).heap[rb]? = _ from heap_setCell_same _ _ _ _ _ _ (heap_setCell_same _ _ _ _ _ _ h1)) (show ((w1.setCell ⟨rb, 1, none⟩ (.bool true)).setCell ⟨rb, 0, none⟩ (.slice (some ⟨sb, o, none⟩) 0 0)).heap[sb]? = _ from (heap_setCell_other _ _ _ _ HR1.out.ne).trans (heap_setCell_other _ _ _ _ HR1.out.ne)), ((HO1.out.set 1 _ (.inr rfl)).set 0 _ (.inr rfl)).drew⟩
          clear HR3 h1 h3
          go_region
          all_goals go_wp2_with fail
          all_goals (go_ret; exact ⟨by rw [HNS.out]; rfl, by rw [HNS.out]; exact HE1.out.1, HE1.out.2⟩)
        | cons q2 r2 =>
          have HR3 : Hid (∀ W, W.heap[rb]? = some (.cells #[.slice (some ⟨sb, o + 1, none⟩) (r2.length + 1) (r2.length + 1), .bool true] 96 (0, 0)) → W.heap[sb]? = w1.heap[sb]? → RdAt rb sb all (q2 :: r2) true W) := fun W hW hs => HR1.out.put (a := some ⟨sb, o + 1, none⟩) (ws' := q2 :: r2) hW hs (fun hn => by first | exact ⟨_, rfl, drop_next h3⟩ | exact absurd rfl hn)
          have HE1 : Hid (RdAt rb sb all (q2 :: r2) true (((w1.setCell ⟨rb, 1, none⟩ (.bool true)).setCell ⟨rb, 0, none⟩ (.slice (some ⟨sb, o + 1, none⟩) (r2.length + 1) (r2.length + 1))).drew) ∧ Only (fun i => i = rb) w (((w1.setCell ⟨rb, 1, none⟩ (.bool true)).setCell ⟨rb, 0, none⟩ (.slice (some ⟨sb, o + 1, none⟩) (r2.length + 1) (r2.length + 1))).drew)) :=
            ⟨HR3.out _ (show ((w1.setCell ⟨rb, 1, none⟩ (.bool true)).setCell ⟨rb, 0, none⟩ (.slice (some ⟨sb, o + 1, none⟩) (r2.length + 1) (r2.length + 1))).heap[rb]? = _ from heap_setCell_same _ _ _ _ _ _ (heap_setCell_same _ _ _ _ _ _ h1)) (show ((w1.setCell ⟨rb, 1, none⟩ (.bool true)).setCell ⟨rb, 0, none⟩ (.slice (some ⟨sb, o + 1, none⟩) (r2.length + 1) (r2.length + 1))).heap[sb]? = _ from (heap_setCell_other _ _ _ _ HR1.out.ne).trans (heap_setCell_other _ _ _ _ HR1.out.ne)), ((HO1.out.set 1 _ (.inr rfl)).set 0 _ (.inr rfl)).drew⟩
          clear HR3 h1 h3
          go_region
          all_goals go_wp2_with fail
          all_goals (go_ret; exact ⟨by rw [HNS.out]; rfl, by rw [HNS.out]; exact HE1.out.1, HE1.out.2⟩)
end Go.Proofs.YtpodedhnlicckaaGreatDoor
