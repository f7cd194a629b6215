/- Lines of a program: the plain words; label, May, and the document's. -/
import Derived.Test.YtdlpgoackmgdkaaGreatDoorZIsaB
import Derived.Test.YtdlpgoackmgdkaaGreatDoorZIsaA
import Derived.Test.YtdlpgoackmgdkaaGreatDoorZAsmLay
import Derived.Maps.OwnSet
import Derived.Maps.OwnOps
import Derived.StringKeys
import Derived.BigQuiet
import Derived.Deep.OwnRows
import Derived.Shelf.Strings.BuilderK
import Derived.Lib.ParseIntBCases
import Derived.Lib.AtoiErrMem
import Derived.Deep.RegionHeld3
import Derived.Laws.BytesArg
import Derived.Deep.CutRange
namespace Go.Proofs.YtdlpgoackmgdkaaGreatDoor
open Go.Shelf Go.RowKit
set_option linter.unusedVariables false
set_option linter.unusedSimpArgs false
def isLab (b : UInt8) : Bool := isLet b || isDig b || b == 95
def labL : List UInt8 → Bool
  | [] => false
  | b :: r => decide (r.length ≤ 15) && isLet b && r.all isLab
def labelB (s : ByteArray) : Bool := labL s.data.toList
theorem size_list (s : ByteArray) : s.data.toList.length = s.size := Array.length_toList
theorem labL_cons (b : UInt8) (r : List UInt8) : labL (b :: r) = (decide (r.length ≤ 15) && isLet b && r.all isLab) := rfl
theorem labelB_0 {s : ByteArray} (h : s.size = 0) : labelB s = false := by
  rw [← size_list] at h; unfold labelB; rw [List.length_eq_zero_iff.1 h]; rfl
theorem labelB_big {s : ByteArray} (h : 16 < s.size) : labelB s = false := by
  rw [← size_list] at h; unfold labelB
  generalize s.data.toList = l at *
  cases l with
  | nil => rfl
  | cons b r => rw [labL_cons]; simp at h; rw [decide_eq_false (by omega)]; rfl
theorem byteN_0 {s : ByteArray} {b : UInt8} {r : List UInt8} (h : s.data.toList = b :: r) : byteN s 0 = b.toNat := by unfold byteN; rw [h]; rfl
theorem labelB_head {s : ByteArray} (h0 : 0 < s.size) (h : byteN s 0 < 97 ∨ 122 < byteN s 0) : labelB s = false := by
  rw [← size_list] at h0; unfold labelB
  cases hl : s.data.toList with
  | nil => rw [hl] at h0; simp at h0
  | cons b r =>
    rw [byteN_0 hl] at h
    rw [labL_cons]; unfold isLet
    rcases h with h | h
    · rw [decide_eq_false (show ¬ 97 ≤ b.toNat by omega)]; simp
    · rw [decide_eq_false (show ¬ b.toNat ≤ 122 by omega)]; simp
theorem labelB_else {s : ByteArray} (h0 : 0 < s.size) (h1 : ¬ 16 < s.size) (h2 : ¬ byteN s 0 < 97) (h3 : ¬ 122 < byteN s 0) : labelB s = s.data.toList.all isLab := by
  rw [← size_list] at h0 h1; unfold labelB
  cases hl : s.data.toList with
  | nil => rw [hl] at h0; simp at h0
  | cons b r =>
    rw [byteN_0 hl] at h2 h3
    rw [hl] at h1; simp at h1
    have e1 : isLet b = true := by unfold isLet; simp; omega
    rw [labL_cons, decide_eq_true (by omega), e1, List.all_cons, show isLab b = true by unfold isLab; rw [e1]; rfl]; rfl
def labSet : List UInt8 := [97, 98, 99, 100, 101, 102, 103, 104, 105, 106, 107, 108, 109, 110, 111, 112, 113, 114, 115, 116, 117, 118, 119, 120, 121, 122, 48, 49, 50, 51, 52, 53, 54, 55, 56, 57, 95]
set_option maxRecDepth 100000 in
theorem labSet_fin : ∀ n : Fin 256, labSet.contains (UInt8.ofNat n.val) = isLab (UInt8.ofNat n.val) := by decide
theorem labSet_eq (b : UInt8) : labSet.contains b = isLab b := by
  have := labSet_fin ⟨b.toNat, UInt8.toNat_lt _⟩
  simpa using this
theorem drop_nil {p : UInt8 → Bool} (l : List UInt8) : (l.dropWhile p).isEmpty = l.all p := by
  induction l with
  | nil => rfl
  | cons b r ih =>
    rw [List.dropWhile_cons, List.all_cons]
    cases p b with
    | true => simpa using ih
    | false => rfl
theorem drop_some {p : UInt8 → Bool} (l : List UInt8) : ∀ b r, l.dropWhile p = b :: r → p b = false := by
  induction l with
  | nil => intro b r h; simp at h
  | cons x l ih =>
    intro b r h
    rw [List.dropWhile_cons] at h
    cases hx : p x with
    | true => rw [hx] at h; exact ih b r h
    | false => rw [hx] at h; obtain ⟨rfl, _⟩ := List.cons.inj h; exact hx
theorem drop_all {p : UInt8 → Bool} : ∀ {l : List UInt8}, l.all p = true → l.dropWhile p = []
  | [], _ => rfl
  | b :: r, h => by
    rw [List.all_cons, Bool.and_eq_true] at h
    rw [List.dropWhile_cons, h.1]; exact drop_all h.2
theorem trim_nil (l : List UInt8) : (Lib.trimS l labSet).isEmpty = l.all isLab := by
  unfold Lib.trimS Lib.trimLeftS Lib.trimRightS
  have hp : (fun x => labSet.contains x) = isLab := funext labSet_eq
  rw [hp]
  cases ha : l.all isLab with
  | true =>
    have : l.reverse.all isLab = true := by rw [List.all_reverse]; exact ha
    rw [drop_all this]; rfl
  | false =>
    rw [drop_nil]
    cases hd : l.reverse.dropWhile isLab with
    | nil =>
      have := drop_nil (p := isLab) l.reverse
      rw [hd, List.all_reverse, ha] at this
      simp at this
    | cons b r =>
      have := drop_some _ b r hd
      rw [List.all_reverse, List.all_cons, this]; rfl
theorem trim_eq (s : ByteArray) : (⟨(Lib.trimS s.data.toList labSet).toArray⟩ : ByteArray).toList.isEmpty = s.data.toList.all isLab := by
  rw [ByteArray.toList_eq, ← trim_nil]
theorem empty_no {s : ByteArray} (h : 0 < s.size) : s.toList.isEmpty = false := by
  rw [ByteArray.toList_eq]
  rw [← size_list] at h
  cases hl : s.data.toList with
  | nil => rw [hl] at h; simp at h
  | cons b r => rfl
theorem empty_is {s : ByteArray} (h : s.size = 0) : s.toList.isEmpty = true := by
  rw [ByteArray.toList_eq]
  rw [← size_list] at h
  rw [List.length_eq_zero_iff.1 h]; rfl
theorem trim_any (s : ByteArray) (w : World) (hs : s.size ≤ 9223372036854775807) :
    Calls Tryz.prog 94 #[.string s, .string { data := #[97, 98, 99, 100, 101, 102, 103, 104, 105, 106, 107, 108, 109, 110, 111, 112, 113, 114, 115, 116, 117, 118, 119, 120, 121, 122, 48, 49, 50, 51, 52, 53, 54, 55, 56, 57, 95] }] w fun e w' => e = .returned (.string ⟨(Lib.trimS s.data.toList labSet).toArray⟩) ∧ Below w.heap.size w w' :=
  Any.strings_Trim_laid Tryz.laysTrim (by kernel_rfl) s ⟨labSet.toArray⟩ w hs (by decide) (ascii_of_all (by decide))
set_option maxRecDepth 100000 in
theorem label_any (s : ByteArray) (w : World) (hs : s.size ≤ 9223372036854775807) : Calls Tryz.prog 107 #[.string s] w fun e w' => e = .returned (.bool (labelB s)) ∧ Below w.heap.size w w' := by
  by_cases h0 : s.size = 0
  · rw [labelB_0 h0]
    have te := empty_is h0
    go_enter Tryz.func107, Tryz.ntmps107
    go_wp2_with fail
    go_ret
    exact ⟨rfl, Below.refl _ _⟩
  have te := empty_no (Nat.pos_of_ne_zero h0)
  by_cases h1 : 16 < s.size
  · rw [labelB_big h1]
    have t1 : decide ((16 : Int) < (s.size : Int)) = true := decide_eq_true (by omega)
    go_enter Tryz.func107, Tryz.ntmps107
    go_wp2_with fail
    go_ret
    exact ⟨rfl, Below.refl _ _⟩
  have t1 : decide ((16 : Int) < (s.size : Int)) = false := decide_eq_false (by omega)
  have hi : ∀ W, (Instr.index 9 (.string s) (.int .i64 0)).run Tryz.prog W = .ok (.int .u8 ((byteN s 0 : Nat) : Int)) W := fun W => index_str s 0 (Nat.pos_of_ne_zero h0) 9 Tryz.underlying9 W
  by_cases h2 : byteN s 0 < 97
  · rw [labelB_head (Nat.pos_of_ne_zero h0) (.inl h2)]
    have t2 : decide (((byteN s 0 : Nat) : Int) < 97) = true := decide_eq_true (by omega)
    go_enter Tryz.func107, Tryz.ntmps107
    go_wp2_with fail
    go_ret
    exact ⟨rfl, Below.refl _ _⟩
  have t2 : decide (((byteN s 0 : Nat) : Int) < 97) = false := decide_eq_false (by omega)
  by_cases h3 : 122 < byteN s 0
  · rw [labelB_head (Nat.pos_of_ne_zero h0) (.inr h3)]
    have t3 : decide ((122 : Int) < ((byteN s 0 : Nat) : Int)) = true := decide_eq_true (by omega)
    go_enter Tryz.func107, Tryz.ntmps107
    go_wp2_with fail
    go_ret
    exact ⟨rfl, Below.refl _ _⟩
  have t3 : decide ((122 : Int) < ((byteN s 0 : Nat) : Int)) = false := decide_eq_false (by omega)
  rw [labelB_else (Nat.pos_of_ne_zero h0) h1 h2 h3]
  have HT := Lib.hid (trim_any s w hs)
  have HE := trim_eq s
  generalize (⟨(Lib.trimS s.data.toList labSet).toArray⟩ : ByteArray) = tr at *
  generalize s.data.toList.all isLab = B at *
  clear h0 h1 h2 h3
  go_enter Tryz.func107, Tryz.ntmps107
  go_wp2_with fail
  refine HT.out.mono ?_
  rintro e w' ⟨rfl, hb⟩
  have HB := Lib.hid hb
  clear hb
  go_wp2_with fail
  go_ret
  exact ⟨rfl, HB.out⟩
end Go.Proofs.YtdlpgoackmgdkaaGreatDoor
/- The document's Label; May of a line, and the document's. -/
namespace Go.Proofs.YtdlpgoackmgdkaaGreatDoor
open Go.Shelf Go.RowKit
set_option linter.unusedVariables false
set_option linter.unusedSimpArgs false
def okAt (s : ByteArray) (j : Nat) : Bool := (decide (97 ≤ byteN s j) && decide (byteN s j ≤ 122)) || (decide (j ≠ 0) && (decide (byteN s j = 95) || decide (48 ≤ byteN s j) && decide (byteN s j ≤ 57)))
theorem u8_95 (b : UInt8) : (b == 95) = decide (b.toNat = 95) := by
  by_cases h : b = 95
  · subst h; rfl
  · rw [beq_eq_false_iff_ne.2 h]
    symm; apply decide_eq_false
    intro e; exact h (UInt8.toNat_inj.1 e)
theorem isLab_eq (b : UInt8) : isLab b = ((decide (97 ≤ b.toNat) && decide (b.toNat ≤ 122)) || (decide (b.toNat = 95) || decide (48 ≤ b.toNat) && decide (b.toNat ≤ 57))) := by
  unfold isLab isLet isDig
  rw [u8_95, Bool.or_assoc]
  congr 1
  rw [Bool.or_comm]
theorem byteN_get {s : ByteArray} {l : List UInt8} (h : s.data.toList = l) (j : Nat) (hj : j < l.length) : byteN s j = l[j].toNat := by
  unfold byteN; rw [h, List.getD_eq_getElem?_getD, List.getElem?_eq_getElem hj]; rfl
theorem label_iff (s : ByteArray) : labelB s = true ↔ 0 < s.size ∧ s.size ≤ 16 ∧ ∀ j, j < s.size → okAt s j = true := by
  rw [← size_list]; unfold labelB
  cases hl : s.data.toList with
  | nil => simp [labL]
  | cons b r =>
    rw [labL_cons]
    simp only [Bool.and_eq_true, decide_eq_true_eq, List.length_cons]
    have hb := byteN_0 hl
    constructor
    · rintro ⟨⟨h1, h2⟩, h3⟩
      refine ⟨by omega, by omega, fun j hj => ?_⟩
      cases j with
      | zero => unfold okAt; rw [hb]; unfold isLet at h2; rw [h2]; rfl
      | succ j =>
        have hj' : j < r.length := by omega
        have e := byteN_get hl (j + 1) (by simpa using hj)
        have := List.all_eq_true.1 h3 _ (List.getElem_mem hj')
        rw [isLab_eq] at this
        unfold okAt; rw [e]
        rw [decide_eq_true (Nat.succ_ne_zero j), Bool.true_and]
        simpa using this
    · rintro ⟨_, h2, h3⟩
      refine ⟨⟨by omega, ?_⟩, List.all_eq_true.2 fun x hx => ?_⟩
      · have := h3 0 (by omega)
        unfold okAt at this; rw [hb] at this
        unfold isLet; simpa using this
      · obtain ⟨j, hj, rfl⟩ := List.mem_iff_getElem.1 hx
        have e := byteN_get hl (j + 1) (by simpa using hj)
        have := h3 (j + 1) (by omega)
        unfold okAt at this; rw [e] at this
        rw [decide_eq_true (Nat.succ_ne_zero j), Bool.true_and] at this
        rw [isLab_eq]; simpa using this
end Go.Proofs.YtdlpgoackmgdkaaGreatDoor
/- Lines: how they lie; May, and the document's. -/
namespace Go.Proofs.YtdlpgoackmgdkaaGreatDoor
open Go.Shelf Go.RowKit
set_option linter.unusedVariables false
set_option linter.unusedSimpArgs false
structure AL where
  lab : ByteArray
  i : Ins
  tgt : ByteArray
structure AL.ok (x : AL) : Prop where
  i : x.i.ok
  lab : x.lab.size ≤ 9223372036854775807
  tgt : x.tgt.size ≤ 9223372036854775807
def AL.cells (x : AL) : Array Value := #[.string x.lab, .int .u8 (x.i.op : Int), .int .u8 (x.i.a : Int), .int .u16 (x.i.b : Int), .int .u32 (x.i.c : Int), .string x.tgt]
def AL.val (x : AL) : Value := .agg x.cells
def AL.may (x : AL) : Bool := (x.lab.toList.isEmpty || labelB x.lab) && x.i.may && (x.tgt.toList.isEmpty || labelB x.tgt && jumpB x.i.op && decide (x.i.c = 0))
set_option maxRecDepth 100000 in
set_option maxHeartbeats 1000000 in
theorem alm_any (x : AL) (w : World) (h : x.ok) : Calls Tryz.prog 91 #[x.val] w fun e w' => e = .returned (.bool x.may) ∧ Below w.heap.size w w' := by
  have HL : Hid (∀ W : World, Calls Tryz.prog 107 #[.string x.lab] W fun e w' => e = .returned (.bool (labelB x.lab)) ∧ Below W.heap.size W w') := fun W => label_any x.lab W h.lab
  have HT : Hid (∀ W : World, Calls Tryz.prog 107 #[.string x.tgt] W fun e w' => e = .returned (.bool (labelB x.tgt)) ∧ Below W.heap.size W w') := fun W => label_any x.tgt W h.tgt
  have HM : Hid (∀ W : World, Calls Tryz.prog 113 #[.agg #[.int .u8 (x.i.op : Int), .int .u8 (x.i.a : Int), .int .u16 (x.i.b : Int), .int .u32 (x.i.c : Int)]] W fun e w' => e = .returned (.bool x.i.may) ∧ Below W.heap.size W w') := fun W => may_any x.i W h.i
  have HJ : Hid (∀ W : World, Calls Tryz.prog 112 #[.int .u8 (x.i.op : Int)] W fun e w' => e = .returned (.bool (jumpB x.i.op)) ∧ w' = W) := fun W => jumps_any x.i.op W
  have tc : ((x.i.c : Int) == 0) = decide (x.i.c = 0) := by by_cases hc : x.i.c = 0 <;> simp [hc]
  unfold AL.val AL.may AL.cells
  generalize htl : x.lab.toList.isEmpty = lE at *
  generalize htt : x.tgt.toList.isEmpty = tE at *
  generalize labelB x.lab = lB at *
  generalize labelB x.tgt = tB at *
  generalize x.i.may = mB at *
  generalize jumpB x.i.op = jB at *
  generalize decide (x.i.c = 0) = cB at *
  obtain ⟨lab, ⟨op, a, b, c⟩, to_⟩ := x
  simp only at *
  clear h
  have G0 : Hid ((w.alloc (.cells #[.string lab, .int .u8 (op : Int), .int .u8 (a : Int), .int .u16 (b : Int), .int .u32 (c : Int), .string to_] 156)).heap[w.heap.size]? = some (.cells #[.string lab, .int .u8 (op : Int), .int .u8 (a : Int), .int .u16 (b : Int), .int .u32 (c : Int), .string to_] 156 (0, 0))) := heap_alloc_new _ _
  have B0 : Hid (Below w.heap.size w (w.alloc (.cells #[.string lab, .int .u8 (op : Int), .int .u8 (a : Int), .int .u16 (b : Int), .int .u32 (c : Int), .string to_] 156))) := alloc_below _ _
  go_enter Tryz.func91, Tryz.ntmps91
  have c0 := cell_row (j := 0) G0.out rfl
  have c1 := cell_row (j := 1) G0.out rfl
  have c2 := cell_row (j := 2) G0.out rfl
  have c3 := cell_row (j := 3) G0.out rfl
  have c4 := cell_row (j := 4) G0.out rfl
  have c5 := cell_row (j := 5) G0.out rfl
  cases lE with
  | true =>
    go_wp2_with fail
    refine (HM.out _).mono ?_
    rintro e w1 ⟨rfl, hb⟩
    have G1 := Lib.hid (kept G0.out hb)
    have B1 : Hid (Below w.heap.size w w1) := B0.out.trans (hb.mono (Nat.le_of_lt (heap_lt G0.out)))
    clear hb G0 B0 c0 c1 c2 c3 c4 c5
    have c0 := cell_row (j := 0) G1.out rfl
    have c1 := cell_row (j := 1) G1.out rfl
    have c2 := cell_row (j := 2) G1.out rfl
    have c3 := cell_row (j := 3) G1.out rfl
    have c4 := cell_row (j := 4) G1.out rfl
    have c5 := cell_row (j := 5) G1.out rfl
    cases mB with
    | false =>
      go_wp2_with fail
      go_ret
      exact ⟨rfl, B1.out⟩
    | true =>
      cases tE with
      | true =>
        go_wp2_with fail
        go_ret
        exact ⟨rfl, B1.out⟩
      | false =>
        go_wp2_with fail
        refine (HT.out _).mono ?_
        rintro e w2 ⟨rfl, hb⟩
        have G2 := Lib.hid (kept G1.out hb)
        have B2 : Hid (Below w.heap.size w w2) := B1.out.trans (hb.mono (Nat.le_of_lt (heap_lt G1.out)))
        clear hb G1 B1 c0 c1 c2 c3 c4 c5
        have c0 := cell_row (j := 0) G2.out rfl
        have c1 := cell_row (j := 1) G2.out rfl
        have c2 := cell_row (j := 2) G2.out rfl
        have c3 := cell_row (j := 3) G2.out rfl
        have c4 := cell_row (j := 4) G2.out rfl
        have c5 := cell_row (j := 5) G2.out rfl
        cases tB with
        | false =>
          go_wp2_with fail
          go_ret
          exact ⟨rfl, B2.out⟩
        | true =>
          go_wp2_with fail
          refine (HJ.out _).mono ?_
          rintro e w' ⟨rfl, rfl⟩
          cases jB with
          | false =>
            go_wp2_with fail
            go_ret
            exact ⟨rfl, B2.out⟩
          | true =>
            cases cB with
            | false =>
              go_wp2_with fail
              go_ret
              exact ⟨rfl, B2.out⟩
            | true =>
              go_wp2_with fail
              go_ret
              exact ⟨rfl, B2.out⟩
  | false =>
    go_wp2_with fail
    refine (HL.out _).mono ?_
    rintro e w1 ⟨rfl, hb⟩
    have G1 := Lib.hid (kept G0.out hb)
    have B1 : Hid (Below w.heap.size w w1) := B0.out.trans (hb.mono (Nat.le_of_lt (heap_lt G0.out)))
    clear hb G0 B0 c0 c1 c2 c3 c4 c5
    have c0 := cell_row (j := 0) G1.out rfl
    have c1 := cell_row (j := 1) G1.out rfl
    have c2 := cell_row (j := 2) G1.out rfl
    have c3 := cell_row (j := 3) G1.out rfl
    have c4 := cell_row (j := 4) G1.out rfl
    have c5 := cell_row (j := 5) G1.out rfl
    cases lB with
    | false =>
      go_wp2_with fail
      go_ret
      exact ⟨rfl, B1.out⟩
    | true =>
      go_wp2_with fail
      refine (HM.out _).mono ?_
      rintro e w2 ⟨rfl, hb⟩
      have G2 := Lib.hid (kept G1.out hb)
      have B2 : Hid (Below w.heap.size w w2) := B1.out.trans (hb.mono (Nat.le_of_lt (heap_lt G1.out)))
      clear hb G1 B1 c0 c1 c2 c3 c4 c5
      have c0 := cell_row (j := 0) G2.out rfl
      have c1 := cell_row (j := 1) G2.out rfl
      have c2 := cell_row (j := 2) G2.out rfl
      have c3 := cell_row (j := 3) G2.out rfl
      have c4 := cell_row (j := 4) G2.out rfl
      have c5 := cell_row (j := 5) G2.out rfl
      cases mB with
      | false =>
        go_wp2_with fail
        go_ret
        exact ⟨rfl, B2.out⟩
      | true =>
        cases tE with
        | true =>
          go_wp2_with fail
          go_ret
          exact ⟨rfl, B2.out⟩
        | false =>
          go_wp2_with fail
          refine (HT.out _).mono ?_
          rintro e w3 ⟨rfl, hb⟩
          have G3 := Lib.hid (kept G2.out hb)
          have B3 : Hid (Below w.heap.size w w3) := B2.out.trans (hb.mono (Nat.le_of_lt (heap_lt G2.out)))
          clear hb G2 B2 c0 c1 c2 c3 c4 c5
          have c0 := cell_row (j := 0) G3.out rfl
          have c1 := cell_row (j := 1) G3.out rfl
          have c2 := cell_row (j := 2) G3.out rfl
          have c3 := cell_row (j := 3) G3.out rfl
          have c4 := cell_row (j := 4) G3.out rfl
          have c5 := cell_row (j := 5) G3.out rfl
          cases tB with
          | false =>
            go_wp2_with fail
            go_ret
            exact ⟨rfl, B3.out⟩
          | true =>
            go_wp2_with fail
            refine (HJ.out _).mono ?_
            rintro e w' ⟨rfl, rfl⟩
            cases jB with
            | false =>
              go_wp2_with fail
              go_ret
              exact ⟨rfl, B3.out⟩
            | true =>
              cases cB with
              | false =>
                go_wp2_with fail
                go_ret
                exact ⟨rfl, B3.out⟩
              | true =>
                go_wp2_with fail
                go_ret
                exact ⟨rfl, B3.out⟩
end Go.Proofs.YtdlpgoackmgdkaaGreatDoor
/- Rows of lines and of instructions; find. -/
namespace Go.Proofs.YtdlpgoackmgdkaaGreatDoor
open Go.Shelf Go.RowKit
set_option linter.unusedVariables false
set_option linter.unusedSimpArgs false
theorem flat_len {α : Type} {f : α → List Value} {sz : Nat} (hf : ∀ x, (f x).length = sz) : ∀ ls : List α, (ls.flatMap f).length = ls.length * sz
  | [] => by simp
  | x :: ls => by rw [List.flatMap_cons, List.length_append, hf, flat_len hf ls, List.length_cons, Nat.succ_mul]; omega
theorem flat_get {α : Type} {f : α → List Value} {sz : Nat} (hf : ∀ x, (f x).length = sz) (d : α) : ∀ (ls : List α) (i j : Nat), i < ls.length → j < sz → (ls.flatMap f)[i * sz + j]? = some ((f (ls.getD i d)).getD j undef)
  | [], i, j, hi, _ => by simp at hi
  | x :: ls, i, j, hi, hj => by
    rw [List.flatMap_cons]
    cases i with
    | zero =>
      rw [Nat.zero_mul, Nat.zero_add, List.getElem?_append_left (by rw [hf]; exact hj)]
      show _ = some ((f x).getD j undef)
      rw [List.getD_eq_getElem?_getD, List.getElem?_eq_getElem (by rw [hf]; exact hj)]; rfl
    | succ i =>
      rw [List.getElem?_append_right (by rw [hf, Nat.succ_mul]; omega), hf]
      have e : (i + 1) * sz + j - sz = i * sz + j := by rw [Nat.succ_mul]; omega
      rw [e]
      exact flat_get hf d ls i j (by simpa using hi) hj
theorem slice_of_own {α : Type} {f : α → List Value} {sz : Nat} (hf : ∀ x, (f x).length = sz) (d : α) {w : World} {base : Nat} {e : TypeId} {v : Value} {ls : List α} (h : w.ownsRow base e sz v ls.length (ls.flatMap f)) :
    ∃ a c, v = .slice a ls.length c ∧ ls.length ≤ c ∧ c ≤ maxLen ∧ SliceN w a ls.length sz (fun i j => (f (ls.getD i d)).getD j undef) := by
  rcases h.2 with ⟨rfl, h0⟩ | ⟨g, cap, cur, rfl, hb, hg, hn, hm, hs, htk⟩
  · rw [h0]
    exact ⟨none, 0, rfl, Nat.le_refl _, by unfold maxLen; omega, .inl rfl⟩
  · refine ⟨_, cap, rfl, hn, hm, .inr ⟨g, 0, rfl, heap_lt hg, fun i hi j hj => ?_⟩⟩
    have hlt : i * sz + j < ls.length * sz := by
      have : (i + 1) * sz ≤ ls.length * sz := Nat.mul_le_mul_right _ hi
      rw [Nat.succ_mul] at this; omega
    have e := flat_get hf d ls i j hi hj
    rw [← htk, List.getElem?_take, if_pos (by omega)] at e
    rw [Nat.zero_add]
    exact cell_row hg (by simpa using e)
def insC (i : Ins) : List Value := [.int .u8 (i.op : Int), .int .u8 (i.a : Int), .int .u16 (i.b : Int), .int .u32 (i.c : Int)]
def alC (x : AL) : List Value := [.string x.lab, .int .u8 (x.i.op : Int), .int .u8 (x.i.a : Int), .int .u16 (x.i.b : Int), .int .u32 (x.i.c : Int), .string x.tgt]
def al0 : AL := ⟨⟨#[]⟩, noIns, ⟨#[]⟩⟩
def insV (ls : List Ins) (i j : Nat) : Value := (insC (ls.getD i noIns)).getD j undef
def alV (ls : List AL) (i j : Nat) : Value := (alC (ls.getD i al0)).getD j undef
def InsAt (w : World) (a : Option Addr) (ls : List Ins) : Prop := SliceN w a ls.length 4 (insV ls)
def AlsAt (w : World) (a : Option Addr) (ls : List AL) : Prop := SliceN w a ls.length 6 (alV ls)
def insVs (ls : List Ins) : List Value := ls.flatMap insC
def alVs (ls : List AL) : List Value := ls.flatMap alC
theorem InsAt.below {w w' : World} {a : Option Addr} {ls : List Ins} (h : InsAt w a ls) (hb : Below w.heap.size w w') : InsAt w' a ls := SliceN.below h hb
theorem AlsAt.below {w w' : World} {a : Option Addr} {ls : List AL} (h : AlsAt w a ls) (hb : Below w.heap.size w w') : AlsAt w' a ls := SliceN.below h hb
theorem ins_of_own {w : World} {base : Nat} {v : Value} {ls : List Ins} (h : w.ownsRow base 145 4 v ls.length (insVs ls)) : ∃ a c, v = .slice a ls.length c ∧ ls.length ≤ c ∧ c ≤ maxLen ∧ InsAt w a ls := slice_of_own (f := insC) (sz := 4) (fun _ => rfl) noIns h
theorem als_of_own {w : World} {base : Nat} {v : Value} {ls : List AL} (h : w.ownsRow base 156 6 v ls.length (alVs ls)) : ∃ a c, v = .slice a ls.length c ∧ ls.length ≤ c ∧ c ≤ maxLen ∧ AlsAt w a ls := slice_of_own (f := alC) (sz := 6) (fun _ => rfl) al0 h
theorem AlsAt.at {w : World} {a : Option Addr} {ls : List AL} (h : AlsAt w a ls) (hp : 0 < ls.length) : ∃ b off, a = some ⟨b, off, none⟩ ∧ b < w.heap.size ∧ ∀ i, i < ls.length → ∀ j, j < 6 → w.cell? ⟨b, off + i * 6 + j, none⟩ = some (alV ls i j) := SliceN.at h hp
theorem InsAt.at {w : World} {a : Option Addr} {ls : List Ins} (h : InsAt w a ls) (hp : 0 < ls.length) : ∃ b off, a = some ⟨b, off, none⟩ ∧ b < w.heap.size ∧ ∀ i, i < ls.length → ∀ j, j < 4 → w.cell? ⟨b, off + i * 4 + j, none⟩ = some (insV ls i j) := SliceN.at h hp
def hitL (ls : List AL) (s : ByteArray) (i : Nat) : Bool := (ls.getD i al0).lab.toList == s.toList
def findO (ls : List AL) (s : ByteArray) : Option Nat := first (hitL ls s) ls.length
end Go.Proofs.YtdlpgoackmgdkaaGreatDoor
/- The map of labels. -/
namespace Go.Proofs.YtdlpgoackmgdkaaGreatDoor
open Go.Shelf Go.RowKit Go.WideMaps Go.Maps
set_option linter.unusedVariables false
set_option linter.unusedSimpArgs false
theorem first_succ (p : Nat → Bool) (k : Nat) : first p (k + 1) = (match first p k with | some m => some m | none => if p k then some k else none) := by
  unfold first
  rw [List.range_succ, List.find?_append]
  cases (List.range k).find? p with
  | some m => rfl
  | none => simp [List.find?]; cases p k <;> rfl
theorem first_lt {p : Nat → Bool} {n k : Nat} (h : first p n = some k) : k < n ∧ p k = true := by
  unfold first at h
  exact ⟨List.mem_range.1 (List.mem_of_find?_eq_some h), List.find?_some h⟩
abbrev kl (s : ByteArray) : Lit := .string s.data.toList
def lit64 (z : Int) : DataW Unit := .lit (.int .i64 z)
structure MapFor (ls : List AL) (k : Nat) (D : DataW Unit) : Prop where
  m : IsMap D
  has : ∀ s : ByteArray, s.toList.isEmpty = false → Maps.has D (kl s) = (first (hitL ls s) k).isSome
  val : ∀ s : ByteArray, s.toList.isEmpty = false → D.atKey (kl s) (lit64 0) = lit64 (((first (hitL ls s) k).getD 0 : Nat) : Int)
theorem MapFor.zero (ls : List AL) : MapFor ls 0 (.map []) := ⟨isMap_empty, fun _ _ => rfl, fun _ _ => rfl⟩
theorem hit_same {ls : List AL} {s : ByteArray} {k : Nat} (h : hitL ls s k = true) : s.data.toList = (ls.getD k al0).lab.data.toList := by
  unfold hitL at h; rw [str_eq] at h; exact (of_decide_eq_true h).symm
theorem hit_congr {ls : List AL} {s s' : ByteArray} (h : s.data.toList = s'.data.toList) : hitL ls s = hitL ls s' := by
  funext i; unfold hitL; rw [str_eq, str_eq, h]
theorem MapFor.skip {ls : List AL} {k : Nat} {D : DataW Unit} (h : MapFor ls k D) (hk : (ls.getD k al0).lab.toList.isEmpty = true ∨ (first (hitL ls (ls.getD k al0).lab) k).isSome = true) : MapFor ls (k + 1) D := by
  have e : ∀ s : ByteArray, s.toList.isEmpty = false → first (hitL ls s) (k + 1) = first (hitL ls s) k := fun s hs => by
    rw [first_succ]
    cases hh : hitL ls s k with
    | false => cases first (hitL ls s) k <;> rfl
    | true =>
      have e := hit_same hh
      rcases hk with hk | hk
      · rw [ByteArray.toList_eq] at hk hs; rw [e, hk] at hs; cases hs
      · rw [← hit_congr e] at hk
        obtain ⟨m, hm⟩ := Option.isSome_iff_exists.1 hk
        rw [hm]
  exact ⟨h.m, fun s hs => by rw [e s hs]; exact h.has s hs, fun s hs => by rw [e s hs]; exact h.val s hs⟩
theorem MapFor.set {ls : List AL} {k : Nat} {D : DataW Unit} (h : MapFor ls k D) (hk : (ls.getD k al0).lab.toList.isEmpty = false) (hn : first (hitL ls (ls.getD k al0).lab) k = none) : MapFor ls (k + 1) (D.put (kl (ls.getD k al0).lab) (lit64 (k : Int))) := by
  have eS : ∀ s : ByteArray, s.data.toList = (ls.getD k al0).lab.data.toList → first (hitL ls s) (k + 1) = some k := fun s e => by
    rw [hit_congr e, first_succ, hn]
    have : hitL ls (ls.getD k al0).lab k = true := by unfold hitL; rw [str_eq]; exact decide_eq_true rfl
    rw [this]; rfl
  have eO : ∀ s : ByteArray, s.data.toList ≠ (ls.getD k al0).lab.data.toList → first (hitL ls s) (k + 1) = first (hitL ls s) k := fun s e => by
    rw [first_succ]
    cases hh : hitL ls s k with
    | false => cases first (hitL ls s) k <;> rfl
    | true => exact absurd (hit_same hh) e
  refine ⟨h.m.put _ _, fun s hs => ?_, fun s hs => ?_⟩
  · by_cases e : s.data.toList = (ls.getD k al0).lab.data.toList
    · rw [eS s e]; unfold kl; rw [e]; exact has_put_same h.m (show WideAt.IsKeyLit (.string _) from True.intro) _
    · rw [eO s e, ← h.has s hs]; exact has_put_other (fun e' => e (by unfold kl at e'; exact Lit.string.inj e')) _
  · by_cases e : s.data.toList = (ls.getD k al0).lab.data.toList
    · rw [eS s e]; unfold kl; rw [e]; exact atKey_put_same h.m (show WideAt.IsKeyLit (.string _) from True.intro) _ _
    · rw [eO s e, ← h.val s hs]; exact atKey_put_other (fun e' => e (by unfold kl at e'; exact Lit.string.inj e')) _ _
theorem lawS : Keyed Tryz.prog 9 := string_keyed Tryz.underlying9
theorem zeroI (w : World) : (zeroValue 3).run Tryz.prog w = .ok (.int .i64 0) w := by kernel_rfl
def LMap (w : World) (B : Nat) (ls : List AL) (k : Nat) : Prop := ∃ D : DataW Unit, w.ownsMap Tryz.prog 9 (plainElem Tryz.prog 3) B k D ∧ MapFor ls k D
theorem LMap.same {w w' : World} {B : Nat} {ls : List AL} {k : Nat} (h : LMap w B ls k) (he : w'.heap[B]? = w.heap[B]?) : LMap w' B ls k := by
  obtain ⟨D, ⟨es, clock, hb, F, hs, hD⟩, h2⟩ := h
  exact ⟨D, ⟨es, clock, he.trans hb, F, hs, hD⟩, h2⟩
theorem LMap.lt {w : World} {B : Nat} {ls : List AL} {k : Nat} (h : LMap w B ls k) : B < w.heap.size := by obtain ⟨D, h, _⟩ := h; exact h.lt
theorem LMap.below {w w' : World} {B : Nat} {ls : List AL} {k : Nat} (h : LMap w B ls k) (hb : Below w.heap.size w w') : LMap w' B ls k := h.same (hb.block B h.lt)
theorem LMap.made (w : World) (ls : List AL) : LMap (w.alloc (.map #[] 0)) w.heap.size ls 0 := ⟨_, World.ownsMap_made _ _ _ _, MapFor.zero ls⟩
theorem LMap.skip {w : World} {B : Nat} {ls : List AL} {k : Nat} (h : LMap w B ls k) (hk : (ls.getD k al0).lab.toList.isEmpty = true ∨ (first (hitL ls (ls.getD k al0).lab) k).isSome = true) : LMap w B ls (k + 1) := by
  obtain ⟨D, h1, h2⟩ := h
  exact ⟨D, h1.mono (Nat.le_succ _), h2.skip hk⟩
theorem LMap.set {w : World} {B : Nat} {ls : List AL} {k : Nat} (h : LMap w B ls k) (hk : (ls.getD k al0).lab.toList.isEmpty = false) (hn : first (hitL ls (ls.getD k al0).lab) k = none) (hm : (ls.getD k al0).lab.size ≤ maxLen) (hk2 : k < 9223372036854775807) :
    ∃ w', (Instr.mapUpdate 160 (.map (some B)) (.string (ls.getD k al0).lab) (.int .i64 (k : Int))).run Tryz.prog w = .ok () w' ∧ LMap w' B ls (k + 1) ∧ w.grownBy w' (some B) := by
  obtain ⟨D, h1, h2⟩ := h
  obtain ⟨w', e1, e2, e3⟩ := h1.update lawS Tryz.underlying160 (by unfold maxLen; omega) (key := .string (ls.getD k al0).lab) (val := .int .i64 (k : Int)) (keyOf_string_mk Tryz.underlying9 hm) (plainElem_int Tryz.underlying3 (WalkArith.wf_i64 (by omega)))
  exact ⟨w', e1, ⟨_, e2, h2.set hk hn⟩, e3⟩
theorem LMap.look {w : World} {B : Nat} {ls : List AL} {k : Nat} (h : LMap w B ls k) (s : ByteArray) (hm : s.size ≤ maxLen) :
    ∃ (c : Int) (b : Bool), (Instr.lookup 160 (.map (some B)) (.string s) true).run Tryz.prog w = .ok (.tuple #[.int .i64 c, .bool b]) w ∧ (Instr.lookup 160 (.map (some B)) (.string s) false).run Tryz.prog w = .ok (.int .i64 c) w ∧
      (s.toList.isEmpty = false → c = (((first (hitL ls s) k).getD 0 : Nat) : Int) ∧ b = (first (hitL ls s) k).isSome) := by
  obtain ⟨D, h1, h2⟩ := h
  obtain ⟨c, e1, e2, _⟩ := h1.lookup_int lawS Tryz.underlying160 Tryz.underlying3 (zeroI w) (keyOf_string_mk Tryz.underlying9 hm)
  obtain ⟨v, ps, e3, e4⟩ := h1.look_ok lawS Tryz.underlying160 (zeroI w) (plainElem_int (a := 0) Tryz.underlying3 (by decide)) (keyOf_string_mk Tryz.underlying9 hm)
  obtain ⟨c', rfl, e5, _⟩ := plainElem_int_inv Tryz.underlying3 e4
  simp only [Prod.mk.injEq] at e5
  have ec : c' = c := by
    have := e5.1.symm.trans e2
    simpa using this
  subst ec
  refine ⟨c', _, e3, e1, fun hs => ⟨?_, h2.has s hs⟩⟩
  have := (h2.val s hs).symm.trans e2
  unfold lit64 at this
  simpa using this.symm
end Go.Proofs.YtdlpgoackmgdkaaGreatDoor
/- Assemble. -/
namespace Go.Proofs.YtdlpgoackmgdkaaGreatDoor
open Go.Shelf Go.RowKit Go.WideMaps Go.Maps
set_option linter.unusedVariables false
set_option linter.unusedSimpArgs false
def badL (ls : List AL) (i : Nat) : Bool := (!(ls.getD i al0).lab.toList.isEmpty && !(findO ls (ls.getD i al0).lab == some i)) || (!(ls.getD i al0).tgt.toList.isEmpty && !(findO ls (ls.getD i al0).tgt).isSome)
def insT (ls : List AL) (i : Nat) : Ins := if (ls.getD i al0).tgt.toList.isEmpty then (ls.getD i al0).i else ⟨(ls.getD i al0).i.op, (ls.getD i al0).i.a, (ls.getD i al0).i.b, (findO ls (ls.getD i al0).tgt).getD 0⟩
def mayL (ls : List AL) (i : Nat) : Bool := !(ls.getD i al0).may
def asmS (ls : List AL) : List Ins × Nat × Nat :=
  if 16384 < ls.length then ([], 0, 3) else
  match first (mayL ls) ls.length with
  | some i => ([], i, 2)
  | none => match first (badL ls) ls.length with
    | some i => ([], i, 101)
    | none => ((List.range ls.length).map (insT ls), 0, 0)
structure OutI (base : Nat) (w' : World) (r : List Ins × Nat × Nat) (e : Ending) : Prop where
  at_ : ∃ v, e = .returned (.tuple #[v, .int .i64 ((r.2.1 : Nat) : Int), .int .i64 ((r.2.2 : Nat) : Int)]) ∧ w'.ownsRow base 145 4 v r.1.length (insVs r.1)
theorem OutI.none (base : Nat) (w' : World) (k e : Nat) : OutI base w' ([], k, e) (.returned (.tuple #[.slice none 0 0, .int .i64 (k : Int), .int .i64 (e : Int)])) := ⟨_, rfl, World.ownsRow_nil _ _ _ _⟩
theorem OutI.low {b b' : Nat} {w' : World} {r : List Ins × Nat × Nat} {e : Ending} (h : OutI b w' r e) (hb : b' ≤ b) : OutI b' w' r e := by
  obtain ⟨v, h1, h2, h3⟩ := h
  refine ⟨v, h1, h2, ?_⟩
  rcases h3 with h | ⟨g, cap, cur, hv, hg, h⟩
  · exact .inl h
  · exact .inr ⟨g, cap, cur, hv, Nat.le_trans hb hg, h⟩
theorem own_same {w w' : World} {B : Nat} {e : TypeId} {size : Nat} {v : Value} {n : Nat} {xs : List Value} (h : w.ownsRow B e size v n xs) (hs : ∀ g, v.ownBlock = some g → w'.heap[g]? = w.heap[g]?) : w'.ownsRow B e size v n xs := by
  refine ⟨h.1, ?_⟩
  rcases h.2 with h0 | ⟨g, cap, cur, rfl, h1, h2, h3⟩
  · exact .inl h0
  · exact .inr ⟨g, cap, cur, rfl, h1, (hs g rfl).trans h2, h3⟩
theorem four_news (w : World) (x y z u : Value) (t : TypeId) : ∀ j v, [x, y, z, u][j]? = some v → (w.alloc (.cells #[x, y, z, u] t)).cell? ((⟨w.heap.size, 0, none⟩ : Addr).add j) = some v := by
  intro j v hj
  rw [Go.WideShapes.add_plain, Nat.zero_add]
  match j, hj with
  | 0, hj => exact cell_row (heap_alloc_new _ _) hj
  | 1, hj => exact cell_row (heap_alloc_new _ _) hj
  | 2, hj => exact cell_row (heap_alloc_new _ _) hj
  | 3, hj => exact cell_row (heap_alloc_new _ _) hj
  | n + 4, hj => simp at hj
theorem insVs_snoc (l : List Ins) (i : Ins) : insVs l ++ [.int .u8 (i.op : Int), .int .u8 (i.a : Int), .int .u16 (i.b : Int), .int .u32 (i.c : Int)] = insVs (l ++ [i]) := by simp [insVs, insC]
theorem insVs_snoc' {l l' : List Ins} {i : Ins} (h : l' = l ++ [i]) : insVs l ++ [.int .u8 (i.op : Int), .int .u8 (i.a : Int), .int .u16 (i.b : Int), .int .u32 (i.c : Int)] = insVs l' := by rw [h, insVs_snoc]
def insL (ls : List AL) (k : Nat) : List Ins := (List.range k).map (insT ls)
theorem insL_succ (ls : List AL) (k : Nat) : insL ls (k + 1) = insL ls k ++ [insT ls k] := by unfold insL; rw [List.range_succ, List.map_append]; rfl
theorem insL_len (ls : List AL) (k : Nat) : (insL ls k).length = k := by simp [insL]
theorem find_self {ls : List AL} {k : Nat} (hk : k < ls.length) : ∃ m, findO ls (ls.getD k al0).lab = some m := by
  cases h : findO ls (ls.getD k al0).lab with
  | some m => exact ⟨m, rfl⟩
  | none =>
    exfalso
    unfold findO first at h
    have := List.find?_eq_none.1 h k (List.mem_range.2 hk)
    apply this
    unfold hitL; rw [str_eq]; exact decide_eq_true rfl
set_option maxRecDepth 100000 in
set_option maxHeartbeats 4000000 in
theorem asm_any (ls : List AL) (a : Option Addr) (c : Nat) (w : World) (hA : AlsAt w a ls) (hok : ∀ i, i < ls.length → (ls.getD i al0).ok) (hm : ls.length ≤ 9223372036854775807) :
    Calls Tryz.prog 63 #[.slice a ls.length c] w fun e w' => OutI w.heap.size w' (asmS ls) e ∧ Below w.heap.size w w' := by
  by_cases hbig : 16384 < ls.length
  · have t1 : decide ((16384 : Int) < (ls.length : Int)) = true := decide_eq_true (by omega)
    have HR : asmS ls = ([], 0, 3) := by unfold asmS; rw [if_pos hbig]
    rw [HR]
    go_enter Tryz.func63, Tryz.ntmps63
    go_wp2_with fail
    go_ret3
    exact ⟨OutI.none _ _ _ _, Below.refl _ _⟩
  have t1 : decide ((16384 : Int) < (ls.length : Int)) = false := decide_eq_false (by omega)
  have HA := Lib.hid hA; have HOKS := Lib.hid hok
  have HRA : Hid (∀ i, first (mayL ls) ls.length = some i → asmS ls = ([], i, 2)) := fun i h => by unfold asmS; rw [if_neg hbig, h]
  have HRB : Hid (∀ i, first (mayL ls) ls.length = none → first (badL ls) ls.length = some i → asmS ls = ([], i, 101)) := fun i h h2 => by unfold asmS; rw [if_neg hbig, h]; simp only [h2]
  have HRC : Hid (first (mayL ls) ls.length = none → first (badL ls) ls.length = none → asmS ls = (insL ls ls.length, 0, 0)) := fun h h2 => by unfold asmS; rw [if_neg hbig, h]; simp only [h2]; rfl
  clear hA hok
  generalize hn : ls.length = n at *
  obtain ⟨i0, hi, hz0, hz1, hz2⟩ := info_parts (show (Tryz.prog.info? 145).map (fun i => (i.zero, i.size, i.bytes)) = some (some (.agg #[.int .u8 0, .int .u8 0, .int .u16 0, .int .u32 0]), 4, 8) by kernel_rfl)
  have HIn := Lib.hid hi; have HZ0 := Lib.hid hz0; have HZ1 := Lib.hid hz1; have HZ2 := Lib.hid hz2
  clear hi hz0 hz1 hz2
  have hmm := @run_makeMap Tryz.prog
  have HM0 : Hid (LMap (w.alloc (.map #[] 0)) w.heap.size ls 0) := LMap.made w ls
  have BM : Hid (Below w.heap.size w (w.alloc (.map #[] 0))) := alloc_below _ _
  go_enter Tryz.func63, Tryz.ntmps63
  go_upto_region 4 with fail
  generalize w.alloc (.map #[] 0) = wm at *
  go_wp2_with fail
  go_loopw [21] (fun i wr => ∃ k : Nat, k ≤ n ∧ i = .int .i64 (k : Int) ∧ Hid (∀ j, j < k → mayL ls j = false) ∧ Hid (LMap wr w.heap.size ls k) ∧ Hid (Below w.heap.size w wr)) (fun i _ => n - (intOf i).toNat)
  case atStart => exact ⟨0, Nat.zero_le _, rfl, fun j hj => absurd hj (by omega), HM0, BM⟩
  case round =>
    obtain ⟨k, hk, rfl, HS, HM, BB⟩ := hrel
    rcases Nat.lt_or_ge k n with hk2 | hk2
    case inr =>
      obtain rfl : k = n := by omega
      have t2 : decide ((k : Int) < (k : Int)) = false := by simp
      have HN := Lib.hid (first_none HS.out)
      have SB : Hid (w.heap.size + 1 ≤ wr.heap.size) := HM.out.lt
      clear HS HRA
      go_wp2_with fail
      go_loopw [10, 51] (fun v i wr => ∃ q : Nat, q ≤ k ∧ i = .int .i64 (q : Int) ∧ Hid (∀ j, j < q → badL ls j = false) ∧ Hid (LMap wr w.heap.size ls k) ∧ Hid (wr.ownsRow (w.heap.size + 1) 145 4 v q (insVs (insL ls q))) ∧ Hid (Below w.heap.size w wr) ∧ Hid (w.heap.size + 1 ≤ wr.heap.size)) (fun _ i _ => k - (intOf i).toNat)
      case atStart => exact ⟨0, Nat.zero_le _, rfl, fun j hj => absurd hj (by omega), HM, World.ownsRow_nil _ _ _ _, BB, SB⟩
      case round =>
        clear HM BB SB
        obtain ⟨q, hq, rfl, HS, HM, HO, BB, SB⟩ := hrel
        rcases Nat.lt_or_ge q k with hq2 | hq2
        case inr =>
          obtain rfl : q = k := by omega
          have t3 : decide ((q : Int) < (q : Int)) = false := by simp
          have HF := Lib.hid (HRC.out HN.out (first_none HS.out))
          go_wp2_with fail
          go_ret3
          refine ⟨?_, BB.out⟩
          rw [HF.out]
          exact OutI.low (b := w.heap.size + 1) ⟨_, rfl, by rw [insL_len]; exact HO.out⟩ (by omega)
        have t3 : decide ((q : Int) < (k : Int)) = true := decide_eq_true (by omega)
        obtain ⟨b, off, rfl, hb, hc⟩ := HA.out.at (by omega)
        have a0 : wr.cell? ⟨b, off + q * 6, none⟩ = some (.string (ls.getD q al0).lab) := (BB.out.cell hb).trans (hc q (by omega) 0 (by omega))
        have a1 : wr.cell? ⟨b, off + q * 6 + 1, none⟩ = some (.int .u8 ((ls.getD q al0).i.op : Int)) := (BB.out.cell hb).trans (hc q (by omega) 1 (by omega))
        have a2 : wr.cell? ⟨b, off + q * 6 + 2, none⟩ = some (.int .u8 ((ls.getD q al0).i.a : Int)) := (BB.out.cell hb).trans (hc q (by omega) 2 (by omega))
        have a3 : wr.cell? ⟨b, off + q * 6 + 3, none⟩ = some (.int .u16 ((ls.getD q al0).i.b : Int)) := (BB.out.cell hb).trans (hc q (by omega) 3 (by omega))
        have a4 : wr.cell? ⟨b, off + q * 6 + 4, none⟩ = some (.int .u32 ((ls.getD q al0).i.c : Int)) := (BB.out.cell hb).trans (hc q (by omega) 4 (by omega))
        have a5 : wr.cell? ⟨b, off + q * 6 + 5, none⟩ = some (.string (ls.getD q al0).tgt) := (BB.out.cell hb).trans (hc q (by omega) 5 (by omega))
        clear hc
        have HOK := Lib.hid (HOKS.out q hq2)
        obtain ⟨fl, hfl⟩ := find_self (show q < ls.length by omega)
        have HBD : badL ls q = ((!(ls.getD q al0).lab.toList.isEmpty && !(findO ls (ls.getD q al0).lab == some q)) || (!(ls.getD q al0).tgt.toList.isEmpty && !(findO ls (ls.getD q al0).tgt).isSome)) := rfl
        have HIN : insL ls (q + 1) = insL ls q ++ [if (ls.getD q al0).tgt.toList.isEmpty then (ls.getD q al0).i else ⟨(ls.getD q al0).i.op, (ls.getD q al0).i.a, (ls.getD q al0).i.b, (findO ls (ls.getD q al0).tgt).getD 0⟩] := insL_succ ls q
        generalize (ls.getD q al0) = x at *
        have HSZ : x.lab.size ≤ maxLen := by have := HOK.out.lab; unfold maxLen; omega
        have HSY : x.tgt.size ≤ maxLen := by have := HOK.out.tgt; unfold maxLen; omega
        obtain ⟨lab, ⟨op, ia, ib, ic⟩, tgt⟩ := x
        simp only at a0 a1 a2 a3 a4 a5 HSZ HSY HBD HIN hfl
        go_upto_region 17 with fail
        have G0 : Hid ((wr.alloc (.cells #[.string lab, .int .u8 (op : Int), .int .u8 (ia : Int), .int .u16 (ib : Int), .int .u32 (ic : Int), .string tgt] 156)).heap[wr.heap.size]? = some (.cells #[.string lab, .int .u8 (op : Int), .int .u8 (ia : Int), .int .u16 (ib : Int), .int .u32 (ic : Int), .string tgt] 156 (0, 0))) := heap_alloc_new _ _
        have M0 : Hid (LMap (wr.alloc (.cells #[.string lab, .int .u8 (op : Int), .int .u8 (ia : Int), .int .u16 (ib : Int), .int .u32 (ic : Int), .string tgt] 156)) w.heap.size ls k) := HM.out.below (alloc_below _ _)
        have B0 : Hid (Below w.heap.size w (wr.alloc (.cells #[.string lab, .int .u8 (op : Int), .int .u8 (ia : Int), .int .u16 (ib : Int), .int .u32 (ic : Int), .string tgt] 156))) := BB.out.alloc BB.out.size _
        have O0 : Hid ((wr.alloc (.cells #[.string lab, .int .u8 (op : Int), .int .u8 (ia : Int), .int .u16 (ib : Int), .int .u32 (ic : Int), .string tgt] 156)).ownsRow (w.heap.size + 1) 145 4 u10 q (insVs (insL ls q))) := HO.out.alloc _
        generalize wr.alloc (.cells #[.string lab, .int .u8 (op : Int), .int .u8 (ia : Int), .int .u16 (ib : Int), .int .u32 (ic : Int), .string tgt] 156) = w1 at *
        have hBg : Hid (w.heap.size < wr.heap.size) := HM.out.lt
        have hOg : Hid (∀ j, u10.ownBlock = some j → j < wr.heap.size) := fun j hj => (HO.out.lt j hj).2
        clear HM BB HO SB
        generalize hg : wr.heap.size = g at *
        obtain ⟨ct, bt, l1, l2, l3⟩ := M0.out.look tgt HSY
        obtain ⟨cl, bl, m1, m2, m3⟩ := M0.out.look lab HSZ
        rw [← hn] at l3 m3
        rw [show first (hitL ls tgt) ls.length = findO ls tgt from rfl] at l3
        rw [show first (hitL ls lab) ls.length = findO ls lab from rfl, hfl] at m3
        rw [hfl] at HBD
        have c0 := cell_row (j := 0) G0.out rfl
        have c1 := cell_row (j := 1) G0.out rfl
        have c2 := cell_row (j := 2) G0.out rfl
        have c3 := cell_row (j := 3) G0.out rfl
        have c4 := cell_row (j := 4) G0.out rfl
        have c5 := cell_row (j := 5) G0.out rfl
        clear a0 a1 a2 a3 a4 a5
        have HM3 := Lib.hid m3; clear m3
        cases hle : lab.toList.isEmpty with
        | true =>
          have hlb : (!true && !(some fl == some q)) = false := rfl
          rw [hle] at HBD
          cases hte : tgt.toList.isEmpty with
          | true =>
            rw [hte] at HBD HIN
            have HOKK : badL ls q = false := by rw [HBD]; simp [hlb]
            rw [if_pos rfl] at HIN
            clear l3 HBD
            go_upto_region 22 with fail
            -- the instruction lies in block G0 of w1; it is appended
            clear c0 c1 c2 c3 c4 c5
            have c0 := cell_row (j := 0) G0.out rfl
            have c1 := cell_row (j := 1) G0.out rfl
            have c2 := cell_row (j := 2) G0.out rfl
            have c3 := cell_row (j := 3) G0.out rfl
            have c4 := cell_row (j := 4) G0.out rfl
            have c5 := cell_row (j := 5) G0.out rfl
            have OA := Lib.hid (O0.out.alloc (.cells #[.int .u8 (op : Int), .int .u8 (ia : Int), .int .u16 (ib : Int), .int .u32 (ic : Int)] 145))
            have HW : Hid (∀ j u, [Value.int .u8 (op : Int), .int .u8 (ia : Int), .int .u16 (ib : Int), .int .u32 (ic : Int)][j]? = some u → (w1.alloc (.cells #[.int .u8 (op : Int), .int .u8 (ia : Int), .int .u16 (ib : Int), .int .u32 (ic : Int)] 145)).cell? ((⟨w1.heap.size, 0, none⟩ : Addr).add j) = some u) := four_news _ _ _ _ _ _
            have HZ : Hid (w.heap.size + 1 ≤ w1.heap.size) := M0.out.lt
            go_wp2_with (at_builtin; refine wpList_append_own _ rfl _ _ 52 rfl (w.heap.size + 1) 145 i0 (.agg #[.int .u8 0, .int .u8 0, .int .u16 0, .int .u32 0]) 4 8 Tryz.underlying52 HIn.out HZ0.out HZ1.out HZ2.out rfl (by decide) u10 q _ rfl OA.out ⟨w1.heap.size, 0, none⟩ 1 1 [.int .u8 (op : Int), .int .u8 (ia : Int), .int .u16 (ib : Int), .int .u32 (ic : Int)] rfl rfl HW.out (fun u hu => by simp at hu; rcases hu with rfl | rfl | rfl | rfl <;> rfl) (by unfold maxLen; omega) (by omega) (by simp; have := HZ.out; omega) ?_)
            intro v2 w2 ho2 hg2 _
            have B2 : Hid (Below w.heap.size w w2) := (B0.out.alloc B0.out.size _).grown hg2 (by simp; have := HZ.out; omega) (fun j hj => Nat.le_trans (Nat.le_succ _) (O0.out.lt j hj).1)
            have S2 : Hid (w.heap.size + 1 ≤ w2.heap.size) := by have h1 := hg2.size; have := HZ.out; simp at h1; show _ ≤ _; omega
            have M2 : Hid (LMap w2 w.heap.size ls k) := (M0.out.below (alloc_below _ (.cells #[.int .u8 (op : Int), .int .u8 (ia : Int), .int .u16 (ib : Int), .int .u32 (ic : Int)] 145))).same (hg2.block _ (by simp; have := HZ.out; omega) (fun e => by have := (O0.out.lt _ e.symm).1; omega))
            have HOKS' : Hid (∀ j, j < q + 1 → badL ls j = false) := fun j hj => by rcases Nat.lt_succ_iff_lt_or_eq.1 hj with h | rfl <;> first | exact HS.out _ h | exact HOKK
            rw [insVs_snoc' HIN] at ho2
            have O2 := Lib.hid ho2
            clear ho2 hg2 OA HW
            go_wp2_with fail
            go_roundw
            case rel => exact ⟨q + 1, by omega, by go_num, HOKS', M2, O2, B2, S2⟩
            case measure => simp [intOf]; omega
          | false =>
            obtain ⟨rfl, hbt⟩ := l3 hte
            clear l3 l2
            rw [hte, if_neg (by decide)] at HIN
            rw [hte] at HBD
            cases hft : findO ls tgt with
            | none =>
              rw [hft] at hbt HBD l1
              simp only [Option.isSome_none] at hbt
              subst hbt
              have HBK : badL ls q = true := by rw [HBD]; simp
              clear HBD HIN
              have HF := Lib.hid (HRB.out q HN.out (first_some hq2 HBK HS.out))
              go_wp2_with fail
              go_ret3
              exact ⟨by rw [HF.out]; exact OutI.none _ _ _ _, B0.out⟩
            | some mt =>
              rw [hft] at hbt HBD l1 HIN
              simp only [Option.isSome_some] at hbt
              subst hbt
              have HOKK : badL ls q = false := by rw [HBD]; simp [hlb]
              simp only [Option.getD_some] at l1 HIN
              clear HBD
              have hmt : mt < 4294967296 := by have := (first_lt hft).1; omega
              have f4 : w1.frozen? ⟨g, 4, none⟩ = false := frozen_of_row _ _ _ _ _ G0.out
              go_upto_region 22 with fail
              have G5 : Hid ((w1.setCell ⟨g, 4, none⟩ (.int .u32 (mt : Int))).heap[g]? = some (.cells #[.string lab, .int .u8 (op : Int), .int .u8 (ia : Int), .int .u16 (ib : Int), .int .u32 (mt : Int), .string tgt] 156 (0, 0))) := heap_setCell_same _ _ _ _ _ _ G0.out
              have B5 : Hid (Below w.heap.size w (w1.setCell ⟨g, 4, none⟩ (.int .u32 (mt : Int)))) := B0.out.setCell (p := ⟨g, 4, none⟩) (Nat.le_of_lt hBg.out) _
              have M5 : Hid (LMap (w1.setCell ⟨g, 4, none⟩ (.int .u32 (mt : Int))) w.heap.size ls k) := M0.out.same (heap_setCell_other _ _ _ _ (Nat.ne_of_lt hBg.out))
              have O5 : Hid ((w1.setCell ⟨g, 4, none⟩ (.int .u32 (mt : Int))).ownsRow (w.heap.size + 1) 145 4 u10 q (insVs (insL ls q))) := own_same O0.out fun j hj => heap_setCell_other _ _ _ _ (Nat.ne_of_lt (hOg.out j hj))
              generalize w1.setCell ⟨g, 4, none⟩ (.int .u32 (mt : Int)) = w5 at *
              clear G0 B0 M0 O0
              -- the instruction lies in block G5 of w5; it is appended
              clear c0 c1 c2 c3 c4 c5
              have c0 := cell_row (j := 0) G5.out rfl
              have c1 := cell_row (j := 1) G5.out rfl
              have c2 := cell_row (j := 2) G5.out rfl
              have c3 := cell_row (j := 3) G5.out rfl
              have c4 := cell_row (j := 4) G5.out rfl
              have c5 := cell_row (j := 5) G5.out rfl
              have OA := Lib.hid (O5.out.alloc (.cells #[.int .u8 (op : Int), .int .u8 (ia : Int), .int .u16 (ib : Int), .int .u32 (mt : Int)] 145))
              have HW : Hid (∀ j u, [Value.int .u8 (op : Int), .int .u8 (ia : Int), .int .u16 (ib : Int), .int .u32 (mt : Int)][j]? = some u → (w5.alloc (.cells #[.int .u8 (op : Int), .int .u8 (ia : Int), .int .u16 (ib : Int), .int .u32 (mt : Int)] 145)).cell? ((⟨w5.heap.size, 0, none⟩ : Addr).add j) = some u) := four_news _ _ _ _ _ _
              have HZ : Hid (w.heap.size + 1 ≤ w5.heap.size) := M5.out.lt
              go_wp2_with (at_builtin; refine wpList_append_own _ rfl _ _ 52 rfl (w.heap.size + 1) 145 i0 (.agg #[.int .u8 0, .int .u8 0, .int .u16 0, .int .u32 0]) 4 8 Tryz.underlying52 HIn.out HZ0.out HZ1.out HZ2.out rfl (by decide) u10 q _ rfl OA.out ⟨w5.heap.size, 0, none⟩ 1 1 [.int .u8 (op : Int), .int .u8 (ia : Int), .int .u16 (ib : Int), .int .u32 (mt : Int)] rfl rfl HW.out (fun u hu => by simp at hu; rcases hu with rfl | rfl | rfl | rfl <;> rfl) (by unfold maxLen; omega) (by omega) (by simp; have := HZ.out; omega) ?_)
              intro v2 w2 ho2 hg2 _
              have B2 : Hid (Below w.heap.size w w2) := (B5.out.alloc B5.out.size _).grown hg2 (by simp; have := HZ.out; omega) (fun j hj => Nat.le_trans (Nat.le_succ _) (O5.out.lt j hj).1)
              have S2 : Hid (w.heap.size + 1 ≤ w2.heap.size) := by have h1 := hg2.size; have := HZ.out; simp at h1; show _ ≤ _; omega
              have M2 : Hid (LMap w2 w.heap.size ls k) := (M5.out.below (alloc_below _ (.cells #[.int .u8 (op : Int), .int .u8 (ia : Int), .int .u16 (ib : Int), .int .u32 (mt : Int)] 145))).same (hg2.block _ (by simp; have := HZ.out; omega) (fun e => by have := (O5.out.lt _ e.symm).1; omega))
              have HOKS' : Hid (∀ j, j < q + 1 → badL ls j = false) := fun j hj => by rcases Nat.lt_succ_iff_lt_or_eq.1 hj with h | rfl <;> first | exact HS.out _ h | exact HOKK
              rw [insVs_snoc' HIN] at ho2
              have O2 := Lib.hid ho2
              clear ho2 hg2 OA HW
              go_wp2_with fail
              go_roundw
              case rel => exact ⟨q + 1, by omega, by go_num, HOKS', M2, O2, B2, S2⟩
              case measure => simp [intOf]; omega
        | false =>
          obtain ⟨rfl, _⟩ := HM3.out hle
          simp only [Option.getD_some] at m1 m2
          by_cases hflq : fl = q
          · rw [hflq] at m1 m2 HBD hfl
            clear hflq
            have tq : ((q : Int) != (q : Int)) = false := by simp
            have hlb : (!false && !(some q == some q)) = false := by simp
            rw [hle] at HBD
            cases hte : tgt.toList.isEmpty with
            | true =>
              rw [hte] at HBD HIN
              have HOKK : badL ls q = false := by rw [HBD]; simp [hlb]
              rw [if_pos rfl] at HIN
              clear l3 HBD
              go_upto_region 22 with fail
              -- the instruction lies in block G0 of w1; it is appended
              clear c0 c1 c2 c3 c4 c5
              have c0 := cell_row (j := 0) G0.out rfl
              have c1 := cell_row (j := 1) G0.out rfl
              have c2 := cell_row (j := 2) G0.out rfl
              have c3 := cell_row (j := 3) G0.out rfl
              have c4 := cell_row (j := 4) G0.out rfl
              have c5 := cell_row (j := 5) G0.out rfl
              have OA := Lib.hid (O0.out.alloc (.cells #[.int .u8 (op : Int), .int .u8 (ia : Int), .int .u16 (ib : Int), .int .u32 (ic : Int)] 145))
              have HW : Hid (∀ j u, [Value.int .u8 (op : Int), .int .u8 (ia : Int), .int .u16 (ib : Int), .int .u32 (ic : Int)][j]? = some u → (w1.alloc (.cells #[.int .u8 (op : Int), .int .u8 (ia : Int), .int .u16 (ib : Int), .int .u32 (ic : Int)] 145)).cell? ((⟨w1.heap.size, 0, none⟩ : Addr).add j) = some u) := four_news _ _ _ _ _ _
              have HZ : Hid (w.heap.size + 1 ≤ w1.heap.size) := M0.out.lt
              go_wp2_with (at_builtin; refine wpList_append_own _ rfl _ _ 52 rfl (w.heap.size + 1) 145 i0 (.agg #[.int .u8 0, .int .u8 0, .int .u16 0, .int .u32 0]) 4 8 Tryz.underlying52 HIn.out HZ0.out HZ1.out HZ2.out rfl (by decide) u10 q _ rfl OA.out ⟨w1.heap.size, 0, none⟩ 1 1 [.int .u8 (op : Int), .int .u8 (ia : Int), .int .u16 (ib : Int), .int .u32 (ic : Int)] rfl rfl HW.out (fun u hu => by simp at hu; rcases hu with rfl | rfl | rfl | rfl <;> rfl) (by unfold maxLen; omega) (by omega) (by simp; have := HZ.out; omega) ?_)
              intro v2 w2 ho2 hg2 _
              have B2 : Hid (Below w.heap.size w w2) := (B0.out.alloc B0.out.size _).grown hg2 (by simp; have := HZ.out; omega) (fun j hj => Nat.le_trans (Nat.le_succ _) (O0.out.lt j hj).1)
              have S2 : Hid (w.heap.size + 1 ≤ w2.heap.size) := by have h1 := hg2.size; have := HZ.out; simp at h1; show _ ≤ _; omega
              have M2 : Hid (LMap w2 w.heap.size ls k) := (M0.out.below (alloc_below _ (.cells #[.int .u8 (op : Int), .int .u8 (ia : Int), .int .u16 (ib : Int), .int .u32 (ic : Int)] 145))).same (hg2.block _ (by simp; have := HZ.out; omega) (fun e => by have := (O0.out.lt _ e.symm).1; omega))
              have HOKS' : Hid (∀ j, j < q + 1 → badL ls j = false) := fun j hj => by rcases Nat.lt_succ_iff_lt_or_eq.1 hj with h | rfl <;> first | exact HS.out _ h | exact HOKK
              rw [insVs_snoc' HIN] at ho2
              have O2 := Lib.hid ho2
              clear ho2 hg2 OA HW
              go_wp2_with fail
              go_roundw
              case rel => exact ⟨q + 1, by omega, by go_num, HOKS', M2, O2, B2, S2⟩
              case measure => simp [intOf]; omega
            | false =>
              obtain ⟨rfl, hbt⟩ := l3 hte
              clear l3 l2
              rw [hte, if_neg (by decide)] at HIN
              rw [hte] at HBD
              cases hft : findO ls tgt with
              | none =>
                rw [hft] at hbt HBD l1
                simp only [Option.isSome_none] at hbt
                subst hbt
                have HBK : badL ls q = true := by rw [HBD]; simp
                clear HBD HIN
                have HF := Lib.hid (HRB.out q HN.out (first_some hq2 HBK HS.out))
                go_wp2_with fail
                go_ret3
                exact ⟨by rw [HF.out]; exact OutI.none _ _ _ _, B0.out⟩
              | some mt =>
                rw [hft] at hbt HBD l1 HIN
                simp only [Option.isSome_some] at hbt
                subst hbt
                have HOKK : badL ls q = false := by rw [HBD]; simp [hlb]
                simp only [Option.getD_some] at l1 HIN
                clear HBD
                have hmt : mt < 4294967296 := by have := (first_lt hft).1; omega
                have f4 : w1.frozen? ⟨g, 4, none⟩ = false := frozen_of_row _ _ _ _ _ G0.out
                go_upto_region 22 with fail
                have G5 : Hid ((w1.setCell ⟨g, 4, none⟩ (.int .u32 (mt : Int))).heap[g]? = some (.cells #[.string lab, .int .u8 (op : Int), .int .u8 (ia : Int), .int .u16 (ib : Int), .int .u32 (mt : Int), .string tgt] 156 (0, 0))) := heap_setCell_same _ _ _ _ _ _ G0.out
                have B5 : Hid (Below w.heap.size w (w1.setCell ⟨g, 4, none⟩ (.int .u32 (mt : Int)))) := B0.out.setCell (p := ⟨g, 4, none⟩) (Nat.le_of_lt hBg.out) _
                have M5 : Hid (LMap (w1.setCell ⟨g, 4, none⟩ (.int .u32 (mt : Int))) w.heap.size ls k) := M0.out.same (heap_setCell_other _ _ _ _ (Nat.ne_of_lt hBg.out))
                have O5 : Hid ((w1.setCell ⟨g, 4, none⟩ (.int .u32 (mt : Int))).ownsRow (w.heap.size + 1) 145 4 u10 q (insVs (insL ls q))) := own_same O0.out fun j hj => heap_setCell_other _ _ _ _ (Nat.ne_of_lt (hOg.out j hj))
                generalize w1.setCell ⟨g, 4, none⟩ (.int .u32 (mt : Int)) = w5 at *
                clear G0 B0 M0 O0
                -- the instruction lies in block G5 of w5; it is appended
                clear c0 c1 c2 c3 c4 c5
                have c0 := cell_row (j := 0) G5.out rfl
                have c1 := cell_row (j := 1) G5.out rfl
                have c2 := cell_row (j := 2) G5.out rfl
                have c3 := cell_row (j := 3) G5.out rfl
                have c4 := cell_row (j := 4) G5.out rfl
                have c5 := cell_row (j := 5) G5.out rfl
                have OA := Lib.hid (O5.out.alloc (.cells #[.int .u8 (op : Int), .int .u8 (ia : Int), .int .u16 (ib : Int), .int .u32 (mt : Int)] 145))
                have HW : Hid (∀ j u, [Value.int .u8 (op : Int), .int .u8 (ia : Int), .int .u16 (ib : Int), .int .u32 (mt : Int)][j]? = some u → (w5.alloc (.cells #[.int .u8 (op : Int), .int .u8 (ia : Int), .int .u16 (ib : Int), .int .u32 (mt : Int)] 145)).cell? ((⟨w5.heap.size, 0, none⟩ : Addr).add j) = some u) := four_news _ _ _ _ _ _
                have HZ : Hid (w.heap.size + 1 ≤ w5.heap.size) := M5.out.lt
                go_wp2_with (at_builtin; refine wpList_append_own _ rfl _ _ 52 rfl (w.heap.size + 1) 145 i0 (.agg #[.int .u8 0, .int .u8 0, .int .u16 0, .int .u32 0]) 4 8 Tryz.underlying52 HIn.out HZ0.out HZ1.out HZ2.out rfl (by decide) u10 q _ rfl OA.out ⟨w5.heap.size, 0, none⟩ 1 1 [.int .u8 (op : Int), .int .u8 (ia : Int), .int .u16 (ib : Int), .int .u32 (mt : Int)] rfl rfl HW.out (fun u hu => by simp at hu; rcases hu with rfl | rfl | rfl | rfl <;> rfl) (by unfold maxLen; omega) (by omega) (by simp; have := HZ.out; omega) ?_)
                intro v2 w2 ho2 hg2 _
                have B2 : Hid (Below w.heap.size w w2) := (B5.out.alloc B5.out.size _).grown hg2 (by simp; have := HZ.out; omega) (fun j hj => Nat.le_trans (Nat.le_succ _) (O5.out.lt j hj).1)
                have S2 : Hid (w.heap.size + 1 ≤ w2.heap.size) := by have h1 := hg2.size; have := HZ.out; simp at h1; show _ ≤ _; omega
                have M2 : Hid (LMap w2 w.heap.size ls k) := (M5.out.below (alloc_below _ (.cells #[.int .u8 (op : Int), .int .u8 (ia : Int), .int .u16 (ib : Int), .int .u32 (mt : Int)] 145))).same (hg2.block _ (by simp; have := HZ.out; omega) (fun e => by have := (O5.out.lt _ e.symm).1; omega))
                have HOKS' : Hid (∀ j, j < q + 1 → badL ls j = false) := fun j hj => by rcases Nat.lt_succ_iff_lt_or_eq.1 hj with h | rfl <;> first | exact HS.out _ h | exact HOKK
                rw [insVs_snoc' HIN] at ho2
                have O2 := Lib.hid ho2
                clear ho2 hg2 OA HW
                go_wp2_with fail
                go_roundw
                case rel => exact ⟨q + 1, by omega, by go_num, HOKS', M2, O2, B2, S2⟩
                case measure => simp [intOf]; omega
          · have tq : ((fl : Int) != (q : Int)) = true := bne_iff_ne.2 (by omega)
            have HBK : badL ls q = true := by rw [HBD, hle]; simp [hflq]
            clear HBD HIN
            have HF := Lib.hid (HRB.out q HN.out (first_some hq2 HBK HS.out))
            go_wp2_with fail
            go_ret3
            exact ⟨by rw [HF.out]; exact OutI.none _ _ _ _, B0.out⟩
    have t2 : decide ((k : Int) < (n : Int)) = true := decide_eq_true (by omega)
    obtain ⟨b, off, rfl, hb, hc⟩ := HA.out.at (by omega)
    have a0 : wr.cell? ⟨b, off + k * 6, none⟩ = some (.string (ls.getD k al0).lab) := (BB.out.cell hb).trans (hc k (by omega) 0 (by omega))
    have a1 : wr.cell? ⟨b, off + k * 6 + 1, none⟩ = some (.int .u8 ((ls.getD k al0).i.op : Int)) := (BB.out.cell hb).trans (hc k (by omega) 1 (by omega))
    have a2 : wr.cell? ⟨b, off + k * 6 + 2, none⟩ = some (.int .u8 ((ls.getD k al0).i.a : Int)) := (BB.out.cell hb).trans (hc k (by omega) 2 (by omega))
    have a3 : wr.cell? ⟨b, off + k * 6 + 3, none⟩ = some (.int .u16 ((ls.getD k al0).i.b : Int)) := (BB.out.cell hb).trans (hc k (by omega) 3 (by omega))
    have a4 : wr.cell? ⟨b, off + k * 6 + 4, none⟩ = some (.int .u32 ((ls.getD k al0).i.c : Int)) := (BB.out.cell hb).trans (hc k (by omega) 4 (by omega))
    have a5 : wr.cell? ⟨b, off + k * 6 + 5, none⟩ = some (.string (ls.getD k al0).tgt) := (BB.out.cell hb).trans (hc k (by omega) 5 (by omega))
    clear hc
    have HO := Lib.hid (HOKS.out k hk2)
    have HMA : Hid (mayL ls k = !(ls.getD k al0).may) := rfl
    have HMS : Hid (∀ W, LMap W w.heap.size ls k → (ls.getD k al0).lab.toList.isEmpty = false → first (hitL ls (ls.getD k al0).lab) k = none → ∃ w', (Instr.mapUpdate 160 (.map (some w.heap.size)) (.string (ls.getD k al0).lab) (.int .i64 (k : Int))).run Tryz.prog W = .ok () w' ∧ LMap w' w.heap.size ls (k + 1) ∧ W.grownBy w' (some w.heap.size)) := fun W h h1 h2 => LMap.set h h1 h2 (by have := (HOKS.out k hk2).lab; unfold maxLen; omega) (by omega)
    have HMK : Hid (∀ W, LMap W w.heap.size ls k → ((ls.getD k al0).lab.toList.isEmpty = true ∨ (first (hitL ls (ls.getD k al0).lab) k).isSome = true) → LMap W w.heap.size ls (k + 1)) := fun W h h1 => LMap.skip h h1
    generalize (ls.getD k al0) = x at *
    have HC := fun W => alm_any x W HO.out
    have HSZ : x.lab.size ≤ maxLen := by have := HO.out.lab; unfold maxLen; omega
    unfold AL.val AL.cells at HC
    have HC := Lib.hid HC
    generalize x.may = my at *
    obtain ⟨lab, ⟨op, ia, ib, ic⟩, tgt⟩ := x
    simp only at a0 a1 a2 a3 a4 a5 HC HMS HMK HSZ
    have G0 : Hid ((wr.alloc (.cells #[.string lab, .int .u8 (op : Int), .int .u8 (ia : Int), .int .u16 (ib : Int), .int .u32 (ic : Int), .string tgt] 156)).heap[wr.heap.size]? = some (.cells #[.string lab, .int .u8 (op : Int), .int .u8 (ia : Int), .int .u16 (ib : Int), .int .u32 (ic : Int), .string tgt] 156 (0, 0))) := heap_alloc_new _ _
    have M0 : Hid (LMap (wr.alloc (.cells #[.string lab, .int .u8 (op : Int), .int .u8 (ia : Int), .int .u16 (ib : Int), .int .u32 (ic : Int), .string tgt] 156)) w.heap.size ls k) := HM.out.below (alloc_below _ _)
    have B0 : Hid (Below w.heap.size w (wr.alloc (.cells #[.string lab, .int .u8 (op : Int), .int .u8 (ia : Int), .int .u16 (ib : Int), .int .u32 (ic : Int), .string tgt] 156))) := BB.out.alloc BB.out.size _
    have L0 := Lib.hid (heap_lt G0.out)
    go_wp2_with fail
    refine (HC.out _).mono ?_
    rintro e w2 ⟨rfl, hb2⟩
    have G2 := Lib.hid (kept G0.out hb2)
    have M2 := Lib.hid (M0.out.below hb2)
    have B2 : Hid (Below w.heap.size w w2) := B0.out.trans (hb2.mono B0.out.size)
    clear hb2 G0 M0 B0 a0 a1 a2 a3 a4 a5 HM BB HC
    cases my with
    | false =>
      have HF := Lib.hid (HRA.out k (first_some hk2 HMA.out HS.out))
      go_wp2_with fail
      go_ret3
      exact ⟨by rw [HF.out]; exact OutI.none _ _ _ _, B2.out⟩
    | true =>
    have HS' : Hid (∀ j, j < k + 1 → mayL ls j = false) := fun j hj => by rcases Nat.lt_succ_iff_lt_or_eq.1 hj with h | rfl <;> first | exact HS.out _ h | exact HMA.out
    have c0 := cell_row (j := 0) G2.out rfl
    obtain ⟨cc, bb, l1, l2, l3⟩ := M2.out.look lab HSZ
    have HL3 := Lib.hid l3
    clear l3 HS
    generalize hle : lab.toList.isEmpty = le at *
    cases le with
    | true =>
      have M3 := Lib.hid (HMK.out w2 M2.out (.inl rfl))
      go_wp2_with fail
      go_roundw
      case rel => exact ⟨k + 1, by omega, by go_num, HS', M3, B2⟩
      case measure => simp [intOf]; omega
    | false =>
    obtain ⟨rfl, hbb⟩ := HL3.out rfl
    cases hf : first (hitL ls lab) k with
    | some m =>
      rw [hf] at hbb
      subst hbb
      have M3 := Lib.hid (HMK.out w2 M2.out (.inr (by rw [hf]; rfl)))
      rw [hf] at l1 l2
      simp only [Option.getD_some, Option.isSome_some] at l1 l2
      clear HL3 hf
      go_wp2_with fail
      go_roundw
      case rel => exact ⟨k + 1, by omega, by go_num, HS', M3, B2⟩
      case measure => simp [intOf]; omega
    | none =>
      rw [hf] at hbb
      subst hbb
      rw [hf] at l1 l2
      simp only [Option.getD_none, Option.isSome_none] at l1 l2
      obtain ⟨w3, hu, hm3, hg3⟩ := HMS.out w2 M2.out rfl hf
      have M3 := Lib.hid hm3
      have B3 : Hid (Below w.heap.size w w3) := B2.out.grown hg3 B2.out.size (fun j hj => by cases hj; exact Nat.le_refl _)
      clear HL3 hf hm3 hg3
      go_wp2_with fail
      go_roundw
      case rel => exact ⟨k + 1, by omega, by go_num, HS', M3, B3⟩
      case measure => simp [intOf]; omega
end Go.Proofs.YtdlpgoackmgdkaaGreatDoor
/- Text. -/
namespace Go.Proofs.YtdlpgoackmgdkaaGreatDoor
open Go.Shelf Go.RowKit
set_option linter.unusedVariables false
set_option linter.unusedSimpArgs false
theorem Tryz.extraW : Builder.Extra Tryz.prog Tryz.laysBW_ren where
  sizeBuilder := by kernel_rfl
  liesBuilder := by kernel_rfl
  t5 := Tryz.underlying5
  a5 := Tryz.isAgg5
  z5 := Tryz.sizeOf5
  v5 := Tryz.zeroValue5
  infoByte := by kernel_rfl
  cellsByte := by kernel_rfl
  sizeByte := by kernel_rfl
  neB5 := by decide
theorem Tryz.extraS : Builder.Extra Tryz.prog Tryz.laysBS_ren where
  sizeBuilder := by kernel_rfl
  liesBuilder := by kernel_rfl
  t5 := Tryz.underlying5
  a5 := Tryz.isAgg5
  z5 := Tryz.sizeOf5
  v5 := Tryz.zeroValue5
  infoByte := by kernel_rfl
  cellsByte := by kernel_rfl
  sizeByte := by kernel_rfl
  neB5 := by decide
def Bld (B : Nat) (l : List UInt8) (w : World) : Prop := Lib.IsBuilderF 109 5 B B (Lib.byteCells l) w
theorem own_sameF {w w' : World} {B : Nat} {e : TypeId} {size : Nat} {v : Value} {n : Nat} {xs : List Value} (h : w.ownsRowF B e size v n xs) (hs : ∀ g, g < w.heap.size → w'.heap[g]? = w.heap[g]?) : w'.ownsRowF B e size v n xs := by
  refine ⟨h.1, ?_⟩
  rcases h.2 with h0 | ⟨g, cap, cur, fz, rfl, h1, h2, h3⟩
  · exact .inl h0
  · exact .inr ⟨g, cap, cur, fz, rfl, h1, (hs g (heap_lt h2)).trans h2, h3⟩
theorem Bld.below {B : Nat} {l : List UInt8} {w w' : World} (h : Bld B l w) (hb : Below w.heap.size w w') : Bld B l w' := by
  rcases h with ⟨h0, v, h1, h2, h3⟩ | ⟨h0, v, h1, h2, h3⟩
  · exact .inl ⟨h0, v, (hb.block _ (heap_lt h1)).trans h1, own_sameF h2 fun g hg => hb.block g hg, h3⟩
  · exact .inr ⟨h0, v, (hb.block _ (heap_lt h1)).trans h1, own_sameF h2 fun g hg => hb.block g hg, h3⟩
theorem bw_any (B : Nat) (l : List UInt8) (s : ByteArray) (w : World) (h : Bld B l w) (hlen : l.length + s.size ≤ 140737488355328) (hB : B ≤ w.heap.size) :
    Calls Tryz.prog 60 #[.pointer (some ⟨B, 0, none⟩), .string s] w fun e w' => e = .returned (.tuple #[.int .i64 s.size, .nilIface]) ∧ Bld B (l ++ s.data.toList) w' ∧ Below B w w' ∧ Lib.OthersKept 5 (some B) w w' := by
  refine (Any.Builder_WriteString_k Tryz.laysBW Tryz.extraW B B (Lib.byteCells l) s w h (by rw [Lib.byteCells_length]; exact hlen) hB).mono ?_
  rintro e w' ⟨he, h1, h2, h3⟩
  refine ⟨he, ?_, h2, h3⟩
  unfold Bld
  rw [Lib.byteCells_append, ← Lib.strCells_eq]
  exact .inr h1
theorem bs_any (B : Nat) (l : List UInt8) (w : World) (h : Bld B l w) (hB : B ≤ w.heap.size) :
    Calls Tryz.prog 62 #[.pointer (some ⟨B, 0, none⟩)] w fun e w' => e = .returned (.string ⟨l.toArray⟩) ∧ Below B w w' :=
  (Any.Builder_String_any_k Tryz.laysBS Tryz.extraS B B l w h hB).mono fun e w' h => ⟨h.1, h.2.2.1⟩
def labP (x : AL) : List UInt8 := if x.lab.toList.isEmpty then [] else x.lab.data.toList ++ [58, 32]
def bodP (x : AL) : List UInt8 := if x.tgt.toList.isEmpty then x.i.text.data.toList else Lib.trimSuffix x.i.text.data.toList [48] ++ x.tgt.data.toList
def linL (x : AL) : List UInt8 := labP x ++ bodP x ++ [10]
theorem may_lab {x : AL} (h : x.may = true) : x.lab.toList.isEmpty = true ∨ labelB x.lab = true := by
  unfold AL.may at h; simp only [Bool.and_eq_true, Bool.or_eq_true] at h; exact h.1.1
theorem may_ins {x : AL} (h : x.may = true) : x.i.may = true := by
  unfold AL.may at h; simp only [Bool.and_eq_true, Bool.or_eq_true] at h; exact h.1.2
theorem may_tgt {x : AL} (h : x.may = true) : x.tgt.toList.isEmpty = true ∨ (labelB x.tgt = true ∧ jumpB x.i.op = true) ∧ x.i.c = 0 := by
  unfold AL.may at h; simp only [Bool.and_eq_true, Bool.or_eq_true, decide_eq_true_eq] at h; exact h.2
theorem lab_size {s : ByteArray} (h : s.toList.isEmpty = true ∨ labelB s = true) : s.data.toList.length ≤ 16 := by
  rcases h with h | h
  · rw [ByteArray.toList_eq] at h
    rw [List.isEmpty_iff.1 h]; simp
  · rw [size_list]; exact ((label_iff s).1 h).2.1
theorem tgt_size {x : AL} (h : x.may = true) : x.tgt.data.toList.length ≤ 16 := lab_size ((may_tgt h).imp id fun h => h.1.1)
theorem trimSuffix_len (l p : List UInt8) : (Lib.trimSuffix l p).length ≤ l.length := by unfold Lib.trimSuffix; split <;> simp
theorem lin_len {x : AL} (h : x.may = true) (hok : x.ok) : (labP x).length ≤ 18 ∧ (bodP x).length ≤ 80 ∧ (linL x).length ≤ 99 := by
  have h1 : (labP x).length ≤ 18 := by
    have := lab_size (may_lab h)
    unfold labP; split <;> simp at * ; omega
  have h2 : (bodP x).length ≤ 80 := by
    have h3 := tgt_size h
    have h4 := text_size x.i hok.i
    rw [← size_list] at h4
    have h5 := trimSuffix_len x.i.text.data.toList [48]
    unfold bodP; split
    · omega
    · rw [List.length_append]; omega
  refine ⟨h1, h2, ?_⟩
  unfold linL; simp only [List.length_append, List.length_singleton]; omega
end Go.Proofs.YtdlpgoackmgdkaaGreatDoor
/- Numbers: ParseUint, number, the document's Number. -/
namespace Go.Proofs.YtdlpgoackmgdkaaGreatDoor
open Go.Shelf Go.RowKit
set_option linter.unusedVariables false
set_option linter.unusedSimpArgs false
def numM (acc : Nat) : List UInt8 → Option Nat
  | [] => some acc
  | c :: r => if 48 ≤ c.toNat ∧ c.toNat ≤ 57 then (if 4294967295 < 10 * acc + (c.toNat - 48) then none else numM (10 * acc + (c.toNat - 48)) r) else none
def numL (l : List UInt8) : Option Nat := match l with
  | [] => none
  | c :: r => if c.toNat = 48 ∧ r ≠ [] then none else numM 0 (c :: r)
theorem numM_parse : ∀ (l : List UInt8) (acc : Nat), acc ≤ 4294967295 → (match Lib.parseUintM 4294967295 acc l with | .ok u => some u | _ => none) = numM acc l
  | [], acc, _ => rfl
  | c :: r, acc, ha => by
    unfold Lib.parseUintM numM
    by_cases hd : 48 ≤ c.toNat ∧ c.toNat ≤ 57
    · rw [if_pos hd, if_pos hd, if_neg (by omega), Nat.mul_comm acc 10]
      by_cases hm : 4294967295 < 10 * acc + (c.toNat - 48)
      · rw [if_pos hm, if_pos hm]
      · rw [if_neg hm, if_neg hm]
        exact numM_parse r _ (by omega)
    · rw [if_neg hd, if_neg hd]
theorem numM_val : ∀ (l : List UInt8) (acc u : Nat), numM acc l = some u → u = l.foldl (fun a b => 10 * a + (b.toNat - 48)) acc ∧ l.all isDig = true ∧ (acc ≤ 4294967295 → u ≤ 4294967295)
  | [], acc, u, h => by cases h; exact ⟨rfl, rfl, fun h => h⟩
  | c :: r, acc, u, h => by
    unfold numM at h
    by_cases hd : 48 ≤ c.toNat ∧ c.toNat ≤ 57
    · rw [if_pos hd] at h
      by_cases hm : 4294967295 < 10 * acc + (c.toNat - 48)
      · rw [if_pos hm] at h; cases h
      · rw [if_neg hm] at h
        obtain ⟨h1, h2, h3⟩ := numM_val r _ u h
        refine ⟨h1, ?_, fun _ => h3 (by omega)⟩
        rw [List.all_cons, h2]
        unfold isDig; simp; exact hd
    · rw [if_neg hd] at h; cases h
theorem dec_step {n : Nat} (h : ¬ n < 10) : Lib.decDigits n = Lib.decDigits (n / 10) ++ [UInt8.ofNat (48 + n % 10)] := by
  rw [Lib.decDigits, dif_neg h]
theorem dig_back {b : UInt8} (h : isDig b = true) : UInt8.ofNat (48 + (b.toNat - 48)) = b := by
  unfold isDig at h; simp at h
  have : 48 + (b.toNat - 48) = b.toNat := by omega
  rw [this]; simp
theorem valD_snoc (l : List UInt8) (b : UInt8) : valD (l ++ [b]) = 10 * valD l + (b.toNat - 48) := by unfold valD; rw [List.foldl_append]; rfl
theorem dig_lt {b : UInt8} (h : isDig b = true) : b.toNat - 48 < 10 := by unfold isDig at h; simp at h; omega
theorem valD_pos : ∀ (n : Nat) (l : List UInt8) (c : UInt8), l.length = n → (c :: l).all isDig = true → c.toNat ≠ 48 → 1 ≤ valD (c :: l)
  | 0, l, c, hl, hd, hc => by
    obtain rfl := List.length_eq_zero_iff.1 hl
    rw [List.all_cons, Bool.and_eq_true] at hd
    have := hd.1; unfold isDig at this; simp at this
    show 1 ≤ 10 * 0 + (c.toNat - 48)
    omega
  | n + 1, l, c, hl, hd, hc => by
    obtain ⟨l', b, rfl⟩ : ∃ l' b, l = l' ++ [b] := ⟨l.dropLast, l.getLast (by intro h; rw [h] at hl; simp at hl), (List.dropLast_concat_getLast _).symm⟩
    have hl' : l'.length = n := by simpa using hl
    have hd' : (c :: l').all isDig = true := by
      rw [← List.cons_append, List.all_append, Bool.and_eq_true] at hd; exact hd.1
    have := valD_pos n l' c hl' hd' hc
    rw [← List.cons_append, valD_snoc]; omega
theorem canon : ∀ (n : Nat) (l : List UInt8) (c : UInt8), l.length = n → (c :: l).all isDig = true → (c.toNat ≠ 48 ∨ l = []) → Lib.decDigits (valD (c :: l)) = c :: l
  | 0, l, c, hl, hd, hc => by
    obtain rfl := List.length_eq_zero_iff.1 hl
    rw [List.all_cons, Bool.and_eq_true] at hd
    have h1 := dig_lt hd.1
    have e : valD [c] = c.toNat - 48 := by show 10 * 0 + (c.toNat - 48) = _; omega
    rw [e, Lib.decDigits_one h1, dig_back hd.1]
  | n + 1, l, c, hl, hd, hc => by
    obtain ⟨l', b, rfl⟩ : ∃ l' b, l = l' ++ [b] := ⟨l.dropLast, l.getLast (by intro h; rw [h] at hl; simp at hl), (List.dropLast_concat_getLast _).symm⟩
    have hl' : l'.length = n := by simpa using hl
    have hc' : c.toNat ≠ 48 := by
      rcases hc with h | h
      · exact h
      · simp at h
    rw [← List.cons_append] at hd ⊢
    rw [List.all_append, Bool.and_eq_true] at hd
    have hd2 : isDig b = true := by have := hd.2; simpa using this
    have hp := valD_pos n l' c hl' hd.1 hc'
    have hb := dig_lt hd2
    rw [valD_snoc, dec_step (by omega)]
    have e1 : (10 * valD (c :: l') + (b.toNat - 48)) / 10 = valD (c :: l') := by omega
    have e2 : (10 * valD (c :: l') + (b.toNat - 48)) % 10 = b.toNat - 48 := by omega
    rw [e1, e2, canon n l' c hl' hd.1 (.inl hc'), dig_back hd2]
theorem head_dec : ∀ n : Nat, 10 ≤ n → ∃ c r, Lib.decDigits n = c :: r ∧ c.toNat ≠ 48 ∧ r ≠ [] := by
  intro n
  induction n using Nat.strongRecOn with
  | _ n ih =>
    intro h
    rw [dec_step (by omega)]
    by_cases h2 : n / 10 < 10
    · rw [Lib.decDigits_one h2]
      refine ⟨_, _, rfl, ?_, by simp⟩
      have : (UInt8.ofNat (48 + n / 10)).toNat = 48 + n / 10 := by simp; omega
      rw [this]; omega
    · obtain ⟨c, r, e, h3, h4⟩ := ih (n / 10) (by omega) (by omega)
      rw [e]
      exact ⟨c, r ++ [_], rfl, h3, by simp⟩
/-- What ParseUint gives, and FormatUint gives back, is just what is a number. -/
theorem num_iff (l : List UInt8) (n : Nat) : (Lib.parseUintB 32 l = .ok n ∧ Lib.decDigits n = l) ↔ numL l = some n := by
  unfold Lib.parseUintB
  rw [show (2 : Nat) ^ 32 - 1 = 4294967295 by decide]
  cases l with
  | nil => simp [numL]
  | cons c r =>
    rw [if_neg (by simp)]
    have hp := numM_parse (c :: r) 0 (by omega)
    constructor
    · rintro ⟨h1, h2⟩
      rw [h1] at hp
      have h3 : ¬ (c.toNat = 48 ∧ r ≠ []) := by
        rintro ⟨hc, hr⟩
        by_cases hn : n < 10
        · rw [Lib.decDigits_one hn] at h2
          exact hr (List.cons.inj h2).2.symm
        · obtain ⟨c', r', e, h4, _⟩ := head_dec n (by omega)
          rw [e] at h2
          rw [(List.cons.inj h2).1] at h4
          exact h4 hc
      show (if _ then _ else _) = _
      rw [if_neg h3]; exact hp.symm
    · intro h
      have h' : (if c.toNat = 48 ∧ r ≠ [] then none else numM 0 (c :: r)) = some n := h
      by_cases h3 : c.toNat = 48 ∧ r ≠ []
      · rw [if_pos h3] at h'; cases h'
      · rw [if_neg h3] at h'
        obtain ⟨h4, h5, _⟩ := numM_val _ _ _ h'
        refine ⟨?_, ?_⟩
        · rw [h'] at hp
          cases hq : Lib.parseUintM 4294967295 0 (c :: r) with
          | ok u => rw [hq] at hp; simp at hp; rw [hp]
          | «syntax» => rw [hq] at hp; cases hp
          | range => rw [hq] at hp; cases hp
        · have : n = valD (c :: r) := h4
          rw [this]
          refine canon _ r c rfl h5 ?_
          by_cases hc : c.toNat = 48
          · right; exact Classical.byContradiction fun hr => h3 ⟨hc, hr⟩
          · left; exact hc
end Go.Proofs.YtdlpgoackmgdkaaGreatDoor
/- ParseUint, number, the document's Number. -/
namespace Go.Proofs.YtdlpgoackmgdkaaGreatDoor
open Go.Shelf Go.RowKit
set_option linter.unusedVariables false
set_option linter.unusedSimpArgs false
def ErrV (ev : Value) : Prop := ev = .nilIface ∨ ∃ te pe, ev = .iface te pe
def ErrW (w : World) : Prop := (∃ ev, w.cell? ⟨Tryz.laysTE_ren.g 15, 0, none⟩ = some ev ∧ ErrV ev) ∧ (∃ ev, w.cell? ⟨Tryz.laysTE_ren.g 16, 0, none⟩ = some ev ∧ ErrV ev)
theorem ErrW.below {w w' : World} (h : ErrW w) (hb : Below w.heap.size w w') : ErrW w' := by
  obtain ⟨⟨a, h1, h2⟩, ⟨b, h3, h4⟩⟩ := h
  exact ⟨⟨a, (hb.cell (Lib.lt_of_cell h1)).trans h1, h2⟩, ⟨b, (hb.cell (Lib.lt_of_cell h3)).trans h3, h4⟩⟩
theorem pui_any (s : ByteArray) (w : World) (hs : s.size ≤ 281474976710656) :
    Calls Tryz.prog 125 #[.string s, .int .i64 10, .int .i64 32] w fun e w' => e = .returned (Lib.uintTupleM (Tryz.laysTE_ren.t 167) 4294967295 (Lib.parseUintB 32 s.data.toList)) ∧ Below w.heap.size w w' := by
  refine (Any.internal_strconv_ParseUint_10_at32 Tryz.laysPU s (by omega) w).mono ?_
  rintro e w' ⟨he, h⟩
  refine ⟨he, ?_⟩
  rcases h with rfl | rfl
  · exact Below.refl _ _
  · exact Lib.bytesWorld_below _ _ _
set_option maxRecDepth 100000 in
set_option maxHeartbeats 1000000 in
theorem pu_any (s : ByteArray) (w : World) (hs : s.size ≤ 281474976710656) (hE : ErrW w) :
    Calls Tryz.prog 95 #[.string s, .int .i64 10, .int .i64 32] w fun e w' => ((∃ n, Lib.parseUintB 32 s.data.toList = .ok n ∧ e = .returned (.tuple #[.int .u64 ((n : Nat) : Int), .nilIface])) ∨ ((∀ n, Lib.parseUintB 32 s.data.toList ≠ .ok n) ∧ ∃ (z : Nat) (T : TypeId) (p : Value), z ≤ 4294967295 ∧ e = .returned (.tuple #[.int .u64 ((z : Nat) : Int), .iface T p]))) ∧ Below w.heap.size w w' := by
  have hI := pui_any s w hs
  cases hp : Lib.parseUintB 32 s.data.toList with
  | ok n =>
    rw [hp] at hI
    have HI := Lib.hid (show Calls Tryz.prog 125 #[.string s, .int .i64 10, .int .i64 32] w fun e w' => e = .returned (.tuple #[.int .u64 ((n : Nat) : Int), .nilIface]) ∧ Below w.heap.size w w' from hI)
    clear hI hp
    go_enter Tryz.func95, Tryz.ntmps95
    go_wp2_with fail
    refine HI.out.mono ?_
    rintro e w2 ⟨rfl, hb⟩
    have B2 := Lib.hid hb
    clear hb HI
    go_wp2_with fail
    go_ret2
    exact ⟨.inl ⟨n, rfl, rfl⟩, B2.out⟩
  | «syntax» =>
    rw [hp] at hI
    have HI := Lib.hid (show Calls Tryz.prog 125 #[.string s, .int .i64 10, .int .i64 32] w fun e w' => e = .returned (.tuple #[.int .u64 0, .iface (Tryz.laysTE_ren.t 167) (.int .i64 2)]) ∧ Below w.heap.size w w' from hI)
    have HE := Lib.hid hE
    clear hI hE
    go_enter Tryz.func95, Tryz.ntmps95
    go_wp2_with fail
    refine HI.out.mono ?_
    rintro e w2 ⟨rfl, hb⟩
    have B2 := Lib.hid hb
    clear hb HI
    go_wp2_with fail
    obtain ⟨⟨ev, h1, h2⟩, _⟩ := HE.out.below B2.out
    refine (Any.strconv_toError_syntax Tryz.laysTE _ s 10 32 ev w2 hs h1 h2).mono ?_
    rintro e w3 ⟨N, rfl, _, _, hb⟩
    have B3 := Lib.hid (B2.out.trans (hb.mono B2.out.size))
    clear hb h1 h2 HE
    go_wp2_with fail
    go_ret2
    exact ⟨.inr ⟨fun n h => (by cases h), 0, _, _, by omega, rfl⟩, B3.out⟩
  | range =>
    rw [hp] at hI
    have HI := Lib.hid (show Calls Tryz.prog 125 #[.string s, .int .i64 10, .int .i64 32] w fun e w' => e = .returned (.tuple #[.int .u64 4294967295, .iface (Tryz.laysTE_ren.t 167) (.int .i64 1)]) ∧ Below w.heap.size w w' from hI)
    have HE := Lib.hid hE
    clear hI hE
    go_enter Tryz.func95, Tryz.ntmps95
    go_wp2_with fail
    refine HI.out.mono ?_
    rintro e w2 ⟨rfl, hb⟩
    have B2 := Lib.hid hb
    clear hb HI
    go_wp2_with fail
    obtain ⟨_, ⟨ev, h1, h2⟩⟩ := HE.out.below B2.out
    refine (Any.strconv_toError_range Tryz.laysTE _ s 10 32 ev w2 hs h1 h2).mono ?_
    rintro e w3 ⟨N, rfl, _, _, hb⟩
    have B3 := Lib.hid (B2.out.trans (hb.mono B2.out.size))
    clear hb h1 h2 HE
    go_wp2_with fail
    go_ret2
    exact ⟨.inr ⟨fun n h => (by cases h), 4294967295, _, _, by omega, rfl⟩, B3.out⟩
def NumV (s : ByteArray) (e : Ending) : Prop := ∃ v : Nat, v < 4294967296 ∧ e = .returned (.tuple #[.int .u32 ((v : Nat) : Int), .bool (numL s.data.toList).isSome]) ∧ ∀ n, numL s.data.toList = some n → v = n
set_option maxRecDepth 100000 in
set_option maxHeartbeats 1000000 in
theorem number_any (s : ByteArray) (w : World) (hs : s.size ≤ 281474976710656) (hE : ErrW w) (hT : TabW w) :
    Calls Tryz.prog 111 #[.string s] w fun e w' => NumV s e ∧ Below w.heap.size w w' := by
  have HP := Lib.hid (pu_any s w hs hE)
  have HT := Lib.hid hT
  clear hE hT
  go_enter Tryz.func111, Tryz.ntmps111
  go_wp2_with fail
  refine HP.out.mono ?_
  rintro e w2 ⟨h, hb⟩
  have B2 := Lib.hid hb
  clear hb HP
  rcases h with ⟨n, hp, rfl⟩ | ⟨hp, z, T, p, hz, rfl⟩
  · have hn : n ≤ 4294967295 := by have := Lib.parseUintB_le hp; rw [show (2 : Nat) ^ 32 - 1 = 4294967295 by decide] at this; exact this
    go_wp2_with fail
    refine (fmt_any n (by omega) w2 (HT.out.below B2.out)).mono ?_
    rintro e w3 ⟨rfl, hb⟩
    have B3 := Lib.hid (B2.out.trans (hb.mono B2.out.size))
    clear hb
    have HQ : Hid (((decS n).toList == s.toList) = (numL s.data.toList).isSome ∧ ∀ m, numL s.data.toList = some m → n = m) := by
      constructor
      · rw [str_eq]
        cases hx : numL s.data.toList with
        | some m =>
          have h1 := (num_iff _ _).2 hx
          rw [hp] at h1
          have : n = m := by have := h1.1; injection this
          subst this
          exact decide_eq_true h1.2
        | none =>
          apply decide_eq_false
          intro h
          have := (num_iff s.data.toList n).1 ⟨hp, h⟩
          rw [hx] at this; cases this
      · intro m hm
        have h1 := (num_iff _ _).2 hm
        rw [hp] at h1
        have := h1.1; injection this
    generalize decS n = ds at *
    go_wp2_with fail
    go_ret2
    refine ⟨⟨n, by omega, ?_, HQ.out.2⟩, B3.out⟩
    rw [← HQ.out.1]; rfl
  · go_wp2_with fail
    go_ret2
    have hx : numL s.data.toList = none := by
      cases hx : numL s.data.toList with
      | none => rfl
      | some m => exact absurd ((num_iff _ _).2 hx).1 (hp m)
    refine ⟨⟨z, by omega, ?_, fun n h => by rw [hx] at h; cases h⟩, B2.out⟩
    rw [hx]; rfl
end Go.Proofs.YtdlpgoackmgdkaaGreatDoor
/- split, words; the document's op, value. -/
namespace Go.Proofs.YtdlpgoackmgdkaaGreatDoor
open Go.Shelf Go.RowKit
set_option linter.unusedVariables false
set_option linter.unusedSimpArgs false
def opL (l : List UInt8) : Nat := (first (fun k => decide (0 < k) && decide ((rowAt k).name = l)) 28).getD 0
theorem opL_of (s : ByteArray) : opOf s = opL s.data.toList := by
  unfold opL opOf
  rw [show opHit s = fun k => decide (0 < k) && decide ((rowAt k).name = s.data.toList) from funext fun k => opHit_eq s k]
def sLoad : List UInt8 := [108, 111, 97, 100]
def sStore : List UInt8 := [115, 116, 111, 114, 101]
def opR (l : List UInt8) : Nat × Nat :=
  if l = sLoad ++ [49] then (17, 1) else if l = sLoad ++ [50] then (17, 2) else if l = sLoad ++ [52] then (17, 4) else
  if l = sStore ++ [49] then (18, 1) else if l = sStore ++ [50] then (18, 2) else if l = sStore ++ [52] then (18, 4) else
  if l = sLoad ∨ l = sStore then (0, 0) else (opL l, 0)
theorem opL_inv {l : List UInt8} {k : Nat} (h : opL l = k) (hk : k ≠ 0) : l = (rowAt k).name ∧ k < 28 := by
  unfold opL at h
  cases hf : first (fun k => decide (0 < k) && decide ((rowAt k).name = l)) 28 with
  | none => rw [hf] at h; exact absurd h.symm hk
  | some m =>
    rw [hf] at h
    obtain rfl : m = k := h
    unfold first at hf
    have h1 := List.mem_range.1 (List.mem_of_find?_eq_some hf)
    have h2 := List.find?_some hf
    simp at h2
    exact ⟨h2.2.symm, h1⟩
set_option maxRecDepth 100000
theorem opL_load : opL sLoad = 17 := by decide
theorem opL_store : opL sStore = 18 := by decide
theorem opR_other {l : List UInt8} (h0 : opL l ≠ 0) (h17 : opL l ≠ 17) (h18 : opL l ≠ 18) : opR l = (opL l, 0) := by
  unfold opR
  have n : ∀ p : List UInt8, opL p = 0 → l ≠ p := fun p hp e => h0 (by rw [e]; exact hp)
  rw [if_neg (n _ (by decide)), if_neg (n _ (by decide)), if_neg (n _ (by decide)), if_neg (n _ (by decide)), if_neg (n _ (by decide)), if_neg (n _ (by decide)), if_neg]
  rintro (e | e)
  · exact h17 (by rw [e]; exact opL_load)
  · exact h18 (by rw [e]; exact opL_store)
theorem opR_bare {l : List UInt8} (h : opL l = 17 ∨ opL l = 18) : opR l = (0, 0) := by
  rcases h with h | h
  · rw [(opL_inv h (by decide)).1]; decide
  · rw [(opL_inv h (by decide)).1]; decide
theorem opR_zero {l : List UInt8} (h : opL l = 0) (hn : ∀ p b, l = p ++ [b] → ¬ ((opL p = 17 ∨ opL p = 18) ∧ (b = 49 ∨ b = 50 ∨ b = 52))) : opR l = (0, 0) := by
  unfold opR
  have a1 : ∀ b : UInt8, (b = 49 ∨ b = 50 ∨ b = 52) → l ≠ sLoad ++ [b] := fun b hb e => hn _ _ e ⟨.inl opL_load, hb⟩
  have a2 : ∀ b : UInt8, (b = 49 ∨ b = 50 ∨ b = 52) → l ≠ sStore ++ [b] := fun b hb e => hn _ _ e ⟨.inr opL_store, hb⟩
  rw [if_neg (a1 49 (by decide)), if_neg (a1 50 (by decide)), if_neg (a1 52 (by decide)), if_neg (a2 49 (by decide)), if_neg (a2 50 (by decide)), if_neg (a2 52 (by decide)), h]
  split <;> rfl
theorem opR_sized {p : List UInt8} {b : UInt8} (hp : opL p = 17 ∨ opL p = 18) (hb : b = 49 ∨ b = 50 ∨ b = 52) : opR (p ++ [b]) = (opL p, b.toNat - 48) := by
  rcases hp with h | h <;> (rw [(opL_inv h (by decide)).1]; rcases hb with rfl | rfl | rfl <;> decide)
theorem opR_lt (l : List UInt8) : (opR l).1 < 28 ∧ (opR l).2 ≤ 4 := by
  unfold opR
  repeat' split
  all_goals first | (exact ⟨by decide, by decide⟩) | skip
  refine ⟨?_, Nat.zero_le _⟩
  show opL l < 28
  by_cases h : opL l = 0
  · omega
  · exact (opL_inv rfl h).2
def wordsN (op : Nat) : Nat := if op = 23 ∨ op = 25 then 2 else if op = 1 ∨ op = 17 ∨ op = 18 ∨ op = 19 ∨ op = 20 ∨ op = 21 ∨ op = 22 ∨ op = 24 ∨ op = 26 then 1 else 0
end Go.Proofs.YtdlpgoackmgdkaaGreatDoor
/- split, words, and the document's op, value. -/
namespace Go.Proofs.YtdlpgoackmgdkaaGreatDoor
open Go.Shelf Go.RowKit
set_option linter.unusedVariables false
set_option linter.unusedSimpArgs false
def opV (l : List UInt8) : Value := .tuple #[.int .u8 (((opR l).1 : Nat) : Int), .int .u8 (((opR l).2 : Nat) : Int)]
theorem opV_eq {l : List UInt8} {a b : Nat} (h : opR l = (a, b)) : opV l = .tuple #[.int .u8 ((a : Nat) : Int), .int .u8 ((b : Nat) : Int)] := by unfold opV; rw [h]
theorem snoc_of {s : ByteArray} (h : 0 < s.size) : ∃ p b, s.data.toList = p ++ [b] ∧ byteN s (s.size - 1) = b.toNat ∧ (cutS s (s.size - 1)).data.toList = p := by
  have hl := size_list s
  rw [← hl] at h
  obtain ⟨p, b, e⟩ : ∃ p b, s.data.toList = p ++ [b] := ⟨s.data.toList.dropLast, s.data.toList.getLast (by intro h'; rw [h'] at h; simp at h), (List.dropLast_concat_getLast _).symm⟩
  have hs : s.size - 1 = p.length := by rw [← hl, e, List.length_append]; simp
  refine ⟨p, b, e, ?_, ?_⟩
  · rw [hs]; unfold byteN; rw [e, List.getD_eq_getElem?_getD, List.getElem?_append_right (Nat.le_refl _)]; simp
  · rw [hs]; unfold cutS; rw [Lib.extract_data, e]; simp
set_option maxRecDepth 100000 in
set_option maxHeartbeats 1000000 in
theorem split_any (s : ByteArray) (w : World) (hs : s.size ≤ 281474976710656) : Calls Tryz.prog 108 #[.string s] w fun e w' => e = .returned (opV s.data.toList) ∧ Below w.heap.size w w' := by
  have HO := Lib.hid (op_any s w)
  rw [opL_of s] at HO
  have HR0 := Lib.hid (@opR_other s.data.toList)
  have HR1 := Lib.hid (@opR_bare s.data.toList)
  have HR2 := Lib.hid (@opR_zero s.data.toList)
  go_enter Tryz.func108, Tryz.ntmps108
  go_wp2_with fail
  refine HO.out.mono ?_
  rintro e w2 ⟨rfl, hb⟩
  have B2 := Lib.hid hb
  clear hb HO
  by_cases h0 : opL s.data.toList = 0
  case neg =>
    generalize hop : opL s.data.toList = op at *
    have t0 : ((op : Int) != 0) = true := bne_iff_ne.2 (by omega)
    by_cases h17 : op = 17
    · subst h17
      have HR := HR1.out (.inl rfl)
      clear HR0 HR1 HR2
      by_cases hz : s.size = 0
      · have te := empty_is hz
        go_wp2_with fail
        go_ret2
        exact ⟨by rw [opV_eq HR]; rfl, B2.out⟩
      · have te := empty_no (Nat.pos_of_ne_zero hz)
        go_wp2_with fail
        go_ret2
        exact ⟨by rw [opV_eq HR]; rfl, B2.out⟩
    have t17 : ((op : Int) != 17) = true := bne_iff_ne.2 (by omega)
    by_cases h18 : op = 18
    · subst h18
      have HR := HR1.out (.inr rfl)
      clear HR0 HR1 HR2
      by_cases hz : s.size = 0
      · have te := empty_is hz
        go_wp2_with fail
        go_ret2
        exact ⟨by rw [opV_eq HR]; rfl, B2.out⟩
      · have te := empty_no (Nat.pos_of_ne_zero hz)
        go_wp2_with fail
        go_ret2
        exact ⟨by rw [opV_eq HR]; rfl, B2.out⟩
    have t18 : ((op : Int) != 18) = true := bne_iff_ne.2 (by omega)
    have HR := HR0.out h0 h17 h18
    clear HR0 HR1 HR2
    go_wp2_with fail
    go_ret2
    exact ⟨by rw [opV_eq HR]; rfl, B2.out⟩
  case pos =>
  rw [h0]
  by_cases hz : s.size = 0
  · have te := empty_is hz
    have HR := HR2.out h0 (fun p b e => by have := size_list s; rw [e, hz] at this; simp at this)
    clear HR0 HR1 HR2
    go_wp2_with fail
    go_ret2
    exact ⟨by rw [opV_eq HR]; rfl, B2.out⟩
  have te := empty_no (Nat.pos_of_ne_zero hz)
  obtain ⟨p, b, e1, e2, e3⟩ := snoc_of (Nat.pos_of_ne_zero hz)
  have hi : ∀ W, (Instr.index 9 (.string s) (.int .i64 ((s.size : Int) - 1))).run Tryz.prog W = .ok (.int .u8 ((b.toNat : Nat) : Int)) W := fun W => by
    have := index_str s (s.size - 1) (by omega) 9 Tryz.underlying9 W
    rw [e2] at this
    rw [show ((s.size : Int) - 1) = ((s.size - 1 : Nat) : Int) by omega]; exact this
  have hc : ∀ W, (Instr.sliceAt 9 (.string s) none (some (.int .i64 ((s.size : Int) - 1))) none).run Tryz.prog W = .ok (.string (cutS s (s.size - 1))) W := fun W => by
    have := cut_run s (s.size - 1) (by omega) 9 Tryz.underlying9 W
    rw [show ((s.size : Int) - 1) = ((s.size - 1 : Nat) : Int) by omega]; exact this
  have HP := Lib.hid (fun W => op_any (cutS s (s.size - 1)) W)
  rw [opL_of, e3] at HP
  have HR3 : Hid ((opL p = 17 ∨ opL p = 18) → (b = 49 ∨ b = 50 ∨ b = 52) → opR s.data.toList = (opL p, b.toNat - 48)) := fun h1 h2 => by rw [e1]; exact opR_sized h1 h2
  have HR4 : Hid (¬ ((opL p = 17 ∨ opL p = 18) ∧ (b = 49 ∨ b = 50 ∨ b = 52)) → opR s.data.toList = (0, 0)) := fun h => HR2.out h0 (fun p' b' e => by
    rw [e1] at e
    obtain ⟨rfl, h2⟩ := List.append_inj' e rfl
    cases h2; exact h)
  have HB : ∀ k : Nat, k < 256 → (b.toNat = k ↔ b = UInt8.ofNat k) := fun k hk => ⟨fun h => by rw [← h]; simp, fun h => by rw [h]; simp; omega⟩
  have b49 := HB 49 (by decide); have b50 := HB 50 (by decide); have b52 := HB 52 (by decide)
  have hbl : b.toNat < 256 := UInt8.toNat_lt _
  generalize cutS s (s.size - 1) = cs at *
  clear e1 e2 e3 HR0 HR1 HR2 HB h0
  generalize hop : opL p = op at *
  go_wp2_with fail
  refine (HP.out _).mono ?_
  rintro e w3 ⟨rfl, hb⟩
  have B3 := Lib.hid (B2.out.trans (hb.mono B2.out.size))
  clear hb hc HP B2
  have hopl : op < 256 := by
    by_cases h : op = 0
    · omega
    · have := (opL_inv hop h).2; omega
  by_cases h1 : op = 17 ∨ op = 18
  case neg =>
    have HR := HR4.out (fun h => h1 h.1)
    have q1 : ((op : Int) != 17) = true := bne_iff_ne.2 (by omega)
    have q2 : ((op : Int) != 18) = true := bne_iff_ne.2 (by omega)
    clear HR3 HR4
    go_wp2_with fail
    go_ret2
    exact ⟨by rw [opV_eq HR]; rfl, B3.out⟩
  by_cases h2 : b = 49 ∨ b = 50 ∨ b = 52
  case neg =>
    have HR := HR4.out (fun h => h2 h.2)
    have q3 : ((b.toNat : Int) != 49) = true := bne_iff_ne.2 (fun h => h2 (.inl (b49.1 (by omega))))
    have q4 : ((b.toNat : Int) != 50) = true := bne_iff_ne.2 (fun h => h2 (.inr (.inl (b50.1 (by omega)))))
    have q5 : ((b.toNat : Int) != 52) = true := bne_iff_ne.2 (fun h => h2 (.inr (.inr (b52.1 (by omega)))))
    clear HR3 HR4 b49 b50 b52
    rcases h1 with rfl | rfl
    · skip
      go_wp2_with fail
      go_ret2
      exact ⟨by rw [opV_eq HR]; rfl, B3.out⟩
    · skip
      go_wp2_with fail
      go_ret2
      exact ⟨by rw [opV_eq HR]; rfl, B3.out⟩
  have HR := HR3.out h1 h2
  clear HR3 HR4 b49 b50 b52
  rcases h1 with rfl | rfl
  · rcases h2 with rfl | rfl | rfl
    · skip
      go_wp2_with fail
      go_ret2
      exact ⟨by rw [opV_eq HR]; rfl, B3.out⟩
    · skip
      go_wp2_with fail
      go_ret2
      exact ⟨by rw [opV_eq HR]; rfl, B3.out⟩
    · skip
      go_wp2_with fail
      go_ret2
      exact ⟨by rw [opV_eq HR]; rfl, B3.out⟩
  · rcases h2 with rfl | rfl | rfl
    · skip
      go_wp2_with fail
      go_ret2
      exact ⟨by rw [opV_eq HR]; rfl, B3.out⟩
    · skip
      go_wp2_with fail
      go_ret2
      exact ⟨by rw [opV_eq HR]; rfl, B3.out⟩
    · skip
      go_wp2_with fail
      go_ret2
      exact ⟨by rw [opV_eq HR]; rfl, B3.out⟩
end Go.Proofs.YtdlpgoackmgdkaaGreatDoor
/- words, and the document's op, value. -/
namespace Go.Proofs.YtdlpgoackmgdkaaGreatDoor
open Go.Shelf Go.RowKit
set_option linter.unusedVariables false
set_option linter.unusedSimpArgs false
set_option maxRecDepth 100000 in
theorem words_any (op : Nat) (w : World) : Calls Tryz.prog 109 #[.int .u8 (op : Int)] w fun e w' => e = .returned (.int .i64 ((wordsN op : Nat) : Int)) ∧ w' = w := by
  by_cases h23 : op = 23
  · subst h23
    go_enter Tryz.func109, Tryz.ntmps109
    go_wp2_with fail
    go_ret
    exact ⟨rfl, rfl⟩
  have t23 : ((op : Int) == 23) = false := beq_eq_false_iff_ne.2 (by omega)
  by_cases h25 : op = 25
  · subst h25
    go_enter Tryz.func109, Tryz.ntmps109
    go_wp2_with fail
    go_ret
    exact ⟨rfl, rfl⟩
  have t25 : ((op : Int) == 25) = false := beq_eq_false_iff_ne.2 (by omega)
  by_cases h1 : op = 1
  · subst h1
    go_enter Tryz.func109, Tryz.ntmps109
    go_wp2_with fail
    go_ret
    exact ⟨rfl, rfl⟩
  have t1 : ((op : Int) == 1) = false := beq_eq_false_iff_ne.2 (by omega)
  by_cases h17 : op = 17
  · subst h17
    go_enter Tryz.func109, Tryz.ntmps109
    go_wp2_with fail
    go_ret
    exact ⟨rfl, rfl⟩
  have t17 : ((op : Int) == 17) = false := beq_eq_false_iff_ne.2 (by omega)
  by_cases h18 : op = 18
  · subst h18
    go_enter Tryz.func109, Tryz.ntmps109
    go_wp2_with fail
    go_ret
    exact ⟨rfl, rfl⟩
  have t18 : ((op : Int) == 18) = false := beq_eq_false_iff_ne.2 (by omega)
  by_cases h19 : op = 19
  · subst h19
    go_enter Tryz.func109, Tryz.ntmps109
    go_wp2_with fail
    go_ret
    exact ⟨rfl, rfl⟩
  have t19 : ((op : Int) == 19) = false := beq_eq_false_iff_ne.2 (by omega)
  by_cases h20 : op = 20
  · subst h20
    go_enter Tryz.func109, Tryz.ntmps109
    go_wp2_with fail
    go_ret
    exact ⟨rfl, rfl⟩
  have t20 : ((op : Int) == 20) = false := beq_eq_false_iff_ne.2 (by omega)
  by_cases h21 : op = 21
  · subst h21
    go_enter Tryz.func109, Tryz.ntmps109
    go_wp2_with fail
    go_ret
    exact ⟨rfl, rfl⟩
  have t21 : ((op : Int) == 21) = false := beq_eq_false_iff_ne.2 (by omega)
  by_cases h22 : op = 22
  · subst h22
    go_enter Tryz.func109, Tryz.ntmps109
    go_wp2_with fail
    go_ret
    exact ⟨rfl, rfl⟩
  have t22 : ((op : Int) == 22) = false := beq_eq_false_iff_ne.2 (by omega)
  by_cases h24 : op = 24
  · subst h24
    go_enter Tryz.func109, Tryz.ntmps109
    go_wp2_with fail
    go_ret
    exact ⟨rfl, rfl⟩
  have t24 : ((op : Int) == 24) = false := beq_eq_false_iff_ne.2 (by omega)
  by_cases h26 : op = 26
  · subst h26
    go_enter Tryz.func109, Tryz.ntmps109
    go_wp2_with fail
    go_ret
    exact ⟨rfl, rfl⟩
  have t26 : ((op : Int) == 26) = false := beq_eq_false_iff_ne.2 (by omega)
  have e : wordsN op = 0 := by unfold wordsN; rw [if_neg (by omega), if_neg (by omega)]
  rw [e]
  go_enter Tryz.func109, Tryz.ntmps109
  go_wp2_with fail
  go_ret
  exact ⟨rfl, rfl⟩
end Go.Proofs.YtdlpgoackmgdkaaGreatDoor
/- A line's words, in plain words; the document's One. -/
namespace Go.Proofs.YtdlpgoackmgdkaaGreatDoor
open Go.Shelf Go.RowKit
set_option linter.unusedVariables false
set_option linter.unusedSimpArgs false
def eS : ByteArray := ⟨#[]⟩
def colonB (s : ByteArray) : Bool := Lib.hasSuffix s.data.toList [58]
def stripB (s : ByteArray) : ByteArray := ⟨(Lib.trimSuffix s.data.toList [58]).toArray⟩
def argS (lab : ByteArray) (o z : Nat) (v0 v1 : ByteArray) : Nat × AL :=
  if jumpB o && labelB v0 then (0, ⟨lab, ⟨o, z, 0, 0⟩, v0⟩) else
  if o = 1 ∨ (17 ≤ o ∧ o ≤ 20) then (match numL v0.data.toList with | some c => (0, ⟨lab, ⟨o, z, 0, c⟩, eS⟩) | none => (42, al0)) else
  match numL v0.data.toList with
  | none => (42, al0)
  | some a => if 15 < a then (42, al0) else
    if wordsN o = 2 then (match numL v1.data.toList with | some b => if 15 < b then (42, al0) else (0, ⟨lab, ⟨o, a, b, 0⟩, eS⟩) | none => (42, al0)) else (0, ⟨lab, ⟨o, a, 0, 0⟩, eS⟩)
def opS (lab : ByteArray) (o z : Nat) (vs : List ByteArray) : Nat × AL :=
  if o = 0 ∨ vs.length ≠ wordsN o then (100, al0) else
  if wordsN o = 0 then (0, ⟨lab, ⟨o, z, 0, 0⟩, eS⟩) else argS lab o z (vs.getD 0 eS) (vs.getD 1 eS)
def restS (lab : ByteArray) : List ByteArray → Nat × AL
  | [] => (100, al0)
  | n :: vs => opS lab (opR n.data.toList).1 (opR n.data.toList).2 vs
def lineS (ws : List ByteArray) : Nat × AL :=
  if colonB (ws.getD 0 eS) then (if labelB (stripB (ws.getD 0 eS)) then restS (stripB (ws.getD 0 eS)) ws.tail else (101, al0)) else restS eS ws
structure OutL (r : Nat × AL) (e : Ending) : Prop where
  at_ : ∃ x : AL, e = .returned (.tuple #[x.val, .int .i64 ((r.1 : Nat) : Int)]) ∧ (r.1 = 0 → x = r.2)
def strV (ws : List ByteArray) (i : Nat) : Value := .string (ws.getD i eS)
def Z6 : Array Value := #[.string ⟨#[]⟩, .int .u8 0, .int .u8 0, .int .u16 0, .int .u32 0, .string ⟨#[]⟩]
def set6 (w : World) (g : Nat) (a b c d e f : Value) : World := (((((w.setCell ⟨g, 0, none⟩ a).setCell ⟨g, 1, none⟩ b).setCell ⟨g, 2, none⟩ c).setCell ⟨g, 3, none⟩ d).setCell ⟨g, 4, none⟩ e).setCell ⟨g, 5, none⟩ f
theorem set6_heap {w : World} {g : Nat} {t : TypeId} {cur : Array Value} (h : w.heap[g]? = some (.cells cur t (0, 0))) (hl : cur.size = 6) (a b c d e f : Value) : (set6 w g a b c d e f).heap[g]? = some (.cells #[a, b, c, d, e, f] t (0, 0)) :=
  setCells_all [a, b, c, d, e, f] h hl.symm
theorem set6_below {B : Nat} {a w : World} (h : Below B a w) {g : Nat} (hg : B ≤ g) (v0 v1 v2 v3 v4 v5 : Value) : Below B a (set6 w g v0 v1 v2 v3 v4 v5) :=
  setCells_below h hg 0 [v0, v1, v2, v3, v4, v5]
theorem infoA : (Tryz.prog.info? 156).map (·.size) = some 6 := by kernel_rfl
theorem opS_bad {lab : ByteArray} {o z : Nat} {vs : List ByteArray} (h : o = 0 ∨ vs.length ≠ wordsN o) : opS lab o z vs = (100, al0) := by unfold opS; rw [if_pos h]
theorem opS_0 {lab : ByteArray} {o z : Nat} {vs : List ByteArray} (h0 : o ≠ 0) (hw : wordsN o = 0) (hl : vs.length = 0) : opS lab o z vs = (0, ⟨lab, ⟨o, z, 0, 0⟩, eS⟩) := by
  unfold opS; rw [if_neg (by rw [hw]; omega), if_pos hw]
theorem opS_arg {lab : ByteArray} {o z : Nat} {vs : List ByteArray} (h0 : o ≠ 0) (hw : wordsN o ≠ 0) (hl : vs.length = wordsN o) : opS lab o z vs = argS lab o z (vs.getD 0 eS) (vs.getD 1 eS) := by
  unfold opS; rw [if_neg (by omega), if_neg hw]
theorem op_class (o : Nat) (h : o < 28) : o = 0 ∨ (2 ≤ o ∧ o ≤ 16) ∨ o = 27 ∨ o = 23 ∨ o = 25 ∨ o = 1 ∨ o = 17 ∨ o = 18 ∨ o = 19 ∨ o = 20 ∨ o = 21 ∨ o = 22 ∨ o = 24 ∨ o = 26 := by omega
theorem getD_tail (ws : List ByteArray) (i : Nat) : ws.tail.getD i eS = ws.getD (i + 1) eS := by cases ws <;> rfl
theorem tail_at {w : World} {b off : Nat} {ws : List ByteArray} (h : SliceAt w (some ⟨b, off, none⟩) ws.length (strV ws)) : SliceAt w (some ⟨b, off + 1, none⟩) (ws.length - 1) (strV ws.tail) :=
  (h.drop 1).congr fun i _ => by show strV ws (1 + i) = strV ws.tail i; unfold strV; rw [getD_tail, Nat.add_comm]
theorem tail_size {ws : List ByteArray} (h : ∀ i, i < ws.length → 0 < (ws.getD i eS).size ∧ (ws.getD i eS).size ≤ 1000000) : ∀ i, i < ws.tail.length → 0 < (ws.tail.getD i eS).size ∧ (ws.tail.getD i eS).size ≤ 1000000 := fun i hi => by
  rw [List.length_tail] at hi
  rw [getD_tail]; exact h (i + 1) (by omega)
theorem eS_empty : eS.toList.isEmpty = true := by rw [ByteArray.toList_eq]; rfl
/-- What stands behind the label's if. -/
structure OneR (w : World) (g : Nat) (ws : List ByteArray) (W : World) (a : Option Addr) (n c : Nat) (lab : ByteArray) (vs : List ByteArray) : Prop where
  len : n = vs.length
  sl : SliceAt w a n (strV vs)
  cap : n ≤ c ∧ c ≤ maxLen
  eq : lineS ws = restS lab vs
  sz : ∀ i, i < vs.length → 0 < (vs.getD i eS).size ∧ (vs.getD i eS).size ≤ 1000000
  lsz : lab.size ≤ 1000000
  lok : lab.toList.isEmpty = true ∨ labelB lab = true
  gx : W.heap[g + 1]? = some (.cells #[.string lab, .int .u8 0, .int .u8 0, .int .u16 0, .int .u32 0, .string ⟨#[]⟩] 156 (0, 0))
  gr : W.heap[g]? = some (.cells #[.string ⟨#[]⟩, .int .u8 0, .int .u8 0, .int .u16 0, .int .u32 0, .string ⟨#[]⟩] 156 (0, 0))
  b : Below g w W
end Go.Proofs.YtdlpgoackmgdkaaGreatDoor
