/- Lines: how they lie; May, and the document's. -/
import Derived.Test.YtalmgjeiopjhlaaGreatDoorAsmAB
namespace Go.Proofs.YtalmgjeiopjhlaaGreatDoor
open Go.Shelf Go.RowKit
set_option linter.unusedVariables false
set_option linter.unusedSimpArgs false
structure AL where
  lab : ByteArray
  i : Ins
  tgt : ByteArray
structure AL.ok (x : AL) : Prop where
  i : x.i.ok
  lab : x.lab.size ≤ 9223372036854775807
  tgt : x.tgt.size ≤ 9223372036854775807
def AL.cells (x : AL) : Array Value := #[.string x.lab, .int .u8 (x.i.op : Int), .int .u8 (x.i.a : Int), .int .u16 (x.i.b : Int), .int .u32 (x.i.c : Int), .string x.tgt]
def AL.val (x : AL) : Value := .agg x.cells
def AL.may (x : AL) : Bool := (x.lab.toList.isEmpty || labelB x.lab) && x.i.may && (x.tgt.toList.isEmpty || labelB x.tgt && jumpB x.i.op && decide (x.i.c = 0))
set_option maxRecDepth 100000 in
set_option maxHeartbeats 1000000 in
theorem alm_any (x : AL) (w : World) (h : x.ok) : Calls Tryz.prog 12 #[x.val] w fun e w' => e = .returned (.bool x.may) ∧ Below w.heap.size w w' := by
  have HL : Hid (∀ W : World, Calls Tryz.prog 26 #[.string x.lab] W fun e w' => e = .returned (.bool (labelB x.lab)) ∧ Below W.heap.size W w') := fun W => label_any x.lab W h.lab
  have HT : Hid (∀ W : World, Calls Tryz.prog 26 #[.string x.tgt] W fun e w' => e = .returned (.bool (labelB x.tgt)) ∧ Below W.heap.size W w') := fun W => label_any x.tgt W h.tgt
  have HM : Hid (∀ W : World, Calls Tryz.prog 27 #[.agg #[.int .u8 (x.i.op : Int), .int .u8 (x.i.a : Int), .int .u16 (x.i.b : Int), .int .u32 (x.i.c : Int)]] W fun e w' => e = .returned (.bool x.i.may) ∧ Below W.heap.size W w') := fun W => may_any x.i W h.i
  have HJ : Hid (∀ W : World, Calls Tryz.prog 28 #[.int .u8 (x.i.op : Int)] W fun e w' => e = .returned (.bool (jumpB x.i.op)) ∧ w' = W) := fun W => jumps_any x.i.op W
  have tc : ((x.i.c : Int) == 0) = decide (x.i.c = 0) := by by_cases hc : x.i.c = 0 <;> simp [hc]
  unfold AL.val AL.may AL.cells
  generalize htl : x.lab.toList.isEmpty = lE at *
  generalize htt : x.tgt.toList.isEmpty = tE at *
  generalize labelB x.lab = lB at *
  generalize labelB x.tgt = tB at *
  generalize x.i.may = mB at *
  generalize jumpB x.i.op = jB at *
  generalize decide (x.i.c = 0) = cB at *
  obtain ⟨lab, ⟨op, a, b, c⟩, to_⟩ := x
  simp only at *
  clear h
  have G0 : Hid ((w.alloc (.cells #[.string lab, .int .u8 (op : Int), .int .u8 (a : Int), .int .u16 (b : Int), .int .u32 (c : Int), .string to_] 34)).heap[w.heap.size]? = some (.cells #[.string lab, .int .u8 (op : Int), .int .u8 (a : Int), .int .u16 (b : Int), .int .u32 (c : Int), .string to_] 34 (0, 0))) := heap_alloc_new _ _
  have B0 : Hid (Below w.heap.size w (w.alloc (.cells #[.string lab, .int .u8 (op : Int), .int .u8 (a : Int), .int .u16 (b : Int), .int .u32 (c : Int), .string to_] 34))) := alloc_below _ _
  go_enter Tryz.func12, Tryz.ntmps12
  have c0 := cell_row (j := 0) G0.out rfl
  have c1 := cell_row (j := 1) G0.out rfl
  have c2 := cell_row (j := 2) G0.out rfl
  have c3 := cell_row (j := 3) G0.out rfl
  have c4 := cell_row (j := 4) G0.out rfl
  have c5 := cell_row (j := 5) G0.out rfl
  cases lE with
  | true =>
    go_wp2_with fail
    refine (HM.out _).mono ?_
    rintro e w1 ⟨rfl, hb⟩
    have G1 := Lib.hid (kept G0.out hb)
    have B1 : Hid (Below w.heap.size w w1) := B0.out.trans (hb.mono (Nat.le_of_lt (heap_lt G0.out)))
    clear hb G0 B0 c0 c1 c2 c3 c4 c5
    have c0 := cell_row (j := 0) G1.out rfl
    have c1 := cell_row (j := 1) G1.out rfl
    have c2 := cell_row (j := 2) G1.out rfl
    have c3 := cell_row (j := 3) G1.out rfl
    have c4 := cell_row (j := 4) G1.out rfl
    have c5 := cell_row (j := 5) G1.out rfl
    cases mB with
    | false =>
      go_wp2_with fail
      go_ret
      exact ⟨rfl, B1.out⟩
    | true =>
      cases tE with
      | true =>
        go_wp2_with fail
        go_ret
        exact ⟨rfl, B1.out⟩
      | false =>
        go_wp2_with fail
        refine (HT.out _).mono ?_
        rintro e w2 ⟨rfl, hb⟩
        have G2 := Lib.hid (kept G1.out hb)
        have B2 : Hid (Below w.heap.size w w2) := B1.out.trans (hb.mono (Nat.le_of_lt (heap_lt G1.out)))
        clear hb G1 B1 c0 c1 c2 c3 c4 c5
        have c0 := cell_row (j := 0) G2.out rfl
        have c1 := cell_row (j := 1) G2.out rfl
        have c2 := cell_row (j := 2) G2.out rfl
        have c3 := cell_row (j := 3) G2.out rfl
        have c4 := cell_row (j := 4) G2.out rfl
        have c5 := cell_row (j := 5) G2.out rfl
        cases tB with
        | false =>
          go_wp2_with fail
          go_ret
          exact ⟨rfl, B2.out⟩
        | true =>
          go_wp2_with fail
          refine (HJ.out _).mono ?_
          rintro e w' ⟨rfl, rfl⟩
          cases jB with
          | false =>
            go_wp2_with fail
            go_ret
            exact ⟨rfl, B2.out⟩
          | true =>
            cases cB with
            | false =>
              go_wp2_with fail
              go_ret
              exact ⟨rfl, B2.out⟩
            | true =>
              go_wp2_with fail
              go_ret
              exact ⟨rfl, B2.out⟩
  | false =>
    go_wp2_with fail
    refine (HL.out _).mono ?_
    rintro e w1 ⟨rfl, hb⟩
    have G1 := Lib.hid (kept G0.out hb)
    have B1 : Hid (Below w.heap.size w w1) := B0.out.trans (hb.mono (Nat.le_of_lt (heap_lt G0.out)))
    clear hb G0 B0 c0 c1 c2 c3 c4 c5
    have c0 := cell_row (j := 0) G1.out rfl
    have c1 := cell_row (j := 1) G1.out rfl
    have c2 := cell_row (j := 2) G1.out rfl
    have c3 := cell_row (j := 3) G1.out rfl
    have c4 := cell_row (j := 4) G1.out rfl
    have c5 := cell_row (j := 5) G1.out rfl
    cases lB with
    | false =>
      go_wp2_with fail
      go_ret
      exact ⟨rfl, B1.out⟩
    | true =>
      go_wp2_with fail
      refine (HM.out _).mono ?_
      rintro e w2 ⟨rfl, hb⟩
      have G2 := Lib.hid (kept G1.out hb)
      have B2 : Hid (Below w.heap.size w w2) := B1.out.trans (hb.mono (Nat.le_of_lt (heap_lt G1.out)))
      clear hb G1 B1 c0 c1 c2 c3 c4 c5
      have c0 := cell_row (j := 0) G2.out rfl
      have c1 := cell_row (j := 1) G2.out rfl
      have c2 := cell_row (j := 2) G2.out rfl
      have c3 := cell_row (j := 3) G2.out rfl
      have c4 := cell_row (j := 4) G2.out rfl
      have c5 := cell_row (j := 5) G2.out rfl
      cases mB with
      | false =>
        go_wp2_with fail
        go_ret
        exact ⟨rfl, B2.out⟩
      | true =>
        cases tE with
        | true =>
          go_wp2_with fail
          go_ret
          exact ⟨rfl, B2.out⟩
        | false =>
          go_wp2_with fail
          refine (HT.out _).mono ?_
          rintro e w3 ⟨rfl, hb⟩
          have G3 := Lib.hid (kept G2.out hb)
          have B3 : Hid (Below w.heap.size w w3) := B2.out.trans (hb.mono (Nat.le_of_lt (heap_lt G2.out)))
          clear hb G2 B2 c0 c1 c2 c3 c4 c5
          have c0 := cell_row (j := 0) G3.out rfl
          have c1 := cell_row (j := 1) G3.out rfl
          have c2 := cell_row (j := 2) G3.out rfl
          have c3 := cell_row (j := 3) G3.out rfl
          have c4 := cell_row (j := 4) G3.out rfl
          have c5 := cell_row (j := 5) G3.out rfl
          cases tB with
          | false =>
            go_wp2_with fail
            go_ret
            exact ⟨rfl, B3.out⟩
          | true =>
            go_wp2_with fail
            refine (HJ.out _).mono ?_
            rintro e w' ⟨rfl, rfl⟩
            cases jB with
            | false =>
              go_wp2_with fail
              go_ret
              exact ⟨rfl, B3.out⟩
            | true =>
              cases cB with
              | false =>
                go_wp2_with fail
                go_ret
                exact ⟨rfl, B3.out⟩
              | true =>
                go_wp2_with fail
                go_ret
                exact ⟨rfl, B3.out⟩
theorem rjumps_any (op : Nat) (w : World) : Calls Tryz.prog 31 #[.int .u8 (op : Int)] w fun e w' => e = .returned (.bool (jumpB op)) ∧ w' = w := by
  by_cases h19 : op = 19
  · subst h19
    rw [show jumpB 19 = true from rfl]
    go_enter Tryz.func31, Tryz.ntmps31
    go_wp2_with fail
    go_ret
    exact ⟨rfl, rfl⟩
  · have q19 : ((op : Int) == 19) = false := by simp; omega
    have e : jumpB op = ((op : Int) == 20) := by unfold jumpB; rw [beq_eq_false_iff_ne.2 h19, Bool.false_or]; exact Bool.eq_iff_iff.2 (by simp; omega)
    rw [e]
    clear e h19
    go_enter Tryz.func31, Tryz.ntmps31
    go_wp2_with fail
    go_ret
    exact ⟨by first | rfl | simp, rfl⟩
theorem rlabel_b (s : ByteArray) (w : World) (hs : s.size ≤ 9223372036854775807) : Calls Tryz.prog 29 #[.string s] w fun e w' => e = .returned (.bool (labelB s)) ∧ Below w.heap.size w w' :=
  (rlabel_any s w hs).mono fun e w' h => ⟨h.1, h.2 ▸ Below.refl _ _⟩
set_option maxRecDepth 100000 in
set_option maxHeartbeats 1000000 in
theorem ralm_any (x : AL) (w : World) (h : x.ok) : Calls Tryz.prog 13 #[x.val] w fun e w' => e = .returned (.bool x.may) ∧ Below w.heap.size w w' := by
  have HL : Hid (∀ W : World, Calls Tryz.prog 29 #[.string x.lab] W fun e w' => e = .returned (.bool (labelB x.lab)) ∧ Below W.heap.size W w') := fun W => rlabel_b x.lab W h.lab
  have HT : Hid (∀ W : World, Calls Tryz.prog 29 #[.string x.tgt] W fun e w' => e = .returned (.bool (labelB x.tgt)) ∧ Below W.heap.size W w') := fun W => rlabel_b x.tgt W h.tgt
  have HM : Hid (∀ W : World, Calls Tryz.prog 30 #[.agg #[.int .u8 (x.i.op : Int), .int .u8 (x.i.a : Int), .int .u16 (x.i.b : Int), .int .u32 (x.i.c : Int)]] W fun e w' => e = .returned (.bool x.i.may) ∧ Below W.heap.size W w') := fun W => rmay_any x.i W h.i
  have HJ : Hid (∀ W : World, Calls Tryz.prog 31 #[.int .u8 (x.i.op : Int)] W fun e w' => e = .returned (.bool (jumpB x.i.op)) ∧ w' = W) := fun W => rjumps_any x.i.op W
  have tc : ((x.i.c : Int) == 0) = decide (x.i.c = 0) := by by_cases hc : x.i.c = 0 <;> simp [hc]
  unfold AL.val AL.may AL.cells
  generalize htl : x.lab.toList.isEmpty = lE at *
  generalize htt : x.tgt.toList.isEmpty = tE at *
  generalize labelB x.lab = lB at *
  generalize labelB x.tgt = tB at *
  generalize x.i.may = mB at *
  generalize jumpB x.i.op = jB at *
  generalize decide (x.i.c = 0) = cB at *
  obtain ⟨lab, ⟨op, a, b, c⟩, to_⟩ := x
  simp only at *
  clear h
  have G0 : Hid ((w.alloc (.cells #[.string lab, .int .u8 (op : Int), .int .u8 (a : Int), .int .u16 (b : Int), .int .u32 (c : Int), .string to_] 34)).heap[w.heap.size]? = some (.cells #[.string lab, .int .u8 (op : Int), .int .u8 (a : Int), .int .u16 (b : Int), .int .u32 (c : Int), .string to_] 34 (0, 0))) := heap_alloc_new _ _
  have B0 : Hid (Below w.heap.size w (w.alloc (.cells #[.string lab, .int .u8 (op : Int), .int .u8 (a : Int), .int .u16 (b : Int), .int .u32 (c : Int), .string to_] 34))) := alloc_below _ _
  go_enter Tryz.func13, Tryz.ntmps13
  have c0 := cell_row (j := 0) G0.out rfl
  have c1 := cell_row (j := 1) G0.out rfl
  have c2 := cell_row (j := 2) G0.out rfl
  have c3 := cell_row (j := 3) G0.out rfl
  have c4 := cell_row (j := 4) G0.out rfl
  have c5 := cell_row (j := 5) G0.out rfl
  cases lE with
  | true =>
    go_wp2_with fail
    refine (HM.out _).mono ?_
    rintro e w1 ⟨rfl, hb⟩
    have G1 := Lib.hid (kept G0.out hb)
    have B1 : Hid (Below w.heap.size w w1) := B0.out.trans (hb.mono (Nat.le_of_lt (heap_lt G0.out)))
    clear hb G0 B0 c0 c1 c2 c3 c4 c5
    have c0 := cell_row (j := 0) G1.out rfl
    have c1 := cell_row (j := 1) G1.out rfl
    have c2 := cell_row (j := 2) G1.out rfl
    have c3 := cell_row (j := 3) G1.out rfl
    have c4 := cell_row (j := 4) G1.out rfl
    have c5 := cell_row (j := 5) G1.out rfl
    cases mB with
    | false =>
      go_wp2_with fail
      go_ret
      exact ⟨rfl, B1.out⟩
    | true =>
      cases tE with
      | true =>
        go_wp2_with fail
        go_ret
        exact ⟨rfl, B1.out⟩
      | false =>
        go_wp2_with fail
        refine (HT.out _).mono ?_
        rintro e w2 ⟨rfl, hb⟩
        have G2 := Lib.hid (kept G1.out hb)
        have B2 : Hid (Below w.heap.size w w2) := B1.out.trans (hb.mono (Nat.le_of_lt (heap_lt G1.out)))
        clear hb G1 B1 c0 c1 c2 c3 c4 c5
        have c0 := cell_row (j := 0) G2.out rfl
        have c1 := cell_row (j := 1) G2.out rfl
        have c2 := cell_row (j := 2) G2.out rfl
        have c3 := cell_row (j := 3) G2.out rfl
        have c4 := cell_row (j := 4) G2.out rfl
        have c5 := cell_row (j := 5) G2.out rfl
        cases tB with
        | false =>
          go_wp2_with fail
          go_ret
          exact ⟨rfl, B2.out⟩
        | true =>
          go_wp2_with fail
          refine (HJ.out _).mono ?_
          rintro e w' ⟨rfl, rfl⟩
          cases jB with
          | false =>
            go_wp2_with fail
            go_ret
            exact ⟨rfl, B2.out⟩
          | true =>
            cases cB with
            | false =>
              go_wp2_with fail
              go_ret
              exact ⟨rfl, B2.out⟩
            | true =>
              go_wp2_with fail
              go_ret
              exact ⟨rfl, B2.out⟩
  | false =>
    go_wp2_with fail
    refine (HL.out _).mono ?_
    rintro e w1 ⟨rfl, hb⟩
    have G1 := Lib.hid (kept G0.out hb)
    have B1 : Hid (Below w.heap.size w w1) := B0.out.trans (hb.mono (Nat.le_of_lt (heap_lt G0.out)))
    clear hb G0 B0 c0 c1 c2 c3 c4 c5
    have c0 := cell_row (j := 0) G1.out rfl
    have c1 := cell_row (j := 1) G1.out rfl
    have c2 := cell_row (j := 2) G1.out rfl
    have c3 := cell_row (j := 3) G1.out rfl
    have c4 := cell_row (j := 4) G1.out rfl
    have c5 := cell_row (j := 5) G1.out rfl
    cases lB with
    | false =>
      go_wp2_with fail
      go_ret
      exact ⟨rfl, B1.out⟩
    | true =>
      go_wp2_with fail
      refine (HM.out _).mono ?_
      rintro e w2 ⟨rfl, hb⟩
      have G2 := Lib.hid (kept G1.out hb)
      have B2 : Hid (Below w.heap.size w w2) := B1.out.trans (hb.mono (Nat.le_of_lt (heap_lt G1.out)))
      clear hb G1 B1 c0 c1 c2 c3 c4 c5
      have c0 := cell_row (j := 0) G2.out rfl
      have c1 := cell_row (j := 1) G2.out rfl
      have c2 := cell_row (j := 2) G2.out rfl
      have c3 := cell_row (j := 3) G2.out rfl
      have c4 := cell_row (j := 4) G2.out rfl
      have c5 := cell_row (j := 5) G2.out rfl
      cases mB with
      | false =>
        go_wp2_with fail
        go_ret
        exact ⟨rfl, B2.out⟩
      | true =>
        cases tE with
        | true =>
          go_wp2_with fail
          go_ret
          exact ⟨rfl, B2.out⟩
        | false =>
          go_wp2_with fail
          refine (HT.out _).mono ?_
          rintro e w3 ⟨rfl, hb⟩
          have G3 := Lib.hid (kept G2.out hb)
          have B3 : Hid (Below w.heap.size w w3) := B2.out.trans (hb.mono (Nat.le_of_lt (heap_lt G2.out)))
          clear hb G2 B2 c0 c1 c2 c3 c4 c5
          have c0 := cell_row (j := 0) G3.out rfl
          have c1 := cell_row (j := 1) G3.out rfl
          have c2 := cell_row (j := 2) G3.out rfl
          have c3 := cell_row (j := 3) G3.out rfl
          have c4 := cell_row (j := 4) G3.out rfl
          have c5 := cell_row (j := 5) G3.out rfl
          cases tB with
          | false =>
            go_wp2_with fail
            go_ret
            exact ⟨rfl, B3.out⟩
          | true =>
            go_wp2_with fail
            refine (HJ.out _).mono ?_
            rintro e w' ⟨rfl, rfl⟩
            cases jB with
            | false =>
              go_wp2_with fail
              go_ret
              exact ⟨rfl, B3.out⟩
            | true =>
              cases cB with
              | false =>
                go_wp2_with fail
                go_ret
                exact ⟨rfl, B3.out⟩
              | true =>
                go_wp2_with fail
                go_ret
                exact ⟨rfl, B3.out⟩
end Go.Proofs.YtalmgjeiopjhlaaGreatDoor
/- Rows of lines and of instructions; find. -/
namespace Go.Proofs.YtalmgjeiopjhlaaGreatDoor
open Go.Shelf Go.RowKit
set_option linter.unusedVariables false
set_option linter.unusedSimpArgs false
theorem flat_len {α : Type} {f : α → List Value} {sz : Nat} (hf : ∀ x, (f x).length = sz) : ∀ ls : List α, (ls.flatMap f).length = ls.length * sz
  | [] => by simp
  | x :: ls => by rw [List.flatMap_cons, List.length_append, hf, flat_len hf ls, List.length_cons, Nat.succ_mul]; omega
theorem flat_get {α : Type} {f : α → List Value} {sz : Nat} (hf : ∀ x, (f x).length = sz) (d : α) : ∀ (ls : List α) (i j : Nat), i < ls.length → j < sz → (ls.flatMap f)[i * sz + j]? = some ((f (ls.getD i d)).getD j undef)
  | [], i, j, hi, _ => by simp at hi
  | x :: ls, i, j, hi, hj => by
    rw [List.flatMap_cons]
    cases i with
    | zero =>
      rw [Nat.zero_mul, Nat.zero_add, List.getElem?_append_left (by rw [hf]; exact hj)]
      show _ = some ((f x).getD j undef)
      rw [List.getD_eq_getElem?_getD, List.getElem?_eq_getElem (by rw [hf]; exact hj)]; rfl
    | succ i =>
      rw [List.getElem?_append_right (by rw [hf, Nat.succ_mul]; omega), hf]
      have e : (i + 1) * sz + j - sz = i * sz + j := by rw [Nat.succ_mul]; omega
      rw [e]
      exact flat_get hf d ls i j (by simpa using hi) hj
theorem slice_of_own {α : Type} {f : α → List Value} {sz : Nat} (hf : ∀ x, (f x).length = sz) (d : α) {w : World} {base : Nat} {e : TypeId} {v : Value} {ls : List α} (h : w.ownsRow base e sz v ls.length (ls.flatMap f)) :
    ∃ a c, v = .slice a ls.length c ∧ ls.length ≤ c ∧ c ≤ maxLen ∧ SliceN w a ls.length sz (fun i j => (f (ls.getD i d)).getD j undef) := by
  rcases h.2 with ⟨rfl, h0⟩ | ⟨g, cap, cur, rfl, hb, hg, hn, hm, hs, htk⟩
  · rw [h0]
    exact ⟨none, 0, rfl, Nat.le_refl _, by unfold maxLen; omega, .inl rfl⟩
  · refine ⟨_, cap, rfl, hn, hm, .inr ⟨g, 0, rfl, heap_lt hg, fun i hi j hj => ?_⟩⟩
    have hlt : i * sz + j < ls.length * sz := by
      have : (i + 1) * sz ≤ ls.length * sz := Nat.mul_le_mul_right _ hi
      rw [Nat.succ_mul] at this; omega
    have e := flat_get hf d ls i j hi hj
    rw [← htk, List.getElem?_take, if_pos (by omega)] at e
    rw [Nat.zero_add]
    exact cell_row hg (by simpa using e)
def insC (i : Ins) : List Value := [.int .u8 (i.op : Int), .int .u8 (i.a : Int), .int .u16 (i.b : Int), .int .u32 (i.c : Int)]
def alC (x : AL) : List Value := [.string x.lab, .int .u8 (x.i.op : Int), .int .u8 (x.i.a : Int), .int .u16 (x.i.b : Int), .int .u32 (x.i.c : Int), .string x.tgt]
def al0 : AL := ⟨⟨#[]⟩, noIns, ⟨#[]⟩⟩
def insV (ls : List Ins) (i j : Nat) : Value := (insC (ls.getD i noIns)).getD j undef
def alV (ls : List AL) (i j : Nat) : Value := (alC (ls.getD i al0)).getD j undef
def InsAt (w : World) (a : Option Addr) (ls : List Ins) : Prop := SliceN w a ls.length 4 (insV ls)
def AlsAt (w : World) (a : Option Addr) (ls : List AL) : Prop := SliceN w a ls.length 6 (alV ls)
def insVs (ls : List Ins) : List Value := ls.flatMap insC
def alVs (ls : List AL) : List Value := ls.flatMap alC
theorem InsAt.below {w w' : World} {a : Option Addr} {ls : List Ins} (h : InsAt w a ls) (hb : Below w.heap.size w w') : InsAt w' a ls := SliceN.below h hb
theorem AlsAt.below {w w' : World} {a : Option Addr} {ls : List AL} (h : AlsAt w a ls) (hb : Below w.heap.size w w') : AlsAt w' a ls := SliceN.below h hb
theorem ins_of_own {w : World} {base : Nat} {v : Value} {ls : List Ins} (h : w.ownsRow base 32 4 v ls.length (insVs ls)) : ∃ a c, v = .slice a ls.length c ∧ ls.length ≤ c ∧ c ≤ maxLen ∧ InsAt w a ls := slice_of_own (f := insC) (sz := 4) (fun _ => rfl) noIns h
theorem als_of_own {w : World} {base : Nat} {v : Value} {ls : List AL} (h : w.ownsRow base 34 6 v ls.length (alVs ls)) : ∃ a c, v = .slice a ls.length c ∧ ls.length ≤ c ∧ c ≤ maxLen ∧ AlsAt w a ls := slice_of_own (f := alC) (sz := 6) (fun _ => rfl) al0 h
theorem AlsAt.at {w : World} {a : Option Addr} {ls : List AL} (h : AlsAt w a ls) (hp : 0 < ls.length) : ∃ b off, a = some ⟨b, off, none⟩ ∧ b < w.heap.size ∧ ∀ i, i < ls.length → ∀ j, j < 6 → w.cell? ⟨b, off + i * 6 + j, none⟩ = some (alV ls i j) := SliceN.at h hp
theorem InsAt.at {w : World} {a : Option Addr} {ls : List Ins} (h : InsAt w a ls) (hp : 0 < ls.length) : ∃ b off, a = some ⟨b, off, none⟩ ∧ b < w.heap.size ∧ ∀ i, i < ls.length → ∀ j, j < 4 → w.cell? ⟨b, off + i * 4 + j, none⟩ = some (insV ls i j) := SliceN.at h hp
def hitL (ls : List AL) (s : ByteArray) (i : Nat) : Bool := (ls.getD i al0).lab.toList == s.toList
def findO (ls : List AL) (s : ByteArray) : Option Nat := first (hitL ls s) ls.length
def findI (ls : List AL) (s : ByteArray) : Int := match findO ls s with | some k => (k : Int) | none => -1
set_option maxRecDepth 100000 in
theorem find_any (ls : List AL) (a : Option Addr) (c : Nat) (s : ByteArray) (w : World) (hA : AlsAt w a ls) (hm : ls.length ≤ 9223372036854775807) : Calls Tryz.prog 25 #[.slice a ls.length c, .string s] w fun e w' => e = .returned (.int .i64 (findI ls s)) ∧ w' = w := by
  have HA := Lib.hid hA
  clear hA
  generalize hn : ls.length = n at *
  go_enter Tryz.func25, Tryz.ntmps25
  go_wp2_with fail
  go_loopw [5] (fun i wr => ∃ k : Nat, k ≤ n ∧ i = .int .i64 (k : Int) ∧ wr = w ∧ Hid (∀ j, j < k → hitL ls s j = false)) (fun i _ => n - (intOf i).toNat)
  case atStart => exact ⟨0, Nat.zero_le _, rfl, rfl, fun j hj => absurd hj (by omega)⟩
  case round =>
    obtain ⟨k, hk, rfl, rfl, HS⟩ := hrel
    rcases Nat.lt_or_ge k n with hk2 | hk2
    case inr =>
      obtain rfl : k = n := by omega
      have t2 : decide ((k : Int) < (k : Int)) = false := by simp
      have HL : findI ls s = -1 := by unfold findI findO; rw [hn, first_none HS.out]
      clear HS HA
      go_wp2_with fail
      go_ret
      exact ⟨by rw [HL]; rfl, rfl⟩
    have t2 : decide ((k : Int) < (n : Int)) = true := decide_eq_true (by omega)
    obtain ⟨b, off, rfl, hb, hc⟩ := HA.out.at (by omega)
    have c0 : wr.cell? ⟨b, off + k * 6, none⟩ = some (.string (ls.getD k al0).lab) := hc k (by omega) 0 (by omega)
    clear hc
    cases hh : hitL ls s k with
    | true =>
      have HL : findI ls s = (k : Int) := by unfold findI findO; rw [hn, first_some hk2 hh HS.out]
      unfold hitL at hh
      generalize (ls.getD k al0).lab = lb at *
      clear HS HA
      go_wp2_with fail
      go_ret
      exact ⟨by rw [HL]; rfl, rfl⟩
    | false =>
      have HS' : Hid (∀ j, j < k + 1 → hitL ls s j = false) := fun j hj => by rcases Nat.lt_succ_iff_lt_or_eq.1 hj with h | rfl <;> first | exact HS.out _ h | exact hh
      unfold hitL at hh
      generalize (ls.getD k al0).lab = lb at *
      clear HS HA
      go_wp2_with fail
      refine ⟨⟨k + 1, by omega, by go_num, True.intro, HS'⟩, ?_⟩
      simp [intOf]; omega
end Go.Proofs.YtalmgjeiopjhlaaGreatDoor
