/- meets. Printed by gen_tabm.py. -/
import Derived.Test.YtpodedhnlicckaaGreatDoorTabF
namespace Go.Proofs.YtpodedhnlicckaaGreatDoor
open Go.RowKit
set_option linter.unusedVariables false
set_option linter.unusedSimpArgs false
/-- What the function handed in answers, of the two lists' elements. -/
def Same_int_int (g : Nat) (lb : Array Value) (q : Int → Int → Bool) (la : List Int) (l : List Int) (w : World) : Prop :=
  ∀ i, i < la.length → ∀ j, j < l.length → ∀ W, Below w.heap.size w W → Calls Tryz.prog g (#[.int .i64 (la.getD i 0), .int .i64 (l.getD j 0)] ++ lb) W fun e w' => e = .returned (.bool (q (la.getD i 0) (l.getD j 0))) ∧ Below W.heap.size W w'
theorem m11_int_int (x : Int) (y : Int) (g : Nat) (lb : Array Value) (r : Bool) (bs bx : Nat) (w : World) (eg : ∀ args w, (callFunc g args).run Tryz.prog w = .ok (.enter g args) w) (hs : w.heap[bs]? = some (.cells #[.func (.func g) #[] lb] 101 (0, 0))) (hx : w.heap[bx]? = some (.cells #[.int .i64 x] 3 (0, 0)))
    (hc : ∀ W, Below w.heap.size w W → Calls Tryz.prog g (#[.int .i64 x, .int .i64 y] ++ lb) W fun e w' => e = .returned (.bool r) ∧ Below W.heap.size W w') :
    Calls Tryz.prog 96 #[.int .i64 y, .pointer (some ⟨bs, 0, none⟩), .pointer (some ⟨bx, 0, none⟩)] w fun e w' => e = .returned (.bool r) ∧ Below w.heap.size w w' := by
  have HX := Lib.hid hx; have HC := Lib.hid hc
  have s0 := cell_row (j := 0) hs rfl
  have x0 := cell_row (j := 0) HX.out rfl
  have l0 := heap_lt hs; have l1 := heap_lt hx
  clear hs hx hc
  go_enter Tryz.func96, Tryz.ntmps96
  go_wp2_with fail
  have BY : Hid (Below w.heap.size w w) := Below.refl _ _
  refine (HC.out _ BY.out).mono ?_
  rintro e w2 ⟨rfl, hb⟩
  have B2 := Lib.hid (BY.out.trans (hb.mono BY.out.size))
  clear hb
  go_wp2_with fail
  go_ret
  exact ⟨rfl, B2.out⟩
theorem m1_int_int (x : Int) (v : Value) (l : List Int) (g : Nat) (lb : Array Value) (q : Int → Bool) (b4 b5 : Nat) (w : World) (eg : ∀ args w, (callFunc g args).run Tryz.prog w = .ok (.enter g args) w) (hv : IntsAt w v l) (h4 : w.heap[b4]? = some (.cells #[v] 22 (0, 0))) (h5 : w.heap[b5]? = some (.cells #[.func (.func g) #[] lb] 101 (0, 0)))
    (hq : ∀ j, j < l.length → ∀ W, Below w.heap.size w W → Calls Tryz.prog g (#[.int .i64 x, .int .i64 (l.getD j 0)] ++ lb) W fun e w' => e = .returned (.bool (q (l.getD j 0))) ∧ Below W.heap.size W w') :
    Calls Tryz.prog 95 #[.int .i64 x, .pointer (some ⟨b4, 0, none⟩), .pointer (some ⟨b5, 0, none⟩)] w fun e w' => e = .returned (.bool (l.any q)) ∧ Below w.heap.size w w' := by
  obtain ⟨w1, hw1⟩ : ∃ w1, w1 = w.alloc (.cells #[.int .i64 x] 3) := ⟨_, rfl⟩
  have B1 : Hid (Below w.heap.size w w1) := by rw [hw1]; exact tb_alloc_below _ _
  have K1 : Hid (w1.heap[w.heap.size]? = some (.cells #[.int .i64 x] 3 (0, 0))) := by rw [hw1]; exact heap_alloc_new _ _
  have HW1 := Lib.hid hw1
  have S4 := Lib.hid (tb_kept h4 B1.out); have S5 := Lib.hid (tb_kept h5 B1.out)
  have HI : Hid (Calls Tryz.prog 34 #[v, .func (.func 96) #[] #[.pointer (some ⟨b5, 0, none⟩), .pointer (some ⟨w.heap.size, 0, none⟩)]] w1 fun e w' => e = .returned (.bool (l.any q)) ∧ Below w1.heap.size w1 w') :=
    containsF_int v l _ _ q w1 (hv.below B1.out) (enters_of Tryz.func96 (by kernel_rfl) rfl) (fun j hj W hW => m11_int_int x _ g lb _ b5 w.heap.size W eg (tb_kept S5.out hW) (tb_kept K1.out hW) (fun V hV => hq j hj V (B1.out.trans ((hW.trans (hV.mono hW.size)).mono B1.out.size))))
  clear hw1 hv h4 h5 hq eg
  have c4 := cell_row (j := 0) S4.out rfl
  have c5 := cell_row (j := 0) S5.out rfl
  have l4 := heap_lt S4.out; have l5 := heap_lt S5.out
  generalize l.any q = r at *
  go_enter Tryz.func95, Tryz.ntmps95
  go_upto_region 1 with fail
  rw [← HW1.out]
  go_wp2_with fail
  refine HI.out.mono ?_
  rintro e w2 ⟨rfl, hb⟩
  have B2 := Lib.hid (B1.out.trans (hb.mono B1.out.size))
  clear hb
  go_wp2_with fail
  go_ret
  exact ⟨rfl, B2.out⟩
theorem meets_int_int (va v : Value) (la : List Int) (l : List Int) (g : Nat) (lb : Array Value) (q : Int → Int → Bool) (w : World) (eg : ∀ args w, (callFunc g args).run Tryz.prog w = .ok (.enter g args) w) (ha : IntsAt w va la) (hv : IntsAt w v l) (hq : Same_int_int g lb q la l w) :
    Calls Tryz.prog 72 #[va, v, .func (.func g) #[] lb] w fun e w' => e = .returned (.bool (la.any fun x => l.any (q x))) ∧ Below w.heap.size w w' := by
  obtain ⟨a9, c9, hv9, _, _, _⟩ := hv.at_
  subst hv9
  obtain ⟨v, hv0⟩ : ∃ v, v = Value.slice a9 l.length c9 := ⟨_, rfl⟩
  rw [← hv0] at hv ⊢
  obtain ⟨w0, hw0⟩ : ∃ w0, w0 = w.alloc (.cells #[v] 22) := ⟨_, rfl⟩
  have B0 : Hid (Below w.heap.size w w0) := by rw [hw0]; exact tb_alloc_below _ _
  have K0 : Hid (w0.heap[w.heap.size]? = some (.cells #[v] 22 (0, 0))) := by rw [hw0]; exact heap_alloc_new _ _
  have Z0 : Hid (w0.heap.size = w.heap.size + 1) := by rw [hw0]; exact Array.size_push _
  obtain ⟨w1, hw1⟩ : ∃ w1, w1 = w0.alloc (.cells #[.func (.func g) #[] lb] 101) := ⟨_, rfl⟩
  have B1' : Hid (Below w0.heap.size w0 w1) := by rw [hw1]; exact tb_alloc_below _ _
  have B1 : Hid (Below w.heap.size w w1) := B0.out.trans (B1'.out.mono B0.out.size)
  have S4 := Lib.hid (tb_kept K0.out B1'.out)
  have S5 : Hid (w1.heap[w.heap.size + 1]? = some (.cells #[.func (.func g) #[] lb] 101 (0, 0))) := by rw [← Z0.out, hw1]; exact heap_alloc_new _ _
  have HW1 : Hid (w1 = (w.alloc (.cells #[v] 22)).alloc (.cells #[.func (.func g) #[] lb] 101)) := by rw [hw1, hw0]; rfl
  have HI : Hid (Calls Tryz.prog 34 #[va, .func (.func 95) #[] #[.pointer (some ⟨w.heap.size, 0, none⟩), .pointer (some ⟨w.heap.size + 1, 0, none⟩)]] w1 fun e w' => e = .returned (.bool (la.any fun x => l.any (q x))) ∧ Below w1.heap.size w1 w') :=
    containsF_int va la _ _ (fun x => l.any (q x)) w1 (ha.below B1.out) (enters_of Tryz.func95 (by kernel_rfl) rfl) (fun i hi W hW => m1_int_int _ v l g lb _ w.heap.size (w.heap.size + 1) W eg ((hv.below B1.out).below hW) (tb_kept S4.out hW) (tb_kept S5.out hW) (fun j hj V hV => hq i hi j hj V (B1.out.trans ((hW.trans (hV.mono hW.size)).mono B1.out.size))))
  clear hw0 hw1 ha hv hq eg K0 B0 B1' Z0 S4 S5
  generalize (la.any fun x => l.any (q x)) = r at *
  subst hv0
  go_enter Tryz.func72, Tryz.ntmps72
  go_upto_region 1 with fail
  rw [← HW1.out]
  go_wp2_with fail
  refine HI.out.mono ?_
  rintro e w2 ⟨rfl, hb⟩
  have B2 := Lib.hid (B1.out.trans (hb.mono B1.out.size))
  clear hb
  go_wp2_with fail
  go_ret
  exact ⟨rfl, B2.out⟩
/-- What the function handed in answers, of the two lists' elements. -/
def Same_pt_int (g : Nat) (lb : Array Value) (q : (Int × Bool) → Int → Bool) (la : List (Int × Bool)) (l : List Int) (w : World) : Prop :=
  ∀ i, i < la.length → ∀ j, j < l.length → ∀ W, Below w.heap.size w W → Calls Tryz.prog g (#[.agg #[.int .i64 (la.getD i (0, false)).1, .bool (la.getD i (0, false)).2], .int .i64 (l.getD j 0)] ++ lb) W fun e w' => e = .returned (.bool (q (la.getD i (0, false)) (l.getD j 0))) ∧ Below W.heap.size W w'
theorem m11_pt_int (x : (Int × Bool)) (y : Int) (g : Nat) (lb : Array Value) (r : Bool) (bs bx : Nat) (w : World) (eg : ∀ args w, (callFunc g args).run Tryz.prog w = .ok (.enter g args) w) (hs : w.heap[bs]? = some (.cells #[.func (.func g) #[] lb] 102 (0, 0))) (hx : w.heap[bx]? = some (.cells #[.int .i64 x.1, .bool x.2] 57 (0, 0)))
    (hc : ∀ W, Below w.heap.size w W → Calls Tryz.prog g (#[.agg #[.int .i64 x.1, .bool x.2], .int .i64 y] ++ lb) W fun e w' => e = .returned (.bool r) ∧ Below W.heap.size W w') :
    Calls Tryz.prog 99 #[.int .i64 y, .pointer (some ⟨bs, 0, none⟩), .pointer (some ⟨bx, 0, none⟩)] w fun e w' => e = .returned (.bool r) ∧ Below w.heap.size w w' := by
  have HX := Lib.hid hx; have HC := Lib.hid hc
  have s0 := cell_row (j := 0) hs rfl
  have x0 := cell_row (j := 0) HX.out rfl
  have x1 := cell_row (j := 1) HX.out rfl
  have l0 := heap_lt hs; have l1 := heap_lt hx
  clear hs hx hc
  go_enter Tryz.func99, Tryz.ntmps99
  go_wp2_with fail
  have BY : Hid (Below w.heap.size w w) := Below.refl _ _
  refine (HC.out _ BY.out).mono ?_
  rintro e w2 ⟨rfl, hb⟩
  have B2 := Lib.hid (BY.out.trans (hb.mono BY.out.size))
  clear hb
  go_wp2_with fail
  go_ret
  exact ⟨rfl, B2.out⟩
theorem m1_pt_int (x : (Int × Bool)) (v : Value) (l : List Int) (g : Nat) (lb : Array Value) (q : Int → Bool) (b4 b5 : Nat) (w : World) (eg : ∀ args w, (callFunc g args).run Tryz.prog w = .ok (.enter g args) w) (hv : IntsAt w v l) (h4 : w.heap[b4]? = some (.cells #[v] 22 (0, 0))) (h5 : w.heap[b5]? = some (.cells #[.func (.func g) #[] lb] 102 (0, 0)))
    (hq : ∀ j, j < l.length → ∀ W, Below w.heap.size w W → Calls Tryz.prog g (#[.agg #[.int .i64 x.1, .bool x.2], .int .i64 (l.getD j 0)] ++ lb) W fun e w' => e = .returned (.bool (q (l.getD j 0))) ∧ Below W.heap.size W w') :
    Calls Tryz.prog 98 #[.agg #[.int .i64 x.1, .bool x.2], .pointer (some ⟨b4, 0, none⟩), .pointer (some ⟨b5, 0, none⟩)] w fun e w' => e = .returned (.bool (l.any q)) ∧ Below w.heap.size w w' := by
  obtain ⟨w1, hw1⟩ : ∃ w1, w1 = w.alloc (.cells #[.int .i64 x.1, .bool x.2] 57) := ⟨_, rfl⟩
  have B1 : Hid (Below w.heap.size w w1) := by rw [hw1]; exact tb_alloc_below _ _
  have K1 : Hid (w1.heap[w.heap.size]? = some (.cells #[.int .i64 x.1, .bool x.2] 57 (0, 0))) := by rw [hw1]; exact heap_alloc_new _ _
  have HW1 := Lib.hid hw1
  have S4 := Lib.hid (tb_kept h4 B1.out); have S5 := Lib.hid (tb_kept h5 B1.out)
  have HI : Hid (Calls Tryz.prog 34 #[v, .func (.func 99) #[] #[.pointer (some ⟨b5, 0, none⟩), .pointer (some ⟨w.heap.size, 0, none⟩)]] w1 fun e w' => e = .returned (.bool (l.any q)) ∧ Below w1.heap.size w1 w') :=
    containsF_int v l _ _ q w1 (hv.below B1.out) (enters_of Tryz.func99 (by kernel_rfl) rfl) (fun j hj W hW => m11_pt_int x _ g lb _ b5 w.heap.size W eg (tb_kept S5.out hW) (tb_kept K1.out hW) (fun V hV => hq j hj V (B1.out.trans ((hW.trans (hV.mono hW.size)).mono B1.out.size))))
  clear hw1 hv h4 h5 hq eg
  have c4 := cell_row (j := 0) S4.out rfl
  have c5 := cell_row (j := 0) S5.out rfl
  have l4 := heap_lt S4.out; have l5 := heap_lt S5.out
  generalize l.any q = r at *
  go_enter Tryz.func98, Tryz.ntmps98
  go_upto_region 1 with fail
  rw [← HW1.out]
  go_wp2_with fail
  refine HI.out.mono ?_
  rintro e w2 ⟨rfl, hb⟩
  have B2 := Lib.hid (B1.out.trans (hb.mono B1.out.size))
  clear hb
  go_wp2_with fail
  go_ret
  exact ⟨rfl, B2.out⟩
theorem meets_pt_int (va v : Value) (la : List (Int × Bool)) (l : List Int) (g : Nat) (lb : Array Value) (q : (Int × Bool) → Int → Bool) (w : World) (eg : ∀ args w, (callFunc g args).run Tryz.prog w = .ok (.enter g args) w) (ha : PtsAt w va la) (hv : IntsAt w v l) (hq : Same_pt_int g lb q la l w) :
    Calls Tryz.prog 73 #[va, v, .func (.func g) #[] lb] w fun e w' => e = .returned (.bool (la.any fun x => l.any (q x))) ∧ Below w.heap.size w w' := by
  obtain ⟨a9, c9, hv9, _, _, _⟩ := hv.at_
  subst hv9
  obtain ⟨v, hv0⟩ : ∃ v, v = Value.slice a9 l.length c9 := ⟨_, rfl⟩
  rw [← hv0] at hv ⊢
  obtain ⟨w0, hw0⟩ : ∃ w0, w0 = w.alloc (.cells #[v] 22) := ⟨_, rfl⟩
  have B0 : Hid (Below w.heap.size w w0) := by rw [hw0]; exact tb_alloc_below _ _
  have K0 : Hid (w0.heap[w.heap.size]? = some (.cells #[v] 22 (0, 0))) := by rw [hw0]; exact heap_alloc_new _ _
  have Z0 : Hid (w0.heap.size = w.heap.size + 1) := by rw [hw0]; exact Array.size_push _
  obtain ⟨w1, hw1⟩ : ∃ w1, w1 = w0.alloc (.cells #[.func (.func g) #[] lb] 102) := ⟨_, rfl⟩
  have B1' : Hid (Below w0.heap.size w0 w1) := by rw [hw1]; exact tb_alloc_below _ _
  have B1 : Hid (Below w.heap.size w w1) := B0.out.trans (B1'.out.mono B0.out.size)
  have S4 := Lib.hid (tb_kept K0.out B1'.out)
  have S5 : Hid (w1.heap[w.heap.size + 1]? = some (.cells #[.func (.func g) #[] lb] 102 (0, 0))) := by rw [← Z0.out, hw1]; exact heap_alloc_new _ _
  have HW1 : Hid (w1 = (w.alloc (.cells #[v] 22)).alloc (.cells #[.func (.func g) #[] lb] 102)) := by rw [hw1, hw0]; rfl
  have HI : Hid (Calls Tryz.prog 97 #[va, .func (.func 98) #[] #[.pointer (some ⟨w.heap.size, 0, none⟩), .pointer (some ⟨w.heap.size + 1, 0, none⟩)]] w1 fun e w' => e = .returned (.bool (la.any fun x => l.any (q x))) ∧ Below w1.heap.size w1 w') :=
    containsF_pt va la _ _ (fun x => l.any (q x)) w1 (ha.below B1.out) (enters_of Tryz.func98 (by kernel_rfl) rfl) (fun i hi W hW => m1_pt_int _ v l g lb _ w.heap.size (w.heap.size + 1) W eg ((hv.below B1.out).below hW) (tb_kept S4.out hW) (tb_kept S5.out hW) (fun j hj V hV => hq i hi j hj V (B1.out.trans ((hW.trans (hV.mono hW.size)).mono B1.out.size))))
  clear hw0 hw1 ha hv hq eg K0 B0 B1' Z0 S4 S5
  generalize (la.any fun x => l.any (q x)) = r at *
  subst hv0
  go_enter Tryz.func73, Tryz.ntmps73
  go_upto_region 1 with fail
  rw [← HW1.out]
  go_wp2_with fail
  refine HI.out.mono ?_
  rintro e w2 ⟨rfl, hb⟩
  have B2 := Lib.hid (B1.out.trans (hb.mono B1.out.size))
  clear hb
  go_wp2_with fail
  go_ret
  exact ⟨rfl, B2.out⟩
/-- What the function handed in answers, of the two lists' elements. -/
def Same_pt_pt (g : Nat) (lb : Array Value) (q : (Int × Bool) → (Int × Bool) → Bool) (la : List (Int × Bool)) (l : List (Int × Bool)) (w : World) : Prop :=
  ∀ i, i < la.length → ∀ j, j < l.length → ∀ W, Below w.heap.size w W → Calls Tryz.prog g (#[.agg #[.int .i64 (la.getD i (0, false)).1, .bool (la.getD i (0, false)).2], .agg #[.int .i64 (l.getD j (0, false)).1, .bool (l.getD j (0, false)).2]] ++ lb) W fun e w' => e = .returned (.bool (q (la.getD i (0, false)) (l.getD j (0, false)))) ∧ Below W.heap.size W w'
theorem m11_pt_pt (x : (Int × Bool)) (y : (Int × Bool)) (g : Nat) (lb : Array Value) (r : Bool) (bs bx : Nat) (w : World) (eg : ∀ args w, (callFunc g args).run Tryz.prog w = .ok (.enter g args) w) (hs : w.heap[bs]? = some (.cells #[.func (.func g) #[] lb] 106 (0, 0))) (hx : w.heap[bx]? = some (.cells #[.int .i64 x.1, .bool x.2] 57 (0, 0)))
    (hc : ∀ W, Below w.heap.size w W → Calls Tryz.prog g (#[.agg #[.int .i64 x.1, .bool x.2], .agg #[.int .i64 y.1, .bool y.2]] ++ lb) W fun e w' => e = .returned (.bool r) ∧ Below W.heap.size W w') :
    Calls Tryz.prog 101 #[.agg #[.int .i64 y.1, .bool y.2], .pointer (some ⟨bs, 0, none⟩), .pointer (some ⟨bx, 0, none⟩)] w fun e w' => e = .returned (.bool r) ∧ Below w.heap.size w w' := by
  have HX := Lib.hid hx; have HC := Lib.hid hc
  have s0 := cell_row (j := 0) hs rfl
  have x0 := cell_row (j := 0) HX.out rfl
  have x1 := cell_row (j := 1) HX.out rfl
  have l0 := heap_lt hs; have l1 := heap_lt hx
  clear hs hx hc
  go_enter Tryz.func101, Tryz.ntmps101
  go_wp2_with fail
  have BY : Hid (Below w.heap.size w (w.alloc (.cells #[.int .i64 y.1, .bool y.2] 57))) := tb_alloc_below _ _
  refine (HC.out _ BY.out).mono ?_
  rintro e w2 ⟨rfl, hb⟩
  have B2 := Lib.hid (BY.out.trans (hb.mono BY.out.size))
  clear hb
  go_wp2_with fail
  go_ret
  exact ⟨rfl, B2.out⟩
theorem m1_pt_pt (x : (Int × Bool)) (v : Value) (l : List (Int × Bool)) (g : Nat) (lb : Array Value) (q : (Int × Bool) → Bool) (b4 b5 : Nat) (w : World) (eg : ∀ args w, (callFunc g args).run Tryz.prog w = .ok (.enter g args) w) (hv : PtsAt w v l) (h4 : w.heap[b4]? = some (.cells #[v] 27 (0, 0))) (h5 : w.heap[b5]? = some (.cells #[.func (.func g) #[] lb] 106 (0, 0)))
    (hq : ∀ j, j < l.length → ∀ W, Below w.heap.size w W → Calls Tryz.prog g (#[.agg #[.int .i64 x.1, .bool x.2], .agg #[.int .i64 (l.getD j (0, false)).1, .bool (l.getD j (0, false)).2]] ++ lb) W fun e w' => e = .returned (.bool (q (l.getD j (0, false)))) ∧ Below W.heap.size W w') :
    Calls Tryz.prog 100 #[.agg #[.int .i64 x.1, .bool x.2], .pointer (some ⟨b4, 0, none⟩), .pointer (some ⟨b5, 0, none⟩)] w fun e w' => e = .returned (.bool (l.any q)) ∧ Below w.heap.size w w' := by
  obtain ⟨w1, hw1⟩ : ∃ w1, w1 = w.alloc (.cells #[.int .i64 x.1, .bool x.2] 57) := ⟨_, rfl⟩
  have B1 : Hid (Below w.heap.size w w1) := by rw [hw1]; exact tb_alloc_below _ _
  have K1 : Hid (w1.heap[w.heap.size]? = some (.cells #[.int .i64 x.1, .bool x.2] 57 (0, 0))) := by rw [hw1]; exact heap_alloc_new _ _
  have HW1 := Lib.hid hw1
  have S4 := Lib.hid (tb_kept h4 B1.out); have S5 := Lib.hid (tb_kept h5 B1.out)
  have HI : Hid (Calls Tryz.prog 97 #[v, .func (.func 101) #[] #[.pointer (some ⟨b5, 0, none⟩), .pointer (some ⟨w.heap.size, 0, none⟩)]] w1 fun e w' => e = .returned (.bool (l.any q)) ∧ Below w1.heap.size w1 w') :=
    containsF_pt v l _ _ q w1 (hv.below B1.out) (enters_of Tryz.func101 (by kernel_rfl) rfl) (fun j hj W hW => m11_pt_pt x _ g lb _ b5 w.heap.size W eg (tb_kept S5.out hW) (tb_kept K1.out hW) (fun V hV => hq j hj V (B1.out.trans ((hW.trans (hV.mono hW.size)).mono B1.out.size))))
  clear hw1 hv h4 h5 hq eg
  have c4 := cell_row (j := 0) S4.out rfl
  have c5 := cell_row (j := 0) S5.out rfl
  have l4 := heap_lt S4.out; have l5 := heap_lt S5.out
  generalize l.any q = r at *
  go_enter Tryz.func100, Tryz.ntmps100
  go_upto_region 1 with fail
  rw [← HW1.out]
  go_wp2_with fail
  refine HI.out.mono ?_
  rintro e w2 ⟨rfl, hb⟩
  have B2 := Lib.hid (B1.out.trans (hb.mono B1.out.size))
  clear hb
  go_wp2_with fail
  go_ret
  exact ⟨rfl, B2.out⟩
theorem meets_pt_pt (va v : Value) (la : List (Int × Bool)) (l : List (Int × Bool)) (g : Nat) (lb : Array Value) (q : (Int × Bool) → (Int × Bool) → Bool) (w : World) (eg : ∀ args w, (callFunc g args).run Tryz.prog w = .ok (.enter g args) w) (ha : PtsAt w va la) (hv : PtsAt w v l) (hq : Same_pt_pt g lb q la l w) :
    Calls Tryz.prog 74 #[va, v, .func (.func g) #[] lb] w fun e w' => e = .returned (.bool (la.any fun x => l.any (q x))) ∧ Below w.heap.size w w' := by
  obtain ⟨a9, c9, hv9, _, _, _⟩ := hv.at_
  subst hv9
  obtain ⟨v, hv0⟩ : ∃ v, v = Value.slice a9 l.length c9 := ⟨_, rfl⟩
  rw [← hv0] at hv ⊢
  obtain ⟨w0, hw0⟩ : ∃ w0, w0 = w.alloc (.cells #[v] 27) := ⟨_, rfl⟩
  have B0 : Hid (Below w.heap.size w w0) := by rw [hw0]; exact tb_alloc_below _ _
  have K0 : Hid (w0.heap[w.heap.size]? = some (.cells #[v] 27 (0, 0))) := by rw [hw0]; exact heap_alloc_new _ _
  have Z0 : Hid (w0.heap.size = w.heap.size + 1) := by rw [hw0]; exact Array.size_push _
  obtain ⟨w1, hw1⟩ : ∃ w1, w1 = w0.alloc (.cells #[.func (.func g) #[] lb] 106) := ⟨_, rfl⟩
  have B1' : Hid (Below w0.heap.size w0 w1) := by rw [hw1]; exact tb_alloc_below _ _
  have B1 : Hid (Below w.heap.size w w1) := B0.out.trans (B1'.out.mono B0.out.size)
  have S4 := Lib.hid (tb_kept K0.out B1'.out)
  have S5 : Hid (w1.heap[w.heap.size + 1]? = some (.cells #[.func (.func g) #[] lb] 106 (0, 0))) := by rw [← Z0.out, hw1]; exact heap_alloc_new _ _
  have HW1 : Hid (w1 = (w.alloc (.cells #[v] 27)).alloc (.cells #[.func (.func g) #[] lb] 106)) := by rw [hw1, hw0]; rfl
  have HI : Hid (Calls Tryz.prog 97 #[va, .func (.func 100) #[] #[.pointer (some ⟨w.heap.size, 0, none⟩), .pointer (some ⟨w.heap.size + 1, 0, none⟩)]] w1 fun e w' => e = .returned (.bool (la.any fun x => l.any (q x))) ∧ Below w1.heap.size w1 w') :=
    containsF_pt va la _ _ (fun x => l.any (q x)) w1 (ha.below B1.out) (enters_of Tryz.func100 (by kernel_rfl) rfl) (fun i hi W hW => m1_pt_pt _ v l g lb _ w.heap.size (w.heap.size + 1) W eg ((hv.below B1.out).below hW) (tb_kept S4.out hW) (tb_kept S5.out hW) (fun j hj V hV => hq i hi j hj V (B1.out.trans ((hW.trans (hV.mono hW.size)).mono B1.out.size))))
  clear hw0 hw1 ha hv hq eg K0 B0 B1' Z0 S4 S5
  generalize (la.any fun x => l.any (q x)) = r at *
  subst hv0
  go_enter Tryz.func74, Tryz.ntmps74
  go_upto_region 1 with fail
  rw [← HW1.out]
  go_wp2_with fail
  refine HI.out.mono ?_
  rintro e w2 ⟨rfl, hb⟩
  have B2 := Lib.hid (B1.out.trans (hb.mono B1.out.size))
  clear hb
  go_wp2_with fail
  go_ret
  exact ⟨rfl, B2.out⟩
end Go.Proofs.YtpodedhnlicckaaGreatDoor
