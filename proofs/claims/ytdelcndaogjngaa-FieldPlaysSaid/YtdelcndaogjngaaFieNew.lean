/- Check and New. -/
import Derived.Test.YtdelcndaogjngaaFieCopy
import Derived.Deep.OwnRows
import Derived.Test.YtdelcndaogjngaaAny
namespace Go.Proofs.Ytdelcndaogjngaa
open Go.RowKit
set_option linter.unusedVariables false
/-- May a definition be? -/
def mayD (ins : Int) (len : Nat) (rd : Nat) (wr : Int) : Prop := 0 ≤ ins ∧ ins ≤ 16 ∧ len ≤ 16 ∧ rd < 256 ∧ 0 ≤ wr ∧ wr < 8
instance (ins : Int) (len rd : Nat) (wr : Int) : Decidable (mayD ins len rd wr) := by unfold mayD; exact inferInstance
theorem check_ok (ins : Int) (a : Option Addr) (len cap rd : Nat) (wr : Int) (w : World) (h : mayD ins len rd wr) :
    Calls Try.prog 9 #[.agg #[.int .i64 ins, .slice a len cap, .int .u32 (rd : Int), .int .i64 wr]] w fun e w' => e = .returned (.int .i64 0) ∧ Below w.heap.size w w' := by
  obtain ⟨h1, h2, h3, h4, h5, h6⟩ := h
  have t1 : decide (ins < 0) = false := by simpa using h1
  have t2 : decide (16 < ins) = false := by simpa using h2
  have t3 : decide (16 < (len : Int)) = false := by simp; omega
  have t4 : decide (256 ≤ (rd : Int)) = false := by simp; omega
  have t5 : decide (wr < 0) = false := by simpa using h5
  have t6 : decide (8 ≤ wr) = false := by simp; omega
  clear h1 h2 h3 h4 h5 h6
  go_enter Try.func9, Try.ntmps9
  go_wp2_with fail
  go_ret
  exact ⟨rfl, (Below.refl _ w).alloc (Nat.le_refl _) _⟩
theorem check_bad (ins : Int) (a : Option Addr) (len cap rd : Nat) (wr : Int) (w : World) (h : ¬ mayD ins len rd wr) :
    Calls Try.prog 9 #[.agg #[.int .i64 ins, .slice a len cap, .int .u32 (rd : Int), .int .i64 wr]] w fun e w' => e = .returned (.int .i64 2) ∧ Below w.heap.size w w' := by
  have HH := Lib.hid h
  clear h
  cases t1 : decide (ins < 0)
  case true =>
    go_enter Try.func9, Try.ntmps9
    go_wp2_with fail
    go_ret
    exact ⟨rfl, (Below.refl _ w).alloc (Nat.le_refl _) _⟩
  cases t2 : decide (16 < ins)
  case true =>
    go_enter Try.func9, Try.ntmps9
    go_wp2_with fail
    go_ret
    exact ⟨rfl, (Below.refl _ w).alloc (Nat.le_refl _) _⟩
  cases t3 : decide (16 < (len : Int))
  case true =>
    go_enter Try.func9, Try.ntmps9
    go_wp2_with fail
    go_ret
    exact ⟨rfl, (Below.refl _ w).alloc (Nat.le_refl _) _⟩
  cases t4 : decide (256 ≤ (rd : Int))
  case true =>
    go_enter Try.func9, Try.ntmps9
    go_wp2_with fail
    go_ret
    exact ⟨rfl, (Below.refl _ w).alloc (Nat.le_refl _) _⟩
  cases t5 : decide (wr < 0)
  case true =>
    go_enter Try.func9, Try.ntmps9
    go_wp2_with fail
    go_ret
    exact ⟨rfl, (Below.refl _ w).alloc (Nat.le_refl _) _⟩
  cases t6 : decide (8 ≤ wr)
  case true =>
    go_enter Try.func9, Try.ntmps9
    go_wp2_with fail
    go_ret
    exact ⟨rfl, (Below.refl _ w).alloc (Nat.le_refl _) _⟩
  exfalso
  refine HH.out ?_
  have h3 := of_decide_eq_false t3
  have h4 := of_decide_eq_false t4
  simp at t1 t2 t5 t6
  exact ⟨t1, t2, by omega, by omega, t5, by omega⟩
theorem new_bad (ins : Int) (a : Option Addr) (len cap rd : Nat) (wr : Int) (w : World) (h : ¬ mayD ins len rd wr) :
    Calls Try.prog 7 #[.agg #[.int .i64 ins, .slice a len cap, .int .u32 (rd : Int), .int .i64 wr]] w fun e w' => e = .returned (.tuple #[.pointer none, .int .i64 2]) ∧ Below w.heap.size w w' := by
  have hH := heap_alloc_new w (.cells #[.int .i64 ins, .slice a len cap, .int .u32 (rd : Int), .int .i64 wr] 25)
  have hB : Hid (Below w.heap.size w (w.alloc (.cells #[.int .i64 ins, .slice a len cap, .int .u32 (rd : Int), .int .i64 wr] 25))) := (Below.refl _ w).alloc (Nat.le_refl _) _
  have HH := Lib.hid hH
  clear hH
  go_enter Try.func7, Try.ntmps7
  go_wp2_with fail
  refine (check_bad ins a len cap rd wr _ h).mono ?_
  rintro e w1 ⟨rfl, hb⟩
  have B1 : Hid (Below w.heap.size w w1) := hB.out.trans (hb.mono (by simp))
  clear hb h
  go_wp2_with fail
  go_ret2
  exact ⟨rfl, B1.out⟩
def newCs (nI len rd : Nat) (wr : Int) (v0 x3 x6 x8 x10 : Value) : Array Value := #[.int .i64 (nI : Int), v0, .int .u32 (rd : Int), .int .i64 wr, x3, x6, x8, x10]
/-- What each value of the literal is good for. -/
def newG (B nI len rd : Nat) (wr : Int) (v0 : Value) (S : Nat → Nat) : Nat → (Nat → Value) → World → Prop
  | 0, vs, _ => vs 0 = .agg #[.int .i64 (nI : Int), v0, .int .u32 (rd : Int), .int .i64 wr]
  | 1, vs, _ => vs 1 = .pointer (some ⟨B, 0, none⟩)
  | 2, vs, _ => vs 2 = .int .i64 (nI : Int)
  | 3, vs, V => ∃ b, SlAt V (vs 3) b 23 nI (uV fun _ => 0)
  | 4, vs, _ => vs 4 = .pointer (some ⟨B, 1, none⟩)
  | 5, vs, _ => vs 5 = v0
  | 6, vs, V => ∃ b, SlAt V (vs 6) b 23 len (uV S)
  | 7, vs, _ => vs 7 = .int .i64 (len : Int)
  | 8, vs, V => ∃ b, SlAt V (vs 8) b 23 len (uV fun _ => 0)
  | 9, vs, _ => vs 9 = .int .i64 (len : Int)
  | 10, vs, V => ∃ b, SlAt V (vs 10) b 4 len (hV fun _ => false)
  | 11, vs, _ => vs 11 = .agg (newCs nI len rd wr v0 (vs 3) (vs 6) (vs 8) (vs 10))
  | 12, vs, V => ∃ g cs, vs 12 = .pointer (some ⟨g, 0, none⟩) ∧ vs 11 = .agg cs ∧ V.heap[g]? = some (.cells cs 56 (0, 0))
  | 13, vs, _ => vs 13 = vs 12
  | 14, vs, _ => vs 14 = .int .i64 0
  | _, _, _ => True
def newMk (nI len : Nat) (i : Nat) : Bool := (i == 3 && decide (0 < nI)) || (i == 6 && decide (0 < len)) || (i == 8 && decide (0 < len)) || (i == 10 && decide (0 < len)) || i == 12
theorem newG_below (B nI len rd : Nat) (wr : Int) (v0 : Value) (S : Nat → Nat) (i : Nat) (vs : Nat → Value) (V V' : World) (hb : Below V.heap.size V V') (h : newG B nI len rd wr v0 S i vs V) : newG B nI len rd wr v0 S i vs V' := by
  have sl : ∀ {v b t n X}, SlAt V v b t n X → SlAt V' v b t n X := fun h => h.same fun hp => hb.block _ (h.lt hp)
  match i, h with
  | 0, h => exact h
  | 1, h => exact h
  | 2, h => exact h
  | 3, h => exact h.imp fun b h => sl h
  | 4, h => exact h
  | 5, h => exact h
  | 6, h => exact h.imp fun b h => sl h
  | 7, h => exact h
  | 8, h => exact h.imp fun b h => sl h
  | 9, h => exact h
  | 10, h => exact h.imp fun b h => sl h
  | 11, h => exact h
  | 12, h => obtain ⟨g, cs, h1, h2, h3⟩ := h; exact ⟨g, cs, h1, h2, (hb.block _ (heap_lt h3)).trans h3⟩
  | 13, h => exact h
  | 14, h => exact h
  | n + 15, h => exact True.intro
theorem made_row (V : World) (z : Value) (t : TypeId) (n : Nat) (hn : n ≤ maxLen) : SlAt (V.alloc (.cells (madeCells #[z] n) t)) (.slice (some ⟨V.heap.size, 0, none⟩) n n) V.heap.size t n (fun _ => z) :=
  ⟨_, n, rfl, Nat.le_refl _, hn, fun _ => ⟨rfl, _, heap_alloc_new _ _, by simp [madeCells], fun i hi => by simp [madeCells, hi, Nat.mod_one]⟩⟩
theorem alloc_below (V : World) (o : Obj) : Below V.heap.size V (V.alloc o) := (Below.refl _ V).alloc (Nat.le_refl _) o
/-- A new field. -/
structure IsNew (f : FS) (w : World) (nI len rd : Nat) (wr : Int) (S : Nat → Nat) : Prop where
  lo : w.heap.size ≤ f.lo
  bs : 0 < len → w.heap.size ≤ f.bs ∧ f.bs < f.lo
  nI : f.nI = nI
  nS : f.nS = len
  rd : f.rd = rd
  wr : f.wr = wr
  safe : f.safe = S
  ins : f.ins = fun _ => 0
  outs : f.outs = S
  has : f.has = fun _ => false
def NewPost (nI len rd : Nat) (wr : Int) (S : Nat → Nat) (w : World) (e : Ending) (w' : World) : Prop := ∃ f : FS, e = .returned (.tuple #[.pointer (some ⟨f.g, 0, none⟩), .int .i64 0]) ∧ FieldAt w' f ∧ IsNew f w nI len rd wr S ∧ Below w.heap.size w w'
theorem SlAt.own {w : World} {v : Value} {b n : Nat} {t : TypeId} {V : Nat → Value} (h : SlAt w v b t n V) (hp : 0 < n) : ownB v = some b := by
  obtain ⟨a, c, rfl, h1, h2, h3⟩ := h
  obtain ⟨rfl, -⟩ := h3 hp
  rfl
set_option maxHeartbeats 8000000 in
theorem new_ok (nI : Nat) (a : Option Addr) (len cap rd : Nat) (wr : Int) (S : Nat → Nat) (w : World) (h : mayD nI len rd wr) (hS : SliceAt w a len (uV S)) (hSl : ∀ i, S i < 4294967296) :
    Calls Try.prog 7 #[.agg #[.int .i64 (nI : Int), .slice a len cap, .int .u32 (rd : Int), .int .i64 wr]] w (NewPost nI len rd wr S w) := by
  obtain ⟨-, hnI, hlen, hrd, hw0, hw8⟩ := h
  have HS := Lib.hid hS
  have hH := heap_alloc_new w (.cells #[.int .i64 (nI : Int), .slice a len cap, .int .u32 (rd : Int), .int .i64 wr] 25)
  have hB : Hid (Below w.heap.size w (w.alloc (.cells #[.int .i64 (nI : Int), .slice a len cap, .int .u32 (rd : Int), .int .i64 wr] 25))) := (Below.refl _ w).alloc (Nat.le_refl _) _
  have HH := Lib.hid hH
  clear hH hS
  go_enter Try.func7, Try.ntmps7
  go_wp2_with fail
  refine (check_ok nI a len cap rd wr _ ⟨by omega, hnI, hlen, hrd, hw0, hw8⟩).mono ?_
  rintro e w1 ⟨rfl, hb⟩
  have B1 : Hid (Below w.heap.size w w1) := hB.out.trans (hb.mono (by simp))
  have H1 : Hid (w1.heap[w.heap.size]? = some (.cells #[.int .i64 (nI : Int), .slice a len cap, .int .u32 (rd : Int), .int .i64 wr] 25 (0, 0))) := (hb.block _ (by simp)).trans HH.out
  clear hb HH hB
  have d0 : w1.cell? ⟨w.heap.size, 0, none⟩ = some (.int .i64 (nI : Int)) := cell_row H1.out rfl
  have d1 : w1.cell? ⟨w.heap.size, 1, none⟩ = some (.slice a len cap) := cell_row H1.out rfl
  have hlt1 := heap_lt H1.out
  go_wp2_with fail
  clear d0 d1
  refine (clone_u32 a len cap (uV S) w1 (uV_one _) (by omega) (HS.out.below B1.out)).mono ?_
  rintro e w2 ⟨v2, rfl, ⟨b2, hs2, hb2⟩, hbb⟩
  obtain ⟨a2, c2, rfl, hs2⟩ := hs2
  have S2 : Hid (SlAt w2 (.slice a2 len c2) b2 23 len (uV S)) := ⟨a2, c2, rfl, hs2⟩
  have L2 := Lib.hid hb2
  have B2 : Hid (Below w.heap.size w w2) := B1.out.trans (hbb.mono B1.out.size)
  have H2 : Hid (w2.heap[w.heap.size]? = some (.cells #[.int .i64 (nI : Int), .slice a len cap, .int .u32 (rd : Int), .int .i64 wr] 25 (0, 0))) := (hbb.block _ hlt1).trans H1.out
  have hz2 := hbb.size
  clear hs2 hb2 hbb
  have d1 : w2.cell? ⟨w.heap.size, 1, none⟩ = some (.slice a len cap) := cell_row H2.out rfl
  have f1 : w2.frozen? ⟨w.heap.size, 1, none⟩ = false := frozen_of_row _ _ _ _ _ H2.out
  go_wp2_with fail
  have hW0 : w2.heap.size = (w2.setCell ⟨w.heap.size, 1, none⟩ (.slice a2 len c2)).heap.size := by simp [World.setCell]
  have BW : Hid (Below w.heap.size w (w2.setCell ⟨w.heap.size, 1, none⟩ (.slice a2 len c2))) := B2.out.setCell (p := ⟨w.heap.size, 1, none⟩) (Nat.le_refl _) _
  have HW : Hid ((w2.setCell ⟨w.heap.size, 1, none⟩ (.slice a2 len c2)).heap[w.heap.size]? = some (.cells #[.int .i64 (nI : Int), .slice a2 len c2, .int .u32 (rd : Int), .int .i64 wr] 25 (0, 0))) := heap_setCell_same _ _ _ _ _ _ H2.out
  have SW : Hid (SlAt (w2.setCell ⟨w.heap.size, 1, none⟩ (.slice a2 len c2)) (.slice a2 len c2) b2 23 len (uV S)) := S2.out.same fun hp => heap_setCell_other _ _ _ _ (by show b2 ≠ w.heap.size; have := L2.out hp; omega)
  clear d1 f1 S2 H2
  generalize w2.setCell ⟨w.heap.size, 1, none⟩ (.slice a2 len c2) = W at *
  have SWS : Hid (SliceAt W a2 len (uV S)) := by obtain ⟨a', c', e, h1, h2, h3⟩ := SW.out.slice; cases e; exact h3
  obtain ⟨m, hm⟩ : ∃ m : Nat, 4 ≤ m := ⟨4, Nat.le_refl _⟩
  refine (wpIn_wide (n := m)).1 ?_
  refine wpIn_region_reg (newMk nI len) W.heap.size (fun V => Below W.heap.size W V) (newG w.heap.size nI len rd wr (.slice a2 len c2) S) (by kernel_rfl) (by kernel_rfl) (Nat.le_refl _) (Below.refl _ _).drew ?_ (newG_below _ _ _ _ _ _ _) (fun V V' hb hc => hc.trans (hb.mono hc.size)) ?_ ?_
  · intro i o ho vs vs' V e1 e2 hg
    match i, ho, e1, hg with
    | 0, _, e1, hg => exact e1.symm.trans hg
    | 1, _, e1, hg => exact e1.symm.trans hg
    | 2, _, e1, hg => exact e1.symm.trans hg
    | 3, _, e1, hg => obtain ⟨b, hb⟩ := hg; exact ⟨b, by rw [← e1]; exact hb⟩
    | 4, _, e1, hg => exact e1.symm.trans hg
    | 5, _, e1, hg => exact e1.symm.trans hg
    | 6, _, e1, hg => obtain ⟨b, hb⟩ := hg; exact ⟨b, by rw [← e1]; exact hb⟩
    | 7, _, e1, hg => exact e1.symm.trans hg
    | 8, _, e1, hg => obtain ⟨b, hb⟩ := hg; exact ⟨b, by rw [← e1]; exact hb⟩
    | 9, _, e1, hg => exact e1.symm.trans hg
    | 10, _, e1, hg => obtain ⟨b, hb⟩ := hg; exact ⟨b, by rw [← e1]; exact hb⟩
    | 11, ho, e1, hg =>
      obtain rfl := Option.some.inj ho
      have a3 := e2 { on := 3, ground := .data } (by simp)
      have a6 := e2 { on := 6, ground := .data } (by simp)
      have a8 := e2 { on := 8, ground := .data } (by simp)
      have a10 := e2 { on := 10, ground := .data } (by simp)
      show vs' 11 = .agg (newCs _ _ _ _ _ (vs' 3) (vs' 6) (vs' 8) (vs' 10))
      rw [← e1, ← a3, ← a6, ← a8, ← a10]; exact hg
    | 12, ho, e1, hg =>
      obtain rfl := Option.some.inj ho
      have a11 := e2 { on := 11, ground := .data } (by simp)
      obtain ⟨g, cs, h1, h2, h3⟩ := hg
      exact ⟨g, cs, e1.symm.trans h1, a11.symm.trans h2, h3⟩
    | 13, ho, e1, hg =>
      obtain rfl := Option.some.inj ho
      have a12 := e2 { on := 12, ground := .data } (by simp)
      show vs' 13 = vs' 12
      rw [← e1, ← a12]; exact hg
    | 14, _, e1, hg => exact e1.symm.trans hg
    | n + 15, ho, _, _ => cases ho
  · intro i o ho A vs V hC hN hg hev hnd
    have s1 : A.tmps.getD 1 undef = .pointer (some ⟨w.heap.size, 0, none⟩) := (hnd 1 (of_decide_eq_true (by kernel_rfl))).trans rfl
    have s5 : A.tmps.getD 5 undef = .int .i64 (len : Int) := (hnd 5 (of_decide_eq_true (by kernel_rfl))).trans rfl
    have hVB : V.heap[w.heap.size]? = _ := (hC.block _ (heap_lt HW.out)).trans HW.out
    have c0 : V.cell? ⟨w.heap.size, 0, none⟩ = some (.int .i64 (nI : Int)) := cell_row hVB rfl
    have c1 : V.cell? ⟨w.heap.size, 1, none⟩ = some (.slice a2 len c2) := cell_row hVB rfl
    have c2' : V.cell? ⟨w.heap.size, 2, none⟩ = some (.int .u32 (rd : Int)) := cell_row hVB rfl
    have c3 : V.cell? ⟨w.heap.size, 3, none⟩ = some (.int .i64 wr) := cell_row hVB rfl
    have HCB := Lib.hid hC
    clear hVB hC hnd
    match i, ho with
    | 0, ho =>
      obtain rfl := Option.some.inj ho
      clear hg hev
      unfold Oper.wpIn
      go_simp
      exact StepPost.still _ rfl rfl
    | 1, ho =>
      obtain rfl := Option.some.inj ho
      clear hg hev
      unfold Oper.wpIn
      go_simp
      exact StepPost.still _ rfl rfl
    | 2, ho =>
      obtain rfl := Option.some.inj ho
      have x1 := hev { on := 1, ground := .data } (by simp) _ rfl _ rfl
      have g1 := hg { on := 1, ground := .data } (by simp)
      have y : A.tmps.getD 19 undef = _ := x1.trans g1
      clear x1 g1
      clear hg hev
      unfold Oper.wpIn
      go_simp
      exact StepPost.still _ rfl rfl
    | 3, ho =>
      obtain rfl := Option.some.inj ho
      have x2 := hev { on := 2, ground := .data } (by simp) _ rfl _ rfl
      have g2 := hg { on := 2, ground := .data } (by simp)
      have y : A.tmps.getD 20 undef = _ := x2.trans g2
      clear x2 g2
      clear hg hev
      have hmk := fun w => run_make_row' (P := Try.prog) 22 23 (.int .u32 0) 4 Try.underlying22 info23 rfl .i64 .i64 nI (by omega) (by omega) w
      unfold Oper.wpIn
      go_simp
      exact ⟨_, rfl, ⟨V.heap.size, made_row V _ _ _ (by unfold maxLen; omega)⟩, alloc_below _ _, fun _ b hb => by cases hb; exact ⟨Nat.le_refl _, by simp⟩⟩
    | 4, ho =>
      obtain rfl := Option.some.inj ho
      clear hg hev
      unfold Oper.wpIn
      go_simp
      exact StepPost.still _ rfl rfl
    | 5, ho =>
      obtain rfl := Option.some.inj ho
      have x4 := hev { on := 4, ground := .data } (by simp) _ rfl _ rfl
      have g4 := hg { on := 4, ground := .data } (by simp)
      have y : A.tmps.getD 22 undef = _ := x4.trans g4
      clear x4 g4
      clear hg hev
      unfold Oper.wpIn
      go_simp
      exact StepPost.still _ rfl rfl
    | 6, ho =>
      obtain rfl := Option.some.inj ho
      have x5 := hev { on := 5, ground := .data } (by simp) _ rfl _ rfl
      have g5 := hg { on := 5, ground := .data } (by simp)
      have y : A.tmps.getD 23 undef = _ := x5.trans g5
      clear x5 g5
      clear hg hev
      unfold Oper.wpIn
      go_simp
      refine ⟨trivial, fun h => (by cases h), (callsIn_wide.2 (clone_u32 a2 len c2 (uV S) V (uV_one _) (by omega) (SWS.out.below HCB.out))).mono ?_⟩
      rintro e w3 ⟨v, rfl, ⟨b, hs, hb⟩, hbb⟩
      refine ⟨v, rfl, ⟨b, hs⟩, hbb, fun hm b' e => ?_⟩
      have hp : 0 < len := by simpa [newMk] using hm
      obtain ⟨a', c', rfl, -, -, h4⟩ := hs
      obtain ⟨rfl, -⟩ := h4 hp
      cases e
      exact hb hp
    | 7, ho =>
      obtain rfl := Option.some.inj ho
      clear hg hev
      unfold Oper.wpIn
      go_simp
      exact StepPost.still _ rfl rfl
    | 8, ho =>
      obtain rfl := Option.some.inj ho
      have x7 := hev { on := 7, ground := .data } (by simp) _ rfl _ rfl
      have g7 := hg { on := 7, ground := .data } (by simp)
      have y : A.tmps.getD 25 undef = _ := x7.trans g7
      clear x7 g7
      clear hg hev
      have hmk := fun w => run_make_row' (P := Try.prog) 22 23 (.int .u32 0) 4 Try.underlying22 info23 rfl .i64 .i64 len (by omega) (by omega) w
      unfold Oper.wpIn
      go_simp
      exact ⟨_, rfl, ⟨V.heap.size, made_row V _ _ _ (by unfold maxLen; omega)⟩, alloc_below _ _, fun _ b hb => by cases hb; exact ⟨Nat.le_refl _, by simp⟩⟩
    | 9, ho =>
      obtain rfl := Option.some.inj ho
      clear hg hev
      unfold Oper.wpIn
      go_simp
      exact StepPost.still _ rfl rfl
    | 10, ho =>
      obtain rfl := Option.some.inj ho
      have x9 := hev { on := 9, ground := .data } (by simp) _ rfl _ rfl
      have g9 := hg { on := 9, ground := .data } (by simp)
      have y : A.tmps.getD 27 undef = _ := x9.trans g9
      clear x9 g9
      clear hg hev
      have hmk := fun w => run_make_row' (P := Try.prog) 54 4 (.bool false) 1 Try.underlying54 infoB rfl .i64 .i64 len (by omega) (by omega) w
      unfold Oper.wpIn
      go_simp
      exact ⟨_, rfl, ⟨V.heap.size, made_row V _ _ _ (by unfold maxLen; omega)⟩, alloc_below _ _, fun _ b hb => by cases hb; exact ⟨Nat.le_refl _, by simp⟩⟩
    | 11, ho =>
      obtain rfl := Option.some.inj ho
      have x0 := hev { on := 0, ground := .data } (by simp) _ rfl _ rfl
      have g0 := hg { on := 0, ground := .data } (by simp)
      have x3 := hev { on := 3, ground := .data } (by simp) _ rfl _ rfl
      have g3 := hg { on := 3, ground := .data } (by simp)
      have x6 := hev { on := 6, ground := .data } (by simp) _ rfl _ rfl
      have g6 := hg { on := 6, ground := .data } (by simp)
      have x8 := hev { on := 8, ground := .data } (by simp) _ rfl _ rfl
      have g8 := hg { on := 8, ground := .data } (by simp)
      have x10 := hev { on := 10, ground := .data } (by simp) _ rfl _ rfl
      have g10 := hg { on := 10, ground := .data } (by simp)
      obtain ⟨b3, a3, q3, w3, -⟩ := g3
      obtain ⟨b6, a6, q6, w6, -⟩ := g6
      obtain ⟨b8, a8, q8, w8, -⟩ := g8
      obtain ⟨b10, a10, q10, w10, -⟩ := g10
      have W3 := Lib.hid w3; have W6 := Lib.hid w6; have W8 := Lib.hid w8; have W10 := Lib.hid w10
      have y0 : A.tmps.getD 18 undef = _ := x0.trans g0
      have y3 : A.tmps.getD 21 undef = _ := x3.trans w3
      have y6 : A.tmps.getD 24 undef = _ := x6.trans w6
      have y8 : A.tmps.getD 26 undef = _ := x8.trans w8
      have y10 : A.tmps.getD 28 undef = _ := x10.trans w10
      clear x0 x3 x6 x8 x10 g0 w3 w6 w8 w10
      clear hg hev
      have z0 : A.tmps[18]?.getD undef = _ := (Array.getD_eq_getD_getElem? ..).symm.trans y0
      have z3 : A.tmps[21]?.getD undef = _ := (Array.getD_eq_getD_getElem? ..).symm.trans y3
      have z6 : A.tmps[24]?.getD undef = _ := (Array.getD_eq_getD_getElem? ..).symm.trans y6
      have z8 : A.tmps[26]?.getD undef = _ := (Array.getD_eq_getD_getElem? ..).symm.trans y8
      have z10 : A.tmps[28]?.getD undef = _ := (Array.getD_eq_getD_getElem? ..).symm.trans y10
      unfold Oper.wpIn
      go_simp
      refine StepPost.still _ ?_ rfl
      show _ = Value.agg (newCs nI len rd wr (.slice a2 len c2) (vs 3) (vs 6) (vs 8) (vs 10))
      rw [W3.out, W6.out, W8.out, W10.out]; rfl
    | 12, ho =>
      obtain rfl := Option.some.inj ho
      have x11 := hev { on := 11, ground := .data } (by simp) _ rfl _ rfl
      have g11 := hg { on := 11, ground := .data } (by simp)
      have G11 := Lib.hid g11
      have y : A.tmps.getD 29 undef = _ := x11.trans g11
      unfold newCs at y
      clear x11 g11
      clear hg hev
      unfold Oper.wpIn
      go_simp
      exact ⟨_, rfl, ⟨V.heap.size, _, rfl, G11.out, heap_alloc_new _ _⟩, alloc_below _ _, fun _ b hb => by cases hb; exact ⟨Nat.le_refl _, by simp⟩⟩
    | 13, ho =>
      obtain rfl := Option.some.inj ho
      have x12 := hev { on := 12, ground := .data } (by simp) _ rfl _ rfl
      have g12 := hg { on := 12, ground := .data } (by simp)
      have y : A.tmps.getD 30 undef = vs 12 := x12
      clear x12 g12
      clear hg hev
      unfold Oper.wpIn
      go_simp
      exact StepPost.still _ rfl rfl
    | 14, ho =>
      obtain rfl := Option.some.inj ho
      clear hg hev
      unfold Oper.wpIn
      go_simp
      exact StepPost.still _ rfl rfl
    | n + 15, ho => cases ho
  · intro vs V hR
    have g3 := hR.g 3 (by decide) (by decide)
    have g6 := hR.g 6 (by decide) (by decide)
    have g8 := hR.g 8 (by decide) (by decide)
    have g10 := hR.g 10 (by decide) (by decide)
    have g11 := hR.g 11 (by decide) (by decide)
    have g12 := hR.g 12 (by decide) (by decide)
    have g13 := hR.g 13 (by decide) (by decide)
    have g14 := hR.g 14 (by decide) (by decide)
    have g12' := Lib.hid g12
    obtain ⟨g, cs, p1, p2, p3⟩ := g12
    obtain ⟨b3, s3⟩ := g3
    obtain ⟨b6, s6⟩ := g6
    obtain ⟨b8, s8⟩ := g8
    obtain ⟨b10, s10⟩ := g10
    have hcs : cs = newCs nI len rd wr (.slice a2 len c2) (vs 3) (vs 6) (vs 8) (vs 10) := by
      have h1 : vs 11 = .agg _ := g11
      rw [h1] at p2; cases p2; rfl
    subst hcs
    have o3 := fun hp : 0 < nI => s3.own hp
    have o6 := fun hp : 0 < len => s6.own hp
    have o8 := fun hp : 0 < len => s8.own hp
    have o10 := fun hp : 0 < len => s10.own hp
    have o12 : ownB (vs 12) = some g := by rw [p1]; rfl
    have l3 := fun hp : 0 < nI => hR.s 3 (by simp [newMk, hp]) (by decide) b3 (o3 hp)
    have l6 := fun hp : 0 < len => hR.s 6 (by simp [newMk, hp]) (by decide) b6 (o6 hp)
    have l8 := fun hp : 0 < len => hR.s 8 (by simp [newMk, hp]) (by decide) b8 (o8 hp)
    have l10 := fun hp : 0 < len => hR.s 10 (by simp [newMk, hp]) (by decide) b10 (o10 hp)
    have l12 := hR.s 12 (by simp [newMk]) (by decide) g o12
    have mk3 := fun hp : 0 < nI => (show newMk nI len 3 = true by simp [newMk, hp])
    have mk6 := fun hp : 0 < len => (show newMk nI len 6 = true by simp [newMk, hp])
    have mk8 := fun hp : 0 < len => (show newMk nI len 8 = true by simp [newMk, hp])
    have mk10 := fun hp : 0 < len => (show newMk nI len 10 = true by simp [newMk, hp])
    have mk12 : newMk nI len 12 = true := by simp [newMk]
    have ne : ∀ i j bi bj, i ≠ j → newMk nI len i = true → newMk nI len j = true → decide (i < 15) = true → decide (j < 15) = true → ownB (vs i) = some bi → ownB (vs j) = some bj → bi ≠ bj := fun i j bi bj h1 h2 h3 h4 h5 h6 h7 e => hR.d i j h1 h2 h3 h4 h5 bi h6 (by rw [h7, e])
    have F : FieldAt V { lo := W.heap.size, hi := V.heap.size, g := g, bs := b2, bi := b3, bo := b6, bp := b8, bh := b10, vs := .slice a2 len c2, vi := vs 3, vo := vs 6, vp := vs 8, vh := vs 10, nI := nI, nS := len, rd := rd, wr := wr, safe := S, ins := fun _ => 0, outs := S, put := fun _ => 0, has := fun _ => false } := by
      refine ⟨p3, ⟨(show nI ≤ 16 by omega), hlen, hrd, ⟨hw0, hw8⟩, hSl, fun _ => by show 0 < _; omega, hSl, fun _ => by show 0 < _; omega, l12, fun hp => ?_, fun hp => ?_, fun hq hp => ?_⟩, ?_, s3, s6, s8, s10, Nat.le_refl _⟩
      · exact ⟨(l3 hp).1, (l3 hp).2, ne 3 12 _ _ (by decide) (mk3 hp) mk12 (by decide) (by decide) (o3 hp) o12⟩
      · have hb2 := L2.out hp
        refine ⟨⟨(l6 hp).1, (l6 hp).2, ne 6 12 _ _ (by decide) (mk6 hp) mk12 (by decide) (by decide) (o6 hp) o12⟩, ⟨(l8 hp).1, (l8 hp).2, ne 8 12 _ _ (by decide) (mk8 hp) mk12 (by decide) (by decide) (o8 hp) o12⟩, ⟨(l10 hp).1, (l10 hp).2, ne 10 12 _ _ (by decide) (mk10 hp) mk12 (by decide) (by decide) (o10 hp) o12⟩,
          ne 6 8 _ _ (by decide) (mk6 hp) (mk8 hp) (by decide) (by decide) (o6 hp) (o8 hp), ne 6 10 _ _ (by decide) (mk6 hp) (mk10 hp) (by decide) (by decide) (o6 hp) (o10 hp), ne 8 10 _ _ (by decide) (mk8 hp) (mk10 hp) (by decide) (by decide) (o8 hp) (o10 hp), ?_, ?_, ?_, ?_⟩
        · show b2 ≠ b6; have := l6 hp; omega
        · show b2 ≠ b8; have := l8 hp; omega
        · show b2 ≠ b10; have := l10 hp; omega
        · show b2 ≠ g; omega
      · have hb2 := L2.out hp
        refine ⟨ne 3 6 _ _ (by decide) (mk3 hq) (mk6 hp) (by decide) (by decide) (o3 hq) (o6 hp), ne 3 8 _ _ (by decide) (mk3 hq) (mk8 hp) (by decide) (by decide) (o3 hq) (o8 hp), ne 3 10 _ _ (by decide) (mk3 hq) (mk10 hp) (by decide) (by decide) (o3 hq) (o10 hp), ?_⟩
        show b3 ≠ b2; have := l3 hq; omega
      · exact SW.out.same fun hp => hR.c.block _ (by have := L2.out hp; omega)
    have HF := Lib.hid F
    have HV : Hid (Below w.heap.size w V) := BW.out.trans (hR.c.mono BW.out.size)
    have hN : Hid (0 < len → w.heap.size ≤ b2 ∧ b2 < W.heap.size) := fun hp => ⟨by have := L2.out hp; have := B1.out.size; omega, by have := L2.out hp; omega⟩
    have hW1 : w.heap.size ≤ W.heap.size := BW.out.size
    have y13 : vs 13 = .pointer (some ⟨g, 0, none⟩) := (show vs 13 = vs 12 from g13).trans p1
    have y14 : vs 14 = .int .i64 0 := g14
    clear F p1 p2 p3 s3 s6 s8 s10 o3 o6 o8 o10 o12 l3 l6 l8 l10 l12 mk3 mk6 mk8 mk10 mk12 ne g11 g13 g14 hR g12' hSl
    simp only [putS, if_true, Act.put, List.setIfInBounds_toArray, List.set_cons_zero, List.set_cons_succ]
    rw [y13, y14]
    clear y13 y14
    go_wp2_with fail
    go_ret2
    exact ⟨_, rfl, HF.out, ⟨hW1, hN.out, rfl, rfl, rfl, rfl, rfl, rfl, rfl, rfl⟩, HV.out⟩
end Go.Proofs.Ytdelcndaogjngaa
