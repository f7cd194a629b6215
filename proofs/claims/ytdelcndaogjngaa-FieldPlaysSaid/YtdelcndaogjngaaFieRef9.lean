/- The document's New. -/
import Derived.Test.YtdelcndaogjngaaFieRef8
namespace Go.Proofs.Ytdelcndaogjngaa
open Go.RowKit
set_option linter.unusedVariables false
/-- append([]uint32{}, l...): what its run gives. -/
theorem words_run (ty : TypeId) {W : World} {gs : Nat} (hg : W.heap[gs]? = some (.cells #[] 23 (0, 0))) (ad : Option Addr) (m c : Nat) (X : Nat → Nat) (hm : m ≤ 1000000) (hX : SliceAt W ad m (uV X)) :
    ∃ v w' b, (Builtin.append_ #[22, 22] ty #[.slice (some ⟨gs, 0, none⟩) 0 0, .slice ad m c]).run Try.prog W = .ok v w' ∧ Below W.heap.size W w' ∧ SlAt w' v b 23 m (uV X) ∧ (0 < m → b = W.heap.size ∧ b < w'.heap.size) := by
  obtain ⟨i0, hi, hz0, hz1, hz2⟩ := info_parts info23
  by_cases h0 : 0 < m
  · obtain ⟨b', off, rfl, hlt, hc⟩ := hX.at h0
    have hr := run_append_grow (P := Try.prog) W 22 ty 23 i0 (.int .u32 0) Try.underlying22 hi hz0 ⟨gs, 0, none⟩ 0 0 [] (by simp) (fun j v h => by simp at h) ⟨b', off, none⟩ m c ((List.range m).map (uV X)) (by simp [hz1])
      (fun j u h => by
        have hj : j < m := by
          by_cases e : j < m
          · exact e
          · rw [List.getElem?_eq_none (by simp; omega)] at h; cases h
        rw [Go.WideShapes.add_plain, hc j hj]
        simpa [hj] using h) (by omega) (by omega) (growslice_fits (by omega) (by rw [hz2]; omega))
    simp only [Nat.zero_add, Array.empty_append] at hr
    refine ⟨_, _, W.heap.size, hr, (Below.refl _ W).drew.alloc (Nat.le_refl _) _, ⟨_, _, rfl, ?_, ?_, fun _ => ⟨rfl, _, heap_alloc_new W.drew _, ?_, fun i hi => ?_⟩⟩, fun _ => ⟨rfl, by simp⟩⟩
    · exact grownCap_ge W m 0 23
    · exact grownCap_le_maxLen W m 0 23 (by unfold maxLen; omega)
    · rw [Array.size_append]; simp only [List.size_toArray, List.length_map, List.length_range]; omega
    · rw [Array.getElem?_append_left (by simp only [List.size_toArray, List.length_map, List.length_range]; exact hi)]; simp [hi]
  · obtain rfl : m = 0 := by omega
    refine ⟨.slice (some ⟨gs, 0, none⟩) 0 0, W, gs, ?_, Below.refl _ _, ⟨_, 0, rfl, Nat.le_refl _, by unfold maxLen; omega, fun hp => absurd hp (by omega)⟩, fun hp => absurd hp (by omega)⟩
    cases ad with
    | none => simp [Builtin.append_, run_underlying (show Try.prog.underlying 22 = some (.slice 23) from Try.underlying22), sizeOf, typeInfo, hi, Builtin.lenOf, Builtin.firstCells, loadCells, loadCellsFrom, storeCells]
    | some x => simp [Builtin.append_, run_underlying (show Try.prog.underlying 22 = some (.slice 23) from Try.underlying22), sizeOf, typeInfo, hi, Builtin.lenOf, Builtin.firstCells, loadCells, loadCellsFrom, storeCells]
def refCs (nI len cap rd : Nat) (a : Option Addr) (wt : Int) (x3 x7 : Value) : Array Value := #[.int .i64 (nI : Int), .slice a len cap, .int .u32 (rd : Int), .int .i64 wt, x3, x7, .slice none 0 0]
def refG (B nI len cap rd : Nat) (a : Option Addr) (wt : Int) (S : Nat → Nat) : Nat → (Nat → Value) → World → Prop
  | 0, vs, _ => vs 0 = .agg #[.int .i64 (nI : Int), .slice a len cap, .int .u32 (rd : Int), .int .i64 wt]
  | 1, vs, _ => vs 1 = .pointer (some ⟨B, 0, none⟩)
  | 2, vs, _ => vs 2 = .int .i64 (nI : Int)
  | 3, vs, V => ∃ b, vs 3 = .slice (some ⟨b, 0, none⟩) nI nI ∧ SlAt V (vs 3) b 23 nI (uV fun _ => 0)
  | 4, vs, V => ∃ b, vs 4 = .slice (some ⟨b, 0, none⟩) 0 0 ∧ V.heap[b]? = some (.cells #[] 23 (0, 0))
  | 5, vs, _ => vs 5 = .pointer (some ⟨B, 1, none⟩)
  | 6, vs, _ => vs 6 = .slice a len cap
  | 7, vs, V => ∃ b, SlAt V (vs 7) b 23 len (uV S)
  | 8, vs, _ => vs 8 = .agg (refCs nI len cap rd a wt (vs 3) (vs 7))
  | 9, vs, V => ∃ g cs, vs 9 = .pointer (some ⟨g, 0, none⟩) ∧ vs 8 = .agg cs ∧ V.heap[g]? = some (.cells cs 49 (0, 0))
  | 10, vs, _ => vs 10 = vs 9
  | _, _, _ => True
def refMk (len : Nat) (i : Nat) : Bool := i == 3 || i == 4 || (i == 7 && decide (0 < len)) || i == 9
theorem refG_below (B nI len cap rd : Nat) (a : Option Addr) (wt : Int) (S : Nat → Nat) (i : Nat) (vs : Nat → Value) (V V' : World) (hb : Below V.heap.size V V') (h : refG B nI len cap rd a wt S i vs V) : refG B nI len cap rd a wt S i vs V' := by
  have sl : ∀ {v b t n X}, SlAt V v b t n X → SlAt V' v b t n X := fun h => h.same fun hp => hb.block _ (h.lt hp)
  match i, h with
  | 0, h => exact h
  | 1, h => exact h
  | 2, h => exact h
  | 3, h => exact h.imp fun b h => ⟨h.1, sl h.2⟩
  | 4, h => exact h.imp fun b h => ⟨h.1, (hb.block _ (heap_lt h.2)).trans h.2⟩
  | 5, h => exact h
  | 6, h => exact h
  | 7, h => exact h.imp fun b h => sl h
  | 8, h => exact h
  | 9, h => obtain ⟨g, cs, h1, h2, h3⟩ := h; exact ⟨g, cs, h1, h2, (hb.block _ (heap_lt h3)).trans h3⟩
  | 10, h => exact h
  | n + 11, h => exact True.intro
/-- A new one. -/
structure IsRef (R : RS) (w : World) (nI len cap rd : Nat) (a : Option Addr) (wt : Int) (S : Nat → Nat) : Prop where
  lo : w.heap.size ≤ R.lo
  nI : R.nI = nI
  nS : R.nS = len
  rd : R.rd = rd
  wt : R.wt = wt
  sa : R.sa = a
  safe : R.safe = S
  ins : R.ins = fun _ => 0
  outs : R.outs = S
  puts : R.puts = []
def RefPost (nI len cap rd : Nat) (a : Option Addr) (wt : Int) (S : Nat → Nat) (w : World) (e : Ending) (w' : World) : Prop := ∃ R : RS, e = .returned (.pointer (some ⟨R.r, 0, none⟩)) ∧ RefAt w' R ∧ IsRef R w nI len cap rd a wt S ∧ Below w.heap.size w w'
set_option maxHeartbeats 8000000 in
theorem ref_new (nI : Nat) (a : Option Addr) (len cap rd : Nat) (wt : Int) (S : Nat → Nat) (w : World) (h : mayD nI len rd wt) (hS : SliceAt w a len (uV S)) (hSl : ∀ i, S i < 4294967296) :
    Calls Try.prog 10 #[.agg #[.int .i64 (nI : Int), .slice a len cap, .int .u32 (rd : Int), .int .i64 wt]] w (RefPost nI len cap rd a wt S w) := by
  obtain ⟨-, hnI, hlen, hrd, hw0, hw8⟩ := h
  have hSb : Hid (0 < len → ∀ b off, a = some ⟨b, off, none⟩ → b < w.heap.size) := fun hp b off e => by
    obtain ⟨b', off', e', hlt, _⟩ := hS.at hp
    rw [e] at e'; cases e'; exact hlt
  have HW : Hid ((w.alloc (.cells #[.int .i64 (nI : Int), .slice a len cap, .int .u32 (rd : Int), .int .i64 wt] 25)).heap[w.heap.size]? = some (.cells #[.int .i64 (nI : Int), .slice a len cap, .int .u32 (rd : Int), .int .i64 wt] 25 (0, 0))) := heap_alloc_new _ _
  have BW : Hid (Below w.heap.size w (w.alloc (.cells #[.int .i64 (nI : Int), .slice a len cap, .int .u32 (rd : Int), .int .i64 wt] 25))) := (Below.refl _ w).alloc (Nat.le_refl _) _
  have SW : Hid (SliceAt (w.alloc (.cells #[.int .i64 (nI : Int), .slice a len cap, .int .u32 (rd : Int), .int .i64 wt] 25)) a len (uV S)) := hS.below (alloc_below _ _)
  clear hS
  go_enter Try.func10, Try.ntmps10
  go_wp2_with fail
  generalize w.alloc (.cells #[.int .i64 (nI : Int), .slice a len cap, .int .u32 (rd : Int), .int .i64 wt] 25) = W at *
  obtain ⟨m, hm⟩ : ∃ m : Nat, 4 ≤ m := ⟨4, Nat.le_refl _⟩
  refine (wpIn_wide (n := m)).1 ?_
  refine wpIn_region_reg (refMk len) W.heap.size (fun V => Below W.heap.size W V) (refG w.heap.size nI len cap rd a wt S) (by kernel_rfl) (by kernel_rfl) (Nat.le_refl _) (Below.refl _ _).drew ?_ (refG_below _ _ _ _ _ _ _ _) (fun V V' hb hc => hc.trans (hb.mono hc.size)) ?_ ?_
  · intro i o ho vs vs' V e1 e2 hg
    match i, ho, e1, hg with
    | 0, _, e1, hg => exact e1.symm.trans hg
    | 1, _, e1, hg => exact e1.symm.trans hg
    | 2, _, e1, hg => exact e1.symm.trans hg
    | 3, _, e1, hg => obtain ⟨b, hb, hc⟩ := hg; exact ⟨b, e1.symm.trans hb, by rw [← e1]; exact hc⟩
    | 4, _, e1, hg => obtain ⟨b, hb, hc⟩ := hg; exact ⟨b, e1.symm.trans hb, hc⟩
    | 5, _, e1, hg => exact e1.symm.trans hg
    | 6, _, e1, hg => exact e1.symm.trans hg
    | 7, _, e1, hg => obtain ⟨b, hb⟩ := hg; exact ⟨b, by rw [← e1]; exact hb⟩
    | 8, ho, e1, hg =>
      obtain rfl := Option.some.inj ho
      have a3 := e2 { on := 3, ground := .data } (by simp)
      have a7 := e2 { on := 7, ground := .data } (by simp)
      show vs' 8 = .agg (refCs _ _ _ _ _ _ (vs' 3) (vs' 7))
      rw [← e1, ← a3, ← a7]; exact hg
    | 9, ho, e1, hg =>
      obtain rfl := Option.some.inj ho
      have a8 := e2 { on := 8, ground := .data } (by simp)
      obtain ⟨g, cs, h1, h2, h3⟩ := hg
      exact ⟨g, cs, e1.symm.trans h1, a8.symm.trans h2, h3⟩
    | 10, ho, e1, hg =>
      obtain rfl := Option.some.inj ho
      have a9 := e2 { on := 9, ground := .data } (by simp)
      show vs' 10 = vs' 9
      rw [← e1, ← a9]; exact hg
    | n + 11, ho, _, _ => cases ho
  · intro i o ho A vs V hC hN hg hev hnd
    have s1 : A.tmps.getD 1 undef = .pointer (some ⟨w.heap.size, 0, none⟩) := (hnd 1 (of_decide_eq_true (by kernel_rfl))).trans rfl
    have hVB : V.heap[w.heap.size]? = _ := (hC.block _ (heap_lt HW.out)).trans HW.out
    have c0 : V.cell? ⟨w.heap.size, 0, none⟩ = some (.int .i64 (nI : Int)) := cell_row hVB rfl
    have c1 : V.cell? ⟨w.heap.size, 1, none⟩ = some (.slice a len cap) := cell_row hVB rfl
    have c2' : V.cell? ⟨w.heap.size, 2, none⟩ = some (.int .u32 (rd : Int)) := cell_row hVB rfl
    have c3 : V.cell? ⟨w.heap.size, 3, none⟩ = some (.int .i64 wt) := cell_row hVB rfl
    have HCB := Lib.hid hC
    clear hVB hC hnd
    match i, ho with
    | 0, ho =>
      skip
      obtain rfl := Option.some.inj ho
      clear hg hev
      unfold Oper.wpIn
      go_simp
      exact StepPost.still _ rfl rfl
    | 1, ho =>
      skip
      obtain rfl := Option.some.inj ho
      clear hg hev
      unfold Oper.wpIn
      go_simp
      exact StepPost.still _ rfl rfl
    | 2, ho =>
      skip
      obtain rfl := Option.some.inj ho
      have x1 := hev { on := 1, ground := .data } (by simp) _ rfl _ rfl
      have g1 := hg { on := 1, ground := .data } (by simp)
      have y : A.tmps.getD 4 undef = _ := x1.trans g1
      clear x1 g1
      clear hg hev
      unfold Oper.wpIn
      go_simp
      exact StepPost.still _ rfl rfl
    | 3, ho =>
      obtain rfl := Option.some.inj ho
      have x2 := hev { on := 2, ground := .data } (by simp) _ rfl _ rfl
      have g2 := hg { on := 2, ground := .data } (by simp)
      have y : A.tmps.getD 5 undef = _ := x2.trans g2
      clear x2 g2
      clear hg hev
      have hmk := fun w => run_make_row' (P := Try.prog) 22 23 (.int .u32 0) 4 Try.underlying22 info23 rfl .i64 .i64 nI (by omega) (by omega) w
      unfold Oper.wpIn
      go_simp
      exact ⟨_, rfl, ⟨V.heap.size, rfl, made_row V _ _ _ (by unfold maxLen; omega)⟩, alloc_below _ _, fun _ b hb => by cases hb; exact ⟨Nat.le_refl _, by simp⟩⟩
    | 4, ho =>
      obtain rfl := Option.some.inj ho
      clear hg hev
      unfold Oper.wpIn
      go_simp
      exact ⟨_, rfl, ⟨V.heap.size, rfl, heap_alloc_new _ _⟩, alloc_below _ _, fun _ b hb => by cases hb; exact ⟨Nat.le_refl _, by simp⟩⟩
    | 5, ho =>
      skip
      obtain rfl := Option.some.inj ho
      clear hg hev
      unfold Oper.wpIn
      go_simp
      exact StepPost.still _ rfl rfl
    | 6, ho =>
      skip
      obtain rfl := Option.some.inj ho
      have x1 := hev { on := 5, ground := .data } (by simp) _ rfl _ rfl
      have g1 := hg { on := 5, ground := .data } (by simp)
      have y : A.tmps.getD 8 undef = _ := x1.trans g1
      clear x1 g1
      clear hg hev
      unfold Oper.wpIn
      go_simp
      exact StepPost.still _ rfl rfl
    | 7, ho =>
      obtain rfl := Option.some.inj ho
      have x4 := hev { on := 4, ground := .data } (by simp) _ rfl _ rfl
      have g4 := hg { on := 4, ground := .data } (by simp)
      have x6 := hev { on := 6, ground := .data } (by simp) _ rfl _ rfl
      have g6 := hg { on := 6, ground := .data } (by simp)
      obtain ⟨b4, q4, h4⟩ := g4
      have y4 : A.tmps.getD 7 undef = _ := x4.trans q4
      have y6 : A.tmps.getD 9 undef = _ := x6.trans g6
      obtain ⟨v, w', b, hr, hb, hs, hf⟩ := words_run 22 h4 a len cap S (by omega) (SW.out.below HCB.out)
      have HB := Lib.hid hb; have HS := Lib.hid hs; have HF := Lib.hid hf
      clear x4 x6 g6 q4 h4 hb hs hf
      clear hg hev
      unfold Oper.wpIn
      refine ⟨(by go_simp), ?_⟩
      rw [Oper.semAt_eq _ _ _ (by intro c hc; cases hc)]
      have e7 : A.eval (.tmp 7) = .slice (some ⟨b4, 0, none⟩) 0 0 := y4
      have e9 : A.eval (.tmp 9) = .slice a len cap := y6
      unfold execOp
      simp only [resolve, invoke, builtin, Sem.run_bind, Sem.run_pure, Result.andThen_ok, List.map_toArray, List.map_cons, List.map_nil, e7, e9, hr, Oper.uponIn]
      refine ⟨_, rfl, ⟨b, HS.out⟩, HB.out, fun hm b' e => ?_⟩
      have hp : 0 < len := by simpa [refMk] using hm
      have h1 := HS.out.own hp
      rw [h1] at e
      cases e
      have h2 := HF.out hp
      omega
    | 8, ho =>
      obtain rfl := Option.some.inj ho
      have x0 := hev { on := 0, ground := .data } (by simp) _ rfl _ rfl
      have g0 := hg { on := 0, ground := .data } (by simp)
      have x3 := hev { on := 3, ground := .data } (by simp) _ rfl _ rfl
      have g3 := hg { on := 3, ground := .data } (by simp)
      have x7 := hev { on := 7, ground := .data } (by simp) _ rfl _ rfl
      have g7 := hg { on := 7, ground := .data } (by simp)
      obtain ⟨b3, w3, -⟩ := g3
      obtain ⟨b7, a7, q7, w7, -⟩ := g7
      have W3 := Lib.hid w3; have W7 := Lib.hid w7
      have y0 : A.tmps.getD 3 undef = _ := x0.trans g0
      have y3 : A.tmps.getD 6 undef = _ := x3.trans w3
      have y7 : A.tmps.getD 10 undef = _ := x7.trans w7
      clear x0 x3 x7 g0 w3 w7
      clear hg hev
      have z0 : A.tmps[3]?.getD undef = _ := (Array.getD_eq_getD_getElem? ..).symm.trans y0
      have z3 : A.tmps[6]?.getD undef = _ := (Array.getD_eq_getD_getElem? ..).symm.trans y3
      have z7 : A.tmps[10]?.getD undef = _ := (Array.getD_eq_getD_getElem? ..).symm.trans y7
      unfold Oper.wpIn
      go_simp
      refine StepPost.still _ ?_ rfl
      show _ = Value.agg (refCs nI len cap rd a wt (vs 3) (vs 7))
      rw [W3.out, W7.out]; rfl
    | 9, ho =>
      obtain rfl := Option.some.inj ho
      have x8 := hev { on := 8, ground := .data } (by simp) _ rfl _ rfl
      have g8 := hg { on := 8, ground := .data } (by simp)
      have G8 := Lib.hid g8
      have y : A.tmps.getD 11 undef = _ := x8.trans g8
      unfold refCs at y
      clear x8 g8
      clear hg hev
      unfold Oper.wpIn
      go_simp
      exact ⟨_, rfl, ⟨V.heap.size, _, rfl, G8.out, heap_alloc_new _ _⟩, alloc_below _ _, fun _ b hb => by cases hb; exact ⟨Nat.le_refl _, by simp⟩⟩
    | 10, ho =>
      obtain rfl := Option.some.inj ho
      have x9 := hev { on := 9, ground := .data } (by simp) _ rfl _ rfl
      have y : A.tmps.getD 12 undef = vs 9 := x9
      clear x9
      clear hg hev
      unfold Oper.wpIn
      go_simp
      exact StepPost.still _ rfl rfl
    | n + 11, ho => cases ho
  · intro vs V hR
    have g3 := hR.g 3 (by decide) (by decide)
    have g4 := hR.g 4 (by decide) (by decide)
    have g7 := hR.g 7 (by decide) (by decide)
    have g8 := hR.g 8 (by decide) (by decide)
    have g9 := hR.g 9 (by decide) (by decide)
    have g10 := hR.g 10 (by decide) (by decide)
    obtain ⟨g, cs, p1, p2, p3⟩ := g9
    obtain ⟨b3, v3, s3⟩ := g3
    obtain ⟨b4, v4, s4⟩ := g4
    obtain ⟨b7, s7⟩ := g7
    have hcs : cs = refCs nI len cap rd a wt (vs 3) (vs 7) := by
      have h1 : vs 8 = .agg _ := g8
      rw [h1] at p2; cases p2; rfl
    subst hcs
    have o3 : ownB (vs 3) = some b3 := by rw [v3]; rfl
    have o4 : ownB (vs 4) = some b4 := by rw [v4]; rfl
    have o7 := fun hp : 0 < len => s7.own hp
    have o9 : ownB (vs 9) = some g := by rw [p1]; rfl
    have mk3 : refMk len 3 = true := rfl
    have mk4 : refMk len 4 = true := rfl
    have mk7 := fun hp : 0 < len => (show refMk len 7 = true by simp [refMk, hp])
    have mk9 : refMk len 9 = true := by simp [refMk]
    have l3 := hR.s 3 mk3 (by decide) b3 o3
    have l4 := hR.s 4 mk4 (by decide) b4 o4
    have l7 := fun hp : 0 < len => hR.s 7 (mk7 hp) (by decide) b7 (o7 hp)
    have l9 := hR.s 9 mk9 (by decide) g o9
    have ne : ∀ i j bi bj, i ≠ j → refMk len i = true → refMk len j = true → decide (i < 11) = true → decide (j < 11) = true → ownB (vs i) = some bi → ownB (vs j) = some bj → bi ≠ bj := fun i j bi bj h1 h2 h3 h4 h5 h6 h7 e => hR.d i j h1 h2 h3 h4 h5 bi h6 (by rw [h7, e])
    obtain ⟨bo, t7, l7', n7, n7'⟩ : ∃ bo, SlAt V (vs 7) bo 23 len (uV S) ∧ (W.heap.size ≤ bo ∧ bo < V.heap.size) ∧ g ≠ bo ∧ b3 ≠ bo := by
      by_cases hp : 0 < len
      · exact ⟨b7, s7, l7 hp, ne 9 7 _ _ (by decide) mk9 (mk7 hp) (by decide) (by decide) o9 (o7 hp), ne 3 7 _ _ (by decide) mk3 (mk7 hp) (by decide) (by decide) o3 (o7 hp)⟩
      · obtain ⟨a', c', e1, e2, e3, e4⟩ := s7
        exact ⟨b4, ⟨a', c', e1, e2, e3, fun h => absurd h hp⟩, l4, ne 9 4 _ _ (by decide) mk9 mk4 (by decide) (by decide) o9 o4, ne 3 4 _ _ (by decide) mk3 mk4 (by decide) (by decide) o3 o4⟩
    have hW1 : w.heap.size ≤ W.heap.size := BW.out.size
    have F : RefAt V { lo := W.heap.size, r := g, bi := b3, bo := bo, bp := 0, nI := nI, nS := len, cap := cap, rd := rd, wt := wt, sa := a, vi := vs 3, vo := vs 7, vp := .slice none 0 0, safe := S, ins := fun _ => 0, outs := S, puts := [] } := by
      refine ⟨p3, (show nI ≤ 16 by omega), hlen, hrd, ⟨hw0, hw8⟩, Nat.zero_le _, fun p hp => absurd hp (by simp), SW.out.below hR.c, s3, t7, World.ownsRow_nil _ _ _ _, fun k hk => (by cases hk), ⟨l9.1, l3.1, l7'.1⟩, ⟨l9.2, l3.2, l7'.2⟩, ⟨ne 9 3 _ _ (by decide) mk9 mk3 (by decide) (by decide) o9 o3, n7, n7'⟩, fun h => absurd rfl h, fun hp b off e => ?_⟩
      have := hSb.out hp b off e
      show b < W.heap.size
      omega
    have HF := Lib.hid F
    have HV : Hid (Below w.heap.size w V) := BW.out.trans (hR.c.mono BW.out.size)
    have y10 : vs 10 = .pointer (some ⟨g, 0, none⟩) := (show vs 10 = vs 9 from g10).trans p1
    clear F p1 p2 p3 s3 s4 s7 o3 o4 o7 o9 l3 l4 l7 l9 mk3 mk4 mk7 mk9 ne g8 g10 hR t7 l7' n7 n7' v3 v4 hSl
    simp only [putS, if_true, Act.put, List.setIfInBounds_toArray, List.set_cons_zero, List.set_cons_succ]
    rw [y10]
    clear y10
    go_wp2_with fail
    go_ret
    exact ⟨_, rfl, HF.out, ⟨hW1, rfl, rfl, rfl, rfl, rfl, rfl, rfl, rfl, rfl⟩, HV.out⟩
end Go.Proofs.Ytdelcndaogjngaa
