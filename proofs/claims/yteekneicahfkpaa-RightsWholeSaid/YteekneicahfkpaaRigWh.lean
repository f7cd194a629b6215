/- RightsWhole. -/
import Derived.Test.YteekneicahfkpaaRigWp
namespace Go.Proofs.Yteekneicahfkpaa
open Go.RowKit Go.Shelf
set_option linter.unusedVariables false
set_option linter.unusedSimpArgs false
attribute [local go_sem] Oper.semAt_some
/-- The three boxes that are made first: the memory, the byte, the answer. -/
structure Bx (w W : World) (mem at_ : Nat) : Prop where
  b0 : W.heap[w.heap.size]? = some (.cells #[.int .u32 (mem : Int)] 22 (0, 0))
  b1 : W.heap[w.heap.size + 1]? = some (.cells #[.int .u32 (at_ : Int)] 22 (0, 0))
  b2 : W.heap[w.heap.size + 2]? = some (.cells #[.bool false] 4 (0, 0))
  bel : Below w.heap.size w W
theorem Bx.start (w : World) (mem at_ : Nat) : Bx w (((w.alloc (.cells #[.int .u32 (mem : Int)] 22)).alloc (.cells #[.int .u32 (at_ : Int)] 22)).alloc (.cells #[.bool false] 4)) mem at_ := by
  have z1 : (w.alloc (.cells #[.int .u32 (mem : Int)] 22)).heap.size = w.heap.size + 1 := Array.size_push _
  have z2 : ((w.alloc (.cells #[.int .u32 (mem : Int)] 22)).alloc (.cells #[.int .u32 (at_ : Int)] 22)).heap.size = w.heap.size + 2 := by
    show (Array.push _ _).size = _
    rw [Array.size_push, z1]
  refine ⟨?_, ?_, ?_, ?_⟩
  · exact kept (kept (heap_alloc_new _ _) (alloc_below _ _)) (alloc_below _ _)
  · rw [← z1]; exact kept (heap_alloc_new _ _) (alloc_below _ _)
  · rw [← z2]; exact heap_alloc_new _ _
  · exact (alloc_below w _).trans (((alloc_below _ _).trans ((alloc_below _ _).mono (by rw [z1, z2]; omega))).mono (by rw [z1]; omega))
theorem Bx.below {w W W' : World} {mem at_ : Nat} (h : Bx w W mem at_) (hb : Below W.heap.size W W') : Bx w W' mem at_ := ⟨kept h.b0 hb, kept h.b1 hb, kept h.b2 hb, h.bel.trans (hb.mono h.bel.size)⟩
theorem Bx.only {M : Nat → Prop} {w W W' : World} {mem at_ : Nat} (h : Bx w W mem at_) (ho : Only M W W') (hM : ∀ i, M i → w.heap.size + 2 < i) : Bx w W' mem at_ :=
  ⟨box_only h.b0 ho (fun e => by have := hM _ e; omega), box_only h.b1 ho (fun e => by have := hM _ e; omega), box_only h.b2 ho (fun e => by have := hM _ e; omega), h.bel.trans (ho.below h.bel.size (fun i hi hm => by have := hM _ hm; omega))⟩
set_option maxHeartbeats 4000000 in
theorem whole_small (n : Nat) (a : Option Addr) (len cap mem at_ : Nat) (w : World) (h : 20 < len ∨ 262144 < mem ∨ mem ≤ at_) (hn : len ≤ 9223372036854775807) (hm : mem < 4294967296) (ha : at_ < 4294967296) :
    CallsIn Fence.wide n Try.prog 5 #[.slice a len cap, .int .u32 (mem : Int), .int .u32 (at_ : Int)] w fun e w' => e = .returned (.bool true) ∧ Below w.heap.size w w' := by
  refine callsIn_of_wp_marks Try.func5 rfl trivial ?_ rfl
  simp only [Try.ntmps5, List.size_toArray, List.length_cons, List.length_nil, Nat.reduceAdd, Nat.reduceSub, Array.replicate_succ, Array.replicate_zero, List.push_toArray, List.append_toArray, List.nil_append, List.cons_append]
  obtain ⟨w1, hw1⟩ : ∃ w1, w1 = ((w.alloc (.cells #[.int .u32 (mem : Int)] 22)).alloc (.cells #[.int .u32 (at_ : Int)] 22)).alloc (.cells #[.bool false] 4) := ⟨_, rfl⟩
  have X1 : Hid (Bx w w1 mem at_) := by rw [hw1]; exact Bx.start _ _ _
  have HW1 := Lib.hid hw1
  clear hw1
  gi_upto_region 1 with (fail)
  rw [← HW1.out]
  gi_wp2_with (fail)
  refine ⟨trivial, fun h => (by cases h), (callsIn_wide.2 (known_any w1)).mono ?_⟩
  rintro e w2 ⟨rfl, hb2⟩
  have X2 := Lib.hid (X1.out.below hb2)
  clear hb2 X1
  have c0 := cell_row (j := 0) X2.out.b0 rfl
  have c1 := cell_row (j := 0) X2.out.b1 rfl
  have c2 := cell_row (j := 0) X2.out.b2 rfl
  have f2 : w2.frozen? ⟨w.heap.size + 2, 0, none⟩ = false := frozen_of_row _ _ _ _ _ X2.out.b2
  have l0 := heap_lt X2.out.b0; have l1 := heap_lt X2.out.b1; have l2 := heap_lt X2.out.b2
  have q : (w2.setCell ⟨w.heap.size + 2, 0, none⟩ (.bool true)).cell? ⟨w.heap.size + 2, 0, none⟩ = some (.bool true) := cell_row (j := 0) (heap_setCell_same _ _ _ _ _ _ X2.out.b2) rfl
  have HQ := Lib.hid q
  have BF : Hid (Below w.heap.size w (w2.setCell ⟨w.heap.size + 2, 0, none⟩ (.bool true))) := X2.out.bel.setCell (by show w.heap.size ≤ w.heap.size + 2; omega) _
  clear q
  by_cases t1 : 20 < len
  · have t1' : decide (20 < (len : Int)) = true := by simp; omega
    gi_wp2_with (fail)
    exact ⟨.bool true, by have q := HQ.out; simp [results, Try.f5, go_sem, q], rfl, BF.out⟩
  · have t1' : decide (20 < (len : Int)) = false := by simp; omega
    by_cases t2 : 262144 < mem
    · have t2' : decide (262144 < (mem : Int)) = true := by simp; omega
      gi_wp2_with (fail)
      exact ⟨.bool true, by have q := HQ.out; simp [results, Try.f5, go_sem, q], rfl, BF.out⟩
    · have t2' : decide (262144 < (mem : Int)) = false := by simp; omega
      have t3' : decide ((mem : Int) ≤ (at_ : Int)) = true := by simp; omega
      gi_wp2_with (fail)
      exact ⟨.bool true, by have q := HQ.out; simp [results, Try.f5, go_sem, q], rfl, BF.out⟩
/-- Ahead of each round. -/
structure WhI (B b3 b4 : Nat) (w : World) (mem at_ : Nat) (G : List (Nat × Nat)) (x : Nat) (Fb : Nat → Prop) (W : World) : Prop where
  bx : Bx w W mem at_
  sz : B ≤ W.heap.size
  f2 : ¬ Fb (w.heap.size + 2)
  f3 : ¬ Fb b3
  f4 : ¬ Fb b4
  k3 : W.heap[b3]? = some (.cells #[.int .i64 (cntG G at_ x : Int)] 3 (0, 0))
  k4 : W.heap[b4]? = some (.cells #[.int .u32 (lastG G x : Int)] 22 (0, 0))
theorem WhI.grown {B b3 b4 : Nat} {w : World} {mem at_ : Nat} {G : List (Nat × Nat)} {x : Nat} {Fb : Nat → Prop} {W W' : World} {row : Option Nat} (h : WhI B b3 b4 w mem at_ G x Fb W) (hg : W.grownBy W' row) (hr : ∀ r, row = some r → B ≤ r ∧ ∃ o : Obj, W.heap[r]? = some o ∧ o.isCells = false) (hB : w.heap.size ≤ B) : WhI B b3 b4 w mem at_ G x Fb W' := by
  have key : ∀ {k : Nat} {cs : Array Value} {t : TypeId} {fr : Nat × Nat}, W.heap[k]? = some (Obj.cells cs t fr) → W'.heap[k]? = some (Obj.cells cs t fr) := fun {k cs t fr} hk => (hg.block k (heap_lt hk) (fun e => by
    obtain ⟨_, o, ho, hc⟩ := hr k e.symm
    rw [hk] at ho; cases ho; simp [Obj.isCells] at hc)).trans hk
  exact ⟨⟨key h.bx.b0, key h.bx.b1, key h.bx.b2, h.bx.bel.grown hg h.bx.bel.size (fun j e => Nat.le_trans hB (hr j e).1)⟩, Nat.le_trans h.sz hg.size, h.f2, h.f3, h.f4, key h.k3, key h.k4⟩
theorem WhI.below {B b3 b4 : Nat} {w : World} {mem at_ : Nat} {G : List (Nat × Nat)} {x : Nat} {Fb : Nat → Prop} {A W : World} (h : WhI B b3 b4 w mem at_ G x Fb A) (hb : Below A.heap.size A W) : WhI B b3 b4 w mem at_ G x (extF Fb A W) W := by
  have l2 := heap_lt h.bx.b2; have l3 := heap_lt h.k3; have l4 := heap_lt h.k4
  exact ⟨h.bx.below hb, Nat.le_trans h.sz hb.size, fun e => e.elim h.f2 (fun e => by omega), fun e => e.elim h.f3 (fun e => by omega), fun e => e.elim h.f4 (fun e => by omega), kept h.k3 hb, kept h.k4 hb⟩
set_option maxRecDepth 100000 in
set_option maxHeartbeats 8000000 in
theorem whole_in (n : Nat) (h4 : 4 ≤ n) (a : Option Addr) (len cap : Nat) (L : Nat → Reg) (mem at_ : Nat) (w : World) (hn : len ≤ 20) (hm : mem ≤ 262144) (ha : at_ < mem) (hL : RegsAt w a len L) :
    CallsIn Fence.wide n Try.prog 5 #[.slice a len cap, .int .u32 (mem : Int), .int .u32 (at_ : Int)] w fun e w' => e = .returned (.bool true) ∧ Below w.heap.size w w' := by
  have HL := Lib.hid hL
  clear hL
  refine callsIn_of_wp_marks Try.func5 rfl trivial ?_ rfl
  simp only [Try.ntmps5, List.size_toArray, List.length_cons, List.length_nil, Nat.reduceAdd, Nat.reduceSub, Array.replicate_succ, Array.replicate_zero, List.push_toArray, List.append_toArray, List.nil_append, List.cons_append]
  obtain ⟨w1, hw1⟩ : ∃ w1, w1 = ((w.alloc (.cells #[.int .u32 (mem : Int)] 22)).alloc (.cells #[.int .u32 (at_ : Int)] 22)).alloc (.cells #[.bool false] 4) := ⟨_, rfl⟩
  have X1 : Hid (Bx w w1 mem at_) := by rw [hw1]; exact Bx.start _ _ _
  have HW1 := Lib.hid hw1
  clear hw1
  gi_upto_region 1 with (fail)
  rw [← HW1.out]
  gi_wp2_with (fail)
  refine ⟨trivial, fun h => (by cases h), (callsIn_wide.2 (known_any w1)).mono ?_⟩
  rintro e w2 ⟨rfl, hb2⟩
  have X2 := Lib.hid (X1.out.below hb2)
  have L2 : Hid (RegsAt w2 a len L) := HL.out.below X2.out.bel
  clear hb2 X1 HW1
  have c0 := cell_row (j := 0) X2.out.b0 rfl
  have c1 := cell_row (j := 0) X2.out.b1 rfl
  have l0 := heap_lt X2.out.b0; have l1 := heap_lt X2.out.b1
  have t1' : decide (20 < (len : Int)) = false := by simp; omega
  have t2' : decide (262144 < (mem : Int)) = false := by simp; omega
  have t3' : decide ((mem : Int) ≤ (at_ : Int)) = false := by simp; omega
  obtain ⟨w3, hw3⟩ : ∃ w3, w3 = (w2.alloc (.cells #[.int .i64 0] 3)).alloc (.cells #[.int .u32 0] 22) := ⟨_, rfl⟩
  have HW3 := Lib.hid hw3
  have A3 : Hid (Below w2.heap.size w2 w3) := by rw [hw3]; exact ((alloc_below _ _).alloc (alloc_below w2 (.cells #[.int .i64 0] 3)).size _)
  have K3 : Hid (w3.heap[w2.heap.size]? = some (.cells #[.int .i64 0] 3 (0, 0))) := by rw [hw3]; exact kept (heap_alloc_new _ _) (alloc_below _ _)
  have K4 : Hid (w3.heap[w2.heap.size + 1]? = some (.cells #[.int .u32 0] 22 (0, 0))) := by
    rw [hw3, ← show (w2.alloc (.cells #[.int .i64 0] 3)).heap.size = w2.heap.size + 1 from Array.size_push _]
    exact heap_alloc_new _ _
  have hz3 : w3.heap.size = w2.heap.size + 2 := by rw [hw3]; simp
  clear hw3
  gi_upto_region 7 with (fail)
  rw [← HW3.out]
  have X3 := Lib.hid (X2.out.below A3.out)
  have L3 : Hid (RegsAt w3 a len L) := L2.out.below A3.out
  have HB2 : Hid (w.heap.size + 2 < w2.heap.size) := heap_lt X2.out.b2
  clear X2 L2 A3 HW3 c0 c1 l0 l1
  generalize hb3 : w2.heap.size = b3 at *
  have c0 := cell_row (j := 0) X3.out.b0 rfl
  have l0 := heap_lt X3.out.b0
  gi_wp2_with (fail)
  refine ⟨trivial, fun _ => (by omega), (callsIn_wide.2 (free_any a len cap mem w3)).mono ?_⟩
  rintro e w' ⟨rfl, rfl⟩
  rw [hz3]
  obtain ⟨w6, hw6⟩ : ∃ w6, w6 = (w3.alloc (.cells #[.slice a len cap] 29)).alloc (.cells #[.int .u32 (mem : Int)] 22) := ⟨_, rfl⟩
  rw [← hw6]
  have A6 : Hid (Below w3.heap.size w3 w6) := by rw [hw6]; exact ((alloc_below _ _).alloc (alloc_below w3 (.cells #[.slice a len cap] 29)).size _)
  have hz6 : w6.heap.size = b3 + 4 := by rw [hw6]; simp; omega
  have F2 : Hid (w6.heap[b3 + 2]? = some (.cells #[.slice a len cap] 29 (0, 0))) := by rw [hw6, ← hz3]; exact kept (heap_alloc_new _ _) (alloc_below _ _)
  have F3 : Hid (w6.heap[b3 + 2 + 1]? = some (.cells #[.int .u32 (mem : Int)] 22 (0, 0))) := by
    rw [hw6, ← hz3, ← show (w3.alloc (.cells #[.slice a len cap] 29)).heap.size = w3.heap.size + 1 from Array.size_push _]
    exact heap_alloc_new _ _
  clear hw6 c0 l0
  have X6 := Lib.hid (X3.out.below A6.out)
  have L6 : Hid (RegsAt w6 a len L) := L3.out.below A6.out
  have K6 := Lib.hid (kept K3.out A6.out)
  have K7 := Lib.hid (kept K4.out A6.out)
  clear X3 L3 K3 K4 A6
  gi_wp2_with (fail)
  have HQ := free1_in (n - 1) a len cap L mem (b3 + 2 + 1) (b3 + 2) w6 (by omega) (by omega) L6.out F3.out F2.out
  have hGl := frees_len L len mem
  have HSEP := Lib.hid (sep_all L len mem hm)
  have HCNT := Lib.hid (cnt_all L len mem at_ hm ha)
  obtain ⟨G, hG⟩ : ∃ G, G = frees L len mem := ⟨_, rfl⟩
  rw [← hG] at HQ hGl HSEP HCNT
  clear hG
  have HZW := Lib.hid hz6
  obtain ⟨B, hB⟩ : ∃ B, B = w6.heap.size := ⟨_, rfl⟩
  have HBw := Lib.hid hB
  have HMW := Lib.hid X6.out.bel.size
  refine rangeFunc_c (ps := #[31, 32]) rfl (by omega) (gf := 23) (lb := #[.pointer (some ⟨b3 + 2 + 1, 0, none⟩), .pointer (some ⟨b3 + 2, 0, none⟩)]) rfl trivial (enters_of Try.func23 (by kernel_rfl) rfl)
    (Kb := fun b => b = b3 + 2 + 1) (N := G.length) (fun b hb => by rw [hb]; exact heap_lt F3.out) HQ (fun _ => rfl)
    (fun x Fb W => WhI B b3 (b3 + 1) w mem at_ G x Fb W) (fun _ _ _ _ => False)
    (fun Fb s W W' row h hg hr => h.grown hg (fun r e => ⟨by rw [hB]; exact (hr r e).1, (hr r e).2⟩) (by rw [hB]; exact X6.out.bel.size))
    (fun _ Fb s W W' row h _ _ => h.elim)
    (fun s Fb A W h hb => h.below hb) (fun _ s Fb A W h _ => h.elim)
    (fun A hA => ⟨X6.out.below hA, by rw [hB]; exact hA.size, by have := HB2.out; omega, by omega, by omega, by rw [cntG_zero]; exact kept K6.out hA, by rw [lastG_zero]; exact kept K7.out hA⟩) ?_ ?assign ?body ?done ?stop
  case assign =>
    intro l x W K hK
    unfold encG
    gi_wp2
    exact hK
  case stop => intro D c x Fb W _ _ _ h; exact h.elim
  case body =>
    intro l x Fb W hx hl hF hI
    have HI := Lib.hid hI
    clear hI HQ L6 F2 F3 K6 K7 hB hz6 hz3 HCNT HL
    have hgx : G[x]? = some G[x] := List.getElem?_eq_getElem hx
    have hgd : G[x]?.getD (0, 0) = G[x] := by rw [hgx]; rfl
    have hsep := HSEP.out x _ hgx
    have HL1 := Lib.hid (lastG_succ hgx)
    have HC1 := Lib.hid (cntG_succ (at_ := at_) hgx)
    rw [hgd]
    have hcle := cntG_le G at_ x
    clear hgd hgx HSEP
    generalize G[x] = gx at *
    obtain ⟨p, q⟩ := gx
    simp only at hsep ⊢
    simp only [] at HL1 HC1
    obtain ⟨hs1, hs2, hs3⟩ := hsep
    have c0 := cell_row (j := 0) HI.out.bx.b0 rfl
    have c1 := cell_row (j := 0) HI.out.bx.b1 rfl
    have c3 := cell_row (j := 0) HI.out.k3 rfl
    have c4 := cell_row (j := 0) HI.out.k4 rfl
    have l0 := heap_lt HI.out.bx.b0; have l1 := heap_lt HI.out.bx.b1; have l3 := heap_lt HI.out.k3; have l4 := heap_lt HI.out.k4
    have f4 : W.frozen? ⟨b3 + 1, 0, none⟩ = false := frozen_of_row _ _ _ _ _ HI.out.k4
    have HLA : Hid (lastG G x ≤ p) := by
      rcases Nat.eq_zero_or_pos x with h | h
      · subst h; show _ ≤ _; rw [lastG_zero]; omega
      · exact Nat.le_of_lt (hs3 h)
    have HLB : Hid (0 < lastG G x → lastG G x < p) := fun h => by
      rcases Nat.eq_zero_or_pos x with h' | h'
      · subst h'; rw [lastG_zero] at h; omega
      · exact hs3 h'
    clear hs3
    have hla := HLA.out
    have hlb := HLB.out
    obtain ⟨V, hV⟩ : ∃ V, V = W.setCell ⟨b3 + 1, 0, none⟩ (.int .u32 ((lastG G (x + 1) : Nat) : Int)) := ⟨_, rfl⟩
    have O : Hid (Only (fun i => i = b3 + 1) W V) := by rw [hV]; exact (Only.refl _ W).set 0 _ (.inr rfl)
    have XV : Hid (Bx w V mem at_) := HI.out.bx.only O.out (fun i hi => by have := HB2.out; omega)
    have V3 : Hid (V.heap[b3]? = some (.cells #[.int .i64 (cntG G at_ x : Int)] 3 (0, 0))) := box_only HI.out.k3 O.out (by omega)
    have V4 : Hid (V.heap[b3 + 1]? = some (.cells #[.int .u32 (lastG G (x + 1) : Int)] 22 (0, 0))) := by rw [hV]; exact heap_setCell_same _ _ _ _ _ _ HI.out.k4
    have VS : Hid (B ≤ V.heap.size) := Nat.le_trans HI.out.sz O.out.size
    have HKW : Hid (KeepsFrom w6.heap.size W V) := ⟨O.out.size, fun k o hk hko hoc => box_only hko O.out (fun e => by subst e; rw [HI.out.k4] at hko; cases hko; cases hoc)⟩
    have HKF : Hid (KeepF Fb W V) := fun k o hk hko => box_only hko O.out (fun e => by subst e; exact HI.out.f4 hk)
    rw [HL1.out] at hV V4
    have HV := Lib.hid hV
    clear hV
    generalize lastG G x = la at *
    generalize hcn : cntG G at_ x = cn at *
    have c0' : W.cell? ⟨w.heap.size, 0, none⟩ = some (.int .u32 (mem : Int)) := c0
    have c1' : W.cell? ⟨w.heap.size + 1, 0, none⟩ = some (.int .u32 (at_ : Int)) := c1
    have c3' : W.cell? ⟨b3, 0, none⟩ = some (.int .i64 (cn : Int)) := c3
    have c4' : W.cell? ⟨b3 + 1, 0, none⟩ = some (.int .u32 (la : Int)) := c4
    clear c0 c1 c3 c4
    have hcb : cn < 262145 := by omega
    clear hcle hcn
    have t1 : ((q : Int) == 0) = false := by simp; omega
    have t2 : decide ((mem : Int) < (p : Int) + (q : Int)) = false := by simp; omega
    have t3 : decide ((p : Int) < (la : Int)) = false := by simp; omega
    have n3 : decide (p < la) = false := by simp; omega
    have HV2 : Hid (V = W.setCell ⟨b3 + 1, 0, none⟩ (.int .u32 ((p : Int) + (q : Int)))) := HV.out
    cases n4 : decide (0 < la)
    case false =>
      have t4 : decide (0 < (la : Int)) = false := by have := of_decide_eq_false n4; simp; omega
      clear hlb
      gi_upto_region 13 with (fail)
      rw [← HV2.out]
      clear c0' c1' c3' c4' l0 l1 l3 l4 f4 t1 t2 t3 n3
      have c1 : V.cell? ⟨w.heap.size + 1, 0, none⟩ = some (.int .u32 (at_ : Int)) := cell_row (j := 0) XV.out.b1 rfl
      have c3 : V.cell? ⟨b3, 0, none⟩ = some (.int .i64 (cn : Int)) := cell_row (j := 0) V3.out rfl
      have c4 : V.cell? ⟨b3 + 1, 0, none⟩ = some (.int .u32 ((p : Int) + (q : Int))) := cell_row (j := 0) V4.out rfl
      have l1 := heap_lt XV.out.b1; have l3 := heap_lt V3.out; have l4 := heap_lt V4.out
      have f3 : V.frozen? ⟨b3, 0, none⟩ = false := frozen_of_row _ _ _ _ _ V3.out
      cases n6 : decide (p ≤ at_)
      case false =>
        have t6 : decide ((p : Int) ≤ (at_ : Int)) = false := by have := of_decide_eq_false n6; simp; omega
        have h6 := of_decide_eq_false n6
        have HC2 : Hid (cntG G at_ (x + 1) = cn) := by show _ = _; rw [HC1.out]; unfold inG; simp; omega
        gi_wp2
        exact ⟨HKW.out, ⟨HKF.out, O.out.size⟩, ⟨XV.out, VS.out, HI.out.f2, HI.out.f3, HI.out.f4, by rw [HC2.out]; exact V3.out, by rw [HL1.out]; exact V4.out⟩⟩
      case true =>
        have t6 : decide ((p : Int) ≤ (at_ : Int)) = true := by have := of_decide_eq_true n6; simp; omega
        have h6 := of_decide_eq_true n6
        cases n7 : decide (at_ < p + q)
        case false =>
          have t7 : decide ((at_ : Int) < (p : Int) + (q : Int)) = false := by have := of_decide_eq_false n7; simp; omega
          have h7 := of_decide_eq_false n7
          have HC2 : Hid (cntG G at_ (x + 1) = cn) := by show _ = _; rw [HC1.out]; unfold inG; simp; omega
          gi_wp2
          exact ⟨HKW.out, ⟨HKF.out, O.out.size⟩, ⟨XV.out, VS.out, HI.out.f2, HI.out.f3, HI.out.f4, by rw [HC2.out]; exact V3.out, by rw [HL1.out]; exact V4.out⟩⟩
        case true =>
          have t7 : decide ((at_ : Int) < (p : Int) + (q : Int)) = true := by have := of_decide_eq_true n7; simp; omega
          have h7 := of_decide_eq_true n7
          have HC2 : Hid (cntG G at_ (x + 1) = cn + 1) := by show _ = _; rw [HC1.out]; unfold inG; simp; omega
          obtain ⟨U, hU⟩ : ∃ U, U = V.setCell ⟨b3, 0, none⟩ (.int .i64 ((cn + 1 : Nat) : Int)) := ⟨_, rfl⟩
          have O2 : Hid (Only (fun i => i = b3) V U) := by rw [hU]; exact (Only.refl _ V).set 0 _ (.inr rfl)
          have XU : Hid (Bx w U mem at_) := XV.out.only O2.out (fun i hi => by have := HB2.out; omega)
          have U4 : Hid (U.heap[b3 + 1]? = some (.cells #[.int .u32 ((p + q : Nat) : Int)] 22 (0, 0))) := box_only V4.out O2.out (by omega)
          have U3 : Hid (U.heap[b3]? = some (.cells #[.int .i64 ((cn + 1 : Nat) : Int)] 3 (0, 0))) := by rw [hU]; exact heap_setCell_same _ _ _ _ _ _ V3.out
          have HKW2 : Hid (KeepsFrom w6.heap.size W U) := ⟨Nat.le_trans O.out.size O2.out.size, fun k o hk hko hoc => box_only (HKW.out.same k o hk hko hoc) O2.out (fun e => by subst e; rw [HI.out.k3] at hko; cases hko; cases hoc)⟩
          have HKF2 : Hid (KeepF Fb W U) := fun k o hk hko => box_only (HKF.out k o hk hko) O2.out (fun e => by subst e; exact HI.out.f3 hk)
          have HU2 : Hid (U = V.setCell ⟨b3, 0, none⟩ (.int .i64 ((cn : Int) + 1))) := hU
          clear hU
          gi_wp2
          rw [← HU2.out]
          exact ⟨HKW2.out, ⟨HKF2.out, Nat.le_trans O.out.size O2.out.size⟩, ⟨XU.out, Nat.le_trans VS.out O2.out.size, HI.out.f2, HI.out.f3, HI.out.f4, by rw [HC2.out]; exact U3.out, by rw [HL1.out]; exact U4.out⟩⟩
    case true =>
      have t4 : decide (0 < (la : Int)) = true := by have := of_decide_eq_true n4; simp; omega
      have t5 : ((p : Int) == (la : Int)) = false := by have := of_decide_eq_true n4; simp; omega
      clear hlb
      gi_upto_region 13 with (fail)
      rw [← HV2.out]
      clear c0' c1' c3' c4' l0 l1 l3 l4 f4 t1 t2 t3 n3
      have c1 : V.cell? ⟨w.heap.size + 1, 0, none⟩ = some (.int .u32 (at_ : Int)) := cell_row (j := 0) XV.out.b1 rfl
      have c3 : V.cell? ⟨b3, 0, none⟩ = some (.int .i64 (cn : Int)) := cell_row (j := 0) V3.out rfl
      have c4 : V.cell? ⟨b3 + 1, 0, none⟩ = some (.int .u32 ((p : Int) + (q : Int))) := cell_row (j := 0) V4.out rfl
      have l1 := heap_lt XV.out.b1; have l3 := heap_lt V3.out; have l4 := heap_lt V4.out
      have f3 : V.frozen? ⟨b3, 0, none⟩ = false := frozen_of_row _ _ _ _ _ V3.out
      cases n6 : decide (p ≤ at_)
      case false =>
        have t6 : decide ((p : Int) ≤ (at_ : Int)) = false := by have := of_decide_eq_false n6; simp; omega
        have h6 := of_decide_eq_false n6
        have HC2 : Hid (cntG G at_ (x + 1) = cn) := by show _ = _; rw [HC1.out]; unfold inG; simp; omega
        gi_wp2
        exact ⟨HKW.out, ⟨HKF.out, O.out.size⟩, ⟨XV.out, VS.out, HI.out.f2, HI.out.f3, HI.out.f4, by rw [HC2.out]; exact V3.out, by rw [HL1.out]; exact V4.out⟩⟩
      case true =>
        have t6 : decide ((p : Int) ≤ (at_ : Int)) = true := by have := of_decide_eq_true n6; simp; omega
        have h6 := of_decide_eq_true n6
        cases n7 : decide (at_ < p + q)
        case false =>
          have t7 : decide ((at_ : Int) < (p : Int) + (q : Int)) = false := by have := of_decide_eq_false n7; simp; omega
          have h7 := of_decide_eq_false n7
          have HC2 : Hid (cntG G at_ (x + 1) = cn) := by show _ = _; rw [HC1.out]; unfold inG; simp; omega
          gi_wp2
          exact ⟨HKW.out, ⟨HKF.out, O.out.size⟩, ⟨XV.out, VS.out, HI.out.f2, HI.out.f3, HI.out.f4, by rw [HC2.out]; exact V3.out, by rw [HL1.out]; exact V4.out⟩⟩
        case true =>
          have t7 : decide ((at_ : Int) < (p : Int) + (q : Int)) = true := by have := of_decide_eq_true n7; simp; omega
          have h7 := of_decide_eq_true n7
          have HC2 : Hid (cntG G at_ (x + 1) = cn + 1) := by show _ = _; rw [HC1.out]; unfold inG; simp; omega
          obtain ⟨U, hU⟩ : ∃ U, U = V.setCell ⟨b3, 0, none⟩ (.int .i64 ((cn + 1 : Nat) : Int)) := ⟨_, rfl⟩
          have O2 : Hid (Only (fun i => i = b3) V U) := by rw [hU]; exact (Only.refl _ V).set 0 _ (.inr rfl)
          have XU : Hid (Bx w U mem at_) := XV.out.only O2.out (fun i hi => by have := HB2.out; omega)
          have U4 : Hid (U.heap[b3 + 1]? = some (.cells #[.int .u32 ((p + q : Nat) : Int)] 22 (0, 0))) := box_only V4.out O2.out (by omega)
          have U3 : Hid (U.heap[b3]? = some (.cells #[.int .i64 ((cn + 1 : Nat) : Int)] 3 (0, 0))) := by rw [hU]; exact heap_setCell_same _ _ _ _ _ _ V3.out
          have HKW2 : Hid (KeepsFrom w6.heap.size W U) := ⟨Nat.le_trans O.out.size O2.out.size, fun k o hk hko hoc => box_only (HKW.out.same k o hk hko hoc) O2.out (fun e => by subst e; rw [HI.out.k3] at hko; cases hko; cases hoc)⟩
          have HKF2 : Hid (KeepF Fb W U) := fun k o hk hko => box_only (HKF.out k o hk hko) O2.out (fun e => by subst e; exact HI.out.f3 hk)
          have HU2 : Hid (U = V.setCell ⟨b3, 0, none⟩ (.int .i64 ((cn : Int) + 1))) := hU
          clear hU
          gi_wp2
          rw [← HU2.out]
          exact ⟨HKW2.out, ⟨HKF2.out, Nat.le_trans O.out.size O2.out.size⟩, ⟨XU.out, Nat.le_trans VS.out O2.out.size, HI.out.f2, HI.out.f3, HI.out.f4, by rw [HC2.out]; exact U3.out, by rw [HL1.out]; exact U4.out⟩⟩
  case done =>
    intro D Fb W hD hI hK
    have HI := Lib.hid hI; have HK := Lib.hid hK
    have HDW := Lib.hid hD
    have LW : Hid (RegsAt W a len L) := HL.out.below hI.bx.bel
    have HKs := Lib.hid hI.k3
    clear hI hK hD HL HQ L6 F2 F3 K6 K7 hB hz6 hz3 HSEP
    gi_wp2_with (fail)
    gi_loopw [11, 71] (fun o i wr => ∃ k : Nat, k ≤ len ∧ i = .int .i64 k ∧ o = .bool (ownedQ L k at_) ∧ Below W.heap.size W wr) (fun _ i _ => len - (intOf i).toNat)
    case atStart => exact ⟨0, Nat.zero_le _, rfl, rfl, Below.refl _ _⟩
    case round =>
      obtain ⟨k, hk, rfl, rfl, hb⟩ := hrel
      have B4 := Lib.hid hb
      clear hb
      obtain ⟨w4, rfl⟩ : ∃ w4 : World, w4 = wr := ⟨_, rfl⟩
      by_cases hlt : k < len
      · obtain ⟨sb, soff, rfl, hsl, hcells⟩ := LW.out.1.at (by omega)
        have x0 : w4.cell? ⟨sb, soff + k * 3, none⟩ = some (.int .u32 ((L k).base : Int)) := by rw [B4.out.cell hsl]; exact hcells k hlt 0 (by omega)
        have x1 : w4.cell? ⟨sb, soff + k * 3 + 1, none⟩ = some (.int .u32 ((L k).size : Int)) := by rw [B4.out.cell hsl]; exact hcells k hlt 1 (by omega)
        have x2 : w4.cell? ⟨sb, soff + k * 3 + 2, none⟩ = some (.int .u8 ((L k).rt : Int)) := by rw [B4.out.cell hsl]; exact hcells k hlt 2 (by omega)
        clear hcells
        have HOS := Lib.hid (ownedQ_succ L k at_)
        have HO := Lib.hid (fun W => overlap_any (L k) ⟨at_, 1, 1⟩ W (LW.out.2 k) ⟨by show at_ < _; omega, by show 1 < _; omega, by show 1 < _; omega⟩)
        have HE := Lib.hid (over_byte (L k) at_)
        rw [HE.out] at HO
        clear HE
        generalize (L k).has at_ = hs at *
        generalize hLk : L k = r at *
        clear hLk
        obtain ⟨b, sz, t⟩ := r
        unfold Reg.val at HO
        simp only at x0 x1 x2 HO
        obtain ⟨w5, hw5⟩ : ∃ x, x = w4.alloc (.cells #[.int .u32 (b : Int), .int .u32 (sz : Int), .int .u8 (t : Int)] 24) := ⟨_, rfl⟩
        have K5 : Hid (w5.heap[w4.heap.size]? = some (.cells #[.int .u32 (b : Int), .int .u32 (sz : Int), .int .u8 (t : Int)] 24 (0, 0))) := by rw [hw5]; exact heap_alloc_new _ _
        have B5 : Hid (Below W.heap.size W w5) := by rw [hw5]; exact B4.out.alloc B4.out.size _
        have HW5 := Lib.hid hw5
        clear hw5
        have X5 := Lib.hid (HI.out.bx.below B5.out)
        gi_upto_region 19 with (fail)
        rw [← HW5.out]
        generalize hg5 : w4.heap.size = g5 at *
        clear x0 x1 x2
        obtain ⟨U, f, hUn, hU1, hU2⟩ := class_of (fun V => Below w5.heap.size w5 V) (W := w5.drew) ⟨rfl, rfl, rfl, Nat.le_refl _, fun _ _ => rfl⟩
        have y0 : ∀ u, (f u).cell? ⟨g5, 0, none⟩ = some (.int .u32 (b : Int)) := fun u => cell_row (j := 0) (kept K5.out (hU1 u)) rfl
        have y1 : ∀ u, (f u).cell? ⟨g5, 1, none⟩ = some (.int .u32 (sz : Int)) := fun u => cell_row (j := 1) (kept K5.out (hU1 u)) rfl
        have y2 : ∀ u, (f u).cell? ⟨g5, 2, none⟩ = some (.int .u8 (t : Int)) := fun u => cell_row (j := 2) (kept K5.out (hU1 u)) rfl
        have y3 : ∀ u, (f u).cell? ⟨w.heap.size + 1, 0, none⟩ = some (.int .u32 (at_ : Int)) := fun u => cell_row (j := 0) (kept X5.out.b1 (hU1 u)) rfl
        have HU1 := Lib.hid hU1; have HU2 := Lib.hid hU2
        clear hU1 hU2
        have hfm : (Try.prog).follows .mixedOrders = true := by kernel_rfl
        have HR0 : Hid (∀ u, CallsIn Fence.wide (n - 1) Try.prog 17 #[.int .u32 (at_ : Int), .int .u32 1, .int .u8 1] (f u) fun e w' => e = .returned (.agg #[.int .u32 (at_ : Int), .int .u32 1, .int .u8 1]) ∧ ∃ u', w' = f u') := fun u => (callsIn_wide.2 (show Calls Try.prog 17 #[.int .u32 (at_ : Int), .int .u32 1, .int .u8 1] (f u) _ from of_any at_ 1 1 (f u))).mono (fun e w' ⟨he, hb⟩ => ⟨he, HU2.out w' ((HU1.out u).trans (hb.mono (HU1.out u).size))⟩)
        have HR1 : Hid (∀ u, CallsIn Fence.wide (n - 1) Try.prog 11 #[.agg #[.int .u32 (b : Int), .int .u32 (sz : Int), .int .u8 (t : Int)], .agg #[.int .u32 (at_ : Int), .int .u32 1, .int .u8 1]] (f u) fun e w' => e = .returned (.bool hs) ∧ ∃ u', w' = f u') := fun u => (callsIn_wide.2 (HO.out (f u))).mono (fun e w' ⟨he, hb⟩ => ⟨he, HU2.out w' ((HU1.out u).trans (hb.mono (HU1.out u).size))⟩)
        have hd1 : 1 ≤ n := by omega
        have hf0 : Fence.wide.fn 17 := trivial
        have hf1 : Fence.wide.fn 11 := trivial
        have HG5 : Hid (g5 < w5.heap.size) := heap_lt K5.out
        have HLW := Lib.hid (Nat.le_trans B4.out.size (Nat.le_of_eq hg5))
        clear h4 HO hg5
        cases how : ownedQ L k at_
        case true =>
          rw [how] at HOS
          have HOS2 : Hid (ownedQ L (k + 1) at_ = true) := by show _ = _; rw [HOS.out]; rfl
          clear HOS
          have HOS := HOS2
          clear how
          refine wpIn_region_cls f (by kernel_rfl) hfm (by kernel_rfl) (HU2.out _ ⟨rfl, rfl, rfl, Nat.le_refl _, fun _ _ => rfl⟩) ?_
          repeat (gi_big_quiet_step (first | (gi_at_call 17; (with_reducible exact HR0.out _)) | (gi_at_call 11; (with_reducible exact HR1.out _))))
          refine wpQuietIn_nil ?_
          rintro w7 ⟨u, rfl⟩
          have B7 : Hid (Below W.heap.size W (f u)) := B5.out.trans ((HU1.out u).mono (Nat.le_trans HLW.out (Nat.le_of_lt HG5.out)))
          generalize f u = w7 at *
          clear HR0 HR1 hf0 hf1 HU1 HU2 y0 y1 y2 y3
          gi_wp2_with (fail)
          go_roundw
          case rel => exact ⟨k + 1, by omega, by go_num, by rw [HOS.out], B7.out⟩
          case measure => simp [intOf]; omega
        case false =>
          rw [how] at HOS
          have HOS2 : Hid (ownedQ L (k + 1) at_ = hs) := by show _ = _; rw [HOS.out]; rfl
          clear HOS
          have HOS := HOS2
          clear how
          refine wpIn_region_cls f (by kernel_rfl) hfm (by kernel_rfl) (HU2.out _ ⟨rfl, rfl, rfl, Nat.le_refl _, fun _ _ => rfl⟩) ?_
          repeat (gi_big_quiet_step (first | (gi_at_call 17; (with_reducible exact HR0.out _)) | (gi_at_call 11; (with_reducible exact HR1.out _))))
          refine wpQuietIn_nil ?_
          rintro w7 ⟨u, rfl⟩
          have B7 : Hid (Below W.heap.size W (f u)) := B5.out.trans ((HU1.out u).mono (Nat.le_trans HLW.out (Nat.le_of_lt HG5.out)))
          generalize f u = w7 at *
          clear HR0 HR1 hf0 hf1 HU1 HU2 y0 y1 y2 y3
          gi_wp2_with (fail)
          go_roundw
          case rel => exact ⟨k + 1, by omega, by go_num, by rw [HOS.out], B7.out⟩
          case measure => simp [intOf]; omega
      · obtain rfl : k = len := by omega
        have XW := Lib.hid (HI.out.bx.below B4.out)
        have K3 := Lib.hid (kept HKs.out B4.out)
        have KD := Lib.hid (kept HK.out B4.out)
        have HFR : Hid (freeB L k at_ = !ownedQ L k at_) := rfl
        obtain ⟨V, hV⟩ : ∃ V, V = w4.setCell ⟨w.heap.size + 2, 0, none⟩ (.bool true) := ⟨_, rfl⟩
        have O : Hid (Only (fun i => i = w.heap.size + 2) w4 V) := by rw [hV]; exact (Only.refl _ _).set 0 _ (.inr rfl)
        have V2 : Hid (V.heap[w.heap.size + 2]? = some (.cells #[.bool true] 4 (0, 0))) := by rw [hV]; exact heap_setCell_same _ _ _ _ _ _ XW.out.b2
        have HNE : Hid (w.heap.size + 2 ≠ D) := by
          intro e
          have := KD.out
          rw [← e, XW.out.b2] at this
          cases this
        have VD : Hid (V.heap[D]? = some (.deferred (some []))) := box_only KD.out O.out (fun e => HNE.out e.symm)
        have BV : Hid (Below w.heap.size w V) := XW.out.bel.trans (O.out.below XW.out.bel.size (fun i hi hm => by omega))
        have HV := Lib.hid hV
        clear hV hk
        have l3 := heap_lt K3.out; have l2 := heap_lt XW.out.b2
        have c2 : w4.cell? ⟨w.heap.size + 2, 0, none⟩ = some (.bool false) := cell_row (j := 0) XW.out.b2 rfl
        have f2 : w4.frozen? ⟨w.heap.size + 2, 0, none⟩ = false := frozen_of_row _ _ _ _ _ XW.out.b2
        cases how : ownedQ L k at_
        case true =>
          have HCN : Hid (cntG G at_ G.length = 0) := by show _ = _; rw [HCNT.out, HFR.out, how]; rfl
          have c3 : w4.cell? ⟨b3, 0, none⟩ = some (.int .i64 0) := by
            have := cell_row (j := 0) K3.out rfl
            rw [HCN.out] at this
            exact this
          clear how
          gi_wp2_with (fail)
          rw [← HV.out]
          refine ⟨by simp, .inl ⟨_, _, rfl, run_takeDeferred VD.out, ?_⟩⟩
          have q2 : (V.putObj D (.deferred none)).cell? ⟨w.heap.size + 2, 0, none⟩ = some (.bool true) := by
            rw [World.cell?_of_block (World.putObj_heap_other (by show w.heap.size + 2 ≠ D; exact HNE.out))]; exact cell_row (j := 0) V2.out rfl
          refine ⟨.bool true, by simp [results, Try.f5, go_sem, q2], rfl, ?_⟩
          refine BV.out.grown (grownBy_putObj' V D (.deferred none)) BV.out.size (fun j e => ?_)
          cases e
          exact Nat.le_trans HMW.out HDW.out
        case false =>
          have HCN : Hid (cntG G at_ G.length = 1) := by show _ = _; rw [HCNT.out, HFR.out, how]; rfl
          have c3 : w4.cell? ⟨b3, 0, none⟩ = some (.int .i64 1) := by
            have := cell_row (j := 0) K3.out rfl
            rw [HCN.out] at this
            exact this
          clear how
          gi_wp2_with (fail)
          rw [← HV.out]
          refine ⟨by simp, .inl ⟨_, _, rfl, run_takeDeferred VD.out, ?_⟩⟩
          have q2 : (V.putObj D (.deferred none)).cell? ⟨w.heap.size + 2, 0, none⟩ = some (.bool true) := by
            rw [World.cell?_of_block (World.putObj_heap_other (by show w.heap.size + 2 ≠ D; exact HNE.out))]; exact cell_row (j := 0) V2.out rfl
          refine ⟨.bool true, by simp [results, Try.f5, go_sem, q2], rfl, ?_⟩
          refine BV.out.grown (grownBy_putObj' V D (.deferred none)) BV.out.size (fun j e => ?_)
          cases e
          exact Nat.le_trans HMW.out HDW.out
theorem whole_walk (a : Option Addr) (len cap : Nat) (m t : Int) (w : World) (w0 : ReadsC w 29 [.slice a len cap]) (w1 : (Lit.int .u32 m).wf = true) (w2 : (Lit.int .u32 t).wf = true) :
    Calls Try.prog 5 #[.slice a len cap, .int .u32 m, .int .u32 t] w fun e w' => e = .returned (.bool true) ∧ Below w.heap.size w w' := by
  obtain ⟨l1, l2, L, hL⟩ := reads_regs w0
  obtain ⟨mem, rfl, hm⟩ := u32_nat w1
  obtain ⟨at_, rfl, ha⟩ := u32_nat w2
  unfold maxLen at l2
  refine (callsIn_wide (n := 4)).1 ?_
  by_cases h : 20 < len ∨ 262144 < mem ∨ mem ≤ at_
  · exact whole_small 4 a len cap mem at_ w h (by omega) hm ha
  · exact whole_in 4 (Nat.le_refl _) a len cap L mem at_ w (by omega) (by omega) (by omega) hL
end Go.Proofs.Yteekneicahfkpaa
