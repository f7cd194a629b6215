/- RightsFree. -/
import Derived.Test.YteekneicahfkpaaRigSm
import Derived.Test.YteekneicahfkpaaRigN
import Derived.Test.YteekneicahfkpaaRigRd
namespace Go.Proofs.Yteekneicahfkpaa
open Go.RowKit Go.Shelf
set_option linter.unusedVariables false
set_option linter.unusedSimpArgs false
attribute [local go_sem] Oper.semAt_some
/-- Ahead of each round of the loop that counts. -/
def CntI (B bm bn : Nat) (w : World) (most : Int) (x : Nat) (Fb : Nat → Prop) (W : World) : Prop :=
  Below w.heap.size w W ∧ B ≤ W.heap.size ∧ ¬ Fb bn ∧ W.heap[bm]? = some (.cells #[.int .i64 most] 3 (0, 0)) ∧ W.heap[bn]? = some (.cells #[.int .i64 (x : Int)] 3 (0, 0))
theorem CntI.grown {B bm bn : Nat} {w : World} {most : Int} {x : Nat} {Fb : Nat → Prop} {W W' : World} {row : Option Nat} (h : CntI B bm bn w most x Fb W) (hg : W.grownBy W' row) (hr : ∀ r, row = some r → B ≤ r ∧ ∃ o : Obj, W.heap[r]? = some o ∧ o.isCells = false) (hB : w.heap.size ≤ B) : CntI B bm bn w most x Fb W' := by
  obtain ⟨h1, h2, h3, k1, k2⟩ := h
  have key : ∀ (k : Nat) (cs : Array Value) (t : TypeId) (fr : Nat × Nat), W.heap[k]? = some (Obj.cells cs t fr) → W'.heap[k]? = some (Obj.cells cs t fr) := fun k cs t fr hk => (hg.block k (heap_lt hk) (fun e => by
    obtain ⟨_, o, ho, hc⟩ := hr k e.symm
    rw [hk] at ho; cases ho; simp [Obj.isCells] at hc)).trans hk
  exact ⟨h1.grown hg h1.size (fun j e => Nat.le_trans hB (hr j e).1), Nat.le_trans h2 hg.size, h3, key _ _ _ _ k1, key _ _ _ _ k2⟩
theorem CntI.below {B bm bn : Nat} {w : World} {most : Int} {x : Nat} {Fb : Nat → Prop} {A W : World} (h : CntI B bm bn w most x Fb A) (hb : Below A.heap.size A W) : CntI B bm bn w most x (extF Fb A W) W := by
  obtain ⟨h1, h2, h3, k1, k2⟩ := h
  have l2 := heap_lt k2
  exact ⟨h1.trans (hb.mono h1.size), Nat.le_trans h2 hb.size, fun e => e.elim h3 (fun e => by omega), kept k1 hb, kept k2 hb⟩
theorem CntI.below' {B bm bn : Nat} {w : World} {most : Int} {x : Nat} {Fb : Nat → Prop} {A W : World} (h : CntI B bm bn w most x Fb A) (hb : Below A.heap.size A W) : CntI B bm bn w most x Fb W := by
  obtain ⟨h1, h2, h3, k1, k2⟩ := h
  exact ⟨h1.trans (hb.mono h1.size), Nat.le_trans h2 hb.size, h3, kept k1 hb, kept k2 hb⟩
theorem free_small (n : Nat) (a : Option Addr) (len cap mem : Nat) (most : Int) (w : World) (h : 20 < len ∨ (3000 < mem ∧ mem ≤ 262144)) (hn : len ≤ 9223372036854775807) (hm : mem < 4294967296) :
    CallsIn Fence.wide n Try.prog 4 #[.slice a len cap, .int .u32 (mem : Int), .int .i64 most] w fun e w' => e = .returned (.bool true) ∧ Below w.heap.size w w' := by
  refine callsIn_of_wp_marks Try.func4 rfl trivial ?_ rfl
  simp only [Try.ntmps4, List.size_toArray, List.length_cons, List.length_nil, Nat.reduceAdd, Nat.reduceSub, Array.replicate_succ, Array.replicate_zero, List.push_toArray, List.append_toArray, List.nil_append, List.cons_append]
  have HB0 : Hid (Below w.heap.size w (w.alloc (.cells #[.int .i64 most] 3))) := alloc_below _ _
  gi_wp2_with (fail)
  refine ⟨trivial, fun h => (by cases h), (callsIn_wide.2 (known_any _)).mono ?_⟩
  rintro e w2 ⟨rfl, hb2⟩
  have B2 : Hid (Below w.heap.size w w2) := HB0.out.trans (hb2.mono HB0.out.size)
  clear hb2
  by_cases t1 : 20 < len
  · have t1' : decide (20 < (len : Int)) = true := by simp; omega
    gi_wp2_with (fail)
    exact ⟨.bool true, by simp [results, Try.f4, go_sem], rfl, B2.out⟩
  · have t1' : decide (20 < (len : Int)) = false := by simp; omega
    have t2 : decide (3000 < (mem : Int)) = true := by simp; omega
    have t3 : decide ((mem : Int) ≤ 262144) = true := by simp; omega
    gi_wp2_with (fail)
    exact ⟨.bool true, by simp [results, Try.f4, go_sem], rfl, B2.out⟩
theorem frees_at {w : World} {B : Nat} {v : Value} {G : List (Nat × Nat)} (h : w.ownsRow B 22 1 v G.length (fstV G G.length)) : ∃ a c, v = .slice a G.length c ∧ SliceAt w a G.length (u32V fun i => (G.getD i (0, 0)).1) :=
  own_at h fun i hi => by unfold fstV u32V; simp [hi]
theorem frees_at2 {w : World} {B : Nat} {v : Value} {G : List (Nat × Nat)} (h : w.ownsRow B 22 1 v G.length (sndV G G.length)) : ∃ a c, v = .slice a G.length c ∧ SliceAt w a G.length (u32V fun i => (G.getD i (0, 0)).2) :=
  own_at h fun i hi => by unfold sndV u32V; simp [hi]
set_option maxRecDepth 100000 in
set_option maxHeartbeats 8000000 in
theorem free_in (n : Nat) (h4 : 4 ≤ n) (a : Option Addr) (len cap : Nat) (L : Nat → Reg) (mem : Nat) (most : Int) (w : World) (hn : len ≤ 20) (hm : mem < 4294967296) (hmm : ¬ (3000 < mem ∧ mem ≤ 262144)) (hL : RegsAt w a len L) (h1 : -9223372036854775808 ≤ most) (h2 : most ≤ 9223372036854775807) :
    CallsIn Fence.wide n Try.prog 4 #[.slice a len cap, .int .u32 (mem : Int), .int .i64 most] w fun e w' => e = .returned (.bool true) ∧ Below w.heap.size w w' := by
  have HL := Lib.hid hL
  clear hL
  refine callsIn_of_wp_marks Try.func4 rfl trivial ?_ rfl
  simp only [Try.ntmps4, List.size_toArray, List.length_cons, List.length_nil, Nat.reduceAdd, Nat.reduceSub, Array.replicate_succ, Array.replicate_zero, List.push_toArray, List.append_toArray, List.nil_append, List.cons_append]
  gi_wp2_with (fail)
  obtain ⟨w1, hw1⟩ : ∃ w1, w1 = w.alloc (.cells #[.int .i64 most] 3) := ⟨_, rfl⟩
  rw [← hw1]
  have B1 : Hid (Below w.heap.size w w1) := by rw [hw1]; exact alloc_below _ _
  have M1 : Hid (w1.heap[w.heap.size]? = some (.cells #[.int .i64 most] 3 (0, 0))) := by rw [hw1]; exact heap_alloc_new _ _
  clear hw1
  refine ⟨trivial, fun h => (by cases h), (callsIn_wide.2 (known_any w1)).mono ?_⟩
  rintro e w2 ⟨rfl, hb2⟩
  have B2 : Hid (Below w.heap.size w w2) := B1.out.trans (hb2.mono B1.out.size)
  have M2 := Lib.hid (kept M1.out hb2)
  have L2 : Hid (RegsAt w2 a len L) := HL.out.below B2.out
  clear hb2 B1 M1 HL
  have t1' : decide (20 < (len : Int)) = false := by simp; omega
  by_cases hs : 3000 < mem
  · have t2 : decide (3000 < (mem : Int)) = true := by simp; omega
    have t3 : decide ((mem : Int) ≤ 262144) = false := by simp; omega
    clear hmm hs
    gi_wp2_with (fail)
    refine ⟨trivial, fun h => (by cases h), (callsIn_wide.2 (told_any a len cap L mem w2 (by omega) hm L2.out)).mono ?_⟩
    rintro e w3 ⟨⟨v1, v2, rfl, ho1, ho2⟩, hb3⟩
    obtain ⟨ta, tc, rfl, hs1⟩ := frees_at ho1
    obtain ⟨sa, sc, rfl, hs2⟩ := frees_at2 ho2
    have B3 : Hid (Below w.heap.size w w3) := B2.out.trans (hb3.mono B2.out.size)
    have M3 := Lib.hid (kept M2.out hb3)
    have L3 : Hid (RegsAt w3 a len L) := L2.out.below hb3
    have S1 := Lib.hid hs1; have S2 := Lib.hid hs2
    clear hb3 ho1 ho2 hs1 hs2
    gi_wp2_with (fail)
    refine ⟨trivial, fun h => (by cases h), (callsIn_wide.2 (rfree_any a len cap L mem w3 (by omega) hm L3.out)).mono ?_⟩
    rintro e w4 ⟨⟨v1, v2, rfl, hto⟩, hb4⟩
    obtain ⟨ho1, ho2, _⟩ := hto
    rw [fstL_eq] at ho1
    rw [sndL_eq] at ho2
    obtain ⟨ra, rc, rfl, hs3⟩ := frees_at ho1
    obtain ⟨qa, qc, rfl, hs4⟩ := frees_at2 ho2
    have B4 : Hid (Below w.heap.size w w4) := B3.out.trans (hb4.mono B3.out.size)
    have M4 := Lib.hid (kept M3.out hb4)
    have L4 : Hid (RegsAt w4 a len L) := L3.out.below hb4
    have S3 := Lib.hid (S1.out.below hb4); have S4 := Lib.hid (S2.out.below hb4); have S5 := Lib.hid hs3; have S6 := Lib.hid hs4
    clear hb4 ho1 ho2 hs3 hs4 S1 S2
    have hGl := frees_len L len mem
    obtain ⟨G, hG⟩ : ∃ G, G = frees L len mem := ⟨_, rfl⟩
    rw [← hG] at hGl S3 S4 S5 S6 ⊢
    have HG := Lib.hid hG
    clear hG
    gi_wp2_with (fail)
    refine ⟨trivial, fun h => (by cases h), (callsIn_wide.2 (same_true ta ra G.length tc rc _ w4 S3.out S5.out (by omega))).mono ?_⟩
    rintro e w4 ⟨rfl, rfl⟩
    gi_wp2_with (fail)
    refine ⟨trivial, fun h => (by cases h), (callsIn_wide.2 (same_true sa qa G.length sc qc _ w4 S4.out S6.out (by omega))).mono ?_⟩
    rintro e w4 ⟨rfl, rfl⟩
    clear S3 S4 S5 S6
    gi_wp2_with (fail)
    obtain ⟨w5, hw5⟩ : ∃ w5, w5 = w4.alloc (.cells #[.int .i64 0] 3) := ⟨_, rfl⟩
    rw [← hw5]
    have hz5 : w5.heap.size = w4.heap.size + 1 := by rw [hw5]; exact Array.size_push _
    have N5 : Hid (w5.heap[w4.heap.size]? = some (.cells #[.int .i64 0] 3 (0, 0))) := by rw [hw5]; exact heap_alloc_new _ _
    have A5 : Hid (Below w4.heap.size w4 w5) := by rw [hw5]; exact alloc_below _ _
    clear hw5
    have B5 : Hid (Below w.heap.size w w5) := B4.out.trans (A5.out.mono B4.out.size)
    have M5 := Lib.hid (kept M4.out A5.out)
    have L5 : Hid (RegsAt w5 a len L) := L4.out.below A5.out
    have HMB : Hid (w.heap.size < w4.heap.size) := heap_lt M4.out
    clear A5 B4 M4 L4 B2 B3 M2 M3 L2 L3
    generalize hbn : w4.heap.size = bn at *
    refine ⟨trivial, fun _ => (by omega), (callsIn_wide.2 (free_any a len cap mem w5)).mono ?_⟩
    rintro e w' ⟨rfl, rfl⟩
    rw [hz5]
    obtain ⟨w6, hw6⟩ : ∃ w6, w6 = (w5.alloc (.cells #[.slice a len cap] 29)).alloc (.cells #[.int .u32 (mem : Int)] 22) := ⟨_, rfl⟩
    rw [← hw6]
    have A6 : Hid (Below w5.heap.size w5 w6) := by rw [hw6]; exact ((alloc_below _ _).alloc (alloc_below w5 (.cells #[.slice a len cap] 29)).size _)
    have hz6 : w6.heap.size = bn + 3 := by rw [hw6]; simp; omega
    have F2 : Hid (w6.heap[bn + 1]? = some (.cells #[.slice a len cap] 29 (0, 0))) := by rw [hw6, ← hz5]; exact kept (heap_alloc_new _ _) (alloc_below _ _)
    have F3 : Hid (w6.heap[bn + 1 + 1]? = some (.cells #[.int .u32 (mem : Int)] 22 (0, 0))) := by
      rw [hw6, ← hz5, ← show (w5.alloc (.cells #[.slice a len cap] 29)).heap.size = w5.heap.size + 1 from Array.size_push _]
      exact heap_alloc_new _ _
    clear hw6
    have N6 := Lib.hid (kept N5.out A6.out)
    have M6 := Lib.hid (kept M5.out A6.out)
    have B6 : Hid (Below w.heap.size w w6) := B5.out.trans (A6.out.mono B5.out.size)
    have L6 : Hid (RegsAt w6 a len L) := L5.out.below A6.out
    clear N5 M5 B5 L5 A6
    gi_wp2_with (fail)
    have HQ := free1_in (n - 1) a len cap L mem (bn + 1 + 1) (bn + 1) w6 (by omega) hm L6.out F3.out F2.out
    rw [← HG.out] at HQ
    have HZW := Lib.hid hz6
    obtain ⟨B, hB⟩ : ∃ B, B = w6.heap.size := ⟨_, rfl⟩
    have HBw := Lib.hid hB
    have HMW := Lib.hid B6.out.size
    refine rangeFunc_c (ps := #[50, 51]) rfl (by omega) (gf := 23) (lb := #[.pointer (some ⟨bn + 1 + 1, 0, none⟩), .pointer (some ⟨bn + 1, 0, none⟩)]) rfl trivial (enters_of Try.func23 (by kernel_rfl) rfl)
      (Kb := fun b => b = bn + 1 + 1) (N := G.length) (fun b hb => by rw [hb]; exact heap_lt F3.out) HQ (fun _ => rfl)
      (fun x Fb W => CntI B w.heap.size bn w most x Fb W ∧ (x = 0 ∨ (x : Int) < most)) (fun c x Fb W => c = .exit 0 ∧ CntI B w.heap.size bn w most x Fb W ∧ most ≤ (x : Int) ∧ (x = 1 ∨ (x : Int) - 1 < most))
      (fun Fb s W W' row h hg hr => ⟨h.1.grown hg (fun r e => ⟨by rw [hB]; exact (hr r e).1, (hr r e).2⟩) (by rw [hB]; exact B6.out.size), h.2⟩)
      (fun _ Fb s W W' row h hg hr => ⟨h.1, h.2.1.grown hg (fun r e => ⟨by rw [hB]; exact (hr r e).1, (hr r e).2⟩) (by rw [hB]; exact B6.out.size), h.2.2⟩)
      (fun s Fb A W h hb => ⟨h.1.below hb, h.2⟩) (fun _ s Fb A W h hb => ⟨h.1, h.2.1.below' hb, h.2.2⟩)
      (fun A hA => ⟨⟨B6.out.trans (hA.mono B6.out.size), by rw [hB]; exact hA.size, by omega, kept M6.out hA, kept N6.out hA⟩, .inl rfl⟩) ?_ ?assign ?body ?done ?stop
    case assign =>
      intro l x W K hK
      unfold encG
      gi_wp2
      exact hK
    case body =>
      intro l x Fb W hx hl hF hI
      obtain ⟨⟨i1, i2, i3, k1, k2⟩, hxm⟩ := hI
      have I1 := Lib.hid i1; have K1 := Lib.hid k1; have K2 := Lib.hid k2
      have c0 := cell_row (j := 0) k1 rfl
      have c1 := cell_row (j := 0) k2 rfl
      have f1 : W.frozen? ⟨bn, 0, none⟩ = false := frozen_of_row _ _ _ _ _ k2
      have l1 := heap_lt k1; have l2 := heap_lt k2
      clear i1 k1 k2 HQ L6 F2 F3 M6 N6 hB hz6 hz5 hbn
      obtain ⟨V, hV⟩ : ∃ V, V = W.setCell ⟨bn, 0, none⟩ (.int .i64 ((x + 1 : Nat) : Int)) := ⟨_, rfl⟩
      have O : Hid (Only (fun i => i = bn) W V) := by rw [hV]; exact (Only.refl _ W).set 0 _ (.inr rfl)
      have V1 : Hid (V.heap[w.heap.size]? = some (.cells #[.int .i64 most] 3 (0, 0))) := box_only K1.out O.out (by have := HMB.out; omega)
      have V2 : Hid (V.heap[bn]? = some (.cells #[.int .i64 ((x + 1 : Nat) : Int)] 3 (0, 0))) := by rw [hV]; exact heap_setCell_same _ _ _ _ _ _ K2.out
      have BV : Hid (Below w.heap.size w V) := I1.out.trans (O.out.below I1.out.size (fun i hi hm => by have := HMB.out; omega))
      have HV := Lib.hid hV
      clear hV
      have hxl : x < 262144 := by omega
      gi_upto_region 12 with (fail)
      first | rw [← HV.out] | (rw [show ((x : Int) + 1) = ((x + 1 : Nat) : Int) by simp, ← HV.out])
      have e0 := cell_row (j := 0) V1.out rfl
      have e1 : V.cell? ⟨bn, 0, none⟩ = some (.int .i64 ((x : Int) + 1)) := cell_row (j := 0) V2.out rfl
      have e2 := heap_lt V1.out; have e3 := heap_lt V2.out
      clear c0 c1 f1 l1 l2
      have fin : KeepsFrom w6.heap.size W V ∧ (KeepF Fb W V ∧ W.heap.size ≤ V.heap.size) ∧ CntI B w.heap.size bn w most (x + 1) Fb V := by
        have ho := O.out
        refine ⟨⟨ho.size, fun k o hk hko hoc => box_only hko ho ?_⟩, ⟨fun k o hk hko => box_only hko ho ?_, ho.size⟩, BV.out, Nat.le_trans i2 ho.size, i3, V1.out, V2.out⟩
        · intro e
          subst e; rw [K2.out] at hko; cases hko; cases hoc
        · intro e
          subst e; exact i3 hk
      have FIN := Lib.hid fin
      clear fin
      cases t4 : decide (most ≤ (x : Int) + 1)
      case false =>
        have hlt : ((x + 1 : Nat) : Int) < most := by have := of_decide_eq_false t4; omega
        have HLT := Lib.hid hlt
        clear hlt hxm
        gi_wp2
        exact ⟨FIN.out.1, FIN.out.2.1, FIN.out.2.2, .inr HLT.out⟩
      case true =>
        have hge : most ≤ ((x + 1 : Nat) : Int) ∧ (x + 1 = 1 ∨ ((x + 1 : Nat) : Int) - 1 < most) := by have := of_decide_eq_true t4; omega
        have HGE := Lib.hid hge
        clear hge hxm
        gi_wp2
        exact ⟨FIN.out.1, rfl, FIN.out.2.2, HGE.out⟩
    case done =>
      intro D Fb W hD hI hK
      obtain ⟨⟨i1, i2, i3, k1, k2⟩, hxm⟩ := hI
      have c0 := cell_row (j := 0) k1 rfl
      have c1 := cell_row (j := 0) k2 rfl
      have l1 := heap_lt k1; have l2 := heap_lt k2
      have I1 := Lib.hid i1
      clear i1 k1 k2 HQ L6 F2 F3 M6 N6 hB hz6 hz5 hbn
      have hE : ((G.length : Int) == min (G.length : Int) (max most 1)) = true := by simp only [beq_iff_eq]; omega
      have HE := Lib.hid hE
      clear hE hxm
      gi_wp2
      rw [HE.out]
      refine ⟨by simp, .inl ⟨_, _, rfl, run_takeDeferred hK, ?_⟩⟩
      refine ⟨.bool true, by simp [results, Try.f4, go_sem], rfl, ?_⟩
      refine I1.out.grown (grownBy_putObj' W D (.deferred none)) I1.out.size (fun j e => ?_)
      cases e
      exact Nat.le_trans HMW.out hD
    case stop =>
      intro D c x Fb W hD h0 hxN hI hK
      obtain ⟨rfl, ⟨i1, i2, i3, k1, k2⟩, hxm⟩ := hI
      have c0 := cell_row (j := 0) k1 rfl
      have c1 := cell_row (j := 0) k2 rfl
      have l1 := heap_lt k1; have l2 := heap_lt k2
      have I1 := Lib.hid i1
      clear i1 k1 k2 HQ L6 F2 F3 M6 N6 hB hz6 hz5 hbn
      have hE : ((x : Int) == min (G.length : Int) (max most 1)) = true := by simp only [beq_iff_eq]; omega
      have HE := Lib.hid hE
      clear hE hxm
      gi_wp2
      rw [HE.out]
      refine ⟨by simp, .inl ⟨_, _, rfl, run_takeDeferred hK, ?_⟩⟩
      refine ⟨.bool true, by simp [results, Try.f4, go_sem], rfl, ?_⟩
      refine I1.out.grown (grownBy_putObj' W D (.deferred none)) I1.out.size (fun j e => ?_)
      cases e
      exact Nat.le_trans HMW.out hD
  · have t2 : decide (3000 < (mem : Int)) = false := by simp; omega
    clear hmm hs
    gi_wp2_with (fail)
    refine ⟨trivial, fun h => (by cases h), (callsIn_wide.2 (told_any a len cap L mem w2 (by omega) hm L2.out)).mono ?_⟩
    rintro e w3 ⟨⟨v1, v2, rfl, ho1, ho2⟩, hb3⟩
    obtain ⟨ta, tc, rfl, hs1⟩ := frees_at ho1
    obtain ⟨sa, sc, rfl, hs2⟩ := frees_at2 ho2
    have B3 : Hid (Below w.heap.size w w3) := B2.out.trans (hb3.mono B2.out.size)
    have M3 := Lib.hid (kept M2.out hb3)
    have L3 : Hid (RegsAt w3 a len L) := L2.out.below hb3
    have S1 := Lib.hid hs1; have S2 := Lib.hid hs2
    clear hb3 ho1 ho2 hs1 hs2
    gi_wp2_with (fail)
    refine ⟨trivial, fun h => (by cases h), (callsIn_wide.2 (rfree_any a len cap L mem w3 (by omega) hm L3.out)).mono ?_⟩
    rintro e w4 ⟨⟨v1, v2, rfl, hto⟩, hb4⟩
    obtain ⟨ho1, ho2, _⟩ := hto
    rw [fstL_eq] at ho1
    rw [sndL_eq] at ho2
    obtain ⟨ra, rc, rfl, hs3⟩ := frees_at ho1
    obtain ⟨qa, qc, rfl, hs4⟩ := frees_at2 ho2
    have B4 : Hid (Below w.heap.size w w4) := B3.out.trans (hb4.mono B3.out.size)
    have M4 := Lib.hid (kept M3.out hb4)
    have L4 : Hid (RegsAt w4 a len L) := L3.out.below hb4
    have S3 := Lib.hid (S1.out.below hb4); have S4 := Lib.hid (S2.out.below hb4); have S5 := Lib.hid hs3; have S6 := Lib.hid hs4
    clear hb4 ho1 ho2 hs3 hs4 S1 S2
    have hGl := frees_len L len mem
    obtain ⟨G, hG⟩ : ∃ G, G = frees L len mem := ⟨_, rfl⟩
    rw [← hG] at hGl S3 S4 S5 S6 ⊢
    have HG := Lib.hid hG
    clear hG
    gi_wp2_with (fail)
    refine ⟨trivial, fun h => (by cases h), (callsIn_wide.2 (same_true ta ra G.length tc rc _ w4 S3.out S5.out (by omega))).mono ?_⟩
    rintro e w4 ⟨rfl, rfl⟩
    gi_wp2_with (fail)
    refine ⟨trivial, fun h => (by cases h), (callsIn_wide.2 (same_true sa qa G.length sc qc _ w4 S4.out S6.out (by omega))).mono ?_⟩
    rintro e w4 ⟨rfl, rfl⟩
    clear S3 S4 S5 S6
    gi_wp2_with (fail)
    obtain ⟨w5, hw5⟩ : ∃ w5, w5 = w4.alloc (.cells #[.int .i64 0] 3) := ⟨_, rfl⟩
    rw [← hw5]
    have hz5 : w5.heap.size = w4.heap.size + 1 := by rw [hw5]; exact Array.size_push _
    have N5 : Hid (w5.heap[w4.heap.size]? = some (.cells #[.int .i64 0] 3 (0, 0))) := by rw [hw5]; exact heap_alloc_new _ _
    have A5 : Hid (Below w4.heap.size w4 w5) := by rw [hw5]; exact alloc_below _ _
    clear hw5
    have B5 : Hid (Below w.heap.size w w5) := B4.out.trans (A5.out.mono B4.out.size)
    have M5 := Lib.hid (kept M4.out A5.out)
    have L5 : Hid (RegsAt w5 a len L) := L4.out.below A5.out
    have HMB : Hid (w.heap.size < w4.heap.size) := heap_lt M4.out
    clear A5 B4 M4 L4 B2 B3 M2 M3 L2 L3
    generalize hbn : w4.heap.size = bn at *
    refine ⟨trivial, fun _ => (by omega), (callsIn_wide.2 (free_any a len cap mem w5)).mono ?_⟩
    rintro e w' ⟨rfl, rfl⟩
    rw [hz5]
    obtain ⟨w6, hw6⟩ : ∃ w6, w6 = (w5.alloc (.cells #[.slice a len cap] 29)).alloc (.cells #[.int .u32 (mem : Int)] 22) := ⟨_, rfl⟩
    rw [← hw6]
    have A6 : Hid (Below w5.heap.size w5 w6) := by rw [hw6]; exact ((alloc_below _ _).alloc (alloc_below w5 (.cells #[.slice a len cap] 29)).size _)
    have hz6 : w6.heap.size = bn + 3 := by rw [hw6]; simp; omega
    have F2 : Hid (w6.heap[bn + 1]? = some (.cells #[.slice a len cap] 29 (0, 0))) := by rw [hw6, ← hz5]; exact kept (heap_alloc_new _ _) (alloc_below _ _)
    have F3 : Hid (w6.heap[bn + 1 + 1]? = some (.cells #[.int .u32 (mem : Int)] 22 (0, 0))) := by
      rw [hw6, ← hz5, ← show (w5.alloc (.cells #[.slice a len cap] 29)).heap.size = w5.heap.size + 1 from Array.size_push _]
      exact heap_alloc_new _ _
    clear hw6
    have N6 := Lib.hid (kept N5.out A6.out)
    have M6 := Lib.hid (kept M5.out A6.out)
    have B6 : Hid (Below w.heap.size w w6) := B5.out.trans (A6.out.mono B5.out.size)
    have L6 : Hid (RegsAt w6 a len L) := L5.out.below A6.out
    clear N5 M5 B5 L5 A6
    gi_wp2_with (fail)
    have HQ := free1_in (n - 1) a len cap L mem (bn + 1 + 1) (bn + 1) w6 (by omega) hm L6.out F3.out F2.out
    rw [← HG.out] at HQ
    have HZW := Lib.hid hz6
    obtain ⟨B, hB⟩ : ∃ B, B = w6.heap.size := ⟨_, rfl⟩
    have HBw := Lib.hid hB
    have HMW := Lib.hid B6.out.size
    refine rangeFunc_c (ps := #[50, 51]) rfl (by omega) (gf := 23) (lb := #[.pointer (some ⟨bn + 1 + 1, 0, none⟩), .pointer (some ⟨bn + 1, 0, none⟩)]) rfl trivial (enters_of Try.func23 (by kernel_rfl) rfl)
      (Kb := fun b => b = bn + 1 + 1) (N := G.length) (fun b hb => by rw [hb]; exact heap_lt F3.out) HQ (fun _ => rfl)
      (fun x Fb W => CntI B w.heap.size bn w most x Fb W ∧ (x = 0 ∨ (x : Int) < most)) (fun c x Fb W => c = .exit 0 ∧ CntI B w.heap.size bn w most x Fb W ∧ most ≤ (x : Int) ∧ (x = 1 ∨ (x : Int) - 1 < most))
      (fun Fb s W W' row h hg hr => ⟨h.1.grown hg (fun r e => ⟨by rw [hB]; exact (hr r e).1, (hr r e).2⟩) (by rw [hB]; exact B6.out.size), h.2⟩)
      (fun _ Fb s W W' row h hg hr => ⟨h.1, h.2.1.grown hg (fun r e => ⟨by rw [hB]; exact (hr r e).1, (hr r e).2⟩) (by rw [hB]; exact B6.out.size), h.2.2⟩)
      (fun s Fb A W h hb => ⟨h.1.below hb, h.2⟩) (fun _ s Fb A W h hb => ⟨h.1, h.2.1.below' hb, h.2.2⟩)
      (fun A hA => ⟨⟨B6.out.trans (hA.mono B6.out.size), by rw [hB]; exact hA.size, by omega, kept M6.out hA, kept N6.out hA⟩, .inl rfl⟩) ?_ ?assign ?body ?done ?stop
    case assign =>
      intro l x W K hK
      unfold encG
      gi_wp2
      exact hK
    case body =>
      intro l x Fb W hx hl hF hI
      obtain ⟨⟨i1, i2, i3, k1, k2⟩, hxm⟩ := hI
      have I1 := Lib.hid i1; have K1 := Lib.hid k1; have K2 := Lib.hid k2
      have c0 := cell_row (j := 0) k1 rfl
      have c1 := cell_row (j := 0) k2 rfl
      have f1 : W.frozen? ⟨bn, 0, none⟩ = false := frozen_of_row _ _ _ _ _ k2
      have l1 := heap_lt k1; have l2 := heap_lt k2
      clear i1 k1 k2 HQ L6 F2 F3 M6 N6 hB hz6 hz5 hbn
      obtain ⟨V, hV⟩ : ∃ V, V = W.setCell ⟨bn, 0, none⟩ (.int .i64 ((x + 1 : Nat) : Int)) := ⟨_, rfl⟩
      have O : Hid (Only (fun i => i = bn) W V) := by rw [hV]; exact (Only.refl _ W).set 0 _ (.inr rfl)
      have V1 : Hid (V.heap[w.heap.size]? = some (.cells #[.int .i64 most] 3 (0, 0))) := box_only K1.out O.out (by have := HMB.out; omega)
      have V2 : Hid (V.heap[bn]? = some (.cells #[.int .i64 ((x + 1 : Nat) : Int)] 3 (0, 0))) := by rw [hV]; exact heap_setCell_same _ _ _ _ _ _ K2.out
      have BV : Hid (Below w.heap.size w V) := I1.out.trans (O.out.below I1.out.size (fun i hi hm => by have := HMB.out; omega))
      have HV := Lib.hid hV
      clear hV
      have hxl : x < 262144 := by omega
      gi_upto_region 12 with (fail)
      first | rw [← HV.out] | (rw [show ((x : Int) + 1) = ((x + 1 : Nat) : Int) by simp, ← HV.out])
      have e0 := cell_row (j := 0) V1.out rfl
      have e1 : V.cell? ⟨bn, 0, none⟩ = some (.int .i64 ((x : Int) + 1)) := cell_row (j := 0) V2.out rfl
      have e2 := heap_lt V1.out; have e3 := heap_lt V2.out
      clear c0 c1 f1 l1 l2
      have fin : KeepsFrom w6.heap.size W V ∧ (KeepF Fb W V ∧ W.heap.size ≤ V.heap.size) ∧ CntI B w.heap.size bn w most (x + 1) Fb V := by
        have ho := O.out
        refine ⟨⟨ho.size, fun k o hk hko hoc => box_only hko ho ?_⟩, ⟨fun k o hk hko => box_only hko ho ?_, ho.size⟩, BV.out, Nat.le_trans i2 ho.size, i3, V1.out, V2.out⟩
        · intro e
          subst e; rw [K2.out] at hko; cases hko; cases hoc
        · intro e
          subst e; exact i3 hk
      have FIN := Lib.hid fin
      clear fin
      cases t4 : decide (most ≤ (x : Int) + 1)
      case false =>
        have hlt : ((x + 1 : Nat) : Int) < most := by have := of_decide_eq_false t4; omega
        have HLT := Lib.hid hlt
        clear hlt hxm
        gi_wp2
        exact ⟨FIN.out.1, FIN.out.2.1, FIN.out.2.2, .inr HLT.out⟩
      case true =>
        have hge : most ≤ ((x + 1 : Nat) : Int) ∧ (x + 1 = 1 ∨ ((x + 1 : Nat) : Int) - 1 < most) := by have := of_decide_eq_true t4; omega
        have HGE := Lib.hid hge
        clear hge hxm
        gi_wp2
        exact ⟨FIN.out.1, rfl, FIN.out.2.2, HGE.out⟩
    case done =>
      intro D Fb W hD hI hK
      obtain ⟨⟨i1, i2, i3, k1, k2⟩, hxm⟩ := hI
      have c0 := cell_row (j := 0) k1 rfl
      have c1 := cell_row (j := 0) k2 rfl
      have l1 := heap_lt k1; have l2 := heap_lt k2
      have I1 := Lib.hid i1
      clear i1 k1 k2 HQ L6 F2 F3 M6 N6 hB hz6 hz5 hbn
      have hE : ((G.length : Int) == min (G.length : Int) (max most 1)) = true := by simp only [beq_iff_eq]; omega
      have HE := Lib.hid hE
      clear hE hxm
      gi_wp2
      rw [HE.out]
      refine ⟨by simp, .inl ⟨_, _, rfl, run_takeDeferred hK, ?_⟩⟩
      refine ⟨.bool true, by simp [results, Try.f4, go_sem], rfl, ?_⟩
      refine I1.out.grown (grownBy_putObj' W D (.deferred none)) I1.out.size (fun j e => ?_)
      cases e
      exact Nat.le_trans HMW.out hD
    case stop =>
      intro D c x Fb W hD h0 hxN hI hK
      obtain ⟨rfl, ⟨i1, i2, i3, k1, k2⟩, hxm⟩ := hI
      have c0 := cell_row (j := 0) k1 rfl
      have c1 := cell_row (j := 0) k2 rfl
      have l1 := heap_lt k1; have l2 := heap_lt k2
      have I1 := Lib.hid i1
      clear i1 k1 k2 HQ L6 F2 F3 M6 N6 hB hz6 hz5 hbn
      have hE : ((x : Int) == min (G.length : Int) (max most 1)) = true := by simp only [beq_iff_eq]; omega
      have HE := Lib.hid hE
      clear hE hxm
      gi_wp2
      rw [HE.out]
      refine ⟨by simp, .inl ⟨_, _, rfl, run_takeDeferred hK, ?_⟩⟩
      refine ⟨.bool true, by simp [results, Try.f4, go_sem], rfl, ?_⟩
      refine I1.out.grown (grownBy_putObj' W D (.deferred none)) I1.out.size (fun j e => ?_)
      cases e
      exact Nat.le_trans HMW.out hD
theorem i64_bd {a : Int} (h : (Lit.int .i64 a).wf = true) : -9223372036854775808 ≤ a ∧ a ≤ 9223372036854775807 := by
  obtain ⟨h0, h1⟩ := bounds_i64 h
  exact ⟨h0, by omega⟩
theorem free_walk (a : Option Addr) (len cap : Nat) (m most : Int) (w : World) (w0 : ReadsC w 29 [.slice a len cap]) (w1 : (Lit.int .u32 m).wf = true) (w2 : (Lit.int .i64 most).wf = true) :
    Calls Try.prog 4 #[.slice a len cap, .int .u32 m, .int .i64 most] w fun e w' => e = .returned (.bool true) ∧ Below w.heap.size w w' := by
  obtain ⟨l1, l2, L, hL⟩ := reads_regs w0
  obtain ⟨mem, rfl, hm⟩ := u32_nat w1
  obtain ⟨b1, b2⟩ := i64_bd w2
  unfold maxLen at l2
  refine (callsIn_wide (n := 4)).1 ?_
  by_cases h : 20 < len ∨ (3000 < mem ∧ mem ≤ 262144)
  · exact free_small 4 a len cap mem most w h (by omega) hm
  · exact free_in 4 (Nat.le_refl _) a len cap L mem most w (by omega) hm (by omega) hL b1 b2
end Go.Proofs.Yteekneicahfkpaa
