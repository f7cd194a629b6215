/- The document's Latch. -/
import Derived.Test.YtdelcndaogjngaaFieRef2
import Derived.Test.YtdelcndaogjngaaFieFr
namespace Go.Proofs.Ytdelcndaogjngaa
open Go.RowKit
set_option linter.unusedVariables false
theorem WordsAt.fresh {W w' : World} {v : Value} {gs m : Nat} {X : Nat → Nat} (h : WordsAt W w' v gs m X) : ∃ b, SlAt w' v b 23 m (uV X) ∧ gs ≤ b ∧ (gs < w'.heap.size → b < w'.heap.size) := by
  obtain ⟨⟨b, ⟨a, c, h1, h2, h3, h4⟩, hb⟩, -⟩ := h
  by_cases hp : 0 < m
  · exact ⟨b, ⟨a, c, h1, h2, h3, h4⟩, (hb hp).1, fun _ => (hb hp).2⟩
  · exact ⟨gs, ⟨a, c, h1, h2, h3, fun h => absurd h hp⟩, Nat.le_refl _, id⟩
/-- What stays of the document's field; its new blocks are not below B. -/
structure LikeR (B : Nat) (R R' : RS) : Prop where
  lo : R'.lo = R.lo
  r : R'.r = R.r
  nI : R'.nI = R.nI
  nS : R'.nS = R.nS
  cap : R'.cap = R.cap
  rd : R'.rd = R.rd
  wt : R'.wt = R.wt
  sa : R'.sa = R.sa
  safe : R'.safe = R.safe
  bi : R'.bi = R.bi ∨ B ≤ R'.bi
  bo : R'.bo = R.bo ∨ B ≤ R'.bo
  bp : R'.puts ≠ [] → (R.puts ≠ [] ∧ R'.bp = R.bp) ∨ B ≤ R'.bp
set_option maxHeartbeats 2000000 in
theorem ref_latchbad (R : RS) (a : Option Addr) (n c : Nat) (w : World) (h : RefAt w R) (hn : n ≠ R.nI) (hm : n ≤ 9223372036854775807) :
    Calls Try.prog 12 #[.pointer (some ⟨R.r, 0, none⟩), .slice a n c] w fun e w' => e = .returned (.int .i64 2) ∧ w = w' := by
  have c0 : w.cell? ⟨R.r, 0, none⟩ = some (.int .i64 (R.nI : Int)) := h.cell 0 _ rfl
  have hl := heap_lt h.obj
  have t1 : ((n : Int) == (R.nI : Int)) = false := by simp; omega
  have t2 : ((n : Int) != (R.nI : Int)) = true := by simp; omega
  clear h hn
  go_enter Try.func12, Try.ntmps12
  go_wp2_with fail
  go_ret
  exact ⟨rfl, rfl⟩
set_option maxHeartbeats 2000000 in
theorem ref_latch (R : RS) (a : Option Addr) (n c : Nat) (X : Nat → Nat) (w : World) (h : RefAt w R) (hn : n = R.nI) (hX : SliceAt w a n (uV X)) :
    Calls Try.prog 12 #[.pointer (some ⟨R.r, 0, none⟩), .slice a n c] w fun e w' => e = .returned (.int .i64 0) ∧ (∃ R', RefAt w' R' ∧ R'.ins = X ∧ R'.outs = R.outs ∧ R'.puts = [] ∧ LikeR w.heap.size R R') ∧ Only (fun b => b = R.r) w w' := by
  have c0 : w.cell? ⟨R.r, 0, none⟩ = some (.int .i64 (R.nI : Int)) := h.cell 0 _ rfl
  have hn16 := h.nI
  have hlt := h.hi.1
  subst hn
  have t1 : ((R.nI : Int) == (R.nI : Int)) = true := by simp
  have t2 : ((R.nI : Int) != (R.nI : Int)) = false := by simp
  have HE0 : Hid ((w.alloc (.cells #[] 23)).heap[w.heap.size]? = some (.cells #[] 23 (0, 0))) := heap_alloc_new _ _
  have HX : Hid (SliceAt (w.alloc (.cells #[] 23)) a R.nI (uV X)) := hX.below (alloc_below _ _)
  have H := Lib.hid h
  clear h hX
  go_enter Try.func12, Try.ntmps12
  go_wp2_with (at_builtin; refine wpList_words rfl _ _ rfl (gs := w.heap.size) rfl HE0.out a R.nI c X rfl (by omega) HX.out ?_)
  intro v w7 hws
  have Y7 : Hid (Below w.heap.size w w7) := ((Below.refl _ w).alloc (Nat.le_refl _) _).grown hws.2 (by simp) (fun k e => by cases e; exact Nat.le_refl _)
  obtain ⟨bw, ⟨av, cv, rfl, k1, k2, k3⟩, hbw, hbx⟩ := hws.fresh
  have HSL : Hid (SlAt w7 (.slice av R.nI cv) bw 23 R.nI (uV X)) := ⟨_, _, rfl, k1, k2, k3⟩
  have HBW := Lib.hid hbw
  have HBX : Hid (bw < w7.heap.size) := hbx (by have h1 := hws.2.size; simp at h1; omega)
  have hob := (Y7.out.block _ hlt).trans H.out.obj
  have d4 : w7.cell? ⟨R.r, 4, none⟩ = some R.vi := cell_row hob rfl
  have d6 : w7.cell? ⟨R.r, 6, none⟩ = some R.vp := cell_row hob rfl
  have f4 : w7.frozen? ⟨R.r, 4, none⟩ = false := frozen_of_row _ _ _ _ _ hob
  have f6 : w7.frozen? ⟨R.r, 6, none⟩ = false := frozen_of_row _ _ _ _ _ hob
  have hl7 : R.r < w7.heap.size := heap_lt hob
  have HOB := Lib.hid hob
  clear hws k1 k2 k3 hbw hbx hob HE0 HX t1 t2
  go_wp2_with fail
  go_ret
  refine ⟨rfl, ⟨{ R with vi := .slice av R.nI cv, vp := .slice none 0 0, bi := bw, ins := X, puts := [] }, ?_, rfl, rfl, rfl, ?_⟩, ?_⟩
  · have hr : R.r ≠ bw := by have := HBW.out; have := H.out.hi.1; omega
    have o1 : (w7.setCell ⟨R.r, 4, none⟩ (.slice av R.nI cv)).heap[R.r]? = _ := heap_setCell_same _ _ _ _ _ _ HOB.out
    have o2 : ((w7.setCell ⟨R.r, 4, none⟩ (.slice av R.nI cv)).setCell ⟨R.r, 6, none⟩ (.slice none 0 0)).heap[R.r]? = _ := heap_setCell_same _ _ _ _ _ _ o1
    have hO : Only (fun b => b = R.r) w w7 := Only.of_below _ Y7.out
    have ho : Only (fun b => b = R.r) w7 ((w7.setCell ⟨R.r, 4, none⟩ (.slice av R.nI cv)).setCell ⟨R.r, 6, none⟩ (.slice none 0 0)) := ((Only.refl (fun b => b = R.r) w7).set 4 _ (.inr rfl)).set 6 _ (.inr rfl)
    have ht := hO.trans ho
    have l1 := H.out.lo; have l2 := H.out.hi; have l3 := H.out.ne; have l4 := HBW.out; have l5 := HBX.out; have l6 := ht.size; have l7 := ho.size
    refine ⟨o2, H.out.nI, H.out.nS, H.out.rd, H.out.wt, Nat.zero_le _, fun p hp => absurd hp (by simp), ?_, ?_, ?_, World.ownsRow_nil _ _ _ _, fun k hk => (by cases hk), ?_, ?_, ?_, fun h => absurd rfl h, H.out.sab⟩
    · exact H.out.safe.only0 ht (fun hz b off e hb e2 => by have h1 := H.out.sab hz b off e; have h2 : b = R.r := e2; omega)
    · exact HSL.out.only ho (fun _ e => hr e.symm)
    · exact H.out.outs.only ht (fun _ e => H.out.ne.2.1 e.symm)
    · show R.lo ≤ R.r ∧ R.lo ≤ bw ∧ R.lo ≤ R.bo
      omega
    · show R.r < _ ∧ bw < _ ∧ R.bo < _
      omega
    · show R.r ≠ bw ∧ R.r ≠ R.bo ∧ bw ≠ R.bo
      omega
  · exact ⟨rfl, rfl, rfl, rfl, rfl, rfl, rfl, rfl, rfl, .inr HBW.out, .inl rfl, fun h => absurd rfl h⟩
  · have hO : Only (fun b => b = R.r) w w7 := Only.of_below _ Y7.out
    exact (hO.set _ _ (.inr rfl)).set _ _ (.inr rfl)
end Go.Proofs.Ytdelcndaogjngaa
