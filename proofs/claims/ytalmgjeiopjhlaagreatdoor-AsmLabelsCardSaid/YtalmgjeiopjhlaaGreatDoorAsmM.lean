/- The map of labels. -/
import Derived.Test.YtalmgjeiopjhlaaGreatDoorAsmS
import Derived.Maps.OwnSet
import Derived.Maps.OwnOps
import Derived.StringKeys
namespace Go.Proofs.YtalmgjeiopjhlaaGreatDoor
open Go.Shelf Go.RowKit Go.WideMaps Go.Maps
set_option linter.unusedVariables false
set_option linter.unusedSimpArgs false
theorem first_succ (p : Nat → Bool) (k : Nat) : first p (k + 1) = (match first p k with | some m => some m | none => if p k then some k else none) := by
  unfold first
  rw [List.range_succ, List.find?_append]
  cases (List.range k).find? p with
  | some m => rfl
  | none => simp [List.find?]; cases p k <;> rfl
theorem first_lt {p : Nat → Bool} {n k : Nat} (h : first p n = some k) : k < n ∧ p k = true := by
  unfold first at h
  exact ⟨List.mem_range.1 (List.mem_of_find?_eq_some h), List.find?_some h⟩
abbrev kl (s : ByteArray) : Lit := .string s.data.toList
def lit64 (z : Int) : DataW Unit := .lit (.int .i64 z)
structure MapFor (ls : List AL) (k : Nat) (D : DataW Unit) : Prop where
  m : IsMap D
  has : ∀ s : ByteArray, s.toList.isEmpty = false → Maps.has D (kl s) = (first (hitL ls s) k).isSome
  val : ∀ s : ByteArray, s.toList.isEmpty = false → D.atKey (kl s) (lit64 0) = lit64 (((first (hitL ls s) k).getD 0 : Nat) : Int)
theorem MapFor.zero (ls : List AL) : MapFor ls 0 (.map []) := ⟨isMap_empty, fun _ _ => rfl, fun _ _ => rfl⟩
theorem hit_same {ls : List AL} {s : ByteArray} {k : Nat} (h : hitL ls s k = true) : s.data.toList = (ls.getD k al0).lab.data.toList := by
  unfold hitL at h; rw [str_eq] at h; exact (of_decide_eq_true h).symm
theorem hit_congr {ls : List AL} {s s' : ByteArray} (h : s.data.toList = s'.data.toList) : hitL ls s = hitL ls s' := by
  funext i; unfold hitL; rw [str_eq, str_eq, h]
theorem MapFor.skip {ls : List AL} {k : Nat} {D : DataW Unit} (h : MapFor ls k D) (hk : (ls.getD k al0).lab.toList.isEmpty = true ∨ (first (hitL ls (ls.getD k al0).lab) k).isSome = true) : MapFor ls (k + 1) D := by
  have e : ∀ s : ByteArray, s.toList.isEmpty = false → first (hitL ls s) (k + 1) = first (hitL ls s) k := fun s hs => by
    rw [first_succ]
    cases hh : hitL ls s k with
    | false => cases first (hitL ls s) k <;> rfl
    | true =>
      have e := hit_same hh
      rcases hk with hk | hk
      · rw [ByteArray.toList_eq] at hk hs; rw [e, hk] at hs; cases hs
      · rw [← hit_congr e] at hk
        obtain ⟨m, hm⟩ := Option.isSome_iff_exists.1 hk
        rw [hm]
  exact ⟨h.m, fun s hs => by rw [e s hs]; exact h.has s hs, fun s hs => by rw [e s hs]; exact h.val s hs⟩
theorem MapFor.set {ls : List AL} {k : Nat} {D : DataW Unit} (h : MapFor ls k D) (hk : (ls.getD k al0).lab.toList.isEmpty = false) (hn : first (hitL ls (ls.getD k al0).lab) k = none) : MapFor ls (k + 1) (D.put (kl (ls.getD k al0).lab) (lit64 (k : Int))) := by
  have eS : ∀ s : ByteArray, s.data.toList = (ls.getD k al0).lab.data.toList → first (hitL ls s) (k + 1) = some k := fun s e => by
    rw [hit_congr e, first_succ, hn]
    have : hitL ls (ls.getD k al0).lab k = true := by unfold hitL; rw [str_eq]; exact decide_eq_true rfl
    rw [this]; rfl
  have eO : ∀ s : ByteArray, s.data.toList ≠ (ls.getD k al0).lab.data.toList → first (hitL ls s) (k + 1) = first (hitL ls s) k := fun s e => by
    rw [first_succ]
    cases hh : hitL ls s k with
    | false => cases first (hitL ls s) k <;> rfl
    | true => exact absurd (hit_same hh) e
  refine ⟨h.m.put _ _, fun s hs => ?_, fun s hs => ?_⟩
  · by_cases e : s.data.toList = (ls.getD k al0).lab.data.toList
    · rw [eS s e]; unfold kl; rw [e]; exact has_put_same h.m (show WideAt.IsKeyLit (.string _) from True.intro) _
    · rw [eO s e, ← h.has s hs]; exact has_put_other (fun e' => e (by unfold kl at e'; exact Lit.string.inj e')) _
  · by_cases e : s.data.toList = (ls.getD k al0).lab.data.toList
    · rw [eS s e]; unfold kl; rw [e]; exact atKey_put_same h.m (show WideAt.IsKeyLit (.string _) from True.intro) _ _
    · rw [eO s e, ← h.val s hs]; exact atKey_put_other (fun e' => e (by unfold kl at e'; exact Lit.string.inj e')) _ _
theorem lawS : Keyed Tryz.prog 9 := string_keyed Tryz.underlying9
theorem zeroI (w : World) : (zeroValue 3).run Tryz.prog w = .ok (.int .i64 0) w := by kernel_rfl
def LMap (w : World) (B : Nat) (ls : List AL) (k : Nat) : Prop := ∃ D : DataW Unit, w.ownsMap Tryz.prog 9 (plainElem Tryz.prog 3) B k D ∧ MapFor ls k D
theorem LMap.same {w w' : World} {B : Nat} {ls : List AL} {k : Nat} (h : LMap w B ls k) (he : w'.heap[B]? = w.heap[B]?) : LMap w' B ls k := by
  obtain ⟨D, ⟨es, clock, hb, F, hs, hD⟩, h2⟩ := h
  exact ⟨D, ⟨es, clock, he.trans hb, F, hs, hD⟩, h2⟩
theorem LMap.lt {w : World} {B : Nat} {ls : List AL} {k : Nat} (h : LMap w B ls k) : B < w.heap.size := by obtain ⟨D, h, _⟩ := h; exact h.lt
theorem LMap.below {w w' : World} {B : Nat} {ls : List AL} {k : Nat} (h : LMap w B ls k) (hb : Below w.heap.size w w') : LMap w' B ls k := h.same (hb.block B h.lt)
theorem LMap.made (w : World) (ls : List AL) : LMap (w.alloc (.map #[] 0)) w.heap.size ls 0 := ⟨_, World.ownsMap_made _ _ _ _, MapFor.zero ls⟩
theorem LMap.skip {w : World} {B : Nat} {ls : List AL} {k : Nat} (h : LMap w B ls k) (hk : (ls.getD k al0).lab.toList.isEmpty = true ∨ (first (hitL ls (ls.getD k al0).lab) k).isSome = true) : LMap w B ls (k + 1) := by
  obtain ⟨D, h1, h2⟩ := h
  exact ⟨D, h1.mono (Nat.le_succ _), h2.skip hk⟩
theorem LMap.set {w : World} {B : Nat} {ls : List AL} {k : Nat} (h : LMap w B ls k) (hk : (ls.getD k al0).lab.toList.isEmpty = false) (hn : first (hitL ls (ls.getD k al0).lab) k = none) (hm : (ls.getD k al0).lab.size ≤ maxLen) (hk2 : k < 9223372036854775807) :
    ∃ w', (Instr.mapUpdate 50 (.map (some B)) (.string (ls.getD k al0).lab) (.int .i64 (k : Int))).run Tryz.prog w = .ok () w' ∧ LMap w' B ls (k + 1) ∧ w.grownBy w' (some B) := by
  obtain ⟨D, h1, h2⟩ := h
  obtain ⟨w', e1, e2, e3⟩ := h1.update lawS Tryz.underlying50 (by unfold maxLen; omega) (key := .string (ls.getD k al0).lab) (val := .int .i64 (k : Int)) (keyOf_string_mk Tryz.underlying9 hm) (plainElem_int Tryz.underlying3 (WalkArith.wf_i64 (by omega)))
  exact ⟨w', e1, ⟨_, e2, h2.set hk hn⟩, e3⟩
theorem LMap.look {w : World} {B : Nat} {ls : List AL} {k : Nat} (h : LMap w B ls k) (s : ByteArray) (hm : s.size ≤ maxLen) :
    ∃ (c : Int) (b : Bool), (Instr.lookup 50 (.map (some B)) (.string s) true).run Tryz.prog w = .ok (.tuple #[.int .i64 c, .bool b]) w ∧ (Instr.lookup 50 (.map (some B)) (.string s) false).run Tryz.prog w = .ok (.int .i64 c) w ∧
      (s.toList.isEmpty = false → c = (((first (hitL ls s) k).getD 0 : Nat) : Int) ∧ b = (first (hitL ls s) k).isSome) := by
  obtain ⟨D, h1, h2⟩ := h
  obtain ⟨c, e1, e2, _⟩ := h1.lookup_int lawS Tryz.underlying50 Tryz.underlying3 (zeroI w) (keyOf_string_mk Tryz.underlying9 hm)
  obtain ⟨v, ps, e3, e4⟩ := h1.look_ok lawS Tryz.underlying50 (zeroI w) (plainElem_int (a := 0) Tryz.underlying3 (by decide)) (keyOf_string_mk Tryz.underlying9 hm)
  obtain ⟨c', rfl, e5, _⟩ := plainElem_int_inv Tryz.underlying3 e4
  simp only [Prod.mk.injEq] at e5
  have ec : c' = c := by
    have := e5.1.symm.trans e2
    simpa using this
  subst ec
  refine ⟨c', _, e3, e1, fun hs => ⟨?_, h2.has s hs⟩⟩
  have := (h2.val s hs).symm.trans e2
  unfold lit64 at this
  simpa using this.symm
end Go.Proofs.YtalmgjeiopjhlaaGreatDoor
