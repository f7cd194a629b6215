/- Regions that draw their order, by a class of worlds: every operation yields the same in each world of the class and stays in it; the last one may write. Inside a fence, within a round too; and without a fence. -/
import Derived.Test.YtdlpgoackmgdkaaGreatDoorRows
import Derived.WalkKit
import Derived.Sort.QuietIn
import Derived.Sort.BigQuietIn
import Derived.Deep.QuietTactic
import Derived.BigQuiet
import Derived.RangeFuncNested
import Derived.Shelf.RegionOpen
namespace Go.Proofs.YtdlpgoackmgdkaaGreatDoor
open Go.RowKit
set_option linter.unusedVariables false
/-- A region that draws its order and only reads, also within a round of a range over a function. -/
def noDefer (l : List Oper) : Bool := l.all fun o => match o.op with | .defer _ => false | _ => true
theorem noDefer_at {l : List Oper} (h : noDefer l = true) {i : Nat} {o : Oper} (ho : l.toArray[i]? = some o) : ∀ c, o.op ≠ .defer c := by
  intro c hc
  have hm : o ∈ l := by simpa using Array.mem_of_getElem? ho
  have := (List.all_eq_true.1 h) o hm
  rw [hc] at this
  cases this
theorem wpIn_of_quiet_r {F : Fence} {n : Nat} {P : Program} {C : World → Prop} {o : Oper} {a : Act} {K : Act → Prop} {K' : Act → World → Prop} {Q' : Exit → Act → World → Prop} {w : World} (hd : ∀ c, o.op ≠ .defer c) (hw : C w) (h : ∀ a w', C w' → K a → K' a w')
    (ha : o.askedIn F P a C) (hh : o.quietIn F n P a C K) : o.wpIn F n P a w K' Q' := by
  obtain ⟨v, h1, h2⟩ := hh
  have h3 := h1 w hw
  unfold Oper.quietAtIn at h3
  unfold Oper.wpIn
  refine ⟨ha w hw, ?_⟩
  rw [Oper.semAt_eq _ _ _ hd]
  generalize (execOp a.eval o).run P w = r at *
  cases r with
  | ok x w' =>
    cases x <;> simp only [Oper.quietUponIn] at h3 <;> simp only [Oper.uponIn]
    case value u =>
      obtain ⟨e1, e2⟩ := h3
      rw [e1, e2]
      exact h _ _ hw h2
    case skip =>
      obtain ⟨e1, e2⟩ := h3
      rw [e1, ← e2]
      exact h _ _ hw h2
    case enter f args =>
      obtain ⟨e1, hd, hc⟩ := h3
      rw [e1]
      exact ⟨hd, hc.mono fun e w'' ⟨he, hw''⟩ => by subst he; exact h _ _ hw'' h2⟩
  | halt x w' => simp only [Oper.quietUponIn] at h3
theorem wpOpIn_of_qOpIn_r {F : Fence} {n : Nat} {P : Program} {C : World → Prop} {l : List Oper} {i : Nat} {a : Act} {K : Act → Prop} {K' : Act → World → Prop} {Q' : Exit → Act → World → Prop} {w : World} (hd : noDefer l = true) (hC : C w) (h : ∀ a w', C w' → K a → K' a w')
    (hh : qOpIn F n P l.toArray C i K a) : wpOpIn F n P l.toArray Q' i K' a w := by
  unfold qOpIn at hh
  unfold wpOpIn
  split
  · rename_i ho; simp only [ho] at hh; exact h _ _ hC hh
  · rename_i o ho
    simp only [ho] at hh
    obtain ⟨ha, hh⟩ := hh
    split
    · rename_i hw; simp only [hw, if_true] at hh; exact wpIn_of_quiet_r (noDefer_at hd ho) hC h ha hh
    · rename_i hw; simp only [hw] at hh; exact ⟨ha w hC, h _ _ hC hh⟩
theorem wpAnyIn_of_quiet_r {F : Fence} {n : Nat} {P : Program} {md : Region.Mode} {C : World → Prop} {l : List Oper} {Q : Act → Prop} {Q' : Exit → Act → World → Prop} (hd : noDefer l = true) (hQ : ∀ a w, C w → Q a → Q' .normal a w) : ∀ (fuel : Nat) (listed : Array Bool) (a : Act) (w : World), C w →
    wpAnyQIn F n P md l.toArray C Q fuel listed a → wpAnyIn F n P md l.toArray Q' fuel listed a w
  | 0, _, _, _, hw, h => ⟨h.1, hQ _ _ hw h.2⟩
  | fuel + 1, _, _, _, hw, h => ⟨fun h0 => hQ _ _ hw (h.1 h0), fun i hi => wpOpIn_of_qOpIn_r hd hw (fun a' w' hw' => wpAnyIn_of_quiet_r hd hQ fuel _ a' w' hw') (h.2 i hi)⟩
theorem wpIn_region_quiet_r {F : Fence} {n : Nat} {P : Program} {id : Nat} {Q : Exit → Act → World → Prop} {a : Act} {w : World} {l : List Oper} (hd : noDefer l = true) (hm : P.follows .mixedOrders = true) (hB : Region.lexB .any l.toArray = true)
    (h : wpQuietIn F n P l.toArray (fun w' => ∃ n, w' = w.drewN n) (fun a' => ∀ w', (∃ n, w' = w.drewN n) → Q .normal a' w') l a) : (Code.region id l.toArray true).wpIn F n P Q a w := by
  simp only [Region.lexB, Bool.and_eq_true] at hB
  refine wpIn_region_any hm (wpAnyIn_of_quiet_r (Q := fun a' => ∀ w', (∃ n, w' = w.drewN n) → Q .normal a' w') hd (fun _ w' hw' h => h w' hw') _ _ _ _ ⟨1, rfl⟩ ?_)
  have := wpAnyQIn_lex (F := F) (n := n) (C := fun w' => ∃ n, w' = w.drewN n) (md := .any) hB.1 l 0 (Array.replicate l.toArray.size false) a (by simp) (by simpa using hB.2) h
  simpa using this
/-- A region that draws its order, whose operations yield the same in every world of a class and stay in it: the class is given as a function's image. Also within a round. -/
theorem wpIn_region_cls {F : Fence} {n : Nat} {P : Program} {id : Nat} {Q : Exit → Act → World → Prop} {a : Act} {w : World} {l : List Oper} {U : Type} (f : U → World) (hd : noDefer l = true) (hm : P.follows .mixedOrders = true) (hB : Region.lexB .any l.toArray = true) (h0 : ∃ u, w.drew = f u)
    (h : wpQuietIn F n P l.toArray (fun w' => ∃ u, w' = f u) (fun a' => ∀ w', (∃ u, w' = f u) → Q .normal a' w') l a) : (Code.region id l.toArray true).wpIn F n P Q a w := by
  simp only [Region.lexB, Bool.and_eq_true] at hB
  refine wpIn_region_any hm (wpAnyIn_of_quiet_r (Q := fun a' => ∀ w', (∃ u, w' = f u) → Q .normal a' w') hd (fun _ w' hw' h => h w' hw') _ _ _ _ h0 ?_)
  have := wpAnyQIn_lex (F := F) (n := n) (C := fun w' => ∃ u, w' = f u) (md := .any) hB.1 l 0 (Array.replicate l.toArray.size false) a (by simp) (by simpa using hB.2) h
  simpa using this
/-- A class of worlds under one name. -/
theorem class_of (p : World → Prop) {W : World} (h : p W) : ∃ (U : Type) (f : U → World), Nonempty U ∧ (∀ u, p (f u)) ∧ ∀ V, p V → ∃ u, V = f u := ⟨{V : World // p V}, Subtype.val, ⟨⟨W, h⟩⟩, fun u => u.property, fun V h => ⟨⟨V, h⟩, rfl⟩⟩
/-- The last operation waits for all others, and each waits for earlier ones alone. -/
def tailB (l : List Oper) (o : Oper) : Bool :=
  (List.range (l.length + 1)).all (fun i => match (l ++ [o]).toArray[i]? with | some oi => oi.after.all fun e => decide (e.on < i) | none => true) &&
  (List.range l.length).all (fun j => o.after.any fun e => Region.binds .any e && e.on == j) && o.guard.isNone && noDefer (l ++ [o]) && Region.noSelect (l ++ [o]).toArray &&
  Region.lexFrom .any (l ++ [o]).toArray l.length 0 ((Array.replicate l.length false).push true)
theorem getD_set_other {b : Bool} {l : Array Bool} {i j : Nat} (d : Bool) (h : i ≠ j) : (l.setIfInBounds i b).getD j d = l.getD j d := by
  simp [Array.getD_eq_getD_getElem?, h]
theorem getD_set_same {b d : Bool} {l : Array Bool} {i : Nat} (h : i < l.size) : (l.setIfInBounds i b).getD i d = b := by
  simp [Array.getD_eq_getD_getElem?, h]
theorem anyIn_last {F : Fence} {n : Nat} {P : Program} {C : World → Prop} {l : List Oper} {o : Oper} {Q : Act → Prop} {Q' : Exit → Act → World → Prop}
    (hback : ∀ (i : Nat) (oi : Oper), (l ++ [o]).toArray[i]? = some oi → ∀ e ∈ oi.after, e.on < i) (hwait : ∀ j, j < l.length → ∃ e ∈ o.after, Region.binds .any e = true ∧ e.on = j) (hgu : o.guard = none) (hd : noDefer (l ++ [o]) = true)
    (hlast : ∀ a w, C w → Q a → o.wpIn F n P a w (fun a' w' => Q' .normal a' w') Q') :
    ∀ (fuel : Nat) (listed : Array Bool) (a : Act) (w : World), listed.size = l.length + 1 → listed.getD l.length true = false → C w →
      wpAnyQIn F n P .any (l ++ [o]).toArray C Q fuel (listed.setIfInBounds l.length true) a → wpAnyIn F n P .any (l ++ [o]).toArray Q' (fuel + 1) listed a w := by
  have hom : (l ++ [o]).toArray[l.length]? = some o := by simp
  have hbnd : ∀ (i : Nat) (oi : Oper), (l ++ [o]).toArray[i]? = some oi → i < l.length + 1 := fun i oi h => by have := (Array.getElem?_eq_some_iff.1 h).1; simpa using this
  intro fuel
  induction fuel with
  | zero =>
    intro listed a w hsz hm hC hq
    refine ⟨fun h0 => absurd h0 ?_, fun i hi => ?_⟩
    · have hr := hq.1
      intro h0
      -- the smallest that has not come up is ready
      have hall : ∀ i, i < l.length + 1 → listed.getD i true = true := by
        intro i
        induction i using Nat.strongRecOn with
        | _ i ih =>
          intro hi
          cases hb : listed.getD i true with
          | true => rfl
          | false =>
            exfalso
            obtain ⟨oi, hoi⟩ : ∃ oi, (l ++ [o]).toArray[i]? = some oi := ⟨(l ++ [o]).toArray[i]'(by simpa using hi), by rw [Array.getElem?_eq_getElem]⟩
            have : i ∈ Region.ready .any (l ++ [o]).toArray listed := mem_ready.2 ⟨hb, oi, hoi, fun e he _ => by
              have h1 := hback i oi hoi e he
              have h2 := ih e.on h1 (by omega)
              simp [Array.getD_eq_getD_getElem?, show e.on < listed.size by omega] at h2 ⊢
              exact h2⟩
            rw [h0] at this; cases this
      rw [hall _ (by omega)] at hm; cases hm
    · obtain ⟨h1, oi, hoi, h2⟩ := mem_ready.1 hi
      by_cases e : i = l.length
      · subst e
        rw [hom] at hoi; cases hoi
        unfold wpOpIn
        simp only [hom, Region.wanted, hgu, if_true]
        refine Oper.wpIn_mono (fun a' w' h => ⟨?_, h⟩) (hlast a w hC hq.2)
        exact hq.1
      · exfalso
        have : i ∈ Region.ready .any (l ++ [o]).toArray (listed.setIfInBounds l.length true) := mem_ready.2 ⟨by rw [getD_set_other _ (Ne.symm e)]; exact h1, oi, hoi, fun e' he' hb => by
          rw [getD_set_other _ (by have := hback i oi hoi e' he'; have := hbnd i oi hoi; omega)]; exact h2 e' he' hb⟩
        rw [hq.1] at this; cases this
  | succ fuel ih =>
    intro listed a w hsz hm hC hq
    refine ⟨fun h0 => absurd h0 ?_, fun i hi => ?_⟩
    · intro h0
      have hall : ∀ i, i < l.length + 1 → listed.getD i true = true := by
        intro i
        induction i using Nat.strongRecOn with
        | _ i ih =>
          intro hi
          cases hb : listed.getD i true with
          | true => rfl
          | false =>
            exfalso
            obtain ⟨oi, hoi⟩ : ∃ oi, (l ++ [o]).toArray[i]? = some oi := ⟨(l ++ [o]).toArray[i]'(by simpa using hi), by rw [Array.getElem?_eq_getElem]⟩
            have : i ∈ Region.ready .any (l ++ [o]).toArray listed := mem_ready.2 ⟨hb, oi, hoi, fun e he _ => by
              have h1 := hback i oi hoi e he
              have h2 := ih e.on h1 (by omega)
              simp [Array.getD_eq_getD_getElem?, show e.on < listed.size by omega] at h2 ⊢
              exact h2⟩
            rw [h0] at this; cases this
      rw [hall _ (by omega)] at hm; cases hm
    · obtain ⟨h1, oi, hoi, h2⟩ := mem_ready.1 hi
      by_cases e : i = l.length
      · subst e
        rw [hom] at hoi; cases hoi
        have hemp : Region.ready .any (l ++ [o]).toArray (listed.setIfInBounds l.length true) = [] := by
          rw [List.eq_nil_iff_forall_not_mem]
          intro k hk
          obtain ⟨k1, ok, hok, _⟩ := mem_ready.1 hk
          have hkl := hbnd k ok hok
          by_cases ek : k = l.length
          · subst ek; rw [getD_set_same (by omega)] at k1; cases k1
          · rw [getD_set_other _ (Ne.symm ek)] at k1
            obtain ⟨e', he', hb, hon⟩ := hwait k (by omega)
            have := h2 e' he' hb
            rw [hon] at this
            simp [Array.getD_eq_getD_getElem?, show k < listed.size by omega] at this k1
            rw [this] at k1; cases k1
        unfold wpOpIn
        simp only [hom, Region.wanted, hgu, if_true]
        refine Oper.wpIn_mono (fun a' w' h => ⟨fun _ => h, fun k hk => ?_⟩) (hlast a w hC (hq.1 hemp))
        rw [hemp] at hk; cases hk
      · have hr : i ∈ Region.ready .any (l ++ [o]).toArray (listed.setIfInBounds l.length true) := mem_ready.2 ⟨by rw [getD_set_other _ (Ne.symm e)]; exact h1, oi, hoi, fun e' he' hb => by
          rw [getD_set_other _ (by have := hback i oi hoi e' he'; have := hbnd i oi hoi; omega)]; exact h2 e' he' hb⟩
        refine wpOpIn_of_qOpIn_r hd hC (fun a' w' hC' hq' => ih (listed.setIfInBounds i true) a' w' (by simpa using hsz) (by rw [getD_set_other _ e]; exact hm) hC' ?_) (hq.2 i hr)
        rw [Array.setIfInBounds_comm _ _ e]; exact hq'
theorem anyQ_lex {F : Fence} {n : Nat} {P : Program} {C : World → Prop} {ops : Array Oper} {Q : Act → Prop} (hs : Region.noSelect ops = true) : ∀ (l : List Oper) (k : Nat) (listed : Array Bool) (a : Act), (∀ j, j < l.length → l[j]? = ops[k + j]?) →
    Region.lexFrom .any ops l.length k listed = true → wpQuietIn F n P ops C Q l a → wpAnyQIn F n P .any ops C Q l.length listed a
  | [], _, _, _, _, hB, h => ⟨by simpa [Region.lexFrom] using hB, h⟩
  | o :: l, k, listed, a, hl, hB, h => by
    have h0 : ops[k]? = some o := by simpa using (hl 0 (by simp)).symm
    simp only [List.length_cons, Region.lexFrom, Bool.and_eq_true] at hB
    obtain ⟨⟨hr, hf⟩, hB'⟩ := hB
    obtain ⟨v, hy, hK⟩ := yieldsQuiet_of_qOpIn (K := wpQuietIn F n P ops C Q l) h0 (by unfold qOpIn; simp only [h0]; exact h)
    exact wpAnyQIn_first h0 (Region.noSelect_spec hs) l.length listed a (Region.free_spec h0 hf) (by simpa using hr) hy
      (anyQ_lex hs l (k + 1) _ _ (fun j hj => by have := hl (j + 1) (by simp; omega); simpa [Nat.add_assoc, Nat.add_comm 1 j] using this) hB' hK)
/-- A region whose last operation waits for all others and may write. -/
theorem wpIn_region_tail {F : Fence} {n : Nat} {P : Program} {id : Nat} {Q : Exit → Act → World → Prop} {a : Act} {w : World} {l : List Oper} {o : Oper} {U : Type} (f : U → World) (hm : P.follows .mixedOrders = true) (hB : tailB l o = true) (h0 : ∃ u, w.drew = f u)
    (h : wpQuietIn F n P (l ++ [o]).toArray (fun w' => ∃ u, w' = f u) (fun a' => ∀ u, o.wpIn F n P a' (f u) (fun a'' w'' => Q .normal a'' w'') Q) l a) : (Code.region id (l ++ [o]).toArray true).wpIn F n P Q a w := by
  simp only [tailB, Bool.and_eq_true] at hB
  obtain ⟨⟨⟨⟨⟨b1, b2⟩, b3⟩, b4⟩, b5⟩, b6⟩ := hB
  refine wpIn_region_any hm ?_
  have hsz : (l ++ [o]).toArray.size = l.length + 1 := by simp
  rw [hsz]
  refine anyIn_last (C := fun w' => ∃ u, w' = f u) (Q := fun a' => ∀ u, o.wpIn F n P a' (f u) (fun a'' w'' => Q .normal a'' w'') Q) ?_ ?_ (by simpa using b3) b4 (fun a w hw hq => by obtain ⟨u, rfl⟩ := hw; exact hq u) l.length _ a _ (by simp) (by simp) h0 ?_
  · intro i oi hoi e he
    have hlt : i < l.length + 1 := by have := (Array.getElem?_eq_some_iff.1 hoi).1; simpa using this
    have := (List.all_eq_true.1 b1) i (by simpa using hlt)
    rw [hoi] at this
    have := Array.all_eq_true_iff_forall_mem.1 this e he
    simpa using this
  · intro j hj
    have := (List.all_eq_true.1 b2) j (by simpa using hj)
    rw [← Array.any_toList, List.any_eq_true] at this
    obtain ⟨e, he, h2⟩ := this
    replace he : e ∈ o.after := by simpa using he
    simp only [Bool.and_eq_true, beq_iff_eq] at h2
    exact ⟨e, he, h2.1, h2.2⟩
  · have e1 : (Array.replicate (l.length + 1) false).setIfInBounds l.length true = (Array.replicate l.length false).push true := by
      apply Array.ext_getElem?
      intro i
      rw [Array.getElem?_setIfInBounds, Array.getElem?_push]
      simp only [Array.size_replicate, Array.getElem?_replicate]
      by_cases h1 : l.length = i
      · subst h1; simp
      · rw [if_neg h1, if_neg (Ne.symm h1)]
        by_cases h2 : i < l.length
        · rw [if_pos h2, if_pos (by omega)]
        · rw [if_neg h2, if_neg (by omega)]
    rw [e1]
    refine anyQ_lex b5 l 0 _ a (fun j hj => ?_) b6 h
    simp [List.getElem?_append_left hj, hj]
/-- The same, the last operation being number m. -/
theorem wpIn_region_tail_at {F : Fence} {n : Nat} {P : Program} {id : Nat} {Q : Exit → Act → World → Prop} {a : Act} {w : World} {ops : List Oper} (m : Nat) {U : Type} (f : U → World) (hm : P.follows .mixedOrders = true) (hlen : ops.length = m + 1) (hB : tailB (ops.take m) (ops.getD m default) = true) (h0 : ∃ u, w.drew = f u)
    (h : wpQuietIn F n P ops.toArray (fun w' => ∃ u, w' = f u) (fun a' => ∀ u, (ops.getD m default).wpIn F n P a' (f u) (fun a'' w'' => Q .normal a'' w'') Q) (ops.take m) a) : (Code.region id ops.toArray true).wpIn F n P Q a w := by
  have e : ops = ops.take m ++ [ops.getD m default] := by
    apply List.ext_getElem?
    intro i
    by_cases h1 : i < m
    · rw [List.getElem?_append_left (by simp; omega), List.getElem?_take, if_pos h1]
    · rw [List.getElem?_append_right (by simp; omega)]
      by_cases h2 : i = m
      · subst h2; simp [List.getD_eq_getElem?_getD, hlen]
      · rw [List.getElem?_eq_none (by omega), List.getElem?_eq_none (by simp; omega)]
  have := wpIn_region_tail (id := id) (Q := Q) (w := w) f hm hB h0 (by rw [← e]; exact h)
  rwa [← e] at this
end Go.Proofs.YtdlpgoackmgdkaaGreatDoor
