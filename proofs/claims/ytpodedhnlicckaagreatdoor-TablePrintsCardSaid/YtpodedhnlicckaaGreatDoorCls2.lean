/- A region whose last operation waits for all others, for some of them by way of others. -/
import Derived.Test.YtpodedhnlicckaaGreatDoorCls
namespace Go.Proofs.YtpodedhnlicckaaGreatDoor
open Go.RowKit
set_option linter.unusedVariables false
/-- The last operation waits for all others, and each waits for earlier ones alone. -/
def tail2B (l : List Oper) (o : Oper) : Bool :=
  (List.range (l.length + 1)).all (fun i => match (l ++ [o]).toArray[i]? with | some oi => oi.after.all fun e => decide (e.on < i) | none => true) &&
  (List.range l.length).all (fun j => o.after.any fun e => Region.binds .any e && (e.on == j || match (l ++ [o]).toArray[e.on]? with | some ok => ok.after.any fun e' => Region.binds .any e' && e'.on == j | none => false)) && o.guard.isNone && noDefer (l ++ [o]) && Region.noSelect (l ++ [o]).toArray &&
  Region.lexFrom .any (l ++ [o]).toArray l.length 0 ((Array.replicate l.length false).push true)
theorem anyIn_last2 {F : Fence} {n : Nat} {P : Program} {C : World → Prop} {l : List Oper} {o : Oper} {Q : Act → Prop} {Q' : Exit → Act → World → Prop}
    (hback : ∀ (i : Nat) (oi : Oper), (l ++ [o]).toArray[i]? = some oi → ∀ e ∈ oi.after, e.on < i) (hwait : ∀ j, j < l.length → ∃ e ∈ o.after, Region.binds .any e = true ∧ (e.on = j ∨ ∃ ok, (l ++ [o]).toArray[e.on]? = some ok ∧ ∃ e' ∈ ok.after, Region.binds .any e' = true ∧ e'.on = j)) (hgu : o.guard = none) (hd : noDefer (l ++ [o]) = true)
    (hlast : ∀ a w, C w → Q a → o.wpIn F n P a w (fun a' w' => Q' .normal a' w') Q') :
    ∀ (fuel : Nat) (listed : Array Bool) (a : Act) (w : World), listed.size = l.length + 1 → listed.getD l.length true = false → (∀ k ok, (l ++ [o]).toArray[k]? = some ok → listed.getD k false = true → ∀ e ∈ ok.after, Region.binds .any e = true → listed.getD e.on false = true) → C w →
      wpAnyQIn F n P .any (l ++ [o]).toArray C Q fuel (listed.setIfInBounds l.length true) a → wpAnyIn F n P .any (l ++ [o]).toArray Q' (fuel + 1) listed a w := by
  have hom : (l ++ [o]).toArray[l.length]? = some o := by simp
  have hbnd : ∀ (i : Nat) (oi : Oper), (l ++ [o]).toArray[i]? = some oi → i < l.length + 1 := fun i oi h => by have := (Array.getElem?_eq_some_iff.1 h).1; simpa using this
  intro fuel
  induction fuel with
  | zero =>
    intro listed a w hsz hm hcl hC hq
    refine ⟨fun h0 => absurd h0 ?_, fun i hi => ?_⟩
    · have hr := hq.1
      intro h0
      -- the smallest that has not come up is ready
      have hall : ∀ i, i < l.length + 1 → listed.getD i true = true := by
        intro i
        induction i using Nat.strongRecOn with
        | _ i ih =>
          intro hi
          cases hb : listed.getD i true with
          | true => rfl
          | false =>
            exfalso
            obtain ⟨oi, hoi⟩ : ∃ oi, (l ++ [o]).toArray[i]? = some oi := ⟨(l ++ [o]).toArray[i]'(by simpa using hi), by rw [Array.getElem?_eq_getElem]⟩
            have : i ∈ Region.ready .any (l ++ [o]).toArray listed := mem_ready.2 ⟨hb, oi, hoi, fun e he _ => by
              have h1 := hback i oi hoi e he
              have h2 := ih e.on h1 (by omega)
              simp [Array.getD_eq_getD_getElem?, show e.on < listed.size by omega] at h2 ⊢
              exact h2⟩
            rw [h0] at this; cases this
      rw [hall _ (by omega)] at hm; cases hm
    · obtain ⟨h1, oi, hoi, h2⟩ := mem_ready.1 hi
      by_cases e : i = l.length
      · subst e
        rw [hom] at hoi; cases hoi
        unfold wpOpIn
        simp only [hom, Region.wanted, hgu, if_true]
        refine Oper.wpIn_mono (fun a' w' h => ⟨?_, h⟩) (hlast a w hC hq.2)
        exact hq.1
      · exfalso
        have : i ∈ Region.ready .any (l ++ [o]).toArray (listed.setIfInBounds l.length true) := mem_ready.2 ⟨by rw [getD_set_other _ (Ne.symm e)]; exact h1, oi, hoi, fun e' he' hb => by
          rw [getD_set_other _ (by have := hback i oi hoi e' he'; have := hbnd i oi hoi; omega)]; exact h2 e' he' hb⟩
        rw [hq.1] at this; cases this
  | succ fuel ih =>
    intro listed a w hsz hm hcl hC hq
    refine ⟨fun h0 => absurd h0 ?_, fun i hi => ?_⟩
    · intro h0
      have hall : ∀ i, i < l.length + 1 → listed.getD i true = true := by
        intro i
        induction i using Nat.strongRecOn with
        | _ i ih =>
          intro hi
          cases hb : listed.getD i true with
          | true => rfl
          | false =>
            exfalso
            obtain ⟨oi, hoi⟩ : ∃ oi, (l ++ [o]).toArray[i]? = some oi := ⟨(l ++ [o]).toArray[i]'(by simpa using hi), by rw [Array.getElem?_eq_getElem]⟩
            have : i ∈ Region.ready .any (l ++ [o]).toArray listed := mem_ready.2 ⟨hb, oi, hoi, fun e he _ => by
              have h1 := hback i oi hoi e he
              have h2 := ih e.on h1 (by omega)
              simp [Array.getD_eq_getD_getElem?, show e.on < listed.size by omega] at h2 ⊢
              exact h2⟩
            rw [h0] at this; cases this
      rw [hall _ (by omega)] at hm; cases hm
    · obtain ⟨h1, oi, hoi, h2⟩ := mem_ready.1 hi
      by_cases e : i = l.length
      · subst e
        rw [hom] at hoi; cases hoi
        have hemp : Region.ready .any (l ++ [o]).toArray (listed.setIfInBounds l.length true) = [] := by
          rw [List.eq_nil_iff_forall_not_mem]
          intro k hk
          obtain ⟨k1, ok, hok, _⟩ := mem_ready.1 hk
          have hkl := hbnd k ok hok
          by_cases ek : k = l.length
          · subst ek; rw [getD_set_same (by omega)] at k1; cases k1
          · rw [getD_set_other _ (Ne.symm ek)] at k1
            obtain ⟨e', he', hb, hon⟩ := hwait k (by omega)
            have this := h2 e' he' hb
            have this : listed.getD k false = true := by
              rcases hon with hon | ⟨ok', hok', e'', he'', hb'', hon⟩
              · rw [hon] at this; exact this
              · have := hcl _ ok' hok' this e'' he'' hb''
                rw [hon] at this; exact this
            simp [Array.getD_eq_getD_getElem?, show k < listed.size by omega] at this k1
            rw [this] at k1; cases k1
        unfold wpOpIn
        simp only [hom, Region.wanted, hgu, if_true]
        refine Oper.wpIn_mono (fun a' w' h => ⟨fun _ => h, fun k hk => ?_⟩) (hlast a w hC (hq.1 hemp))
        rw [hemp] at hk; cases hk
      · have hr : i ∈ Region.ready .any (l ++ [o]).toArray (listed.setIfInBounds l.length true) := mem_ready.2 ⟨by rw [getD_set_other _ (Ne.symm e)]; exact h1, oi, hoi, fun e' he' hb => by
          rw [getD_set_other _ (by have := hback i oi hoi e' he'; have := hbnd i oi hoi; omega)]; exact h2 e' he' hb⟩
        refine wpOpIn_of_qOpIn_r hd hC (fun a' w' hC' hq' => ih (listed.setIfInBounds i true) a' w' (by simpa using hsz) (by rw [getD_set_other _ e]; exact hm) (fun k ok hok hk e' he' hb => ?_) hC' ?_) (hq.2 i hr)
        · have up : ∀ j, listed.getD j false = true → (listed.setIfInBounds i true).getD j false = true := fun j hj => by
            by_cases ej : i = j
            · subst ej
              exact getD_set_same (by rw [hsz]; exact hbnd i oi hoi)
            · rw [getD_set_other _ ej]; exact hj
          by_cases ek : i = k
          · subst ek
            rw [hoi] at hok
            obtain rfl := Option.some.inj hok
            exact up _ (h2 e' he' hb)
          · rw [getD_set_other _ ek] at hk
            exact up _ (hcl k ok hok hk e' he' hb)
        · rw [Array.setIfInBounds_comm _ _ e]; exact hq'
/-- A region whose last operation waits for all others and may write. -/
theorem wpIn_region_tail2 {F : Fence} {n : Nat} {P : Program} {id : Nat} {Q : Exit → Act → World → Prop} {a : Act} {w : World} {l : List Oper} {o : Oper} {U : Type} (f : U → World) (hm : P.follows .mixedOrders = true) (hB : tail2B l o = true) (h0 : ∃ u, w.drew = f u)
    (h : wpQuietIn F n P (l ++ [o]).toArray (fun w' => ∃ u, w' = f u) (fun a' => ∀ u, o.wpIn F n P a' (f u) (fun a'' w'' => Q .normal a'' w'') Q) l a) : (Code.region id (l ++ [o]).toArray true).wpIn F n P Q a w := by
  simp only [tail2B, Bool.and_eq_true] at hB
  obtain ⟨⟨⟨⟨⟨b1, b2⟩, b3⟩, b4⟩, b5⟩, b6⟩ := hB
  refine wpIn_region_any hm ?_
  have hsz : (l ++ [o]).toArray.size = l.length + 1 := by simp
  rw [hsz]
  refine anyIn_last2 (C := fun w' => ∃ u, w' = f u) (Q := fun a' => ∀ u, o.wpIn F n P a' (f u) (fun a'' w'' => Q .normal a'' w'') Q) ?_ ?_ (by simpa using b3) b4 (fun a w hw hq => by obtain ⟨u, rfl⟩ := hw; exact hq u) l.length _ a _ (by simp) (by simp) (fun k ok hok hk => by rw [Array.getD_eq_getD_getElem?, Array.getElem?_replicate] at hk; split at hk <;> cases hk) h0 ?_
  · intro i oi hoi e he
    have hlt : i < l.length + 1 := by have := (Array.getElem?_eq_some_iff.1 hoi).1; simpa using this
    have := (List.all_eq_true.1 b1) i (by simpa using hlt)
    rw [hoi] at this
    have := Array.all_eq_true_iff_forall_mem.1 this e he
    simpa using this
  · intro j hj
    have := (List.all_eq_true.1 b2) j (by simpa using hj)
    rw [← Array.any_toList, List.any_eq_true] at this
    obtain ⟨e, he, h2⟩ := this
    replace he : e ∈ o.after := by simpa using he
    simp only [Bool.and_eq_true, Bool.or_eq_true, beq_iff_eq] at h2
    refine ⟨e, he, h2.1, ?_⟩
    rcases h2.2 with h3 | h3
    · exact .inl h3
    · refine .inr ?_
      cases hk : (l ++ [o]).toArray[e.on]? with
      | none => rw [hk] at h3; cases h3
      | some ok =>
        rw [hk] at h3
        have h3 : (ok.after.any fun e' => Region.binds .any e' && e'.on == j) = true := h3
        rw [← Array.any_toList, List.any_eq_true] at h3
        obtain ⟨e', he', h4⟩ := h3
        simp only [Bool.and_eq_true, beq_iff_eq] at h4
        exact ⟨ok, rfl, e', by simpa using he', h4.1, h4.2⟩
  · have e1 : (Array.replicate (l.length + 1) false).setIfInBounds l.length true = (Array.replicate l.length false).push true := by
      apply Array.ext_getElem?
      intro i
      rw [Array.getElem?_setIfInBounds, Array.getElem?_push]
      simp only [Array.size_replicate, Array.getElem?_replicate]
      by_cases h1 : l.length = i
      · subst h1; simp
      · rw [if_neg h1, if_neg (Ne.symm h1)]
        by_cases h2 : i < l.length
        · rw [if_pos h2, if_pos (by omega)]
        · rw [if_neg h2, if_neg (by omega)]
    rw [e1]
    refine anyQ_lex b5 l 0 _ a (fun j hj => ?_) b6 h
    simp [List.getElem?_append_left hj, hj]
/-- The same, the last operation being number m. -/
theorem wpIn_region_tail2_at {F : Fence} {n : Nat} {P : Program} {id : Nat} {Q : Exit → Act → World → Prop} {a : Act} {w : World} {ops : List Oper} (m : Nat) {U : Type} (f : U → World) (hm : P.follows .mixedOrders = true) (hlen : ops.length = m + 1) (hB : tail2B (ops.take m) (ops.getD m default) = true) (h0 : ∃ u, w.drew = f u)
    (h : wpQuietIn F n P ops.toArray (fun w' => ∃ u, w' = f u) (fun a' => ∀ u, (ops.getD m default).wpIn F n P a' (f u) (fun a'' w'' => Q .normal a'' w'') Q) (ops.take m) a) : (Code.region id ops.toArray true).wpIn F n P Q a w := by
  have e : ops = ops.take m ++ [ops.getD m default] := by
    apply List.ext_getElem?
    intro i
    by_cases h1 : i < m
    · rw [List.getElem?_append_left (by simp; omega), List.getElem?_take, if_pos h1]
    · rw [List.getElem?_append_right (by simp; omega)]
      by_cases h2 : i = m
      · subst h2; simp [List.getD_eq_getElem?_getD, hlen]
      · rw [List.getElem?_eq_none (by omega), List.getElem?_eq_none (by simp; omega)]
  have := wpIn_region_tail2 (id := id) (Q := Q) (w := w) f hm hB h0 (by rw [← e]; exact h)
  rwa [← e] at this
end Go.Proofs.YtpodedhnlicckaaGreatDoor
