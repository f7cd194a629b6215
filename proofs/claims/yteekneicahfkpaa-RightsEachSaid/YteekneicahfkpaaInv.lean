/- A region that draws its order, by an invariant: what is known behind whatever operations have run (L), with whatever values (vs). The operations may write. -/
import Derived.Test.YteekneicahfkpaaAny
namespace Go.Proofs.Yteekneicahfkpaa
open Go.RowKit
set_option linter.unusedVariables false
/-- What one operation leaves. -/
def InvPost (Inv : (Nat → Bool) → (Nat → Value) → World → Prop) (i : Nat) (L : Nat → Bool) (vs : Nat → Value) (A : Act) (d : Option Tmp) (a' : Act) (w' : World) : Prop := ∃ v, a' = A.put d v ∧ Inv (fun j => if j = i then true else L j) (fun j => if j = i then v else vs j) w'
/-- What is asked of the region's make. -/
def goodI (ops : List Oper) (m : Nat) : Bool :=
  (List.range ops.length).all (fun i => match ops[i]? with | some o => o.after.all (fun e => decide (e.on < i)) && o.guard.isNone | none => true) && decide (dsts ops).Nodup && (dsts ops).all (· < m)
theorem wpIn_region_inv {F : Fence} {n : Nat} {P : Program} {id : Nat} {Q : Exit → Act → World → Prop} {a : Act} {w : World} {ops : List Oper} (Inv : (Nat → Bool) → (Nat → Value) → World → Prop)
    (hm : P.follows .mixedOrders = true) (hB : goodI ops a.tmps.size = true) (h0 : Inv (fun _ => false) (fun _ => undef) w.drew)
    (hstep : ∀ (i : Nat) (o : Oper), ops[i]? = some o → ∀ (A : Act) (L : Nat → Bool) (vs : Nat → Value) (V : World), Inv L vs V → L i = false → (∀ e ∈ o.after, Region.binds .any e = true → L e.on = true) → (∀ j p, ops[j]? = some p → L j = true → ∀ e ∈ p.after, Region.binds .any e = true → L e.on = true) →
      (∀ j p, ops[j]? = some p → L j = true → ∀ d, p.dst = some d → A.eval (.tmp d) = vs j) → (∀ d, d ∉ dsts ops → A.eval (.tmp d) = a.eval (.tmp d)) →
      o.wpIn F n P A V (InvPost Inv i L vs A o.dst) Q)
    (hend : ∀ (vs : Nat → Value) (V : World), Inv (fun i => decide (i < ops.length)) vs V → Q .normal (putS vs (fun _ => true) ops 0 a) V) :
    (Code.region id ops.toArray true).wpIn F n P Q a w := by
  simp only [goodI, Bool.and_eq_true] at hB
  obtain ⟨⟨b1, b2⟩, b3⟩ := hB
  have hnd : (dsts ops).Nodup := by simpa using b2
  have hsz : ∀ d ∈ dsts ops, d < a.tmps.size := fun d hd => by simpa using (List.all_eq_true.1 b3) d hd
  have hop : ∀ (i : Nat) (o : Oper), ops[i]? = some o → (∀ e ∈ o.after, e.on < i) ∧ o.guard = none := fun i o ho => by
    have hi : i < ops.length := by
      by_cases h : i < ops.length
      · exact h
      · rw [List.getElem?_eq_none (by omega)] at ho; cases ho
    have := (List.all_eq_true.1 b1) i (by simpa using hi)
    rw [ho] at this
    simp only [Bool.and_eq_true] at this
    refine ⟨fun e he => ?_, by simpa using this.2⟩
    have h2 := Array.all_eq_true_iff_forall_mem.1 this.1 e he
    simpa using h2
  refine wpIn_region_any hm ?_
  have hLf : ∀ (listed : Array Bool), listed.size = ops.length → ∀ j, listed.getD j false = true → j < ops.length := fun listed hs j hj => by
    by_cases h : j < ops.length
    · exact h
    · rw [Array.getD_eq_getD_getElem?, Array.getElem?_eq_none (by omega)] at hj; cases hj
  have key : ∀ (fuel : Nat) (listed : Array Bool) (V : World) (vs : Nat → Value), listed.size = ops.length → ((List.range ops.length).countP fun i => !listed.getD i false) = fuel → Inv (fun i => listed.getD i false) vs V → (∀ j p, ops[j]? = some p → listed.getD j false = true → ∀ e ∈ p.after, Region.binds .any e = true → listed.getD e.on false = true) →
      wpAnyIn F n P .any ops.toArray Q fuel listed (putS vs (fun i => listed.getD i false) ops 0 a) V := by
    intro fuel
    induction fuel with
    | zero =>
      intro listed V vs hs hc hR hD
      have hall : ∀ i, i < ops.length → listed.getD i false = true := fun i hi => by
        have := (List.countP_eq_zero.1 hc) i (by simpa using hi)
        simpa using this
      refine ⟨?_, ?_⟩
      · rw [List.eq_nil_iff_forall_not_mem]
        intro i hi
        obtain ⟨h1, o, ho, _⟩ := mem_ready.1 hi
        have hlt : i < ops.length := by have := (Array.getElem?_eq_some_iff.1 ho).1; simpa using this
        have := hall i hlt
        simp [Array.getD_eq_getD_getElem?, show i < listed.size by omega] at this h1
        rw [this] at h1; cases h1
      · rw [putS_congr (vs' := vs) (L' := fun _ => true) ops 0 a (fun i _ hi => ⟨hall i (by omega), fun _ => rfl⟩)]
        refine hend vs V ?_
        have e : (fun i => listed.getD i false) = (fun i => decide (i < ops.length)) := funext fun i => by
          by_cases h : i < ops.length
          · rw [hall i h]; simp [h]
          · cases hb : listed.getD i false with
            | true => exact absurd (hLf listed hs i hb) h
            | false => simp [h]
        rw [← e]; exact hR
    | succ fuel ih =>
      intro listed V vs hs hc hR hD
      refine ⟨fun h0 => absurd h0 ?_, fun i hi => ?_⟩
      · intro h0
        have hall : ∀ i, i < ops.length → listed.getD i false = true := by
          intro i
          induction i using Nat.strongRecOn with
          | _ i ihi =>
            intro hi
            cases hb : listed.getD i false with
            | true => rfl
            | false =>
              exfalso
              obtain ⟨o, ho⟩ : ∃ o, ops[i]? = some o := ⟨ops[i], by rw [List.getElem?_eq_getElem hi]⟩
              have : i ∈ Region.ready .any ops.toArray listed := mem_ready.2 ⟨by simp [Array.getD_eq_getD_getElem?, show i < listed.size by omega] at hb ⊢; exact hb, o, by simpa using ho, fun e he _ => ihi e.on ((hop i o ho).1 e he) (by have := (hop i o ho).1 e he; omega)⟩
              rw [h0] at this; cases this
        have : ((List.range ops.length).countP fun i => !listed.getD i false) = 0 := List.countP_eq_zero.2 fun i hi => by simp [hall i (by simpa using hi)]
        omega
      · obtain ⟨h1, o, ho, h2⟩ := mem_ready.1 hi
        have ho' : ops[i]? = some o := by simpa using ho
        have hlt : i < ops.length := by have := (Array.getElem?_eq_some_iff.1 ho).1; simpa using this
        have hLi : listed.getD i false = false := by simp [Array.getD_eq_getD_getElem?, show i < listed.size by omega] at h1 ⊢; exact h1
        unfold wpOpIn
        simp only [ho, Region.wanted, (hop i o ho').2, if_true]
        refine Oper.wpIn_mono ?_ (hstep i o ho' (putS vs (fun i => listed.getD i false) ops 0 a) (fun i => listed.getD i false) vs V hR hLi (fun e he hb => h2 e he hb) hD ?_ ?_)
        · rintro a' w' ⟨v, rfl, g1⟩
          rw [← putS_set (vs := vs) (L := fun i => listed.getD i false) (v := v) ops 0 i o a hnd ho' (by simpa using hLi)]
          have hnew : ∀ j, j < ops.length → (listed.setIfInBounds i true).getD j false = if j = 0 + i then true else listed.getD j false := fun j hj => by
            by_cases e : j = i
            · subst e; rw [getD_set_same (by omega), if_pos (by omega)]
            · rw [getD_set_other _ (Ne.symm e), if_neg (by omega)]
          rw [← putS_congr (L := fun j => (listed.setIfInBounds i true).getD j false) (vs := fun j => if j = 0 + i then v else vs j) ops 0 a (fun j _ hj => ⟨hnew j (by omega), fun _ => rfl⟩)]
          refine ih (listed.setIfInBounds i true) w' _ (by simpa using hs) ?_ ?_ ?_
          · have hcount : ((List.range ops.length).countP fun j => !listed.getD j false) = ((List.range ops.length).countP fun j => !(listed.setIfInBounds i true).getD j false) + 1 := by
              have gen : ∀ (r : List Nat), r.Nodup → i ∈ r → (∀ j ∈ r, j < ops.length) → (r.countP fun j => !listed.getD j false) = (r.countP fun j => !(listed.setIfInBounds i true).getD j false) + 1 := by
                intro r
                induction r with
                | nil => intro _ h; cases h
                | cons x r ihr =>
                  intro hnd' hmem hb
                  rw [List.countP_cons, List.countP_cons]
                  have hx := hnew x (hb x (List.mem_cons_self ..))
                  by_cases e : x = i
                  · subst e
                    have hsame : (r.countP fun j => !listed.getD j false) = (r.countP fun j => !(listed.setIfInBounds x true).getD j false) := by
                      apply List.countP_congr
                      intro j hj
                      rw [hnew j (hb j (List.mem_cons_of_mem _ hj)), if_neg (by intro e; have := (List.nodup_cons.1 hnd').1; rw [Nat.zero_add] at e; exact this (e ▸ hj))]
                    have e1 : (!listed.getD x false) = true := by rw [hLi]; rfl
                    have e2 : (!(listed.setIfInBounds x true).getD x false) = false := by rw [hx]; simp
                    rw [e1, e2, hsame]; simp
                  · have e3 : (!(listed.setIfInBounds i true).getD x false) = (!listed.getD x false) := by rw [hx, if_neg (by omega)]
                    rw [e3, ihr (List.nodup_cons.1 hnd').2 (by rcases List.mem_cons.1 hmem with h | h; exact absurd h.symm e; exact h) (fun j hj => hb j (List.mem_cons_of_mem _ hj))]
                    split <;> omega
              exact gen _ List.nodup_range (by simpa using hlt) (fun j hj => by simpa using hj)
            omega
          · have e1 : (fun j => (listed.setIfInBounds i true).getD j false) = (fun j => if j = i then true else listed.getD j false) := funext fun j => by
              by_cases e : j = i
              · subst e; rw [getD_set_same (by omega), if_pos rfl]
              · rw [getD_set_other _ (Ne.symm e), if_neg e]
            have e2 : (fun j => if j = 0 + i then v else vs j) = (fun j => if j = i then v else vs j) := by rw [Nat.zero_add]
            rw [e1, e2]; exact g1
          · intro j p hp hLj e he hbnd
            have hjl : j < ops.length := by
              by_cases h : j < ops.length
              · exact h
              · rw [List.getElem?_eq_none (by omega)] at hp; cases hp
            have hel : e.on < ops.length := by have := (hop j p hp).1 e he; omega
            rw [hnew _ hel]
            split
            · rfl
            · by_cases ej : j = i
              · subst ej; rw [ho'] at hp; cases hp; exact h2 e he hbnd |> fun h => (by simpa [Array.getD_eq_getD_getElem?, show e.on < listed.size by omega] using h)
              · rw [hnew _ hjl, if_neg (by omega)] at hLj
                exact hD j p hp hLj e he hbnd
        · intro j p hp hLj d hd
          have := eval_at (vs := vs) (L := fun i => listed.getD i false) ops 0 j p a hnd hp hd (by simpa using hLj) (hsz d (List.mem_filterMap.2 ⟨p, List.mem_of_getElem? hp, hd⟩))
          simpa using this
        · exact fun d hd => eval_other ops 0 a hd
  have hrep : ∀ (m i : Nat), (Array.replicate m false).getD i false = false := fun m i => by
    simp only [Array.getD_eq_getD_getElem?, Array.getElem?_replicate]
    split <;> rfl
  have hr0 : (fun i => (Array.replicate ops.toArray.size false).getD i false) = fun _ => false := funext fun i => hrep _ i
  have := key ops.toArray.size (Array.replicate ops.toArray.size false) w.drew (fun _ => undef) (by simp) (by simp only [hrep]; simp) (by rw [hr0]; exact h0) (fun j p _ hLj => by rw [hrep] at hLj; cases hLj)
  rw [putS_congr (vs' := fun _ => undef) (L' := fun _ => false) ops 0 a (fun i _ hi => ⟨hrep _ _, fun h => rfl⟩)] at this
  have e0 : ∀ (l : List Oper) (k : Nat) (a : Act), putS (fun _ => undef) (fun _ => false) l k a = a := by
    intro l
    induction l with
    | nil => intro _ _; rfl
    | cons o r ih => intro k a; show putS _ _ r (k + 1) (if false = true then _ else a) = a; simp [ih]
  rw [e0] at this
  exact this
end Go.Proofs.Yteekneicahfkpaa
