/- A region whose operations make memory in whatever order: of each operation it is said what its value is good for, in whatever world; what is said abides. -/
import Derived.Test.YtnjeiigdfdjccaaCls
import Derived.Test.YtnjeiigdfdjccaaYrpF
import Derived.Test.YtnjeiigdfdjccaaYrdNw
import Derived.Deep.OwnRows
namespace Go.Proofs.Ytnjeiigdfdjccaa
open Go.RowKit
set_option linter.unusedVariables false
/-- The frame, where the operations that L tells have put their values. -/
def putS (vs : Nat → Value) (L : Nat → Bool) : List Oper → Nat → Act → Act
  | [], _, a => a
  | o :: r, k, a => putS vs L r (k + 1) (if L k then a.put o.dst (vs k) else a)
theorem put_put {a : Act} {d d' : Option Tmp} {v v' : Value} (h : ∀ x, d = some x → d' ≠ some x) : (a.put d v).put d' v' = (a.put d' v').put d v := by
  cases d with
  | none => rfl
  | some x =>
    cases d' with
    | none => rfl
    | some y => simp only [Act.put]; rw [Array.setIfInBounds_comm _ _ (fun e => h x rfl (by rw [e]))]
theorem putS_put {vs : Nat → Value} {L : Nat → Bool} {d : Option Tmp} {v : Value} : ∀ (l : List Oper) (k : Nat) (a : Act), (∀ o ∈ l, ∀ x, d = some x → o.dst ≠ some x) → putS vs L l k (a.put d v) = (putS vs L l k a).put d v
  | [], _, _, _ => rfl
  | o :: r, k, a, h => by
    show putS vs L r (k + 1) (if L k then (a.put d v).put o.dst (vs k) else a.put d v) = (putS vs L r (k + 1) (if L k then a.put o.dst (vs k) else a)).put d v
    rw [← putS_put r (k + 1) _ (fun o' ho' => h o' (List.mem_cons_of_mem _ ho'))]
    congr 1
    by_cases hL : L k = true
    · rw [if_pos hL, if_pos hL]; exact put_put (h o (List.mem_cons_self ..))
    · rw [if_neg hL, if_neg hL]
theorem putS_congr {vs vs' : Nat → Value} {L L' : Nat → Bool} : ∀ (l : List Oper) (k : Nat) (a : Act), (∀ i, k ≤ i → i < k + l.length → L i = L' i ∧ (L i = true → vs i = vs' i)) → putS vs L l k a = putS vs' L' l k a
  | [], _, _, _ => rfl
  | o :: r, k, a, h => by
    show putS vs L r (k + 1) (if L k then a.put o.dst (vs k) else a) = putS vs' L' r (k + 1) (if L' k then a.put o.dst (vs' k) else a)
    obtain ⟨h1, h2⟩ := h k (Nat.le_refl _) (by simp)
    rw [putS_congr r (k + 1) _ (fun i hi hi' => h i (by omega) (by simp; omega)), ← h1]
    congr 1
    by_cases hL : L k = true
    · rw [if_pos hL, if_pos hL, h2 hL]
    · rw [if_neg hL, if_neg hL]
def dsts (l : List Oper) : List Tmp := l.filterMap (·.dst)
theorem dsts_not {o : Oper} {r : List Oper} (h : (dsts (o :: r)).Nodup) : ∀ p ∈ r, ∀ x, o.dst = some x → p.dst ≠ some x := fun p hp x hx hpx => by
  unfold dsts at h
  rw [List.filterMap_cons, hx] at h
  exact (List.nodup_cons.1 h).1 (List.mem_filterMap.2 ⟨p, hp, hpx⟩)
theorem dsts_tail {o : Oper} {r : List Oper} (h : (dsts (o :: r)).Nodup) : (dsts r).Nodup := by
  unfold dsts at h ⊢
  rw [List.filterMap_cons] at h
  cases hd : o.dst with
  | none => rw [hd] at h; exact h
  | some x => rw [hd] at h; exact (List.nodup_cons.1 h).2
theorem putS_set {vs : Nat → Value} {L : Nat → Bool} {v : Value} : ∀ (l : List Oper) (k j : Nat) (o : Oper) (a : Act), (dsts l).Nodup → l[j]? = some o → L (k + j) = false →
    putS (fun i => if i = k + j then v else vs i) (fun i => if i = k + j then true else L i) l k a = (putS vs L l k a).put o.dst v
  | [], _, _, _, _, _, h, _ => by simp at h
  | p :: r, k, 0, o, a, hn, h, hL => by
    obtain rfl : p = o := by simpa using h
    have hL' : L k = false := hL
    show putS (fun i => if i = k + 0 then v else vs i) (fun i => if i = k + 0 then true else L i) r (k + 1) (if (if k = k + 0 then true else L k) then a.put p.dst (if k = k + 0 then v else vs k) else a) = (putS vs L r (k + 1) (if L k then a.put p.dst (vs k) else a)).put p.dst v
    simp only [Nat.add_zero, if_true, hL']
    rw [putS_congr (vs' := vs) (L' := L) r (k + 1) _ (fun i hi _ => by rw [if_neg (by omega), if_neg (by omega)]; exact ⟨rfl, fun _ => rfl⟩)]
    exact putS_put r (k + 1) a (dsts_not hn)
  | p :: r, k, j + 1, o, a, hn, h, hL => by
    have := putS_set (vs := vs) (L := L) (v := v) r (k + 1) j o (if L k then a.put p.dst (vs k) else a) (dsts_tail hn) (by simpa using h) (by rw [← hL]; congr 1; omega)
    show putS (fun i => if i = k + (j + 1) then v else vs i) (fun i => if i = k + (j + 1) then true else L i) r (k + 1) (if (if k = k + (j + 1) then true else L k) then a.put p.dst (if k = k + (j + 1) then v else vs k) else a) = _
    have hk : ¬ k = k + (j + 1) := by omega
    simp only [if_neg hk]
    rw [show k + (j + 1) = k + 1 + j by omega]
    exact this
theorem eval_put_other {a : Act} {d : Option Tmp} {v : Value} {x : Tmp} (h : d ≠ some x) : (a.put d v).eval (.tmp x) = a.eval (.tmp x) := by
  cases d with
  | none => rfl
  | some y =>
    have : y ≠ x := fun e => h (by rw [e])
    simp [Act.put, Act.eval, Array.getD_eq_getD_getElem?, this]
theorem eval_put_same {a : Act} {v : Value} {x : Tmp} (h : x < a.tmps.size) : (a.put (some x) v).eval (.tmp x) = v := by
  simp [Act.put, Act.eval, Array.getD_eq_getD_getElem?, h]
theorem put_size (a : Act) (d : Option Tmp) (v : Value) : (a.put d v).tmps.size = a.tmps.size := by cases d <;> simp [Act.put]
theorem eval_other {vs : Nat → Value} {L : Nat → Bool} {x : Tmp} : ∀ (l : List Oper) (k : Nat) (a : Act), x ∉ dsts l → (putS vs L l k a).eval (.tmp x) = a.eval (.tmp x)
  | [], _, _, _ => rfl
  | o :: r, k, a, h => by
    have h1 : o.dst ≠ some x := fun e => h (List.mem_filterMap.2 ⟨o, List.mem_cons_self .., e⟩)
    have h2 : x ∉ dsts r := fun e => h (by obtain ⟨p, hp, hd⟩ := List.mem_filterMap.1 e; exact List.mem_filterMap.2 ⟨p, List.mem_cons_of_mem _ hp, hd⟩)
    show (putS vs L r (k + 1) (if L k then a.put o.dst (vs k) else a)).eval (.tmp x) = _
    rw [eval_other r (k + 1) _ h2]
    split
    · exact eval_put_other h1
    · rfl
theorem eval_at {vs : Nat → Value} {L : Nat → Bool} {x : Tmp} : ∀ (l : List Oper) (k j : Nat) (o : Oper) (a : Act), (dsts l).Nodup → l[j]? = some o → o.dst = some x → L (k + j) = true → x < a.tmps.size → (putS vs L l k a).eval (.tmp x) = vs (k + j)
  | [], _, _, _, _, _, h, _, _, _ => by simp at h
  | p :: r, k, 0, o, a, hn, h, hd, hL, hx => by
    obtain rfl : p = o := by simpa using h
    show (putS vs L r (k + 1) (if L k then a.put p.dst (vs k) else a)).eval (.tmp x) = _
    have hL' : L k = true := hL
    rw [if_pos hL', eval_other r (k + 1) _ (fun e => by obtain ⟨q, hq, hqd⟩ := List.mem_filterMap.1 e; exact dsts_not hn q hq x hd hqd), hd, eval_put_same hx]; rfl
  | p :: r, k, j + 1, o, a, hn, h, hd, hL, hx => by
    show (putS vs L r (k + 1) (if L k then a.put p.dst (vs k) else a)).eval (.tmp x) = _
    rw [eval_at r (k + 1) j o _ (dsts_tail hn) (by simpa using h) hd (by rw [← hL]; congr 1; omega) (by split <;> first | (rw [put_size]; exact hx) | exact hx)]
    congr 1; omega
/-- What is asked of the region's make. -/
def goodB2 (ops : List Oper) (m : Nat) : Bool :=
  (List.range ops.length).all (fun i => match ops[i]? with | some o => o.after.all (fun e => decide (e.on < i) && Region.binds .any e) && o.guard.isNone | none => true) && decide (dsts ops).Nodup && (dsts ops).all (· < m)
/-- What is known when the operations that L tells have run: of each what it is good for (which may speak of those that it waits for); fresh blocks are apart. -/
structure Rgn (ops : List Oper) (mk : Nat → Bool) (own : Nat → Value → Nat → Prop) (N : Nat) (C : World → Prop) (G : Nat → (Nat → Value) → World → Prop) (vs : Nat → Value) (L : Nat → Bool) (V : World) : Prop where
  c : C V
  n : N ≤ V.heap.size
  g : ∀ i, i < ops.length → L i = true → G i vs V
  dn : ∀ i o, ops[i]? = some o → L i = true → ∀ e ∈ o.after, L e.on = true
  s : ∀ i, mk i = true → L i = true → ∀ b, own i (vs i) b → N ≤ b ∧ b < V.heap.size
  d : ∀ i j, i ≠ j → mk i = true → mk j = true → L i = true → L j = true → ∀ b, own i (vs i) b → ¬ own j (vs j) b
theorem Rgn.step {ops : List Oper} {mk : Nat → Bool} {own : Nat → Value → Nat → Prop} {N : Nat} {C : World → Prop} {G : Nat → (Nat → Value) → World → Prop} {vs : Nat → Value} {L : Nat → Bool} {V V' : World} (h : Rgn ops mk own N C G vs L V)
    (hGc : ∀ (i : Nat) (o : Oper), ops[i]? = some o → ∀ vs vs' V, vs i = vs' i → (∀ e ∈ o.after, vs e.on = vs' e.on) → G i vs V → G i vs' V) (hG : ∀ i vs V V', Below V.heap.size V V' → G i vs V → G i vs V') (hC : ∀ V V', Below V.heap.size V V' → C V → C V')
    {i : Nat} {o : Oper} {v : Value} (ho : ops[i]? = some o) (hL : L i = false) (hdep : ∀ e ∈ o.after, L e.on = true) (hb : Below V.heap.size V V') (hv : G i (fun j => if j = i then v else vs j) V') (hmk : mk i = true → ∀ b, own i v b → V.heap.size ≤ b ∧ b < V'.heap.size) :
    Rgn ops mk own N C G (fun j => if j = i then v else vs j) (fun j => if j = i then true else L j) V' := by
  have hne : ∀ j, L j = true → j ≠ i := fun j hj e => by subst e; rw [hL] at hj; cases hj
  refine ⟨hC _ _ hb h.c, Nat.le_trans h.n hb.size, fun j hj hLj => ?_, fun j p hp hLj e he => ?_, fun j hm hLj b hbk => ?_, fun j k hjk hmj hmk' hLj hLk b hbj => ?_⟩
  · by_cases e : j = i
    · subst e; exact hv
    · have hLj' : L j = true := by simpa [e] using hLj
      obtain ⟨p, hp⟩ : ∃ p, ops[j]? = some p := ⟨ops[j], by rw [List.getElem?_eq_getElem hj]⟩
      exact hG _ _ _ _ hb (hGc j p hp _ _ _ (by simp [e]) (fun e' he' => by simp [hne _ (h.dn j p hp hLj' e' he')]) (h.g j hj hLj'))
  · show (if e.on = i then true else L e.on) = true
    by_cases ej : j = i
    · subst ej; rw [ho] at hp; cases hp; simp [hdep e he]
    · have hLj' : L j = true := by simpa [ej] using hLj
      simp [h.dn j p hp hLj' e he]
  · by_cases e : j = i
    · subst e; simp only [if_true] at hbk; obtain ⟨h1, h2⟩ := hmk hm b hbk; exact ⟨Nat.le_trans h.n h1, h2⟩
    · have hLj' : L j = true := by simpa [e] using hLj
      obtain ⟨h1, h2⟩ := h.s j hm hLj' b (by simpa [e] using hbk)
      exact ⟨h1, Nat.lt_of_lt_of_le h2 hb.size⟩
  · by_cases ej : j = i
    · subst ej
      have ek : k ≠ j := fun e => hjk e.symm
      have hLk' : L k = true := by simpa [ek] using hLk
      simp only [if_true] at hbj
      simp only [if_neg ek]
      intro hk
      have h1 := (hmk hmj b hbj).1
      have h2 := (h.s k hmk' hLk' b hk).2
      omega
    · have hLj' : L j = true := by simpa [ej] using hLj
      simp only [if_neg ej] at hbj
      by_cases ek : k = i
      · subst ek
        simp only [if_true]
        intro hk
        have h1 := (hmk hmk' b hk).1
        have h2 := (h.s j hmj hLj' b hbj).2
        omega
      · simp only [if_neg ek]
        exact h.d j k hjk hmj hmk' hLj' (by simpa [ek] using hLk) b hbj
/-- What one operation leaves. -/
def StepPost (G : Nat → (Nat → Value) → World → Prop) (mk : Nat → Bool) (own : Nat → Value → Nat → Prop) (i : Nat) (vs : Nat → Value) (A : Act) (d : Option Tmp) (V : World) (a' : Act) (w' : World) : Prop :=
  ∃ v, a' = A.put d v ∧ G i (fun j => if j = i then v else vs j) w' ∧ Below V.heap.size V w' ∧ (mk i = true → ∀ b, own i v b → V.heap.size ≤ b ∧ b < w'.heap.size)
theorem StepPost.still {G : Nat → (Nat → Value) → World → Prop} {mk : Nat → Bool} {own : Nat → Value → Nat → Prop} {i : Nat} {vs : Nat → Value} {A : Act} {d : Option Tmp} {V : World} (v : Value) (h : G i (fun j => if j = i then v else vs j) V) (hm : mk i = false) : StepPost G mk own i vs A d V (A.put d v) V :=
  ⟨v, rfl, h, Below.refl _ _, fun h' => by rw [hm] at h'; cases h'⟩
theorem wpIn_region_reg {F : Fence} {n : Nat} {P : Program} {id : Nat} {Q : Exit → Act → World → Prop} {a : Act} {w : World} {ops : List Oper} (mk : Nat → Bool) (own : Nat → Value → Nat → Prop) (N : Nat) (C : World → Prop) (G : Nat → (Nat → Value) → World → Prop)
    (hm : P.follows .mixedOrders = true) (hB : goodB2 ops a.tmps.size = true) (hN : N ≤ w.heap.size) (hC0 : C w.drew)
    (hGc : ∀ (i : Nat) (o : Oper), ops[i]? = some o → ∀ vs vs' V, vs i = vs' i → (∀ e ∈ o.after, vs e.on = vs' e.on) → G i vs V → G i vs' V) (hG : ∀ i vs V V', Below V.heap.size V V' → G i vs V → G i vs V') (hC : ∀ V V', Below V.heap.size V V' → C V → C V')
    (hstep : ∀ (i : Nat) (o : Oper), ops[i]? = some o → ∀ (A : Act) (vs : Nat → Value) (V : World), C V → N ≤ V.heap.size → (∀ e ∈ o.after, G e.on vs V) → (∀ e ∈ o.after, ∀ p, ops[e.on]? = some p → ∀ d, p.dst = some d → A.eval (.tmp d) = vs e.on) →
      (∀ d, d ∉ dsts ops → A.eval (.tmp d) = a.eval (.tmp d)) → o.wpIn F n P A V (StepPost G mk own i vs A o.dst V) Q)
    (hend : ∀ (vs : Nat → Value) (V : World), Rgn ops mk own N C G vs (fun i => decide (i < ops.length)) V → Q .normal (putS vs (fun _ => true) ops 0 a) V) :
    (Code.region id ops.toArray true).wpIn F n P Q a w := by
  simp only [goodB2, Bool.and_eq_true] at hB
  obtain ⟨⟨b1, b2⟩, b3⟩ := hB
  have hnd : (dsts ops).Nodup := by simpa using b2
  have hsz : ∀ d ∈ dsts ops, d < a.tmps.size := fun d hd => by simpa using (List.all_eq_true.1 b3) d hd
  have hop : ∀ (i : Nat) (o : Oper), ops[i]? = some o → (∀ e ∈ o.after, e.on < i ∧ Region.binds .any e = true) ∧ o.guard = none := fun i o ho => by
    have hi : i < ops.length := by
      by_cases h : i < ops.length
      · exact h
      · rw [List.getElem?_eq_none (by omega)] at ho; cases ho
    have := (List.all_eq_true.1 b1) i (by simpa using hi)
    rw [ho] at this
    simp only [Bool.and_eq_true] at this
    refine ⟨fun e he => ?_, by simpa using this.2⟩
    have h2 := Array.all_eq_true_iff_forall_mem.1 this.1 e he
    simp only [Bool.and_eq_true, decide_eq_true_eq] at h2
    exact h2
  refine wpIn_region_any hm ?_
  have hLf : ∀ (listed : Array Bool), listed.size = ops.length → ∀ j, listed.getD j false = true → j < ops.length := fun listed hs j hj => by
    by_cases h : j < ops.length
    · exact h
    · rw [Array.getD_eq_getD_getElem?, Array.getElem?_eq_none (by omega)] at hj; cases hj
  have key : ∀ (fuel : Nat) (listed : Array Bool) (V : World) (vs : Nat → Value), listed.size = ops.length → ((List.range ops.length).countP fun i => !listed.getD i false) = fuel → Rgn ops mk own N C G vs (fun i => listed.getD i false) V →
      wpAnyIn F n P .any ops.toArray Q fuel listed (putS vs (fun i => listed.getD i false) ops 0 a) V := by
    intro fuel
    induction fuel with
    | zero =>
      intro listed V vs hs hc hR
      have hall : ∀ i, i < ops.length → listed.getD i false = true := fun i hi => by
        have := (List.countP_eq_zero.1 hc) i (by simpa using hi)
        simpa using this
      refine ⟨?_, ?_⟩
      · rw [List.eq_nil_iff_forall_not_mem]
        intro i hi
        obtain ⟨h1, o, ho, _⟩ := mem_ready.1 hi
        have hlt : i < ops.length := by have := (Array.getElem?_eq_some_iff.1 ho).1; simpa using this
        have := hall i hlt
        simp [Array.getD_eq_getD_getElem?, show i < listed.size by omega] at this h1
        rw [this] at h1; cases h1
      · rw [putS_congr (vs' := vs) (L' := fun _ => true) ops 0 a (fun i _ hi => ⟨hall i (by omega), fun _ => rfl⟩)]
        refine hend vs V ?_
        have e : (fun i => listed.getD i false) = (fun i => decide (i < ops.length)) := funext fun i => by
          by_cases h : i < ops.length
          · rw [hall i h]; simp [h]
          · cases hb : listed.getD i false with
            | true => exact absurd (hLf listed hs i hb) h
            | false => simp [h]
        rw [← e]; exact hR
    | succ fuel ih =>
      intro listed V vs hs hc hR
      refine ⟨fun h0 => absurd h0 ?_, fun i hi => ?_⟩
      · intro h0
        have hall : ∀ i, i < ops.length → listed.getD i false = true := by
          intro i
          induction i using Nat.strongRecOn with
          | _ i ihi =>
            intro hi
            cases hb : listed.getD i false with
            | true => rfl
            | false =>
              exfalso
              obtain ⟨o, ho⟩ : ∃ o, ops[i]? = some o := ⟨ops[i], by rw [List.getElem?_eq_getElem hi]⟩
              have : i ∈ Region.ready .any ops.toArray listed := mem_ready.2 ⟨by simp [Array.getD_eq_getD_getElem?, show i < listed.size by omega] at hb ⊢; exact hb, o, by simpa using ho, fun e he _ => ihi e.on ((hop i o ho).1 e he).1 (by have := ((hop i o ho).1 e he).1; omega)⟩
              rw [h0] at this; cases this
        have : ((List.range ops.length).countP fun i => !listed.getD i false) = 0 := List.countP_eq_zero.2 fun i hi => by simp [hall i (by simpa using hi)]
        omega
      · obtain ⟨h1, o, ho, h2⟩ := mem_ready.1 hi
        have ho' : ops[i]? = some o := by simpa using ho
        have hlt : i < ops.length := by have := (Array.getElem?_eq_some_iff.1 ho).1; simpa using this
        have hLi : listed.getD i false = false := by simp [Array.getD_eq_getD_getElem?, show i < listed.size by omega] at h1 ⊢; exact h1
        unfold wpOpIn
        simp only [ho, Region.wanted, (hop i o ho').2, if_true]
        refine Oper.wpIn_mono ?_ (hstep i o ho' (putS vs (fun i => listed.getD i false) ops 0 a) vs V hR.c hR.n ?_ ?_ ?_)
        · rintro a' w' ⟨v, rfl, g1, g2, g3⟩
          rw [← putS_set (vs := vs) (L := fun i => listed.getD i false) (v := v) ops 0 i o a hnd ho' (by simpa using hLi)]
          have hnew : ∀ j, j < ops.length → (listed.setIfInBounds i true).getD j false = if j = 0 + i then true else listed.getD j false := fun j hj => by
            by_cases e : j = i
            · subst e; rw [getD_set_same (by omega), if_pos (by omega)]
            · rw [getD_set_other _ (Ne.symm e), if_neg (by omega)]
          rw [← putS_congr (L := fun j => (listed.setIfInBounds i true).getD j false) (vs := fun j => if j = 0 + i then v else vs j) ops 0 a (fun j _ hj => ⟨hnew j (by omega), fun _ => rfl⟩)]
          refine ih (listed.setIfInBounds i true) w' _ (by simpa using hs) ?_ ?_
          · have hcount : ((List.range ops.length).countP fun j => !listed.getD j false) = ((List.range ops.length).countP fun j => !(listed.setIfInBounds i true).getD j false) + 1 := by
              have gen : ∀ (r : List Nat), r.Nodup → i ∈ r → (∀ j ∈ r, j < ops.length) → (r.countP fun j => !listed.getD j false) = (r.countP fun j => !(listed.setIfInBounds i true).getD j false) + 1 := by
                intro r
                induction r with
                | nil => intro _ h; cases h
                | cons x r ihr =>
                  intro hnd' hmem hb
                  rw [List.countP_cons, List.countP_cons]
                  have hx := hnew x (hb x (List.mem_cons_self ..))
                  by_cases e : x = i
                  · subst e
                    have hsame : (r.countP fun j => !listed.getD j false) = (r.countP fun j => !(listed.setIfInBounds x true).getD j false) := by
                      apply List.countP_congr
                      intro j hj
                      rw [hnew j (hb j (List.mem_cons_of_mem _ hj)), if_neg (by intro e; have := (List.nodup_cons.1 hnd').1; rw [Nat.zero_add] at e; exact this (e ▸ hj))]
                    have e1 : (!listed.getD x false) = true := by rw [hLi]; rfl
                    have e2 : (!(listed.setIfInBounds x true).getD x false) = false := by rw [hx]; simp
                    rw [e1, e2, hsame]; simp
                  · have e3 : (!(listed.setIfInBounds i true).getD x false) = (!listed.getD x false) := by rw [hx, if_neg (by omega)]
                    rw [e3, ihr (List.nodup_cons.1 hnd').2 (by rcases List.mem_cons.1 hmem with h | h; exact absurd h.symm e; exact h) (fun j hj => hb j (List.mem_cons_of_mem _ hj))]
                    split <;> omega
              exact gen _ List.nodup_range (by simpa using hlt) (fun j hj => by simpa using hj)
            omega
          · have hR' := hR.step hGc hG hC ho' hLi (fun e he => h2 e he ((hop i o ho').1 e he).2) g2 g1 g3
            have e1 : (fun j => (listed.setIfInBounds i true).getD j false) = (fun j => if j = i then true else listed.getD j false) := funext fun j => by
              by_cases e : j = i
              · subst e; rw [getD_set_same (by omega), if_pos rfl]
              · rw [getD_set_other _ (Ne.symm e), if_neg e]
            have e2 : (fun j => if j = 0 + i then v else vs j) = (fun j => if j = i then v else vs j) := by rw [Nat.zero_add]
            rw [e1, e2]; exact hR'
        · exact fun e he => hR.g e.on (by have := ((hop i o ho').1 e he).1; omega) (h2 e he ((hop i o ho').1 e he).2)
        · intro e he p hp d hd
          have := eval_at (vs := vs) (L := fun i => listed.getD i false) ops 0 e.on p a hnd hp hd (by simpa using h2 e he ((hop i o ho').1 e he).2) (hsz d (List.mem_filterMap.2 ⟨p, List.mem_of_getElem? hp, hd⟩))
          simpa using this
        · exact fun d hd => eval_other ops 0 a hd
  have hrep : ∀ (m i : Nat), (Array.replicate m false).getD i false = false := fun m i => by
    simp only [Array.getD_eq_getD_getElem?, Array.getElem?_replicate]
    split <;> rfl
  have := key ops.toArray.size (Array.replicate ops.toArray.size false) w.drew (fun _ => undef) (by simp) (by simp only [hrep]; simp) ⟨hC0, hN, fun i _ hi => (by rw [hrep] at hi; cases hi), fun i o _ hi => (by rw [hrep] at hi; cases hi), fun i _ hi => (by rw [hrep] at hi; cases hi), fun i j _ _ _ hi => (by rw [hrep] at hi; cases hi)⟩
  rw [putS_congr (vs' := fun _ => undef) (L' := fun _ => false) ops 0 a (fun i _ hi => ⟨hrep _ _, fun h => rfl⟩)] at this
  have e0 : ∀ (l : List Oper) (k : Nat) (a : Act), putS (fun _ => undef) (fun _ => false) l k a = a := by
    intro l
    induction l with
    | nil => intro _ _; rfl
    | cons o r ih => intro k a; show putS _ _ r (k + 1) (if false = true then _ else a) = a; simp [ih]
  rw [e0] at this
  exact this
end Go.Proofs.Ytnjeiigdfdjccaa
/- The document's yard: New. -/
namespace Go.Proofs.Ytnjeiigdfdjccaa
open Go.RowKit
set_option linter.unusedVariables false
set_option linter.unusedSimpArgs false
def NewRA (v : Value) (T : Tab) (w : World) (e : Ending) (w' : World) : Prop := ∃ u ub lb, e = .returned (.pointer (some ⟨u.g, 0, none⟩)) ∧ R27At w' u as0 ub lb ∧ u.T = T ∧ u.w0 = w ∧ u.B = w.heap.size ∧ v = .agg #[.int .i64 T.tracks, u.vp, .int .i64 T.sigs, u.vr] ∧ Below w.heap.size w w' ∧ (u.g = w.heap.size + 3 ∧ w'.heap.size = w.heap.size + 4)
set_option maxRecDepth 100000 in
set_option maxHeartbeats 4000000 in
theorem rnew_at (v : Value) (T : Tab) (w : World) (hT : TabAt w v T) (hn : T.rts.length ≤ 1000) (hm : T.pts.length ≤ 1000) :
    Calls Try.prog 35 #[v] w (NewRA v T w) := by
  obtain ⟨⟨vp, vr, rfl, hP, hr⟩, _, _⟩ := hT
  obtain ⟨a, c, C0, rfl, hlc, hcm, _⟩ := hr.at_
  obtain ⟨⟨va, vc, rfl, hvl, hvm, _⟩, _⟩ := id hP
  have HR := Lib.hid hr; have HP := Lib.hid hP
  obtain ⟨w1, hw1⟩ : ∃ w1, w1 = w.alloc (.cells #[.int .i64 T.tracks, .slice va T.pts.length vc, .int .i64 T.sigs, .slice a T.rts.length c] 25) := ⟨_, rfl⟩
  have B1 : Hid (Below w.heap.size w w1) := by rw [hw1]; exact tb_alloc_below _ _
  have K1 : Hid (w1.heap[w.heap.size]? = some (.cells #[.int .i64 T.tracks, .slice va T.pts.length vc, .int .i64 T.sigs, .slice a T.rts.length c] 25 (0, 0))) := by rw [hw1]; exact heap_alloc_new _ _
  have HW1 := Lib.hid hw1
  have hmk1 := fun w => make_r27 T.rts.length hn w
  have hmk2 := fun w => run_make_row' (P := Try.prog) 22 3 (.int .i64 0) 8 Try.underlying22 infoI rfl .i64 .i64 T.pts.length (by omega) (by omega) w
  unfold maxLen at hvm hcm
  obtain ⟨tb, htb⟩ : ∃ b, b = w.heap.size := ⟨_, rfl⟩
  have HTB := Lib.hid htb
  rw [← htb] at K1
  have HSV : Hid (∀ W, Below w1.heap.size w1 W → (W.cell? ⟨tb, 0, none⟩ = some (.int .i64 T.tracks) ∧ W.cell? ⟨tb, 1, none⟩ = some (.slice va T.pts.length vc) ∧ W.cell? ⟨tb, 2, none⟩ = some (.int .i64 T.sigs) ∧ W.cell? ⟨tb, 3, none⟩ = some (.slice a T.rts.length c)) ∧ tb < W.heap.size) := fun W hW => by
    have h1 := tb_kept K1.out hW
    exact ⟨⟨cell_row h1 rfl, cell_row h1 rfl, cell_row h1 rfl, cell_row h1 rfl⟩, heap_lt h1⟩
  have HZ1 : Hid (w.heap.size ≤ w1.heap.size) := B1.out.size
  have HZQ : Hid (w1.heap.size = w.heap.size + 1) := by rw [hw1]; exact Array.size_push _
  have HEND : Hid (∀ W rb cb g, Below w1.heap.size w1 W → W.heap[rb]? = some (.cells (madeCells #[Value.int .i64 0, .int .i64 0, .slice none 0 0, .slice none 0 0] (T.rts.length * 4)) 105 (0, 0)) → W.heap[cb]? = some (.cells (madeCells #[.int .i64 0] T.pts.length) 3 (0, 0)) →
    W.heap[g]? = some (.cells #[.int .i64 T.tracks, .slice va T.pts.length vc, .int .i64 T.sigs, .slice a T.rts.length c, .slice (some ⟨rb, 0, none⟩) T.rts.length T.rts.length, .slice (some ⟨cb, 0, none⟩) T.pts.length T.pts.length] 103 (0, 0)) →
    w1.heap.size ≤ rb → w1.heap.size ≤ cb → w1.heap.size ≤ g → g ≠ rb → g ≠ cb → rb ≠ cb → g = w1.heap.size + 2 → W.heap.size = w1.heap.size + 3 → NewRA (.agg #[.int .i64 T.tracks, .slice va T.pts.length vc, .int .i64 T.sigs, .slice a T.rts.length c]) T w (.returned (.pointer (some ⟨g, 0, none⟩))) W.drew) := fun W rb cb g hB h1 h2 h3 e1 e2 e3 e4 e5 e6 e7 e8 => by
    have hz := HZ1.out
    have hq := HZQ.out
    have hBW : Below w.heap.size w W := B1.out.trans (hB.mono B1.out.size)
    have R := new_end27 w W T _ _ rb cb g hBW h1 h2 h3 HP.out HR.out (by omega) (by omega) (by omega) e4 e5 e6
    exact ⟨_, _, _, rfl, R.below ⟨rfl, rfl, rfl, Nat.le_refl _, fun _ _ => rfl⟩, rfl, rfl, rfl, rfl, hBW.drew, by show g = _; omega, by show W.heap.size = _; omega⟩
  clear hw1 htb hP hr K1 HZ1
  go_enter Try.func35, Try.ntmps35
  go_upto_region 1 with fail
  rw [← HW1.out, ← HTB.out]
  clear HW1
  have BD : Hid (Below w1.heap.size w1 w1.drew) := (Below.refl _ _).drew
  go_region_held3 (fun W => (W.cell? ⟨tb, 0, none⟩ = some (.int .i64 T.tracks) ∧ W.cell? ⟨tb, 1, none⟩ = some (.slice va T.pts.length vc) ∧ W.cell? ⟨tb, 2, none⟩ = some (.int .i64 T.sigs) ∧ W.cell? ⟨tb, 3, none⟩ = some (.slice a T.rts.length c)) ∧ tb < W.heap.size)
    (first | exact HSV.out _ (Below.alloc' (Below.alloc' (Below.alloc' BD.out _) _) _) | exact HSV.out _ (Below.alloc' (Below.alloc' BD.out _) _) | exact HSV.out _ (Below.alloc' BD.out _) | exact HSV.out _ BD.out)
    (fail)
  · rename_i hheld
    clear hheld hmk1 hmk2
    obtain ⟨W, hW, k0, k1, k2, hz, hb⟩ := alloc3 w1 (madeCells #[Value.int .i64 0, .int .i64 0, .slice none 0 0, .slice none 0 0] (T.rts.length * 4)) (madeCells #[.int .i64 0] T.pts.length) #[.int .i64 T.tracks, .slice va T.pts.length vc, .int .i64 T.sigs, .slice a T.rts.length c, .slice (some ⟨w1.heap.size, 0, none⟩) T.rts.length T.rts.length, .slice (some ⟨w1.heap.size + 1, 0, none⟩) T.pts.length T.pts.length] 105 3 103
    have HF := Lib.hid (HEND.out W w1.heap.size (w1.heap.size + 1) (w1.heap.size + 1 + 1) hb k0 k1 k2 (by omega) (by omega) (by omega) (by omega) (by omega) (by omega) (by omega) (by omega))
    rw [← hW]
    clear hW k0 k1 k2 hz hb
    go_wp2_with fail
    go_ret
    exact HF.out
  · rename_i hheld
    clear hheld hmk1 hmk2
    obtain ⟨W, hW, k0, k1, k2, hz, hb⟩ := alloc3 w1 (madeCells #[.int .i64 0] T.pts.length) (madeCells #[Value.int .i64 0, .int .i64 0, .slice none 0 0, .slice none 0 0] (T.rts.length * 4)) #[.int .i64 T.tracks, .slice va T.pts.length vc, .int .i64 T.sigs, .slice a T.rts.length c, .slice (some ⟨w1.heap.size + 1, 0, none⟩) T.rts.length T.rts.length, .slice (some ⟨w1.heap.size, 0, none⟩) T.pts.length T.pts.length] 3 105 103
    have HF := Lib.hid (HEND.out W (w1.heap.size + 1) w1.heap.size (w1.heap.size + 1 + 1) hb k1 k0 k2 (by omega) (by omega) (by omega) (by omega) (by omega) (by omega) (by omega) (by omega))
    rw [← hW]
    clear hW k0 k1 k2 hz hb
    go_wp2_with fail
    go_ret
    exact HF.out
theorem infoSl9 : (Try.prog.info? 22).map (fun i => (i.zero, i.size, i.bytes)) = some (some (.slice none 0 0), 1, 24) := by kernel_rfl
theorem infoB9 : (Try.prog.info? 4).map (fun i => (i.zero, i.size, i.bytes)) = some (some (.bool false), 1, 1) := by kernel_rfl
/-- A block made at once. -/
def MadeAt (V : World) (v : Value) (n : Nat) (z : Value) (t : TypeId) : Prop := ∃ b, v = .slice (some ⟨b, 0, none⟩) n n ∧ V.heap[b]? = some (.cells (madeCells #[z] n) t (0, 0))
theorem MadeAt.below {V V' : World} {v : Value} {n : Nat} {z : Value} {t : TypeId} (h : MadeAt V v n z t) (hb : Below V.heap.size V V') : MadeAt V' v n z t := by
  obtain ⟨b, h1, h2⟩ := h
  exact ⟨b, h1, tb_kept h2 hb⟩
theorem made_at9 (V : World) (z : Value) (t : TypeId) (n : Nat) : MadeAt (V.alloc (.cells (madeCells #[z] n) t)) (.slice (some ⟨V.heap.size, 0, none⟩) n n) n z t := ⟨_, rfl, heap_alloc_new _ _⟩
def ynCs (T : Tab) (vp vr : Value) (d : Int) (x2 x7 x11 x15 x19 x23 : Value) : Array Value := #[.int .i64 T.tracks, vp, .int .i64 T.sigs, vr, x2, .int .i64 d, .int .u32 0, .int .u32 0, .int .u32 0, .int .u32 0, x7, x11, x15, x19, x23]
/-- The automaton that the call gives. -/
def NewA (V : World) (v : Value) (T : Tab) (vp vr : Value) (N : Nat) : Prop := ∃ (r : Rf) (ub lb : Nat → Nat), v = .pointer (some ⟨r.g, 0, none⟩) ∧ R27At V r as0 ub lb ∧ r.T = T ∧ N ≤ r.B ∧ r.vp = vp ∧ r.vr = vr ∧ r.g ≤ r.B + 3 ∧ r.rb ≤ r.g ∧ r.cb ≤ r.g
theorem NewA.below {V V' : World} {v : Value} {T : Tab} {vp vr : Value} {N : Nat} (h : NewA V v T vp vr N) (hb : Below V.heap.size V V') : NewA V' v T vp vr N := by
  obtain ⟨r, ub, lb, h1, h2, h3⟩ := h
  exact ⟨r, ub, lb, h1, h2.below hb, h3⟩
/-- What each value of the literal is good for. -/
def ynG (T : Tab) (vp vr : Value) (d : Int) (tb N : Nat) : Nat → (Nat → Value) → World → Prop
  | 0, vs, _ => vs 0 = (Value.agg #[.int .i64 T.tracks, vp, .int .i64 T.sigs, vr])
  | 1, vs, _ => vs 1 = (Value.agg #[.int .i64 T.tracks, vp, .int .i64 T.sigs, vr])
  | 2, vs, V => NewA V (vs 2) T vp vr N
  | 3, vs, _ => vs 3 = .int .i64 d
  | 4, vs, _ => vs 4 = .pointer (some ⟨tb, 3, none⟩)
  | 5, vs, _ => vs 5 = vr
  | 6, vs, _ => vs 6 = .int .i64 (T.rts.length : Int)
  | 7, vs, V => MadeAt V (vs 7) T.rts.length (.slice none 0 0) 22
  | 8, vs, _ => vs 8 = .pointer (some ⟨tb, 3, none⟩)
  | 9, vs, _ => vs 9 = vr
  | 10, vs, _ => vs 10 = .int .i64 (T.rts.length : Int)
  | 11, vs, V => MadeAt V (vs 11) T.rts.length (.bool false) 4
  | 12, vs, _ => vs 12 = .pointer (some ⟨tb, 1, none⟩)
  | 13, vs, _ => vs 13 = vp
  | 14, vs, _ => vs 14 = .int .i64 (T.pts.length : Int)
  | 15, vs, V => MadeAt V (vs 15) T.pts.length (.int .i64 0) 3
  | 16, vs, _ => vs 16 = .pointer (some ⟨tb, 1, none⟩)
  | 17, vs, _ => vs 17 = vp
  | 18, vs, _ => vs 18 = .int .i64 (T.pts.length : Int)
  | 19, vs, V => MadeAt V (vs 19) T.pts.length (.int .i64 0) 3
  | 20, vs, _ => vs 20 = .pointer (some ⟨tb, 1, none⟩)
  | 21, vs, _ => vs 21 = vp
  | 22, vs, _ => vs 22 = .int .i64 (T.pts.length : Int)
  | 23, vs, V => MadeAt V (vs 23) T.pts.length (.bool false) 4
  | 24, vs, _ => vs 24 = .agg (ynCs T vp vr d (vs 2) (vs 7) (vs 11) (vs 15) (vs 19) (vs 23))
  | 25, vs, V => ∃ g cs, vs 25 = .pointer (some ⟨g, 0, none⟩) ∧ vs 24 = .agg cs ∧ V.heap[g]? = some (.cells cs 98 (0, 0))
  | 26, vs, _ => vs 26 = vs 25
  | _, _, _ => True
def ynMk (i : Nat) : Bool := i == 2 || i == 7 || i == 11 || i == 15 || i == 19 || i == 23 || i == 25
def ynOwn (i : Nat) (v : Value) (b : Nat) : Prop :=
  match v with
  | .slice (some a) _ _ => b = a.block
  | .pointer (some a) => if i = 2 then b ≤ a.block ∧ a.block ≤ b + 3 else b = a.block
  | _ => False
theorem ynG_below (T : Tab) (vp vr : Value) (d : Int) (tb N : Nat) (i : Nat) (vs : Nat → Value) (V V' : World) (hb : Below V.heap.size V V') (h : ynG T vp vr d tb N i vs V) : ynG T vp vr d tb N i vs V' := by
  match i, h with
  | 0, h => exact h
  | 1, h => exact h
  | 2, h => exact h.below hb
  | 3, h => exact h
  | 4, h => exact h
  | 5, h => exact h
  | 6, h => exact h
  | 7, h => exact h.below hb
  | 8, h => exact h
  | 9, h => exact h
  | 10, h => exact h
  | 11, h => exact h.below hb
  | 12, h => exact h
  | 13, h => exact h
  | 14, h => exact h
  | 15, h => exact h.below hb
  | 16, h => exact h
  | 17, h => exact h
  | 18, h => exact h
  | 19, h => exact h.below hb
  | 20, h => exact h
  | 21, h => exact h
  | 22, h => exact h
  | 23, h => exact h.below hb
  | 24, h => exact h
  | 25, h => obtain ⟨g, cs, h1, h2, h3⟩ := h; exact ⟨g, cs, h1, h2, tb_kept h3 hb⟩
  | 26, h => exact h
  | n + 27, h => exact True.intro
theorem R27At.rebase {V w : World} {r : Rf} {ub lb : Nat → Nat} (h : R27At V r as0 ub lb) (hp : IntsAt w r.vp r.T.pts) (hr : RtsAt w r.vr r.T.rts) (hb : Below w.heap.size w V) (hB : w.heap.size ≤ r.B) : R27At V { r with w0 := w, B := w.heap.size } as0 ub lb :=
  ⟨h.obj, hp, hr, hb, h.rs, h.cs, fun n hn h3 => absurd (show (0 : Nat) = 3 from h3) (by decide), h.nf, Nat.le_refl _, Nat.le_trans hB h.gB, Nat.le_trans hB h.rB, Nat.le_trans hB h.cB, h.gr, h.gc, h.rc, fun n hn h3 => absurd (show (0 : Nat) = 3 from h3) (by decide), fun n m hn hm hne h3 => absurd (show (0 : Nat) = 3 from h3) (by decide)⟩
theorem made_cell {n i : Nat} {z : Value} (hi : i < n) : (madeCells #[z] n)[i]? = some z := by
  rw [← Array.getElem?_toList, toList_madeCells_one]
  simp [hi]
def RNewP (v : Value) (T : Tab) (d : Int) (w : World) (e : Ending) (w' : World) : Prop := ∃ (u : Rd) (ub lb bs : Nat → Nat), e = .returned (.pointer (some ⟨u.g, 0, none⟩)) ∧ RdAt w' u ys0 ub lb bs ∧ u.r.T = T ∧ u.B = w.heap.size ∧ u.r.w0 = w ∧ (u.d : Int) = d ∧ Below w.heap.size w w' ∧ v = .agg #[.int .i64 T.tracks, u.r.vp, .int .i64 T.sigs, u.r.vr]
set_option maxRecDepth 100000 in
set_option maxHeartbeats 16000000 in
theorem ryard_any (v : Value) (T : Tab) (d : Int) (w : World) (hT : TabAt w v T) (hn : T.rts.length ≤ 1000) (hm : T.pts.length ≤ 1000) (hd : 0 ≤ d ∧ d ≤ 100) :
    Calls Try.prog 16 #[v, .int .i64 d] w (RNewP v T d w) := by
  have HTA := Lib.hid hT
  obtain ⟨⟨vp, vr, rfl, hP, hr⟩, _, _⟩ := hT
  obtain ⟨ra, rc, C0, hvr, hrl, hrc, _⟩ := hr.at_
  obtain ⟨⟨pa, pc, hvp, hpl, hpm, _⟩, _⟩ := id hP
  have HR := Lib.hid hr; have HP := Lib.hid hP
  have HVP := Lib.hid hvp; have HVR := Lib.hid hvr
  unfold maxLen at hrc hpm
  clear hvp hvr
  obtain ⟨w1, hw1⟩ : ∃ w1, w1 = w.alloc (.cells #[.int .i64 T.tracks, vp, .int .i64 T.sigs, vr] 25) := ⟨_, rfl⟩
  have B1 : Hid (Below w.heap.size w w1) := by rw [hw1]; exact tb_alloc_below _ _
  have K1 : Hid (w1.heap[w.heap.size]? = some (.cells #[.int .i64 T.tracks, vp, .int .i64 T.sigs, vr] 25 (0, 0))) := by rw [hw1]; exact heap_alloc_new _ _
  have HW1 := Lib.hid hw1
  have HT1 := Lib.hid (HTA.out.below B1.out)
  obtain ⟨tb, htb⟩ : ∃ b, b = w.heap.size := ⟨_, rfl⟩
  have HTB := Lib.hid htb
  rw [← htb] at K1
  clear hw1 htb hP hr
  go_enter Try.func16, Try.ntmps16
  go_upto_region 1 with fail
  rw [← HW1.out, ← HTB.out]
  clear HW1
  obtain ⟨m, hmm⟩ : ∃ m : Nat, 4 ≤ m := ⟨4, Nat.le_refl _⟩
  refine (wpIn_wide (n := m)).1 ?_
  refine wpIn_region_reg ynMk ynOwn w1.heap.size (fun V => Below w1.heap.size w1 V) (ynG T vp vr d tb w1.heap.size) (by kernel_rfl) (by kernel_rfl) (Nat.le_refl _) (Below.refl _ _).drew ?_ (ynG_below _ _ _ _ _ _) (fun V V' hb hc => hc.trans (hb.mono hc.size)) ?_ ?_
  · intro i o ho vs vs' V e1 e2 hg
    match i, ho, e1, hg with
    | 0, _, e1, hg => exact e1.symm.trans hg
    | 1, _, e1, hg => exact e1.symm.trans hg
    | 2, _, e1, hg => exact (show NewA V (vs' 2) T vp vr _ by rw [← e1]; exact hg)
    | 3, _, e1, hg => exact e1.symm.trans hg
    | 4, _, e1, hg => exact e1.symm.trans hg
    | 5, _, e1, hg => exact e1.symm.trans hg
    | 6, _, e1, hg => exact e1.symm.trans hg
    | 7, _, e1, hg => exact (show MadeAt V (vs' 7) _ _ _ by rw [← e1]; exact hg)
    | 8, _, e1, hg => exact e1.symm.trans hg
    | 9, _, e1, hg => exact e1.symm.trans hg
    | 10, _, e1, hg => exact e1.symm.trans hg
    | 11, _, e1, hg => exact (show MadeAt V (vs' 11) _ _ _ by rw [← e1]; exact hg)
    | 12, _, e1, hg => exact e1.symm.trans hg
    | 13, _, e1, hg => exact e1.symm.trans hg
    | 14, _, e1, hg => exact e1.symm.trans hg
    | 15, _, e1, hg => exact (show MadeAt V (vs' 15) _ _ _ by rw [← e1]; exact hg)
    | 16, _, e1, hg => exact e1.symm.trans hg
    | 17, _, e1, hg => exact e1.symm.trans hg
    | 18, _, e1, hg => exact e1.symm.trans hg
    | 19, _, e1, hg => exact (show MadeAt V (vs' 19) _ _ _ by rw [← e1]; exact hg)
    | 20, _, e1, hg => exact e1.symm.trans hg
    | 21, _, e1, hg => exact e1.symm.trans hg
    | 22, _, e1, hg => exact e1.symm.trans hg
    | 23, _, e1, hg => exact (show MadeAt V (vs' 23) _ _ _ by rw [← e1]; exact hg)
    | 24, ho, e1, hg =>
      obtain rfl := Option.some.inj ho
      have a2 := e2 { on := 2, ground := .data } (by simp)
      have a7 := e2 { on := 7, ground := .data } (by simp)
      have a11 := e2 { on := 11, ground := .data } (by simp)
      have a15 := e2 { on := 15, ground := .data } (by simp)
      have a19 := e2 { on := 19, ground := .data } (by simp)
      have a23 := e2 { on := 23, ground := .data } (by simp)
      show vs' 24 = .agg (ynCs _ _ _ _ (vs' 2) (vs' 7) (vs' 11) (vs' 15) (vs' 19) (vs' 23))
      rw [← e1, ← a2, ← a7, ← a11, ← a15, ← a19, ← a23]; exact hg
    | 25, ho, e1, hg =>
      obtain rfl := Option.some.inj ho
      have a24 := e2 { on := 24, ground := .data } (by simp)
      obtain ⟨g, cs, h1, h2, h3⟩ := hg
      exact ⟨g, cs, e1.symm.trans h1, a24.symm.trans h2, h3⟩
    | 26, ho, e1, hg =>
      obtain rfl := Option.some.inj ho
      have a25 := e2 { on := 25, ground := .data } (by simp)
      show vs' 26 = vs' 25
      rw [← e1, ← a25]; exact hg
    | n + 27, ho, _, _ => cases ho
  · intro i o ho A vs V hC hN hg hev hnd
    have s2 : A.tmps.getD 2 undef = .pointer (some ⟨tb, 0, none⟩) := (hnd 2 (of_decide_eq_true (by kernel_rfl))).trans rfl
    have s1 : A.tmps.getD 1 undef = .int .i64 d := (hnd 1 (of_decide_eq_true (by kernel_rfl))).trans rfl
    have hVB : V.heap[tb]? = _ := (hC.block _ (heap_lt K1.out)).trans K1.out
    have c0 : V.cell? ⟨tb, 0, none⟩ = some (.int .i64 T.tracks) := cell_row hVB rfl
    have c1 : V.cell? ⟨tb, 1, none⟩ = some vp := cell_row hVB rfl
    have c2 : V.cell? ⟨tb, 2, none⟩ = some (.int .i64 T.sigs) := cell_row hVB rfl
    have c3 : V.cell? ⟨tb, 3, none⟩ = some vr := cell_row hVB rfl
    have HCB := Lib.hid hC
    have lt := heap_lt hVB
    clear hVB hC hnd
    match i, ho with
    | 0, ho =>
      obtain rfl := Option.some.inj ho
      clear hg hev
      unfold Oper.wpIn
      go_simp
      exact StepPost.still _ rfl rfl
    | 1, ho =>
      obtain rfl := Option.some.inj ho
      clear hg hev
      unfold Oper.wpIn
      go_simp
      exact StepPost.still _ rfl rfl
    | 2, ho =>
      obtain rfl := Option.some.inj ho
      have x1 := hev { on := 1, ground := .data } (by simp) _ rfl _ rfl
      have g1 := hg { on := 1, ground := .data } (by simp)
      have y1 : A.tmps.getD 8 undef = _ := x1.trans g1
      clear x1 g1
      clear hg hev
      unfold Oper.wpIn
      go_simp
      refine ⟨trivial, fun h => (by cases h), (callsIn_wide.2 (rnew_at _ T V (HT1.out.below HCB.out) hn hm)).mono ?_⟩
      rintro e w3 ⟨r, ub, lb, rfl, hr1, hr2, hr3, hr4, hr5, hr6, hr7, hr8⟩
      have e1 : r.vp = vp := by injection hr5 with h; injection h with h; simp at h; exact h.1.symm
      have e2 : r.vr = vr := by injection hr5 with h; injection h with h; simp at h; exact h.2.symm
      have z1 := hr1.rs.lt; have z2 := hr1.cs.lt
      exact ⟨_, rfl, ⟨r, ub, lb, rfl, hr1, hr2, by rw [hr4]; exact hN, e1, e2, by omega, by omega, by omega⟩, hr6, fun _ b hb => by
        have hb' : b ≤ r.g ∧ r.g ≤ b + 3 := hb
        omega⟩
    | 3, ho =>
      obtain rfl := Option.some.inj ho
      clear hg hev
      unfold Oper.wpIn
      go_simp
      exact StepPost.still _ rfl rfl
    | 4, ho =>
      obtain rfl := Option.some.inj ho
      clear hg hev
      unfold Oper.wpIn
      go_simp
      exact StepPost.still _ rfl rfl
    | 5, ho =>
      obtain rfl := Option.some.inj ho
      have x4 := hev { on := 4, ground := .data } (by simp) _ rfl _ rfl
      have g4 := hg { on := 4, ground := .data } (by simp)
      have y4 : A.tmps.getD 11 undef = _ := x4.trans g4
      clear x4 g4
      clear hg hev
      unfold Oper.wpIn
      go_simp
      exact StepPost.still _ rfl rfl
    | 6, ho =>
      obtain rfl := Option.some.inj ho
      have x5 := hev { on := 5, ground := .data } (by simp) _ rfl _ rfl
      have g5 := hg { on := 5, ground := .data } (by simp)
      have y5 : A.tmps.getD 12 undef = _ := x5.trans g5
      clear x5 g5
      rw [HVR.out] at y5
      clear hg hev
      unfold Oper.wpIn
      go_simp
      exact StepPost.still _ rfl rfl
    | 7, ho =>
      obtain rfl := Option.some.inj ho
      have x6 := hev { on := 6, ground := .data } (by simp) _ rfl _ rfl
      have g6 := hg { on := 6, ground := .data } (by simp)
      have y6 : A.tmps.getD 13 undef = _ := x6.trans g6
      clear x6 g6
      clear hg hev
      have hmk := fun w => run_make_row' (P := Try.prog) 92 22 (.slice none 0 0) 24 Try.underlying92 infoSl9 rfl .i64 .i64 T.rts.length (by omega) (by omega) w
      unfold Oper.wpIn
      go_simp
      exact ⟨_, rfl, made_at9 V _ _ _, tb_alloc_below _ _, fun _ b hb => by
        have hb' : b = V.heap.size := hb
        rw [hb']; exact ⟨Nat.le_refl _, by simp⟩⟩
    | 8, ho =>
      obtain rfl := Option.some.inj ho
      clear hg hev
      unfold Oper.wpIn
      go_simp
      exact StepPost.still _ rfl rfl
    | 9, ho =>
      obtain rfl := Option.some.inj ho
      have x8 := hev { on := 8, ground := .data } (by simp) _ rfl _ rfl
      have g8 := hg { on := 8, ground := .data } (by simp)
      have y8 : A.tmps.getD 15 undef = _ := x8.trans g8
      clear x8 g8
      clear hg hev
      unfold Oper.wpIn
      go_simp
      exact StepPost.still _ rfl rfl
    | 10, ho =>
      obtain rfl := Option.some.inj ho
      have x9 := hev { on := 9, ground := .data } (by simp) _ rfl _ rfl
      have g9 := hg { on := 9, ground := .data } (by simp)
      have y9 : A.tmps.getD 16 undef = _ := x9.trans g9
      clear x9 g9
      rw [HVR.out] at y9
      clear hg hev
      unfold Oper.wpIn
      go_simp
      exact StepPost.still _ rfl rfl
    | 11, ho =>
      obtain rfl := Option.some.inj ho
      have x10 := hev { on := 10, ground := .data } (by simp) _ rfl _ rfl
      have g10 := hg { on := 10, ground := .data } (by simp)
      have y10 : A.tmps.getD 17 undef = _ := x10.trans g10
      clear x10 g10
      clear hg hev
      have hmk := fun w => run_make_row' (P := Try.prog) 37 4 (.bool false) 1 Try.underlying37 infoB9 rfl .i64 .i64 T.rts.length (by omega) (by omega) w
      unfold Oper.wpIn
      go_simp
      exact ⟨_, rfl, made_at9 V _ _ _, tb_alloc_below _ _, fun _ b hb => by
        have hb' : b = V.heap.size := hb
        rw [hb']; exact ⟨Nat.le_refl _, by simp⟩⟩
    | 12, ho =>
      obtain rfl := Option.some.inj ho
      clear hg hev
      unfold Oper.wpIn
      go_simp
      exact StepPost.still _ rfl rfl
    | 13, ho =>
      obtain rfl := Option.some.inj ho
      have x12 := hev { on := 12, ground := .data } (by simp) _ rfl _ rfl
      have g12 := hg { on := 12, ground := .data } (by simp)
      have y12 : A.tmps.getD 19 undef = _ := x12.trans g12
      clear x12 g12
      clear hg hev
      unfold Oper.wpIn
      go_simp
      exact StepPost.still _ rfl rfl
    | 14, ho =>
      obtain rfl := Option.some.inj ho
      have x13 := hev { on := 13, ground := .data } (by simp) _ rfl _ rfl
      have g13 := hg { on := 13, ground := .data } (by simp)
      have y13 : A.tmps.getD 20 undef = _ := x13.trans g13
      clear x13 g13
      rw [HVP.out] at y13
      clear hg hev
      unfold Oper.wpIn
      go_simp
      exact StepPost.still _ rfl rfl
    | 15, ho =>
      obtain rfl := Option.some.inj ho
      have x14 := hev { on := 14, ground := .data } (by simp) _ rfl _ rfl
      have g14 := hg { on := 14, ground := .data } (by simp)
      have y14 : A.tmps.getD 21 undef = _ := x14.trans g14
      clear x14 g14
      clear hg hev
      have hmk := fun w => run_make_row' (P := Try.prog) 22 3 (.int .i64 0) 8 Try.underlying22 infoI rfl .i64 .i64 T.pts.length (by omega) (by omega) w
      unfold Oper.wpIn
      go_simp
      exact ⟨_, rfl, made_at9 V _ _ _, tb_alloc_below _ _, fun _ b hb => by
        have hb' : b = V.heap.size := hb
        rw [hb']; exact ⟨Nat.le_refl _, by simp⟩⟩
    | 16, ho =>
      obtain rfl := Option.some.inj ho
      clear hg hev
      unfold Oper.wpIn
      go_simp
      exact StepPost.still _ rfl rfl
    | 17, ho =>
      obtain rfl := Option.some.inj ho
      have x16 := hev { on := 16, ground := .data } (by simp) _ rfl _ rfl
      have g16 := hg { on := 16, ground := .data } (by simp)
      have y16 : A.tmps.getD 23 undef = _ := x16.trans g16
      clear x16 g16
      clear hg hev
      unfold Oper.wpIn
      go_simp
      exact StepPost.still _ rfl rfl
    | 18, ho =>
      obtain rfl := Option.some.inj ho
      have x17 := hev { on := 17, ground := .data } (by simp) _ rfl _ rfl
      have g17 := hg { on := 17, ground := .data } (by simp)
      have y17 : A.tmps.getD 24 undef = _ := x17.trans g17
      clear x17 g17
      rw [HVP.out] at y17
      clear hg hev
      unfold Oper.wpIn
      go_simp
      exact StepPost.still _ rfl rfl
    | 19, ho =>
      obtain rfl := Option.some.inj ho
      have x18 := hev { on := 18, ground := .data } (by simp) _ rfl _ rfl
      have g18 := hg { on := 18, ground := .data } (by simp)
      have y18 : A.tmps.getD 25 undef = _ := x18.trans g18
      clear x18 g18
      clear hg hev
      have hmk := fun w => run_make_row' (P := Try.prog) 22 3 (.int .i64 0) 8 Try.underlying22 infoI rfl .i64 .i64 T.pts.length (by omega) (by omega) w
      unfold Oper.wpIn
      go_simp
      exact ⟨_, rfl, made_at9 V _ _ _, tb_alloc_below _ _, fun _ b hb => by
        have hb' : b = V.heap.size := hb
        rw [hb']; exact ⟨Nat.le_refl _, by simp⟩⟩
    | 20, ho =>
      obtain rfl := Option.some.inj ho
      clear hg hev
      unfold Oper.wpIn
      go_simp
      exact StepPost.still _ rfl rfl
    | 21, ho =>
      obtain rfl := Option.some.inj ho
      have x20 := hev { on := 20, ground := .data } (by simp) _ rfl _ rfl
      have g20 := hg { on := 20, ground := .data } (by simp)
      have y20 : A.tmps.getD 27 undef = _ := x20.trans g20
      clear x20 g20
      clear hg hev
      unfold Oper.wpIn
      go_simp
      exact StepPost.still _ rfl rfl
    | 22, ho =>
      obtain rfl := Option.some.inj ho
      have x21 := hev { on := 21, ground := .data } (by simp) _ rfl _ rfl
      have g21 := hg { on := 21, ground := .data } (by simp)
      have y21 : A.tmps.getD 28 undef = _ := x21.trans g21
      clear x21 g21
      rw [HVP.out] at y21
      clear hg hev
      unfold Oper.wpIn
      go_simp
      exact StepPost.still _ rfl rfl
    | 23, ho =>
      obtain rfl := Option.some.inj ho
      have x22 := hev { on := 22, ground := .data } (by simp) _ rfl _ rfl
      have g22 := hg { on := 22, ground := .data } (by simp)
      have y22 : A.tmps.getD 29 undef = _ := x22.trans g22
      clear x22 g22
      clear hg hev
      have hmk := fun w => run_make_row' (P := Try.prog) 37 4 (.bool false) 1 Try.underlying37 infoB9 rfl .i64 .i64 T.pts.length (by omega) (by omega) w
      unfold Oper.wpIn
      go_simp
      exact ⟨_, rfl, made_at9 V _ _ _, tb_alloc_below _ _, fun _ b hb => by
        have hb' : b = V.heap.size := hb
        rw [hb']; exact ⟨Nat.le_refl _, by simp⟩⟩
    | 24, ho =>
      obtain rfl := Option.some.inj ho
      have x0 := hev { on := 0, ground := .data } (by simp) _ rfl _ rfl
      have g0 := hg { on := 0, ground := .data } (by simp)
      have y0 : A.tmps.getD 7 undef = _ := x0.trans g0
      have x3 := hev { on := 3, ground := .data } (by simp) _ rfl _ rfl
      have g3 := hg { on := 3, ground := .data } (by simp)
      have y3 : A.tmps.getD 10 undef = _ := x3.trans g3
      clear x0 g0 x3 g3
      have x2 := hev { on := 2, ground := .data } (by simp) _ rfl _ rfl
      have g2 := hg { on := 2, ground := .data } (by simp)
      have x7 := hev { on := 7, ground := .data } (by simp) _ rfl _ rfl
      have g7 := hg { on := 7, ground := .data } (by simp)
      have x11 := hev { on := 11, ground := .data } (by simp) _ rfl _ rfl
      have g11 := hg { on := 11, ground := .data } (by simp)
      have x15 := hev { on := 15, ground := .data } (by simp) _ rfl _ rfl
      have g15 := hg { on := 15, ground := .data } (by simp)
      have x19 := hev { on := 19, ground := .data } (by simp) _ rfl _ rfl
      have g19 := hg { on := 19, ground := .data } (by simp)
      have x23 := hev { on := 23, ground := .data } (by simp) _ rfl _ rfl
      have g23 := hg { on := 23, ground := .data } (by simp)
      obtain ⟨r, _, _, q2, _⟩ := g2
      obtain ⟨b7, q7, _⟩ := g7
      obtain ⟨b11, q11, _⟩ := g11
      obtain ⟨b15, q15, _⟩ := g15
      obtain ⟨b19, q19, _⟩ := g19
      obtain ⟨b23, q23, _⟩ := g23
      have Q2 := Lib.hid q2
      have y2 : A.tmps.getD 9 undef = _ := x2.trans q2
      have Q7 := Lib.hid q7
      have y7 : A.tmps.getD 14 undef = _ := x7.trans q7
      have Q11 := Lib.hid q11
      have y11 : A.tmps.getD 18 undef = _ := x11.trans q11
      have Q15 := Lib.hid q15
      have y15 : A.tmps.getD 22 undef = _ := x15.trans q15
      have Q19 := Lib.hid q19
      have y19 : A.tmps.getD 26 undef = _ := x19.trans q19
      have Q23 := Lib.hid q23
      have y23 : A.tmps.getD 30 undef = _ := x23.trans q23
      clear x2 x7 x11 x15 x19 x23 q2 q7 q11 q15 q19 q23
      clear hg hev
      have z0 : A.tmps[7]?.getD undef = _ := (Array.getD_eq_getD_getElem? ..).symm.trans y0
      have z3 : A.tmps[10]?.getD undef = _ := (Array.getD_eq_getD_getElem? ..).symm.trans y3
      have z2 : A.tmps[9]?.getD undef = _ := (Array.getD_eq_getD_getElem? ..).symm.trans y2
      have z7 : A.tmps[14]?.getD undef = _ := (Array.getD_eq_getD_getElem? ..).symm.trans y7
      have z11 : A.tmps[18]?.getD undef = _ := (Array.getD_eq_getD_getElem? ..).symm.trans y11
      have z15 : A.tmps[22]?.getD undef = _ := (Array.getD_eq_getD_getElem? ..).symm.trans y15
      have z19 : A.tmps[26]?.getD undef = _ := (Array.getD_eq_getD_getElem? ..).symm.trans y19
      have z23 : A.tmps[30]?.getD undef = _ := (Array.getD_eq_getD_getElem? ..).symm.trans y23
      unfold Oper.wpIn
      go_simp
      refine StepPost.still _ ?_ rfl
      show _ = Value.agg (ynCs T vp vr d (vs 2) (vs 7) (vs 11) (vs 15) (vs 19) (vs 23))
      rw [Q2.out, Q7.out, Q11.out, Q15.out, Q19.out, Q23.out]; rfl
    | 25, ho =>
      obtain rfl := Option.some.inj ho
      have x24 := hev { on := 24, ground := .data } (by simp) _ rfl _ rfl
      have g24 := hg { on := 24, ground := .data } (by simp)
      have G24 := Lib.hid g24
      have y : A.tmps.getD 31 undef = _ := x24.trans g24
      unfold ynCs at y
      clear x24 g24
      clear hg hev
      unfold Oper.wpIn
      go_simp
      exact ⟨_, rfl, ⟨V.heap.size, _, rfl, G24.out, heap_alloc_new _ _⟩, tb_alloc_below _ _, fun _ b hb => by
        have hb' : b = V.heap.size := hb
        rw [hb']; exact ⟨Nat.le_refl _, by simp⟩⟩
    | 26, ho =>
      obtain rfl := Option.some.inj ho
      have x25 := hev { on := 25, ground := .data } (by simp) _ rfl _ rfl
      have y : A.tmps.getD 32 undef = vs 25 := x25
      clear x25
      clear hg hev
      unfold Oper.wpIn
      go_simp
      exact StepPost.still _ rfl rfl
    | n + 27, ho => cases ho
  · intro vs V hR
    have g2 : NewA V (vs 2) T vp vr w1.heap.size := hR.g 2 (by decide) (by decide)
    have g7 : MadeAt V (vs 7) T.rts.length (.slice none 0 0) 22 := hR.g 7 (by decide) (by decide)
    have g11 : MadeAt V (vs 11) T.rts.length (.bool false) 4 := hR.g 11 (by decide) (by decide)
    have g15 : MadeAt V (vs 15) T.pts.length (.int .i64 0) 3 := hR.g 15 (by decide) (by decide)
    have g19 : MadeAt V (vs 19) T.pts.length (.int .i64 0) 3 := hR.g 19 (by decide) (by decide)
    have g23 : MadeAt V (vs 23) T.pts.length (.bool false) 4 := hR.g 23 (by decide) (by decide)
    have g24 := hR.g 24 (by decide) (by decide)
    have g25 := hR.g 25 (by decide) (by decide)
    have g26 := hR.g 26 (by decide) (by decide)
    obtain ⟨r, ub, lb, q2, hA, rfl, hB, hv1, hv2, hg3, hgr, hgc⟩ := g2
    obtain ⟨b7, q7, k7⟩ := g7
    obtain ⟨b11, q11, k11⟩ := g11
    obtain ⟨b15, q15, k15⟩ := g15
    obtain ⟨b19, q19, k19⟩ := g19
    obtain ⟨b23, q23, k23⟩ := g23
    obtain ⟨g, cs, q25, p2, p3⟩ := g25
    have hcs : cs = ynCs r.T vp vr d (vs 2) (vs 7) (vs 11) (vs 15) (vs 19) (vs 23) := by
      have h1 : vs 24 = .agg _ := g24
      rw [h1] at p2; cases p2; rfl
    subst hcs
    rw [q2, q7, q11, q15, q19, q23] at p3
    have o7 : ynOwn 7 (vs 7) b7 := by rw [q7]; rfl
    have o11 : ynOwn 11 (vs 11) b11 := by rw [q11]; rfl
    have o15 : ynOwn 15 (vs 15) b15 := by rw [q15]; rfl
    have o19 : ynOwn 19 (vs 19) b19 := by rw [q19]; rfl
    have o23 : ynOwn 23 (vs 23) b23 := by rw [q23]; rfl
    have o25 : ynOwn 25 (vs 25) g := by rw [q25]; rfl
    have o2 : ∀ b, b ≤ r.g → r.g ≤ b + 3 → ynOwn 2 (vs 2) b := fun b h1 h2 => by rw [q2]; exact ⟨h1, h2⟩
    have n2 : ∀ j b, j ≠ 2 → ynMk j = true → decide (j < 27) = true → ynOwn j (vs j) b → b ≤ r.g → r.g ≤ b + 3 → False := fun j b h1 h2 h3 h4 h5 h6 => hR.d j 2 h1 h2 (by decide) h3 (by decide) b h4 (o2 b h5 h6)
    have ne : ∀ i j bi bj, i ≠ j → ynMk i = true → ynMk j = true → decide (i < 27) = true → decide (j < 27) = true → ynOwn i (vs i) bi → ynOwn j (vs j) bj → bi ≠ bj := fun i j bi bj h1 h2 h3 h4 h5 h6 h7 e => hR.d i j h1 h2 h3 h4 h5 bi h6 (by rw [e]; exact h7)
    have l7 := (hR.s 7 (by decide) (by decide) b7 o7).1
    have l11 := (hR.s 11 (by decide) (by decide) b11 o11).1
    have l15 := (hR.s 15 (by decide) (by decide) b15 o15).1
    have l19 := (hR.s 19 (by decide) (by decide) b19 o19).1
    have l23 := (hR.s 23 (by decide) (by decide) b23 o23).1
    have l25 := (hR.s 25 (by decide) (by decide) g o25).1
    have z1 := B1.out.size
    have hdn : ((d.toNat : Nat) : Int) = d := by omega
    have hBW : Below w.heap.size w V := B1.out.trans (hR.c.mono B1.out.size)
    have hA2 := hA.rebase (w := w) (by rw [hv1]; exact HP.out) (by rw [hv2]; exact HR.out) hBW (by omega)
    have hAB := hA.rB; have hAC := hA.cB; have hAG := hA.gB
    have F : RdAt V { B := w.heap.size, g := g, ob := b7, mb := b11, tb := b15, lb := b19, bb := b23, d := d.toNat, r := { r with w0 := w, B := w.heap.size } } ⟨as0, od0, fun _ => tn0, newP 0⟩ ub lb (fun _ => 0) := by
      refine ⟨fun L hL => ?_, ⟨_, k7, by rw [size_madeCells]; exact Nat.le_refl _, fun i hi => made_cell hi⟩, fun n hn hi => absurd (show (false : Bool) = true from hi) (by decide), ⟨_, k11, by rw [size_madeCells]; exact Nat.le_refl _, fun i hi => made_cell hi⟩, ⟨_, k15, by rw [size_madeCells]; exact Nat.le_refl _, fun i hi => made_cell hi⟩, ⟨_, k19, by rw [size_madeCells]; exact Nat.le_refl _, fun i hi => made_cell hi⟩, ⟨_, k23, by rw [size_madeCells]; exact Nat.le_refl _, fun i hi => made_cell hi⟩, hA2, ⟨Nat.le_refl _, Nat.le_refl _, fun b hb => ?_, ne 25 7 _ _ (by decide) (by decide) (by decide) (by decide) (by decide) o25 o7, ne 25 11 _ _ (by decide) (by decide) (by decide) (by decide) (by decide) o25 o11, ne 25 15 _ _ (by decide) (by decide) (by decide) (by decide) (by decide) o25 o15, ne 25 19 _ _ (by decide) (by decide) (by decide) (by decide) (by decide) o25 o19, ne 25 23 _ _ (by decide) (by decide) (by decide) (by decide) (by decide) o25 o23, ne 7 11 _ _ (by decide) (by decide) (by decide) (by decide) (by decide) o7 o11, ne 7 15 _ _ (by decide) (by decide) (by decide) (by decide) (by decide) o7 o15, ne 7 19 _ _ (by decide) (by decide) (by decide) (by decide) (by decide) o7 o19, ne 7 23 _ _ (by decide) (by decide) (by decide) (by decide) (by decide) o7 o23, ne 11 15 _ _ (by decide) (by decide) (by decide) (by decide) (by decide) o11 o15, ne 11 19 _ _ (by decide) (by decide) (by decide) (by decide) (by decide) o11 o19, ne 11 23 _ _ (by decide) (by decide) (by decide) (by decide) (by decide) o11 o23, ne 15 19 _ _ (by decide) (by decide) (by decide) (by decide) (by decide) o15 o19, ne 15 23 _ _ (by decide) (by decide) (by decide) (by decide) (by decide) o15 o23, ne 19 23 _ _ (by decide) (by decide) (by decide) (by decide) (by decide) o19 o23⟩, fun b hb hO => ?_⟩
      · subst hL
        rw [p3]
        show some (Obj.cells (ynCs r.T vp vr d _ _ _ _ _ _) _ _) = some (Obj.cells #[_, r.vp, _, r.vr, _, .int .i64 ((d.toNat : Nat) : Int), _, _, _, _, _, _, _, _, _] _ _)
        rw [hdn, hv1, hv2]; rfl
      · rcases hb with e | e | e | e | e | e <;> rw [e]
        · exact ⟨by show w.heap.size ≤ g; omega, fun e => n2 25 g (by decide) (by decide) (by decide) o25 (by show g ≤ r.g; rw [show g = r.g from e]; exact Nat.le_refl _) (by rw [show g = r.g from e]; omega)⟩
        · exact ⟨by show w.heap.size ≤ b7; omega, fun e => n2 7 b7 (by decide) (by decide) (by decide) o7 (by rw [show b7 = r.g from e]; exact Nat.le_refl _) (by rw [show b7 = r.g from e]; omega)⟩
        · exact ⟨by show w.heap.size ≤ b11; omega, fun e => n2 11 b11 (by decide) (by decide) (by decide) o11 (by rw [show b11 = r.g from e]; exact Nat.le_refl _) (by rw [show b11 = r.g from e]; omega)⟩
        · exact ⟨by show w.heap.size ≤ b15; omega, fun e => n2 15 b15 (by decide) (by decide) (by decide) o15 (by rw [show b15 = r.g from e]; exact Nat.le_refl _) (by rw [show b15 = r.g from e]; omega)⟩
        · exact ⟨by show w.heap.size ≤ b19; omega, fun e => n2 19 b19 (by decide) (by decide) (by decide) o19 (by rw [show b19 = r.g from e]; exact Nat.le_refl _) (by rw [show b19 = r.g from e]; omega)⟩
        · exact ⟨by show w.heap.size ≤ b23; omega, fun e => n2 23 b23 (by decide) (by decide) (by decide) o23 (by rw [show b23 = r.g from e]; exact Nat.le_refl _) (by rw [show b23 = r.g from e]; omega)⟩
      · have hb2 : b ≤ r.g ∧ r.g ≤ b + 3 := by
          rcases hb with e | e | ⟨n, _, h3, _⟩
          · have e : b = r.rb := e
            omega
          · have e : b = r.cb := e
            omega
          · exact absurd (show (0 : Nat) = 3 from h3) (by decide)
        rcases hO with e | e | e | e | e | e
        · have e : b = g := e
          subst e; exact n2 25 _ (by decide) (by decide) (by decide) o25 hb2.1 hb2.2
        · have e : b = b7 := e
          subst e; exact n2 7 _ (by decide) (by decide) (by decide) o7 hb2.1 hb2.2
        · have e : b = b11 := e
          subst e; exact n2 11 _ (by decide) (by decide) (by decide) o11 hb2.1 hb2.2
        · have e : b = b15 := e
          subst e; exact n2 15 _ (by decide) (by decide) (by decide) o15 hb2.1 hb2.2
        · have e : b = b19 := e
          subst e; exact n2 19 _ (by decide) (by decide) (by decide) o19 hb2.1 hb2.2
        · have e : b = b23 := e
          subst e; exact n2 23 _ (by decide) (by decide) (by decide) o23 hb2.1 hb2.2
    have HV := Lib.hid hBW
    obtain ⟨u, hu⟩ : ∃ u : Rd, u = { B := w.heap.size, g := g, ob := b7, mb := b11, tb := b15, lb := b19, bb := b23, d := d.toNat, r := { r with w0 := w, B := w.heap.size } } := ⟨_, rfl⟩
    rw [← hu] at F
    have HF := Lib.hid F
    have HU : Hid (u.r.T = r.T ∧ u.B = w.heap.size ∧ u.r.w0 = w ∧ (u.d : Int) = d ∧ u.g = g) := by rw [hu]; exact ⟨rfl, rfl, rfl, hdn, rfl⟩
    have HVV : Hid (u.r.vp = vp ∧ u.r.vr = vr) := by rw [hu]; exact ⟨hv1, hv2⟩
    have y26 : vs 26 = .pointer (some ⟨g, 0, none⟩) := (show vs 26 = vs 25 from g26).trans q25
    clear F hu p2 p3 g24 g26 hR ne n2 o2 o7 o11 o15 o19 o23 o25 l7 l11 l15 l19 l23 l25 k7 k11 k15 k19 k23 hA hA2 hB hg3 hgr hgc hAB hAC hAG hBW q2 q7 q11 q15 q19 q23 q25 hdn z1 hv1 hv2
    simp only [putS, if_true, Act.put, List.setIfInBounds_toArray, List.set_cons_zero, List.set_cons_succ]
    rw [y26, ← HU.out.2.2.2.2]
    clear y26
    obtain ⟨N, hNN⟩ : ∃ N, N = u.r.T.pts.length := ⟨_, rfl⟩
    have HNN := Lib.hid hNN
    have hN1 : N ≤ 1000 := by rw [hNN, HU.out.1]; exact hm
    clear hNN
    go_wp2_with fail
    go_loopw [6] (fun i wr => ∃ k : Nat, k ≤ N ∧ i = .int .i64 k ∧ RdAt wr u ⟨as0, od0, fun _ => tn0, newP k⟩ ub lb (fun _ => 0) ∧ Below w.heap.size w wr) (fun i _ => N - (intOf i).toNat)
    case atStart => exact ⟨0, Nat.zero_le _, rfl, HF.out, HV.out⟩
    case round =>
      clear HF HV
      obtain ⟨k, hk, rfl, hi6, hb6⟩ := hrel
      have I6 := Lib.hid hi6; have B6 := Lib.hid hb6
      clear hi6 hb6
      obtain ⟨w6, rfl⟩ : ∃ w6 : World, w6 = wr := ⟨_, rfl⟩
      have gB : w6.cell? ⟨u.g, 12, none⟩ = some (.slice (some ⟨u.tb, 0, none⟩) N N) := by rw [HNN.out]; exact cell_row (j := 12) I6.out.ob rfl
      have lg : u.g < w6.heap.size := heap_lt I6.out.ob
      by_cases hlt : k < N
      case pos =>
        have HLT : Hid (k < u.r.T.pts.length) := by rw [← HNN.out]; exact hlt
        have s0 := I6.out.sd.cell HLT.out
        have f0 := I6.out.sd.frozen k
        have l0 := I6.out.sd.lt
        have I7 : Hid (RdAt (w6.setCell ⟨u.tb, k, none⟩ (.int .i64 1)) u ⟨as0, od0, fun _ => tn0, newP (k + 1)⟩ ub lb (fun _ => 0)) := by
          show RdAt _ _ _ _ _ _
          rw [newP_succ]
          exact I6.out.setS k { newP k k with sd := 1 } rfl rfl
        have B7 : Hid (Below w.heap.size w (w6.setCell ⟨u.tb, k, none⟩ (.int .i64 1))) := B6.out.setCell (p := ⟨u.tb, k, none⟩) (by have := (I6.out.ap.ge u.tb (.inr (.inr (.inr (.inl rfl))))).1; rw [HU.out.2.1] at this; exact this) _
        go_wp2_with fail
        go_roundw
        case rel => exact ⟨k + 1, by omega, by go_num, I7.out, B7.out⟩
        case measure => simp [intOf]; omega
      case neg =>
      obtain rfl : N = k := by omega
      have I7 : Hid (RdAt w6 u ys0 ub lb (fun _ => 0)) := I6.out.pn_congr (fun j hj => if_pos (by rw [HNN.out]; exact hj))
      go_wp2_with fail
      go_ret
      exact ⟨u, ub, lb, _, rfl, I7.out, HU.out.1, HU.out.2.1, HU.out.2.2.1, HU.out.2.2.2.1, B6.out, by rw [HVV.out.1, HVV.out.2]⟩
end Go.Proofs.Ytnjeiigdfdjccaa
