/- A region whose operations make memory in whatever order: of each operation it is said what its value is good for, in whatever world; what is said abides. -/
import Derived.Test.YteekneicahfkpaaCls
namespace Go.Proofs.Yteekneicahfkpaa
open Go.RowKit
set_option linter.unusedVariables false
/-- The frame, where the operations that L tells have put their values. -/
def putS (vs : Nat → Value) (L : Nat → Bool) : List Oper → Nat → Act → Act
  | [], _, a => a
  | o :: r, k, a => putS vs L r (k + 1) (if L k then a.put o.dst (vs k) else a)
theorem put_put {a : Act} {d d' : Option Tmp} {v v' : Value} (h : ∀ x, d = some x → d' ≠ some x) : (a.put d v).put d' v' = (a.put d' v').put d v := by
  cases d with
  | none => rfl
  | some x =>
    cases d' with
    | none => rfl
    | some y => simp only [Act.put]; rw [Array.setIfInBounds_comm _ _ (fun e => h x rfl (by rw [e]))]
theorem putS_put {vs : Nat → Value} {L : Nat → Bool} {d : Option Tmp} {v : Value} : ∀ (l : List Oper) (k : Nat) (a : Act), (∀ o ∈ l, ∀ x, d = some x → o.dst ≠ some x) → putS vs L l k (a.put d v) = (putS vs L l k a).put d v
  | [], _, _, _ => rfl
  | o :: r, k, a, h => by
    show putS vs L r (k + 1) (if L k then (a.put d v).put o.dst (vs k) else a.put d v) = (putS vs L r (k + 1) (if L k then a.put o.dst (vs k) else a)).put d v
    rw [← putS_put r (k + 1) _ (fun o' ho' => h o' (List.mem_cons_of_mem _ ho'))]
    congr 1
    by_cases hL : L k = true
    · rw [if_pos hL, if_pos hL]; exact put_put (h o (List.mem_cons_self ..))
    · rw [if_neg hL, if_neg hL]
theorem putS_congr {vs vs' : Nat → Value} {L L' : Nat → Bool} : ∀ (l : List Oper) (k : Nat) (a : Act), (∀ i, k ≤ i → i < k + l.length → L i = L' i ∧ (L i = true → vs i = vs' i)) → putS vs L l k a = putS vs' L' l k a
  | [], _, _, _ => rfl
  | o :: r, k, a, h => by
    show putS vs L r (k + 1) (if L k then a.put o.dst (vs k) else a) = putS vs' L' r (k + 1) (if L' k then a.put o.dst (vs' k) else a)
    obtain ⟨h1, h2⟩ := h k (Nat.le_refl _) (by simp)
    rw [putS_congr r (k + 1) _ (fun i hi hi' => h i (by omega) (by simp; omega)), ← h1]
    congr 1
    by_cases hL : L k = true
    · rw [if_pos hL, if_pos hL, h2 hL]
    · rw [if_neg hL, if_neg hL]
def dsts (l : List Oper) : List Tmp := l.filterMap (·.dst)
theorem dsts_not {o : Oper} {r : List Oper} (h : (dsts (o :: r)).Nodup) : ∀ p ∈ r, ∀ x, o.dst = some x → p.dst ≠ some x := fun p hp x hx hpx => by
  unfold dsts at h
  rw [List.filterMap_cons, hx] at h
  exact (List.nodup_cons.1 h).1 (List.mem_filterMap.2 ⟨p, hp, hpx⟩)
theorem dsts_tail {o : Oper} {r : List Oper} (h : (dsts (o :: r)).Nodup) : (dsts r).Nodup := by
  unfold dsts at h ⊢
  rw [List.filterMap_cons] at h
  cases hd : o.dst with
  | none => rw [hd] at h; exact h
  | some x => rw [hd] at h; exact (List.nodup_cons.1 h).2
theorem putS_set {vs : Nat → Value} {L : Nat → Bool} {v : Value} : ∀ (l : List Oper) (k j : Nat) (o : Oper) (a : Act), (dsts l).Nodup → l[j]? = some o → L (k + j) = false →
    putS (fun i => if i = k + j then v else vs i) (fun i => if i = k + j then true else L i) l k a = (putS vs L l k a).put o.dst v
  | [], _, _, _, _, _, h, _ => by simp at h
  | p :: r, k, 0, o, a, hn, h, hL => by
    obtain rfl : p = o := by simpa using h
    have hL' : L k = false := hL
    show putS (fun i => if i = k + 0 then v else vs i) (fun i => if i = k + 0 then true else L i) r (k + 1) (if (if k = k + 0 then true else L k) then a.put p.dst (if k = k + 0 then v else vs k) else a) = (putS vs L r (k + 1) (if L k then a.put p.dst (vs k) else a)).put p.dst v
    simp only [Nat.add_zero, if_true, hL']
    rw [putS_congr (vs' := vs) (L' := L) r (k + 1) _ (fun i hi _ => by rw [if_neg (by omega), if_neg (by omega)]; exact ⟨rfl, fun _ => rfl⟩)]
    exact putS_put r (k + 1) a (dsts_not hn)
  | p :: r, k, j + 1, o, a, hn, h, hL => by
    have := putS_set (vs := vs) (L := L) (v := v) r (k + 1) j o (if L k then a.put p.dst (vs k) else a) (dsts_tail hn) (by simpa using h) (by rw [← hL]; congr 1; omega)
    show putS (fun i => if i = k + (j + 1) then v else vs i) (fun i => if i = k + (j + 1) then true else L i) r (k + 1) (if (if k = k + (j + 1) then true else L k) then a.put p.dst (if k = k + (j + 1) then v else vs k) else a) = _
    have hk : ¬ k = k + (j + 1) := by omega
    simp only [if_neg hk]
    rw [show k + (j + 1) = k + 1 + j by omega]
    exact this
theorem eval_put_other {a : Act} {d : Option Tmp} {v : Value} {x : Tmp} (h : d ≠ some x) : (a.put d v).eval (.tmp x) = a.eval (.tmp x) := by
  cases d with
  | none => rfl
  | some y =>
    have : y ≠ x := fun e => h (by rw [e])
    simp [Act.put, Act.eval, Array.getD_eq_getD_getElem?, this]
theorem eval_put_same {a : Act} {v : Value} {x : Tmp} (h : x < a.tmps.size) : (a.put (some x) v).eval (.tmp x) = v := by
  simp [Act.put, Act.eval, Array.getD_eq_getD_getElem?, h]
theorem put_size (a : Act) (d : Option Tmp) (v : Value) : (a.put d v).tmps.size = a.tmps.size := by cases d <;> simp [Act.put]
theorem eval_other {vs : Nat → Value} {L : Nat → Bool} {x : Tmp} : ∀ (l : List Oper) (k : Nat) (a : Act), x ∉ dsts l → (putS vs L l k a).eval (.tmp x) = a.eval (.tmp x)
  | [], _, _, _ => rfl
  | o :: r, k, a, h => by
    have h1 : o.dst ≠ some x := fun e => h (List.mem_filterMap.2 ⟨o, List.mem_cons_self .., e⟩)
    have h2 : x ∉ dsts r := fun e => h (by obtain ⟨p, hp, hd⟩ := List.mem_filterMap.1 e; exact List.mem_filterMap.2 ⟨p, List.mem_cons_of_mem _ hp, hd⟩)
    show (putS vs L r (k + 1) (if L k then a.put o.dst (vs k) else a)).eval (.tmp x) = _
    rw [eval_other r (k + 1) _ h2]
    split
    · exact eval_put_other h1
    · rfl
theorem eval_at {vs : Nat → Value} {L : Nat → Bool} {x : Tmp} : ∀ (l : List Oper) (k j : Nat) (o : Oper) (a : Act), (dsts l).Nodup → l[j]? = some o → o.dst = some x → L (k + j) = true → x < a.tmps.size → (putS vs L l k a).eval (.tmp x) = vs (k + j)
  | [], _, _, _, _, _, h, _, _, _ => by simp at h
  | p :: r, k, 0, o, a, hn, h, hd, hL, hx => by
    obtain rfl : p = o := by simpa using h
    show (putS vs L r (k + 1) (if L k then a.put p.dst (vs k) else a)).eval (.tmp x) = _
    have hL' : L k = true := hL
    rw [if_pos hL', eval_other r (k + 1) _ (fun e => by obtain ⟨q, hq, hqd⟩ := List.mem_filterMap.1 e; exact dsts_not hn q hq x hd hqd), hd, eval_put_same hx]; rfl
  | p :: r, k, j + 1, o, a, hn, h, hd, hL, hx => by
    show (putS vs L r (k + 1) (if L k then a.put p.dst (vs k) else a)).eval (.tmp x) = _
    rw [eval_at r (k + 1) j o _ (dsts_tail hn) (by simpa using h) hd (by rw [← hL]; congr 1; omega) (by split <;> first | (rw [put_size]; exact hx) | exact hx)]
    congr 1; omega
/-- What is asked of the region's make. -/
def goodB (ops : List Oper) (m : Nat) : Bool :=
  (List.range ops.length).all (fun i => match ops[i]? with | some o => o.after.all (fun e => decide (e.on < i) && Region.binds .any e) && o.guard.isNone | none => true) && decide (dsts ops).Nodup && (dsts ops).all (· < m)
/-- The block that a fresh value brings. -/
def ownB : Value → Option Nat
  | .slice (some a) _ _ => some a.block
  | .pointer (some a) => some a.block
  | _ => none
/-- What is known when the operations that L tells have run: of each what it is good for (which may speak of those that it waits for); fresh blocks are apart. -/
structure Rgn (ops : List Oper) (mk : Nat → Bool) (N : Nat) (C : World → Prop) (G : Nat → (Nat → Value) → World → Prop) (vs : Nat → Value) (L : Nat → Bool) (V : World) : Prop where
  c : C V
  n : N ≤ V.heap.size
  g : ∀ i, i < ops.length → L i = true → G i vs V
  dn : ∀ i o, ops[i]? = some o → L i = true → ∀ e ∈ o.after, L e.on = true
  s : ∀ i, mk i = true → L i = true → ∀ b, ownB (vs i) = some b → N ≤ b ∧ b < V.heap.size
  d : ∀ i j, i ≠ j → mk i = true → mk j = true → L i = true → L j = true → ∀ b, ownB (vs i) = some b → ownB (vs j) ≠ some b
theorem Rgn.step {ops : List Oper} {mk : Nat → Bool} {N : Nat} {C : World → Prop} {G : Nat → (Nat → Value) → World → Prop} {vs : Nat → Value} {L : Nat → Bool} {V V' : World} (h : Rgn ops mk N C G vs L V)
    (hGc : ∀ (i : Nat) (o : Oper), ops[i]? = some o → ∀ vs vs' V, vs i = vs' i → (∀ e ∈ o.after, vs e.on = vs' e.on) → G i vs V → G i vs' V) (hG : ∀ i vs V V', Below V.heap.size V V' → G i vs V → G i vs V') (hC : ∀ V V', Below V.heap.size V V' → C V → C V')
    {i : Nat} {o : Oper} {v : Value} (ho : ops[i]? = some o) (hL : L i = false) (hdep : ∀ e ∈ o.after, L e.on = true) (hb : Below V.heap.size V V') (hv : G i (fun j => if j = i then v else vs j) V') (hmk : mk i = true → ∀ b, ownB v = some b → V.heap.size ≤ b ∧ b < V'.heap.size) :
    Rgn ops mk N C G (fun j => if j = i then v else vs j) (fun j => if j = i then true else L j) V' := by
  have hne : ∀ j, L j = true → j ≠ i := fun j hj e => by subst e; rw [hL] at hj; cases hj
  refine ⟨hC _ _ hb h.c, Nat.le_trans h.n hb.size, fun j hj hLj => ?_, fun j p hp hLj e he => ?_, fun j hm hLj b hbk => ?_, fun j k hjk hmj hmk' hLj hLk b hbj => ?_⟩
  · by_cases e : j = i
    · subst e; exact hv
    · have hLj' : L j = true := by simpa [e] using hLj
      obtain ⟨p, hp⟩ : ∃ p, ops[j]? = some p := ⟨ops[j], by rw [List.getElem?_eq_getElem hj]⟩
      exact hG _ _ _ _ hb (hGc j p hp _ _ _ (by simp [e]) (fun e' he' => by simp [hne _ (h.dn j p hp hLj' e' he')]) (h.g j hj hLj'))
  · show (if e.on = i then true else L e.on) = true
    by_cases ej : j = i
    · subst ej; rw [ho] at hp; cases hp; simp [hdep e he]
    · have hLj' : L j = true := by simpa [ej] using hLj
      simp [h.dn j p hp hLj' e he]
  · by_cases e : j = i
    · subst e; simp only [if_true] at hbk; obtain ⟨h1, h2⟩ := hmk hm b hbk; exact ⟨Nat.le_trans h.n h1, h2⟩
    · have hLj' : L j = true := by simpa [e] using hLj
      obtain ⟨h1, h2⟩ := h.s j hm hLj' b (by simpa [e] using hbk)
      exact ⟨h1, Nat.lt_of_lt_of_le h2 hb.size⟩
  · by_cases ej : j = i
    · subst ej
      have ek : k ≠ j := fun e => hjk e.symm
      have hLk' : L k = true := by simpa [ek] using hLk
      simp only [if_true] at hbj
      simp only [if_neg ek]
      intro hk
      have h1 := (hmk hmj b hbj).1
      have h2 := (h.s k hmk' hLk' b hk).2
      omega
    · have hLj' : L j = true := by simpa [ej] using hLj
      simp only [if_neg ej] at hbj
      by_cases ek : k = i
      · subst ek
        simp only [if_true]
        intro hk
        have h1 := (hmk hmk' b hk).1
        have h2 := (h.s j hmj hLj' b hbj).2
        omega
      · simp only [if_neg ek]
        exact h.d j k hjk hmj hmk' hLj' (by simpa [ek] using hLk) b hbj
/-- What one operation leaves. -/
def StepPost (G : Nat → (Nat → Value) → World → Prop) (mk : Nat → Bool) (i : Nat) (vs : Nat → Value) (A : Act) (d : Option Tmp) (V : World) (a' : Act) (w' : World) : Prop :=
  ∃ v, a' = A.put d v ∧ G i (fun j => if j = i then v else vs j) w' ∧ Below V.heap.size V w' ∧ (mk i = true → ∀ b, ownB v = some b → V.heap.size ≤ b ∧ b < w'.heap.size)
theorem StepPost.still {G : Nat → (Nat → Value) → World → Prop} {mk : Nat → Bool} {i : Nat} {vs : Nat → Value} {A : Act} {d : Option Tmp} {V : World} (v : Value) (h : G i (fun j => if j = i then v else vs j) V) (hm : mk i = false) : StepPost G mk i vs A d V (A.put d v) V :=
  ⟨v, rfl, h, Below.refl _ _, fun h' => by rw [hm] at h'; cases h'⟩
theorem wpIn_region_reg {F : Fence} {n : Nat} {P : Program} {id : Nat} {Q : Exit → Act → World → Prop} {a : Act} {w : World} {ops : List Oper} (mk : Nat → Bool) (N : Nat) (C : World → Prop) (G : Nat → (Nat → Value) → World → Prop)
    (hm : P.follows .mixedOrders = true) (hB : goodB ops a.tmps.size = true) (hN : N ≤ w.heap.size) (hC0 : C w.drew)
    (hGc : ∀ (i : Nat) (o : Oper), ops[i]? = some o → ∀ vs vs' V, vs i = vs' i → (∀ e ∈ o.after, vs e.on = vs' e.on) → G i vs V → G i vs' V) (hG : ∀ i vs V V', Below V.heap.size V V' → G i vs V → G i vs V') (hC : ∀ V V', Below V.heap.size V V' → C V → C V')
    (hstep : ∀ (i : Nat) (o : Oper), ops[i]? = some o → ∀ (A : Act) (vs : Nat → Value) (V : World), C V → N ≤ V.heap.size → (∀ e ∈ o.after, G e.on vs V) → (∀ e ∈ o.after, ∀ p, ops[e.on]? = some p → ∀ d, p.dst = some d → A.eval (.tmp d) = vs e.on) →
      (∀ d, d ∉ dsts ops → A.eval (.tmp d) = a.eval (.tmp d)) → o.wpIn F n P A V (StepPost G mk i vs A o.dst V) Q)
    (hend : ∀ (vs : Nat → Value) (V : World), Rgn ops mk N C G vs (fun i => decide (i < ops.length)) V → Q .normal (putS vs (fun _ => true) ops 0 a) V) :
    (Code.region id ops.toArray true).wpIn F n P Q a w := by
  simp only [goodB, Bool.and_eq_true] at hB
  obtain ⟨⟨b1, b2⟩, b3⟩ := hB
  have hnd : (dsts ops).Nodup := by simpa using b2
  have hsz : ∀ d ∈ dsts ops, d < a.tmps.size := fun d hd => by simpa using (List.all_eq_true.1 b3) d hd
  have hop : ∀ (i : Nat) (o : Oper), ops[i]? = some o → (∀ e ∈ o.after, e.on < i ∧ Region.binds .any e = true) ∧ o.guard = none := fun i o ho => by
    have hi : i < ops.length := by
      by_cases h : i < ops.length
      · exact h
      · rw [List.getElem?_eq_none (by omega)] at ho; cases ho
    have := (List.all_eq_true.1 b1) i (by simpa using hi)
    rw [ho] at this
    simp only [Bool.and_eq_true] at this
    refine ⟨fun e he => ?_, by simpa using this.2⟩
    have h2 := Array.all_eq_true_iff_forall_mem.1 this.1 e he
    simp only [Bool.and_eq_true, decide_eq_true_eq] at h2
    exact h2
  refine wpIn_region_any hm ?_
  have hLf : ∀ (listed : Array Bool), listed.size = ops.length → ∀ j, listed.getD j false = true → j < ops.length := fun listed hs j hj => by
    by_cases h : j < ops.length
    · exact h
    · rw [Array.getD_eq_getD_getElem?, Array.getElem?_eq_none (by omega)] at hj; cases hj
  have key : ∀ (fuel : Nat) (listed : Array Bool) (V : World) (vs : Nat → Value), listed.size = ops.length → ((List.range ops.length).countP fun i => !listed.getD i false) = fuel → Rgn ops mk N C G vs (fun i => listed.getD i false) V →
      wpAnyIn F n P .any ops.toArray Q fuel listed (putS vs (fun i => listed.getD i false) ops 0 a) V := by
    intro fuel
    induction fuel with
    | zero =>
      intro listed V vs hs hc hR
      have hall : ∀ i, i < ops.length → listed.getD i false = true := fun i hi => by
        have := (List.countP_eq_zero.1 hc) i (by simpa using hi)
        simpa using this
      refine ⟨?_, ?_⟩
      · rw [List.eq_nil_iff_forall_not_mem]
        intro i hi
        obtain ⟨h1, o, ho, _⟩ := mem_ready.1 hi
        have hlt : i < ops.length := by have := (Array.getElem?_eq_some_iff.1 ho).1; simpa using this
        have := hall i hlt
        simp [Array.getD_eq_getD_getElem?, show i < listed.size by omega] at this h1
        rw [this] at h1; cases h1
      · rw [putS_congr (vs' := vs) (L' := fun _ => true) ops 0 a (fun i _ hi => ⟨hall i (by omega), fun _ => rfl⟩)]
        refine hend vs V ?_
        have e : (fun i => listed.getD i false) = (fun i => decide (i < ops.length)) := funext fun i => by
          by_cases h : i < ops.length
          · rw [hall i h]; simp [h]
          · cases hb : listed.getD i false with
            | true => exact absurd (hLf listed hs i hb) h
            | false => simp [h]
        rw [← e]; exact hR
    | succ fuel ih =>
      intro listed V vs hs hc hR
      refine ⟨fun h0 => absurd h0 ?_, fun i hi => ?_⟩
      · intro h0
        have hall : ∀ i, i < ops.length → listed.getD i false = true := by
          intro i
          induction i using Nat.strongRecOn with
          | _ i ihi =>
            intro hi
            cases hb : listed.getD i false with
            | true => rfl
            | false =>
              exfalso
              obtain ⟨o, ho⟩ : ∃ o, ops[i]? = some o := ⟨ops[i], by rw [List.getElem?_eq_getElem hi]⟩
              have : i ∈ Region.ready .any ops.toArray listed := mem_ready.2 ⟨by simp [Array.getD_eq_getD_getElem?, show i < listed.size by omega] at hb ⊢; exact hb, o, by simpa using ho, fun e he _ => ihi e.on ((hop i o ho).1 e he).1 (by have := ((hop i o ho).1 e he).1; omega)⟩
              rw [h0] at this; cases this
        have : ((List.range ops.length).countP fun i => !listed.getD i false) = 0 := List.countP_eq_zero.2 fun i hi => by simp [hall i (by simpa using hi)]
        omega
      · obtain ⟨h1, o, ho, h2⟩ := mem_ready.1 hi
        have ho' : ops[i]? = some o := by simpa using ho
        have hlt : i < ops.length := by have := (Array.getElem?_eq_some_iff.1 ho).1; simpa using this
        have hLi : listed.getD i false = false := by simp [Array.getD_eq_getD_getElem?, show i < listed.size by omega] at h1 ⊢; exact h1
        unfold wpOpIn
        simp only [ho, Region.wanted, (hop i o ho').2, if_true]
        refine Oper.wpIn_mono ?_ (hstep i o ho' (putS vs (fun i => listed.getD i false) ops 0 a) vs V hR.c hR.n ?_ ?_ ?_)
        · rintro a' w' ⟨v, rfl, g1, g2, g3⟩
          rw [← putS_set (vs := vs) (L := fun i => listed.getD i false) (v := v) ops 0 i o a hnd ho' (by simpa using hLi)]
          have hnew : ∀ j, j < ops.length → (listed.setIfInBounds i true).getD j false = if j = 0 + i then true else listed.getD j false := fun j hj => by
            by_cases e : j = i
            · subst e; rw [getD_set_same (by omega), if_pos (by omega)]
            · rw [getD_set_other _ (Ne.symm e), if_neg (by omega)]
          rw [← putS_congr (L := fun j => (listed.setIfInBounds i true).getD j false) (vs := fun j => if j = 0 + i then v else vs j) ops 0 a (fun j _ hj => ⟨hnew j (by omega), fun _ => rfl⟩)]
          refine ih (listed.setIfInBounds i true) w' _ (by simpa using hs) ?_ ?_
          · have hcount : ((List.range ops.length).countP fun j => !listed.getD j false) = ((List.range ops.length).countP fun j => !(listed.setIfInBounds i true).getD j false) + 1 := by
              have gen : ∀ (r : List Nat), r.Nodup → i ∈ r → (∀ j ∈ r, j < ops.length) → (r.countP fun j => !listed.getD j false) = (r.countP fun j => !(listed.setIfInBounds i true).getD j false) + 1 := by
                intro r
                induction r with
                | nil => intro _ h; cases h
                | cons x r ihr =>
                  intro hnd' hmem hb
                  rw [List.countP_cons, List.countP_cons]
                  have hx := hnew x (hb x (List.mem_cons_self ..))
                  by_cases e : x = i
                  · subst e
                    have hsame : (r.countP fun j => !listed.getD j false) = (r.countP fun j => !(listed.setIfInBounds x true).getD j false) := by
                      apply List.countP_congr
                      intro j hj
                      rw [hnew j (hb j (List.mem_cons_of_mem _ hj)), if_neg (by intro e; have := (List.nodup_cons.1 hnd').1; rw [Nat.zero_add] at e; exact this (e ▸ hj))]
                    have e1 : (!listed.getD x false) = true := by rw [hLi]; rfl
                    have e2 : (!(listed.setIfInBounds x true).getD x false) = false := by rw [hx]; simp
                    rw [e1, e2, hsame]; simp
                  · have e3 : (!(listed.setIfInBounds i true).getD x false) = (!listed.getD x false) := by rw [hx, if_neg (by omega)]
                    rw [e3, ihr (List.nodup_cons.1 hnd').2 (by rcases List.mem_cons.1 hmem with h | h; exact absurd h.symm e; exact h) (fun j hj => hb j (List.mem_cons_of_mem _ hj))]
                    split <;> omega
              exact gen _ List.nodup_range (by simpa using hlt) (fun j hj => by simpa using hj)
            omega
          · have hR' := hR.step hGc hG hC ho' hLi (fun e he => h2 e he ((hop i o ho').1 e he).2) g2 g1 g3
            have e1 : (fun j => (listed.setIfInBounds i true).getD j false) = (fun j => if j = i then true else listed.getD j false) := funext fun j => by
              by_cases e : j = i
              · subst e; rw [getD_set_same (by omega), if_pos rfl]
              · rw [getD_set_other _ (Ne.symm e), if_neg e]
            have e2 : (fun j => if j = 0 + i then v else vs j) = (fun j => if j = i then v else vs j) := by rw [Nat.zero_add]
            rw [e1, e2]; exact hR'
        · exact fun e he => hR.g e.on (by have := ((hop i o ho').1 e he).1; omega) (h2 e he ((hop i o ho').1 e he).2)
        · intro e he p hp d hd
          have := eval_at (vs := vs) (L := fun i => listed.getD i false) ops 0 e.on p a hnd hp hd (by simpa using h2 e he ((hop i o ho').1 e he).2) (hsz d (List.mem_filterMap.2 ⟨p, List.mem_of_getElem? hp, hd⟩))
          simpa using this
        · exact fun d hd => eval_other ops 0 a hd
  have hrep : ∀ (m i : Nat), (Array.replicate m false).getD i false = false := fun m i => by
    simp only [Array.getD_eq_getD_getElem?, Array.getElem?_replicate]
    split <;> rfl
  have := key ops.toArray.size (Array.replicate ops.toArray.size false) w.drew (fun _ => undef) (by simp) (by simp only [hrep]; simp) ⟨hC0, hN, fun i _ hi => (by rw [hrep] at hi; cases hi), fun i o _ hi => (by rw [hrep] at hi; cases hi), fun i _ hi => (by rw [hrep] at hi; cases hi), fun i j _ _ _ hi => (by rw [hrep] at hi; cases hi)⟩
  rw [putS_congr (vs' := fun _ => undef) (L' := fun _ => false) ops 0 a (fun i _ hi => ⟨hrep _ _, fun h => rfl⟩)] at this
  have e0 : ∀ (l : List Oper) (k : Nat) (a : Act), putS (fun _ => undef) (fun _ => false) l k a = a := by
    intro l
    induction l with
    | nil => intro _ _; rfl
    | cons o r ih => intro k a; show putS _ _ r (k + 1) (if false = true then _ else a) = a; simp [ih]
  rw [e0] at this
  exact this
end Go.Proofs.Yteekneicahfkpaa
