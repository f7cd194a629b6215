/- Two rows, each in a box of its own, that are appended to in one statement: what is known of one of the two at each stage. -/
import Derived.Test.YteekneicahfkpaaInv
import Derived.Test.YteekneicahfkpaaRow
import Derived.Maps.AppendAt
import Derived.OwnWalkIn
namespace Go.Proofs.Yteekneicahfkpaa
open Go.RowKit
set_option linter.unusedVariables false
theorem own_only {w w' : World} {M : Nat → Prop} {base e sz n : Nat} {v : Value} {xs : List Value} (h : w.ownsRow base e sz v n xs) (ho : Only M w w') (hm : ∀ k, v.ownBlock = some k → ¬ M k) : w'.ownsRow base e sz v n xs := by
  refine ⟨h.1, ?_⟩
  rcases h.2 with h0 | ⟨g, cap, cur, hv, hb, hg, r⟩
  · exact .inl h0
  · exact .inr ⟨g, cap, cur, hv, hb, (ho.block g (heap_lt hg) (hm g (by rw [hv]; rfl))).trans hg, r⟩
theorem box_only {w w' : World} {M : Nat → Prop} {b : Nat} {o : Obj} (h : w.heap[b]? = some o) (ho : Only M w w') (hm : ¬ M b) : w'.heap[b]? = some o := (ho.block b (heap_lt h) hm).trans h
/-- An append inside a fence, one operation alone. -/
theorem wpIn_append_at {F : Fence} {m' : Nat} {P : Program} (w : World) {o : Oper} {a : Act} {K : Act → World → Prop} {Q : Exit → Act → World → Prop}
    (s x : Operand) (t : TypeId) (hop : o.op = Op.call { callee := Callee.builtin Builtin.append, args := #[s, x], argTypes := #[t, t] })
    (base : Nat) (e : TypeId) (i : TypeInfo) (z : Value) (size bytes : Nat) (h1 : P.underlying t = some (.slice e)) (h2 : P.info? e = some i) (h3 : i.zero = some z) (h4 : i.size = size) (h5 : i.bytes = bytes) (h6 : z.cells.size = size) (h7 : 0 < size)
    (v : Value) (k : Nat) (xs : List Value) (hs : a.eval s = v) (hown : w.ownsRow base e size v k xs) (ad : Addr) (m c : Nat) (news : List Value) (hx : a.eval x = .slice (some ad) m c) (hn : news.length = m * size)
    (hc : ∀ j u, news[j]? = some u → w.cell? (ad.add j) = some u) (h1c : ∀ u ∈ news, u.oneCell' = true) (b1 : k + m ≤ maxLen) (b2 : (k + m) * bytes ≤ 140737488355328) (b3 : base ≤ w.heap.size)
    (hK : ∀ v' w', w'.ownsRow base e size v' (k + m) (xs ++ news) → w.grownBy w' v.ownBlock → (v'.ownBlock = v.ownBlock ∨ v'.ownBlock = some w.heap.size) → K (a.put o.dst v') w') :
    o.wpIn F m' P a w K Q := by
  obtain ⟨v', w', hrun, r1, r2, r3, r4⟩ := run_append_own_at (P := P) (w := w) base t o.type e i z size bytes h1 h2 h3 h4 h5 h6 h7 v k xs hown ad m c news hn hc h1c b1 b2 b3
  unfold Oper.wpIn
  refine ⟨?_, ?_⟩
  · simp [Oper.about, hop, resolve, Target.leads, Sem.run_pure]
  · rw [Oper.semAt_plain F _ _ (by rw [hop]; intro c hc'; cases hc')]
    simp [execOp, hop, resolve, invoke, builtin, hs, hx, hrun, Result.andThen]
    exact hK v' w' r1 r2 r4
/-- One of the two: its box, its row v0 of n elements X, what is appended (x); loaded, built, appended, stored. -/
structure Thr (base N box ts te : Nat) (v0 : Value) (n : Nat) (X : List Value) (x : Value) (l b ap st : Bool) (vl vb va : Value) (V : World) : Prop where
  l : l = true → vl = v0
  b : b = true → ∃ c, vb = .slice (some ⟨c, 0, none⟩) 1 1 ∧ N ≤ c ∧ V.heap[c]? = some (.cells #[x] te (0, 0))
  r0 : ap = false → V.ownsRow base te 1 v0 n X
  r1 : ap = true → V.ownsRow base te 1 va (n + 1) (X ++ [x]) ∧ (va.ownBlock = v0.ownBlock ∨ ∃ g, va.ownBlock = some g ∧ N ≤ g ∧ g < V.heap.size)
  bx : V.heap[box]? = some (.cells #[if st then va else v0] ts (0, 0))
variable {base N box ts te : Nat} {v0 : Value} {n : Nat} {X : List Value} {x : Value} {l b ap st : Bool} {vl vb va : Value} {V V' : World}
theorem Thr.only (h : Thr base N box ts te v0 n X x l b ap st vl vb va V) {M : Nat → Prop} (ho : Only M V V') (hM : ∀ i, M i → i < N ∧ i ≠ box ∧ v0.ownBlock ≠ some i) : Thr base N box ts te v0 n X x l b ap st vl vb va V' where
  l := h.l
  b := fun e => by obtain ⟨c, h1, h2, h3⟩ := h.b e; exact ⟨c, h1, h2, box_only h3 ho (fun hm => by have := (hM c hm).1; omega)⟩
  r0 := fun e => own_only (h.r0 e) ho (fun k hk hm => (hM k hm).2.2 hk)
  r1 := fun e => by
    obtain ⟨h1, h2⟩ := h.r1 e
    refine ⟨own_only h1 ho (fun k hk hm => ?_), h2.imp id fun ⟨g, a1, a2, a3⟩ => ⟨g, a1, a2, Nat.lt_of_lt_of_le a3 ho.size⟩⟩
    rcases h2 with h2 | ⟨g, a1, a2, _⟩
    · exact (hM k hm).2.2 (h2 ▸ hk)
    · rw [a1] at hk; cases hk; have := (hM _ hm).1; omega
  bx := box_only h.bx ho (fun hm => (hM box hm).2.1 rfl)
theorem Thr.start (hr : V.ownsRow base te 1 v0 n X) (hb : V.heap[box]? = some (.cells #[v0] ts (0, 0))) : Thr base N box ts te v0 n X x false false false false vl vb va V where
  l := fun e => by cases e
  b := fun e => by cases e
  r0 := fun _ => hr
  r1 := fun e => by cases e
  bx := hb
theorem Thr.load (h : Thr base N box ts te v0 n X x l b ap st vl vb va V) : Thr base N box ts te v0 n X x true b ap st v0 vb va V where
  l := fun _ => rfl
  b := h.b
  r0 := h.r0
  r1 := h.r1
  bx := h.bx
theorem only_alloc (M : Nat → Prop) (w : World) (o : Obj) : Only M w (w.alloc o) := (Only.refl M w).alloc o
theorem Thr.build (h : Thr base N box ts te v0 n X x l b ap st vl vb va V) (hN : N ≤ V.heap.size) : Thr base N box ts te v0 n X x l true ap st vl (.slice (some ⟨V.heap.size, 0, none⟩) 1 1) va (V.alloc (.cells #[x] te)) :=
  have h' := h.only (only_alloc (fun _ => False) V (.cells #[x] te)) (fun i hm => hm.elim)
  { l := h'.l
    b := fun _ => ⟨_, rfl, hN, heap_alloc_new _ _⟩
    r0 := h'.r0
    r1 := h'.r1
    bx := h'.bx }
theorem Thr.append (h : Thr base N box ts te v0 n X x l b false st vl vb va V) (hst : st = false) {v' : Value} (ho : V'.ownsRow base te 1 v' (n + 1) (X ++ [x])) (hg : V.grownBy V' v0.ownBlock) (hv : v'.ownBlock = v0.ownBlock ∨ v'.ownBlock = some V.heap.size) (hN : N ≤ V.heap.size) (hb0 : ∀ k, v0.ownBlock = some k → k < N ∧ k ≠ box) :
    Thr base N box ts te v0 n X x l b true st vl vb v' V' where
  l := h.l
  b := fun e => by
    obtain ⟨c, h1, h2, h3⟩ := h.b e
    refine ⟨c, h1, h2, (hg.block c (heap_lt h3) (fun e => ?_)).trans h3⟩
    have := (hb0 c e.symm).1; omega
  r0 := fun e => by cases e
  r1 := fun _ => ⟨ho, hv.imp id fun e => ⟨_, e, hN, (ho.lt _ e).2⟩⟩
  bx := by
    have := (hg.block box (heap_lt h.bx) (fun e => (hb0 box e.symm).2 rfl)).trans h.bx
    subst hst
    exact this
theorem Thr.store (h : Thr base N box ts te v0 n X x l b true st vl vb va V) (hN : ∀ k, va.ownBlock = some k → k ≠ box) (hc : ∀ c, vb = .slice (some ⟨c, 0, none⟩) 1 1 → c ≠ box) : Thr base N box ts te v0 n X x l b true true vl vb va (V.setCell ⟨box, 0, none⟩ va) where
  l := h.l
  b := fun e => by obtain ⟨c, h1, h2, h3⟩ := h.b e; exact ⟨c, h1, h2, (heap_setCell_other _ _ _ _ (hc c h1)).trans h3⟩
  r0 := fun e => by cases e
  r1 := fun e => by
    obtain ⟨h1, h2⟩ := h.r1 e
    exact ⟨own_only h1 ((Only.refl (fun i => i = box) V).set 0 va (.inr rfl)) (fun k hk => hN k hk), h2.imp id fun ⟨g, a1, a2, a3⟩ => ⟨g, a1, a2, by simpa [World.setCell] using a3⟩⟩
  bx := heap_setCell_same _ _ _ _ _ _ h.bx
end Go.Proofs.Yteekneicahfkpaa
