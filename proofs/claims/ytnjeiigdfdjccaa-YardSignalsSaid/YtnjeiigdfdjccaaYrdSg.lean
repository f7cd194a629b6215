/- YardSignals: what lies where, in a round and between the rounds. -/
import Derived.Test.YtnjeiigdfdjccaaYrdTh
import Derived.Sort.BigQuietIn
import Derived.Sort.QuietIn
namespace Go.Proofs.Ytnjeiigdfdjccaa
open Go.RowKit Go.Shelf
set_option linter.unusedVariables false
set_option linter.unusedSimpArgs false
attribute [local go_sem] Oper.semAt_some
/-- A block of the law's own, behind the yard. -/
def OwnB (y : Yd) (b : Nat) : Prop := ¬ y.M b ∧ b ≠ y.u.g ∧ y.u.w0.heap.size ≤ b
/-- Between the frames: the yard's box, the last order's box. -/
structure SgAt (w : World) (kb rb : Nat) (TV : Array Value) (y : Yd) (yb ob : Nat) (Y : YS) (W : World) : Prop where
  g : GwAt w kb rb TV y Y W
  yx : W.heap[yb]? = some (.cells #[.pointer (some ⟨y.g, 0, none⟩)] 29 (0, 0))
  ox : W.heap[ob]? = some (.cells #[.int .u32 (Y.L.pr : Int), .int .u32 (Y.L.no : Int), .int .u32 (Y.L.re : Int), .int .u32 (Y.L.lo : Int)] 35 (0, 0))
theorem SgAt.below {w : World} {kb rb : Nat} {TV : Array Value} {y : Yd} {yb ob : Nat} {Y : YS} {W W' : World} (h : SgAt w kb rb TV y yb ob Y W) (hb : Below W.heap.size W W') : SgAt w kb rb TV y yb ob Y W' :=
  ⟨h.g.below hb, kept h.yx hb, kept h.ox hb⟩
theorem SgAt.own {w : World} {kb rb : Nat} {TV : Array Value} {y : Yd} {yb ob : Nat} {Y : YS} {W W' : World} {M : Nat → Prop} (h : SgAt w kb rb TV y yb ob Y W) (hM : ∀ b, M b → OwnB y b ∧ b ≠ yb ∧ b ≠ ob) (ho : Only M W W') : SgAt w kb rb TV y yb ob Y W' :=
  ⟨h.g.own (fun b hb => (hM b hb).1) ho, (ho.block _ (heap_lt h.yx) (fun hm => (hM _ hm).2.1 rfl)).trans h.yx, (ho.block _ (heap_lt h.ox) (fun hm => (hM _ hm).2.2 rfl)).trans h.ox⟩
/-- In a round: what was clear, and set, ahead of the frame (fc, fs). -/
structure InAt (w : World) (kb rb : Nat) (TV : Array Value) (y : Yd) (yb ob : Nat) (Y : YS) (cb sb ca sa N : Nat) (fc fs : Nat → Bool) (W : World) : Prop where
  s : SgAt w kb rb TV y yb ob Y W
  cx : W.heap[cb]? = some (.cells #[.slice (some ⟨ca, 0, none⟩) N N] 37 (0, 0))
  sx : W.heap[sb]? = some (.cells #[.slice (some ⟨sa, 0, none⟩) N N] 37 (0, 0))
  c : RowAt W ca 4 N (fun i => .bool (fc i))
  st : RowAt W sa 4 N (fun i => .bool (fs i))
theorem InAt.below {w : World} {kb rb : Nat} {TV : Array Value} {y : Yd} {yb ob : Nat} {Y : YS} {cb sb ca sa N : Nat} {fc fs : Nat → Bool} {W W' : World} (h : InAt w kb rb TV y yb ob Y cb sb ca sa N fc fs W) (hb : Below W.heap.size W W') : InAt w kb rb TV y yb ob Y cb sb ca sa N fc fs W' :=
  ⟨h.s.below hb, kept h.cx hb, kept h.sx hb, h.c.same (hb.block _ h.c.lt), h.st.same (hb.block _ h.st.lt)⟩
/-- The six blocks of a round are six. -/
structure Bk (y : Yd) (yb ob hb cb sb ca sa : Nat) : Prop where
  o1 : OwnB y hb
  o2 : OwnB y cb
  o3 : OwnB y sb
  o4 : OwnB y ca
  o5 : OwnB y sa
  l1 : yb < hb
  l2 : ob < hb
  e1 : ca = hb + 1
  e2 : cb = hb + 2
  e3 : sa = hb + 3
  e4 : sb = hb + 4
def updB (f : Nat → Bool) (n : Nat) (b : Bool) : Nat → Bool := fun i => if i = n then b else f i
theorem InAt.setC {w : World} {kb rb : Nat} {TV : Array Value} {y : Yd} {yb ob : Nat} {Y : YS} {hb cb sb ca sa N : Nat} {fc fs : Nat → Bool} {W : World} (h : InAt w kb rb TV y yb ob Y cb sb ca sa N fc fs W) (k : Bk y yb ob hb cb sb ca sa) (n : Nat) (b : Bool) :
    InAt w kb rb TV y yb ob Y cb sb ca sa N (updB fc n b) fs (W.setCell ⟨ca, n, none⟩ (.bool b)) := by
  have ho : Only (fun x => x = ca) W (W.setCell ⟨ca, n, none⟩ (.bool b)) := (Only.refl (fun x => x = ca) W).set _ _ (.inr rfl)
  have h1 := k.l1; have h2 := k.l2; have h3 := k.e1; have h4 := k.e2; have h5 := k.e3; have h6 := k.e4
  exact ⟨h.s.own (fun x hx => by rw [hx]; exact ⟨k.o4, by omega, by omega⟩) ho, (ho.block _ (heap_lt h.cx) (by omega)).trans h.cx, (ho.block _ (heap_lt h.sx) (by omega)).trans h.sx,
    (h.c.set (i := n) (.bool b)).congr (fun i hi => by show (if i = n then _ else _) = Value.bool (if i = n then b else fc i); split <;> rfl), h.st.same (ho.block _ h.st.lt (by omega))⟩
theorem InAt.setS {w : World} {kb rb : Nat} {TV : Array Value} {y : Yd} {yb ob : Nat} {Y : YS} {hb cb sb ca sa N : Nat} {fc fs : Nat → Bool} {W : World} (h : InAt w kb rb TV y yb ob Y cb sb ca sa N fc fs W) (k : Bk y yb ob hb cb sb ca sa) (n : Nat) (b : Bool) :
    InAt w kb rb TV y yb ob Y cb sb ca sa N fc (updB fs n b) (W.setCell ⟨sa, n, none⟩ (.bool b)) := by
  have ho : Only (fun x => x = sa) W (W.setCell ⟨sa, n, none⟩ (.bool b)) := (Only.refl (fun x => x = sa) W).set _ _ (.inr rfl)
  have h1 := k.l1; have h2 := k.l2; have h3 := k.e1; have h4 := k.e2; have h5 := k.e3; have h6 := k.e4
  exact ⟨h.s.own (fun x hx => by rw [hx]; exact ⟨k.o5, by omega, by omega⟩) ho, (ho.block _ (heap_lt h.cx) (by omega)).trans h.cx, (ho.block _ (heap_lt h.sx) (by omega)).trans h.sx,
    h.c.same (ho.block _ h.c.lt (by omega)), (h.st.set (i := n) (.bool b)).congr (fun i hi => by show (if i = n then _ else _) = Value.bool (if i = n then b else fs i); split <;> rfl)⟩
/-- In a round's route. -/
structure RdAt (w : World) (kb rb : Nat) (TV : Array Value) (y : Yd) (yb ob : Nat) (Y : YS) (hb cb sb ca sa N : Nat) (ds : List Nat) (qb : Nat) (oq : Obj) (fc fs : Nat → Bool) (W : World) : Prop where
  i : InAt w kb rb TV y yb ob Y cb sb ca sa N fc fs W
  h : W.heap[hb]? = some (.cells #[.slice none 0 0] 22 (0, 0))
  d : ∀ D ∈ ds, W.heap[D]? = some (.deferred (some [])) ∧ ¬ y.M D ∧ D ≠ rb ∧ w.heap.size ≤ D
  q : W.heap[qb]? = some oq
theorem RdAt.below {w : World} {kb rb : Nat} {TV : Array Value} {y : Yd} {yb ob : Nat} {Y : YS} {hb cb sb ca sa N : Nat} {ds : List Nat} {qb : Nat} {oq : Obj} {fc fs : Nat → Bool} {W W' : World} (h : RdAt w kb rb TV y yb ob Y hb cb sb ca sa N ds qb oq fc fs W) (hb' : Below W.heap.size W W') : RdAt w kb rb TV y yb ob Y hb cb sb ca sa N ds qb oq fc fs W' :=
  ⟨h.i.below hb', kept h.h hb', fun D hD => ⟨kept (h.d D hD).1 hb', (h.d D hD).2⟩, kept h.q hb'⟩
theorem RdAt.setC {w : World} {kb rb : Nat} {TV : Array Value} {y : Yd} {yb ob : Nat} {Y : YS} {hb cb sb ca sa N : Nat} {ds : List Nat} {qb : Nat} {oq : Obj} {fc fs : Nat → Bool} {W : World} (h : RdAt w kb rb TV y yb ob Y hb cb sb ca sa N ds qb oq fc fs W) (k : Bk y yb ob hb cb sb ca sa) (hd : ∀ D ∈ ds, D < hb) (hq : hb + 5 ≤ qb) (n : Nat) (b : Bool) :
    RdAt w kb rb TV y yb ob Y hb cb sb ca sa N ds qb oq (updB fc n b) fs (W.setCell ⟨ca, n, none⟩ (.bool b)) := by
  have e := k.e1
  exact ⟨h.i.setC k n b, (heap_setCell_other _ _ _ _ (by show ¬ _ = _; dsimp only; omega)).trans h.h, fun D hD => ⟨(heap_setCell_other _ _ _ _ (by have := hd D hD; show ¬ _ = _; dsimp only; omega)).trans (h.d D hD).1, (h.d D hD).2⟩, (heap_setCell_other _ _ _ _ (by show ¬ _ = _; dsimp only; omega)).trans h.q⟩
theorem RdAt.setS {w : World} {kb rb : Nat} {TV : Array Value} {y : Yd} {yb ob : Nat} {Y : YS} {hb cb sb ca sa N : Nat} {ds : List Nat} {qb : Nat} {oq : Obj} {fc fs : Nat → Bool} {W : World} (h : RdAt w kb rb TV y yb ob Y hb cb sb ca sa N ds qb oq fc fs W) (k : Bk y yb ob hb cb sb ca sa) (hd : ∀ D ∈ ds, D < hb) (hq : hb + 5 ≤ qb) (n : Nat) (b : Bool) :
    RdAt w kb rb TV y yb ob Y hb cb sb ca sa N ds qb oq fc (updB fs n b) (W.setCell ⟨sa, n, none⟩ (.bool b)) := by
  have e := k.e3
  exact ⟨h.i.setS k n b, (heap_setCell_other _ _ _ _ (by show ¬ _ = _; dsimp only; omega)).trans h.h, fun D hD => ⟨(heap_setCell_other _ _ _ _ (by have := hd D hD; show ¬ _ = _; dsimp only; omega)).trans (h.d D hD).1, (h.d D hD).2⟩, (heap_setCell_other _ _ _ _ (by show ¬ _ = _; dsimp only; omega)).trans h.q⟩
/-- What was clear: all of a route's tracks, of the first ones. -/
def clrN (T : Tab) (tn : Nat → TN) (l : List Int) : Nat → Bool
  | 0 => true
  | j + 1 => clrN T tn l j && clearB T tn (l.getD j 0)
def clrF (T : Tab) (tn : Nat → TN) (k : Nat) : Nat → Bool := fun i => if i < k then clrN T tn (T.rts.getD i rt0).tr (T.rts.getD i rt0).tr.length else false
def setF (R : Nat → RS) (k : Nat) : Nat → Bool := fun i => if i < k then (R i).ph == 1 else false
theorem clrN_all {T : Tab} {tn : Nat → TN} {l : List Int} : ∀ {j : Nat}, (∀ i, i < j → clearB T tn (l.getD i 0) = true) → clrN T tn l j = true
  | 0, _ => rfl
  | j + 1, h => by
    show (clrN T tn l j && _) = true
    rw [clrN_all (fun i hi => h i (by omega)), h j (by omega)]; rfl
theorem clrF_succ (T : Tab) (tn : Nat → TN) (k : Nat) : clrF T tn (k + 1) = updB (clrF T tn k) k (clrN T tn (T.rts.getD k rt0).tr (T.rts.getD k rt0).tr.length) := by
  funext i
  unfold clrF updB
  by_cases e : i = k
  · subst e; rw [if_pos (by omega), if_pos rfl]
  · rw [if_neg e]
    by_cases h : i < k
    · rw [if_pos (by omega)]; exact (if_pos h).symm
    · rw [if_neg (by omega)]; exact (if_neg h).symm
theorem setF_succ (R : Nat → RS) (k : Nat) : setF R (k + 1) = updB (setF R k) k ((R k).ph == 1) := by
  funext i
  unfold setF updB
  by_cases e : i = k
  · subst e; rw [if_pos (by omega), if_pos rfl]
  · rw [if_neg e]
    by_cases h : i < k
    · rw [if_pos (by omega)]; exact (if_pos h).symm
    · rw [if_neg (by omega)]; exact (if_neg h).symm
theorem updB_updB (f : Nat → Bool) (n : Nat) (a b : Bool) : updB (updB f n a) n b = updB f n b := by
  funext i; unfold updB; split <;> rfl
/-- Whatever a frame's slots hold. -/
theorem ex_act {α : Type} {R : α → Prop} {f : (Nat → Value) → α → Act} {t : Array Value} {D : List Deferred} (x : α) (h : R x) (e : f (fun i => t.getD i undef) x = ⟨t, D⟩) : ∃ (u : Nat → Value) (x : α), R x ∧ (⟨t, D⟩ : Act) = f u x := ⟨_, x, h, e.symm⟩
theorem InAt.own {w : World} {kb rb : Nat} {TV : Array Value} {y : Yd} {yb ob : Nat} {Y : YS} {cb sb ca sa N : Nat} {fc fs : Nat → Bool} {W W' : World} {M : Nat → Prop} (h : InAt w kb rb TV y yb ob Y cb sb ca sa N fc fs W)
    (hM : ∀ b, M b → OwnB y b ∧ b ≠ yb ∧ b ≠ ob ∧ b ≠ cb ∧ b ≠ sb ∧ b ≠ ca ∧ b ≠ sa) (ho : Only M W W') : InAt w kb rb TV y yb ob Y cb sb ca sa N fc fs W' :=
  ⟨h.s.own (fun b hb => ⟨(hM b hb).1, (hM b hb).2.1, (hM b hb).2.2.1⟩) ho, (ho.block _ (heap_lt h.cx) (fun hm => (hM _ hm).2.2.2.1 rfl)).trans h.cx, (ho.block _ (heap_lt h.sx) (fun hm => (hM _ hm).2.2.2.2.1 rfl)).trans h.sx,
    h.c.same (ho.block _ h.c.lt (fun hm => (hM _ hm).2.2.2.2.2.1 rfl)), h.st.same (ho.block _ h.st.lt (fun hm => (hM _ hm).2.2.2.2.2.2 rfl))⟩
/-- In the midst of the range that notes which routes have a train. -/
structure HaI (w : World) (kb rb : Nat) (TV : Array Value) (y : Yd) (yb ob : Nat) (Y : YS) (cb sb ca sa N : Nat) (fc fs : Nat → Bool) (C hb : Nat) (ds : List Nat) (l : List Int) (Fb : Nat → Prop) (W : World) : Prop where
  i : InAt w kb rb TV y yb ob Y cb sb ca sa N fc fs W
  c : C ≤ W.heap.size
  fm : ¬ Fb hb
  ds : ∀ D ∈ ds, W.heap[D]? = some (.deferred (some []))
  ro : ∃ ve, W.heap[hb]? = some (.cells #[ve] 22 (0, 0)) ∧ W.ownsRow C 3 1 ve l.length (intsV l) ∧ ∀ g, ve.ownBlock = some g → ¬ Fb g
structure HaC (y : Yd) (yb ob hb cb sb ca sa C : Nat) : Prop where
  k : Bk y yb ob hb cb sb ca sa
  l : hb + 5 ≤ C
  o : ∀ b, C ≤ b → OwnB y b
theorem HaC.ne {y : Yd} {yb ob hb cb sb ca sa C : Nat} (h : HaC y yb ob hb cb sb ca sa C) {b : Nat} (hb : C ≤ b) : OwnB y b ∧ b ≠ yb ∧ b ≠ ob ∧ b ≠ cb ∧ b ≠ sb ∧ b ≠ ca ∧ b ≠ sa := by
  have h1 := h.k.l1; have h2 := h.k.l2; have h3 := h.k.e1; have h4 := h.k.e2; have h5 := h.k.e3; have h6 := h.k.e4; have h7 := h.l
  exact ⟨h.o b hb, by omega, by omega, by omega, by omega, by omega, by omega⟩
theorem HaC.nh {y : Yd} {yb ob hb cb sb ca sa C : Nat} (h : HaC y yb ob hb cb sb ca sa C) : OwnB y hb ∧ hb ≠ yb ∧ hb ≠ ob ∧ hb ≠ cb ∧ hb ≠ sb ∧ hb ≠ ca ∧ hb ≠ sa := by
  have h1 := h.k.l1; have h2 := h.k.l2; have h3 := h.k.e1; have h4 := h.k.e2; have h5 := h.k.e3; have h6 := h.k.e4; have h7 := h.l
  exact ⟨h.k.o1, by omega, by omega, by omega, by omega, by omega, by omega⟩
theorem HaI.grown {w : World} {kb rb : Nat} {TV : Array Value} {y : Yd} {yb ob : Nat} {Y : YS} {cb sb ca sa N : Nat} {fc fs : Nat → Bool} {C hb : Nat} {ds : List Nat} {l : List Int} {Fb : Nat → Prop} {W W' : World} {row : Option Nat} (h : HaI w kb rb TV y yb ob Y cb sb ca sa N fc fs C hb ds l Fb W)
    (hk : HaC y yb ob hb cb sb ca sa C) (hD : ∀ D ∈ ds, D < C) (hg : W.grownBy W' row) (hr : ∀ r, row = some r → C ≤ r ∧ ∃ o : Obj, W.heap[r]? = some o ∧ o.isCells = false) : HaI w kb rb TV y yb ob Y cb sb ca sa N fc fs C hb ds l Fb W' := by
  obtain ⟨ve, k1, k2, k3⟩ := h.ro
  have key : ∀ (k : Nat) (cs : Array Value) (t : TypeId) (fr : Nat × Nat), W.heap[k]? = some (Obj.cells cs t fr) → W'.heap[k]? = some (Obj.cells cs t fr) := fun k cs t fr hk => (hg.block k (heap_lt hk) (fun e => by
    obtain ⟨_, o, ho, hc⟩ := hr k e.symm
    rw [hk] at ho; cases ho; simp [Obj.isCells] at hc)).trans hk
  exact ⟨h.i.own (M := fun b => row = some b) (fun b hb => hk.ne (hr b hb).1) ⟨hg.os, hg.tape, hg.output, hg.size, fun b hb hn => hg.block b hb (fun e => hn e.symm)⟩, Nat.le_trans h.c hg.size, h.fm,
    fun D hd => (hg.block D (Array.getElem?_eq_some_iff.1 (h.ds D hd)).1 (fun e => by have := (hr D e.symm).1; have := hD D hd; omega)).trans (h.ds D hd), ve, key _ _ _ _ k1, own_keep k2 (fun k cs t fr _ hk => key k cs t fr hk), k3⟩
theorem HaI.below' {w : World} {kb rb : Nat} {TV : Array Value} {y : Yd} {yb ob : Nat} {Y : YS} {cb sb ca sa N : Nat} {fc fs : Nat → Bool} {C hb : Nat} {ds : List Nat} {l : List Int} {Fb : Nat → Prop} {A B : World} (h : HaI w kb rb TV y yb ob Y cb sb ca sa N fc fs C hb ds l Fb A) (hb' : Below A.heap.size A B) : HaI w kb rb TV y yb ob Y cb sb ca sa N fc fs C hb ds l Fb B := by
  obtain ⟨ve, k1, k2, k3⟩ := h.ro
  exact ⟨h.i.below hb', Nat.le_trans h.c hb'.size, h.fm, fun D hd => kept (h.ds D hd) hb', ve, kept k1 hb', own_keep k2 (fun k cs t fr _ hk => kept hk hb'), k3⟩
theorem HaI.below {w : World} {kb rb : Nat} {TV : Array Value} {y : Yd} {yb ob : Nat} {Y : YS} {cb sb ca sa N : Nat} {fc fs : Nat → Bool} {C hb : Nat} {ds : List Nat} {l : List Int} {Fb : Nat → Prop} {A B : World} (h : HaI w kb rb TV y yb ob Y cb sb ca sa N fc fs C hb ds l Fb A) (hb' : Below A.heap.size A B) : HaI w kb rb TV y yb ob Y cb sb ca sa N fc fs C hb ds l (extF Fb A B) B := by
  have h' := h.below' hb'
  obtain ⟨ve, k1, k2, k3⟩ := h.ro
  obtain ⟨ve', k1', k2', k3'⟩ := h'.ro
  have l1 := heap_lt k1
  have e : ve' = ve := by
    have := (kept k1 hb').symm.trans k1'
    simp at this; exact this.symm
  subst e
  exact ⟨h'.i, h'.c, fun e => e.elim h.fm (fun e => by omega), h'.ds, ve', k1', k2', fun g hg e => e.elim (k3 g hg) (fun e => by have := (k2.lt g hg).2; omega)⟩
theorem HaI.app {w : World} {kb rb : Nat} {TV : Array Value} {y : Yd} {yb ob : Nat} {Y : YS} {cb sb ca sa N : Nat} {fc fs : Nat → Bool} {C hb : Nat} {ds : List Nat} {l : List Int} {Fb : Nat → Prop} {W w8 : World} {o : Obj} {ve v8 : Value} {m : Int} (h : HaI w kb rb TV y yb ob Y cb sb ca sa N fc fs C hb ds l Fb W)
    (hk : HaC y yb ob hb cb sb ca sa C) (hF : ∀ b, Fb b → b < W.heap.size)
    (k1 : W.heap[hb]? = some (.cells #[ve] 22 (0, 0))) (k2 : W.ownsRow C 3 1 ve l.length (intsV l)) (k3 : ∀ g, ve.ownBlock = some g → ¬ Fb g)
    (hg : (W.alloc o).grownBy w8 ve.ownBlock) (ho : w8.ownsRow C 3 1 v8 (l.length + 1) (intsV l ++ [.int .i64 m])) (hat : v8.ownBlock = ve.ownBlock ∨ v8.ownBlock = some (W.alloc o).heap.size) :
    w8.heap[hb]? = some (.cells #[ve] 22 (0, 0)) ∧ ∀ B, KeepsFrom B W (w8.setCell ⟨hb, 0, none⟩ v8) ∧ (KeepF Fb W (w8.setCell ⟨hb, 0, none⟩ v8) ∧ W.heap.size ≤ (w8.setCell ⟨hb, 0, none⟩ v8).heap.size) ∧ HaI w kb rb TV y yb ob Y cb sb ca sa N fc fs C hb ds (l ++ [m]) Fb (w8.setCell ⟨hb, 0, none⟩ v8) := by
  have hmbW := heap_lt k1
  have hhC := hk.l
  have hnm : ∀ g, ve.ownBlock = some g → C ≤ g ∧ g ≠ hb := fun g hg' => ⟨(k2.lt g hg').1, by have := (k2.lt g hg').1; omega⟩
  have L1 : Only (fun b => ve.ownBlock = some b) W w8 := ((Only.refl _ W).alloc _).trans (Only.grown hg (fun g hg' => .inr hg'))
  have L2 : Only (fun b => b = hb ∨ ve.ownBlock = some b) W (w8.setCell ⟨hb, 0, none⟩ v8) := (L1.mono fun i _ e => .inr e).set _ _ (.inr (.inl rfl))
  have h8 : w8.heap[hb]? = some (.cells #[ve] 22 (0, 0)) := (L1.block _ hmbW (fun e => (hnm _ e).2 rfl)).trans k1
  have hnc : ∀ k o', W.heap[k]? = some o' → o'.isCells = false → ¬ (k = hb ∨ ve.ownBlock = some k) := fun k o' hkk hc e => by
    rcases e with rfl | e
    · rw [k1] at hkk; cases hkk; simp [Obj.isCells] at hc
    · rcases k2.2 with ⟨h0, _⟩ | ⟨g, cap, cur, hv, hb', hgc, r⟩
      · rw [h0] at e; cases e
      · rw [hv] at e; cases e; rw [hgc] at hkk; cases hkk; simp [Obj.isCells] at hc
  refine ⟨h8, fun B => ⟨⟨L2.size, fun k o' hk hko hoc => (L2.block k (Array.getElem?_eq_some_iff.1 hko).1 (hnc k o' hko hoc)).trans hko⟩, ⟨fun b o' hb hbo => (L2.block b (Array.getElem?_eq_some_iff.1 hbo).1 (fun e => by
    rcases e with rfl | e
    · exact h.fm hb
    · exact k3 b e hb)).trans hbo, L2.size⟩, ?_⟩⟩
  have hS := heap_setCell_same w8 hb 0 _ _ v8 h8
  refine ⟨h.i.own (fun b hb => by
    rcases hb with rfl | e
    · exact hk.nh
    · exact hk.ne (hnm b e).1) L2, Nat.le_trans h.c L2.size, h.fm, fun D hD => (L2.block D (Array.getElem?_eq_some_iff.1 (h.ds D hD)).1 (hnc D _ (h.ds D hD) rfl)).trans (h.ds D hD), v8, hS, ?_, fun g hg' => ?_⟩
  · rw [intsV_snoc, List.length_append]
    refine own_keep ho (fun k cs t fr hk hkc => (heap_setCell_other _ _ _ _ (fun e => ?_)).trans hkc)
    have h1 := (ho.lt k hk).1
    have e' : k = hb := e
    omega
  · rcases hat with e | e
    · exact k3 g (by rw [← e]; exact hg')
    · rw [e] at hg'
      cases hg'
      intro hb
      have h1 := hF _ hb
      have h2 : (W.alloc o).heap.size = W.heap.size + 1 := Array.size_push _
      omega
theorem own_slice1 {w : World} {B e n : Nat} {v : Value} {xs : List Value} (h : w.ownsRow B e 1 v (n + 1) xs) : ∃ g cap, v = .slice (some ⟨g, 0, none⟩) (n + 1) cap := by
  rcases h.2 with ⟨_, h0⟩ | ⟨g, cap, cur, rfl, _⟩
  · exact absurd h0 (by omega)
  · exact ⟨g, cap, rfl⟩
/-- A number is appended. -/
theorem wp_app_int {F : Fence} {n' : Nat} {ops : Array Oper} {rest : List Oper} {o : Oper} {a : Act} {Q : Exit → Act → World → Prop} {W : World} {ni : Int} (hgd : o.guard = none) (s x : Operand)
    (ho : o.op = .call { callee := .builtin .append, args := #[s, x], argTypes := #[22, 22] }) (C : Nat) (ve : Value) (k : Nat) (xs : List Value) (hs : a.eval s = ve) (hx : a.eval x = .slice (some ⟨W.heap.size, 0, none⟩) 1 1)
    (hown : W.ownsRow C 3 1 ve k xs) (hk : k ≤ 1000) (hC : C ≤ W.heap.size)
    (h : ∀ v' w', w'.ownsRow C 3 1 v' (k + 1) (xs ++ [.int .i64 ni]) → (W.alloc (.cells #[.int .i64 ni] 3)).grownBy w' ve.ownBlock → (v'.ownBlock = ve.ownBlock ∨ v'.ownBlock = some (W.alloc (.cells #[.int .i64 ni] 3)).heap.size) → wpListIn F n' Try.prog ops Q rest (a.put o.dst v') w') :
    wpListIn F n' Try.prog ops Q (o :: rest) a (W.alloc (.cells #[.int .i64 ni] 3)) := by
  obtain ⟨i0, hi, hz0, hz1, hz2⟩ := tb_info infoI
  have HNW : (W.alloc (.cells #[.int .i64 ni] 3)).heap[W.heap.size]? = some (.cells #[.int .i64 ni] 3 (0, 0)) := heap_alloc_new _ _
  have HAS : (W.alloc (.cells #[.int .i64 ni] 3)).heap.size = W.heap.size + 1 := Array.size_push _
  refine wpListIn_append_own_at _ hgd s x 22 ho C 3 i0 (.int .i64 0) 1 8 Try.underlying22 hi hz0 hz1 hz2 rfl (by decide) ve k xs hs (hown.alloc _) ⟨W.heap.size, 0, none⟩ 1 1 [.int .i64 ni] hx rfl (fun j u hu => ?_) (fun u hu => ?_) (by unfold maxLen; omega) (by omega) (by omega) fun v' w' h1 h2 _ h4 => h v' w' h1 h2 h4
  · match j, hu with
    | 0, hu => simp at hu; subst hu; exact cell_row (j := 0) HNW rfl
    | j + 1, hu => simp at hu
  · rcases List.mem_cons.1 hu with rfl | hu
    · rfl
    · cases hu
/-- Behind the frame: the box ob holds the order ahead of it, nb its own; had: who stood there ahead. -/
structure PoAt (w : World) (kb rb : Nat) (TV : Array Value) (y : Yd) (yb ob : Nat) (Y : YS) (L : OD) (cb sb ca sa N : Nat) (fc fs : Nat → Bool) (hb nb : Nat) (ve : Value) (had : List Int) (ds : List Nat) (W : World) : Prop where
  g : GwAt w kb rb TV y Y W
  yx : W.heap[yb]? = some (.cells #[.pointer (some ⟨y.g, 0, none⟩)] 29 (0, 0))
  ox : W.heap[ob]? = some (.cells #[.int .u32 (L.pr : Int), .int .u32 (L.no : Int), .int .u32 (L.re : Int), .int .u32 (L.lo : Int)] 35 (0, 0))
  nx : W.heap[nb]? = some (.cells #[.int .u32 (Y.L.pr : Int), .int .u32 (Y.L.no : Int), .int .u32 (Y.L.re : Int), .int .u32 (Y.L.lo : Int)] 35 (0, 0))
  cx : W.heap[cb]? = some (.cells #[.slice (some ⟨ca, 0, none⟩) N N] 37 (0, 0))
  sx : W.heap[sb]? = some (.cells #[.slice (some ⟨sa, 0, none⟩) N N] 37 (0, 0))
  c : RowAt W ca 4 N (fun i => .bool (fc i))
  st : RowAt W sa 4 N (fun i => .bool (fs i))
  hx : W.heap[hb]? = some (.cells #[ve] 22 (0, 0))
  h : IntsAt W ve had
  d : ∀ D ∈ ds, W.heap[D]? = some (.deferred (some [])) ∧ ¬ y.M D ∧ D ≠ rb ∧ w.heap.size ≤ D
theorem PoAt.below {w : World} {kb rb : Nat} {TV : Array Value} {y : Yd} {yb ob : Nat} {Y : YS} {L : OD} {cb sb ca sa N : Nat} {fc fs : Nat → Bool} {hb nb : Nat} {ve : Value} {had : List Int} {ds : List Nat} {W W' : World} (h : PoAt w kb rb TV y yb ob Y L cb sb ca sa N fc fs hb nb ve had ds W) (hb' : Below W.heap.size W W') : PoAt w kb rb TV y yb ob Y L cb sb ca sa N fc fs hb nb ve had ds W' :=
  ⟨h.g.below hb', kept h.yx hb', kept h.ox hb', kept h.nx hb', kept h.cx hb', kept h.sx hb', h.c.same (hb'.block _ h.c.lt), h.st.same (hb'.block _ h.st.lt), kept h.hx hb', h.h.below hb', fun D hD => ⟨kept (h.d D hD).1 hb', (h.d D hD).2⟩⟩
/-- The frame itself, and the box that its order is put into. -/
theorem HaI.turn {w : World} {kb rb : Nat} {TV : Array Value} {y : Yd} {yb ob : Nat} {Y Y' : YS} {cb sb ca sa N : Nat} {fc fs : Nat → Bool} {C hb : Nat} {ds : List Nat} {l : List Int} {Fb : Nat → Prop} {W W' : World} (h : HaI w kb rb TV y yb ob Y cb sb ca sa N fc fs C hb ds l Fb W)
    (hk : HaC y yb ob hb cb sb ca sa C) (hy : OwnB y yb) (ho : OwnB y ob) (hl : ∀ i, i < l.length → i64ok (l.getD i 0)) (hd : ∀ D ∈ ds, ¬ y.M D ∧ D ≠ rb ∧ w.heap.size ≤ D) (t : TurnY y W Y' W') :
    ∃ ve, PoAt w kb rb TV y yb ob Y' Y.L cb sb ca sa N fc fs hb W'.heap.size ve l ds (W'.alloc (.cells #[.int .u32 (Y'.L.pr : Int), .int .u32 (Y'.L.no : Int), .int .u32 (Y'.L.re : Int), .int .u32 (Y'.L.lo : Int)] 35)) := by
  obtain ⟨ve, k1, k2, _⟩ := h.ro
  have B : ∀ o, Below W'.heap.size W' (W'.alloc o) := fun o => alloc_below _ _
  have key : ∀ {b : Nat} {o : Obj}, OwnB y b → W.heap[b]? = some o → ∀ o', (W'.alloc o').heap[b]? = some o := fun {b o} hb hbo o' => kept ((t.2.block b (Array.getElem?_eq_some_iff.1 hbo).1 hb.1).trans hbo) (B o')
  have hin : IntsAt W ve l := own_ints k2 hl
  refine ⟨ve, (h.i.s.g.turn t).below (B _), key hy h.i.s.yx _, key ho h.i.s.ox _, heap_alloc_new _ _, key hk.k.o2 h.i.cx _, key hk.k.o3 h.i.sx _,
    (h.i.c.same (t.2.block _ h.i.c.lt hk.k.o4.1)).same ((B _).block _ (Nat.lt_of_lt_of_le h.i.c.lt t.2.size)), (h.i.st.same (t.2.block _ h.i.st.lt hk.k.o5.1)).same ((B _).block _ (Nat.lt_of_lt_of_le h.i.st.lt t.2.size)), key hk.k.o1 k1 _, ?_, fun D hD => ⟨kept ((t.2.block D (Array.getElem?_eq_some_iff.1 (h.ds D hD)).1 (hd D hD).1).trans (h.ds D hD)) (B _), hd D hD⟩⟩
  exact own_ints ((tb_own k2 t.2 (fun g hg hm => (hk.o g (k2.lt g hg).1).1 hm)).alloc _) hl
/-- Whether a number is among the first ones. -/
def isN (l : List Int) (x : Int) : Nat → Bool
  | 0 => false
  | j + 1 => isN l x j || (l.getD j 0 == x)
theorem isN_iff {l : List Int} {x : Int} : ∀ {j : Nat}, isN l x j = true ↔ ∃ i, i < j ∧ l.getD i 0 = x
  | 0 => by simp [isN]
  | j + 1 => by
    show (isN l x j || _) = true ↔ _
    rw [Bool.or_eq_true, isN_iff, beq_iff_eq]
    constructor
    · rintro (⟨i, h1, h2⟩ | h)
      · exact ⟨i, by omega, h2⟩
      · exact ⟨j, by omega, h⟩
    · rintro ⟨i, h1, h2⟩
      by_cases e : i = j
      · subst e; exact .inr h2
      · exact .inl ⟨i, by omega, h2⟩
def hadL (tn : Nat → TN) (N : Nat) : List Int := (onIdx tn N).map fun (k : Nat) => (k : Int)
theorem hadL_len (tn : Nat → TN) (N : Nat) : (hadL tn N).length = (onIdx tn N).length := List.length_map ..
theorem hadL_get {tn : Nat → TN} {N x : Nat} (h : x < (onIdx tn N).length) : (hadL tn N).getD x 0 = ((onIdx tn N).getD x 0 : Nat) := by
  unfold hadL
  rw [List.getD_eq_getElem?_getD, List.getElem?_map, List.getD_eq_getElem?_getD, List.getElem?_eq_getElem h]; rfl
theorem hadL_mem {tn : Nat → TN} {N n : Nat} (hn : n < N) : isN (hadL tn N) (n : Int) (hadL tn N).length = (tn n).is := by
  rw [Bool.eq_iff_iff, isN_iff, hadL_len]
  constructor
  · rintro ⟨i, h1, h2⟩
    rw [hadL_get h1] at h2
    have hm : (onIdx tn N).getD i 0 ∈ onIdx tn N := by rw [List.getD_eq_getElem?_getD, List.getElem?_eq_getElem h1]; exact List.getElem_mem h1
    have e : (onIdx tn N).getD i 0 = n := by exact_mod_cast h2
    rw [e] at hm
    exact (onIdx_lt hm).2
  · intro h
    obtain ⟨h1, h2⟩ := onIdx_at hn h
    exact ⟨_, h1, by rw [hadL_get h1, h2]⟩
theorem onIdx_len (tn : Nat → TN) : ∀ m, (onIdx tn m).length ≤ m
  | 0 => Nat.le_refl _
  | m + 1 => by
    rw [onIdx_succ]
    have := onIdx_len tn m
    split
    · rw [List.length_append]; show _ + 1 ≤ m + 1; omega
    · omega
theorem hadL_ok {tn : Nat → TN} {N : Nat} (hN : N ≤ 16) (i : Nat) (hi : i < (hadL tn N).length) : i64ok ((hadL tn N).getD i 0) := by
  rw [hadL_len] at hi
  rw [hadL_get hi]
  have hm : (onIdx tn N).getD i 0 ∈ onIdx tn N := by rw [List.getD_eq_getElem?_getD, List.getElem?_eq_getElem hi]; exact List.getElem_mem hi
  have := (onIdx_lt hm).1
  unfold i64ok; omega
/-- The next round: the order's box has been written. -/
theorem PoAt.next {w : World} {kb rb : Nat} {TV : Array Value} {y : Yd} {yb ob : Nat} {Y : YS} {L : OD} {cb sb ca sa N : Nat} {fc fs : Nat → Bool} {hb nb : Nat} {ve : Value} {had : List Int} {ds : List Nat} {W : World} (h : PoAt w kb rb TV y yb ob Y L cb sb ca sa N fc fs hb nb ve had ds W) (hyo : yb ≠ ob) (ho : OwnB y ob) :
    SgAt w kb rb TV y yb ob Y ((((W.setCell ⟨ob, 0, none⟩ (.int .u32 (Y.L.pr : Int))).setCell ⟨ob, 1, none⟩ (.int .u32 (Y.L.no : Int))).setCell ⟨ob, 2, none⟩ (.int .u32 (Y.L.re : Int))).setCell ⟨ob, 3, none⟩ (.int .u32 (Y.L.lo : Int))) ∧
    ∀ D o, D ≠ ob → W.heap[D]? = some o → ((((W.setCell ⟨ob, 0, none⟩ (.int .u32 (Y.L.pr : Int))).setCell ⟨ob, 1, none⟩ (.int .u32 (Y.L.no : Int))).setCell ⟨ob, 2, none⟩ (.int .u32 (Y.L.re : Int))).setCell ⟨ob, 3, none⟩ (.int .u32 (Y.L.lo : Int))).heap[D]? = some o := by
  have hO : Only (fun b => b = ob) W ((((W.setCell ⟨ob, 0, none⟩ (.int .u32 (Y.L.pr : Int))).setCell ⟨ob, 1, none⟩ (.int .u32 (Y.L.no : Int))).setCell ⟨ob, 2, none⟩ (.int .u32 (Y.L.re : Int))).setCell ⟨ob, 3, none⟩ (.int .u32 (Y.L.lo : Int))) :=
    ((((Only.refl (fun b => b = ob) W).set 0 _ (.inr rfl)).set 1 _ (.inr rfl)).set 2 _ (.inr rfl)).set 3 _ (.inr rfl)
  have k : ∀ D o, D ≠ ob → W.heap[D]? = some o → ((((W.setCell ⟨ob, 0, none⟩ (.int .u32 (Y.L.pr : Int))).setCell ⟨ob, 1, none⟩ (.int .u32 (Y.L.no : Int))).setCell ⟨ob, 2, none⟩ (.int .u32 (Y.L.re : Int))).setCell ⟨ob, 3, none⟩ (.int .u32 (Y.L.lo : Int))).heap[D]? = some o := fun D o hD hx => (hO.block D (Array.getElem?_eq_some_iff.1 hx).1 hD).trans hx
  refine ⟨⟨h.g.own (fun b hb => by rw [hb]; exact ho) hO, k _ _ hyo h.yx, ?_⟩, k⟩
  have h0 := heap_setCell_same W ob 0 _ _ (.int .u32 (Y.L.pr : Int)) h.ox
  have h1 := heap_setCell_same _ ob 1 _ _ (.int .u32 (Y.L.no : Int)) h0
  have h2 := heap_setCell_same _ ob 2 _ _ (.int .u32 (Y.L.re : Int)) h1
  exact heap_setCell_same _ ob 3 _ _ (.int .u32 (Y.L.lo : Int)) h2
end Go.Proofs.Ytnjeiigdfdjccaa
