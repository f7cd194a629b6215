/- YardThrough, walked. -/
import Derived.Test.YtnjeiigdfdjccaaYrdL
import Derived.Sort.LoopGhostIn
import Derived.Outline
import Derived.Sort.CutIn
import Derived.Maps.OwnIn
namespace Go.Proofs.Ytnjeiigdfdjccaa
open Go.RowKit Go.Shelf
set_option linter.unusedVariables false
set_option linter.unusedSimpArgs false
attribute [local go_sem] Oper.semAt_some
def maxTr (T : Tab) : Nat → Nat
  | 0 => 0
  | k + 1 => max (maxTr T k) (T.rts.getD k rt0).tr.length
theorem maxTr_ge (T : Tab) : ∀ {k n : Nat}, n < k → (T.rts.getD n rt0).tr.length ≤ maxTr T k
  | k + 1, n, h => by
    show _ ≤ max _ _
    by_cases e : n = k
    · subst e; omega
    · have := maxTr_ge T (show n < k by omega); omega
theorem maxTr_le (T : Tab) (hT : TOk T) : ∀ {k : Nat}, k ≤ T.rts.length → maxTr T k ≤ 24
  | 0, _ => Nat.zero_le _
  | k + 1, h => by
    have := maxTr_le T hT (show k ≤ T.rts.length by omega)
    have := (hT.tl k (by omega)).2
    show max _ _ ≤ 24
    omega
/-- The moves of all trains. -/
def trnM (tn : Nat → TN) (n : Nat) : MV := ⟨onKind (tn n), (n : Int)⟩
theorem onMoves_idx (Y : YS) : ∀ k, onMoves Y k = (onIdx Y.tn k).map (trnM Y.tn)
  | 0 => rfl
  | k + 1 => by
    rw [onIdx_succ]
    show (if _ then _ else _) = _
    split
    · rw [List.map_append, onMoves_idx Y k]; rfl
    · exact onMoves_idx Y k
/-- Marks of ranges that have ended. -/
def marks (ds : List Nat) : List Deferred := ds.map fun D => { target := .collected D, args := #[] }
theorem leaves_marks {F : Fence} {n : Nat} {P : Program} {fn : Func} {tmps : Array Value} {R : Ending → World → Prop} {B rb : Nat} {o : Obj} {w0 : World} : ∀ (ds : List Nat) (w : World), ds.Nodup → (∀ D ∈ ds, w.heap[D]? = some (.deferred (some [])) ∧ B ≤ D ∧ D ≠ rb) → w.heap[rb]? = some o → Below B w0 w → B ≤ w.heap.size →
    (∀ w', w'.heap[rb]? = some o → Below B w0 w' → LeavesIn F n P fn tmps R [] .returning w') → LeavesInM F n P fn tmps R (marks ds) .returning w
  | [], w, _, _, hr, hb, _, h => h w hr hb
  | D :: ds, w, hn, hd, hr, hb, hs, h => by
    obtain ⟨h1, h2, h3⟩ := hd D (List.mem_cons_self ..)
    have hnd := List.nodup_cons.1 hn
    refine ⟨by simp, .inl ⟨D, _, rfl, run_takeDeferred h1, ?_⟩⟩
    refine leaves_marks ds _ hnd.2 (fun E hE => ?_) ((World.putObj_heap_other (Ne.symm h3)).trans hr) (hb.grown (grownBy_putObj' w D (.deferred none)) hs (fun j e => by cases e; exact h2)) (Nat.le_trans hs (grownBy_putObj' w D (.deferred none)).size) h
    obtain ⟨k1, k2, k3⟩ := hd E (List.mem_cons_of_mem _ hE)
    exact ⟨(World.putObj_heap_other (fun e => hnd.1 (by rw [← e]; exact hE))).trans k1, k2, k3⟩
structure GwAt (w : World) (kb rb : Nat) (TV : Array Value) (y : Yd) (Y : YS) (W : World) : Prop where
  l : LwAt w kb TV y Y W
  r : W.heap[rb]? = some (.cells #[.bool false] 4 (0, 0))
  rw : rb < y.w0.heap.size
  wr : w.heap.size ≤ rb
theorem GwAt.rm {w : World} {kb rb : Nat} {TV : Array Value} {y : Yd} {Y : YS} {W : World} (h : GwAt w kb rb TV y Y W) : ¬ y.M rb := fun hm => by have := (h.l.M _ hm).1; have := h.rw; omega
theorem GwAt.turn {w : World} {kb rb : Nat} {TV : Array Value} {y : Yd} {Y Y' : YS} {W W' : World} (h : GwAt w kb rb TV y Y W) (k : TurnY y W Y' W') : GwAt w kb rb TV y Y' W' :=
  ⟨h.l.turn k, (k.2.block _ (heap_lt h.r) h.rm).trans h.r, h.rw, h.wr⟩
theorem GwAt.below {w : World} {kb rb : Nat} {TV : Array Value} {y : Yd} {Y : YS} {W W' : World} (h : GwAt w kb rb TV y Y W) (hb : Below W.heap.size W W') : GwAt w kb rb TV y Y W' :=
  ⟨h.l.below hb, tb_kept h.r hb, h.rw, h.wr⟩
/-- Blocks of the law's own, behind the yard, are turned. -/
theorem GwAt.own {w : World} {kb rb : Nat} {TV : Array Value} {y : Yd} {Y : YS} {W W' : World} {M : Nat → Prop} (h : GwAt w kb rb TV y Y W) (hM : ∀ b, M b → ¬ y.M b ∧ b ≠ y.u.g ∧ y.u.w0.heap.size ≤ b) (ho : Only M W W') : GwAt w kb rb TV y Y W' :=
  ⟨h.l.own hM ho, (ho.block _ (heap_lt h.r) (fun hm => by have := (hM _ hm).2.2; have := h.l.yd.ap.z; have := h.rw; omega)).trans h.r, h.rw, h.wr⟩
/-- Moves, their cells in a row. -/
def mvF (l : List MV) : List Value := l.flatMap fun m => [.int .u8 (m.kd : Int), .int .i64 m.n]
theorem mvF_snoc (l : List MV) (m : MV) : mvF (l ++ [m]) = mvF l ++ [.int .u8 (m.kd : Int), .int .i64 m.n] := by simp [mvF]
theorem mvF_get : ∀ (l : List MV) (i : Nat), i < l.length → ∀ j, j < 2 → (mvF l)[i * 2 + j]? = some (mvV l i j)
  | m :: l, 0, _, j, hj => by
    have : j = 0 ∨ j = 1 := by omega
    rcases this with rfl | rfl <;> rfl
  | m :: l, i + 1, h, j, hj => by
    have ih := mvF_get l i (by simpa using h) j hj
    have e : mvF (m :: l) = [.int .u8 (m.kd : Int), .int .i64 m.n] ++ mvF l := rfl
    rw [e, List.getElem?_append_right (by simp; omega), show (i + 1) * 2 + j - [Value.int .u8 (m.kd : Int), .int .i64 m.n].length = i * 2 + j by simp; omega, ih]
    rfl
theorem own_mvs {w : World} {B : Nat} {v : Value} {l : List MV} (h : w.ownsRow B 56 2 v l.length (mvF l)) (ho : ∀ m ∈ l, m.kd < 256 ∧ i64ok m.n) : MvsAt w v l ∧ ∀ b off n c, v = .slice (some ⟨b, off, none⟩) n c → B ≤ b := by
  have hok : ∀ i, i < l.length → (l.getD i mv0).kd < 256 ∧ i64ok (l.getD i mv0).n := fun i hi => ho _ (by rw [List.getD_eq_getElem?_getD, List.getElem?_eq_getElem hi]; exact List.getElem_mem hi)
  rcases h.2 with ⟨rfl, h0⟩ | ⟨g, cap, cur, rfl, hg, hb, h1, h2, h3, h4⟩
  · exact ⟨⟨⟨none, 0, by rw [h0], by omega, by unfold maxLen; omega, .inl h0⟩, hok⟩, fun b off n c e => by cases e⟩
  · refine ⟨⟨⟨_, cap, rfl, h1, h2, .inr ⟨g, 0, rfl, heap_lt hb, fun i hi j hj => ?_⟩⟩, hok⟩, fun b off n c e => by cases e; exact hg⟩
    have := mvF_get l i hi j hj
    rw [← h4, List.getElem?_take, if_pos (by omega)] at this
    rw [Nat.zero_add]
    refine cell_row hb ?_
    simpa using this
/-- In the midst of the range that makes the moves. -/
structure ThI (w : World) (kb rb : Nat) (TV : Array Value) (y : Yd) (Y : YS) (C mb : Nat) (ds : List Nat) (l : List MV) (Fb : Nat → Prop) (W : World) : Prop where
  g : GwAt w kb rb TV y Y W
  c : C ≤ W.heap.size
  fm : ¬ Fb mb
  mo : ¬ y.M mb ∧ mb ≠ y.u.g ∧ y.u.w0.heap.size ≤ mb ∧ mb < C
  ds : ∀ D ∈ ds, W.heap[D]? = some (.deferred (some []))
  ro : ∃ ve, W.heap[mb]? = some (.cells #[ve] 36 (0, 0)) ∧ W.ownsRow C 56 2 ve l.length (mvF l) ∧ ∀ g, ve.ownBlock = some g → ¬ Fb g
theorem own_keep {w w' : World} {base e sz n : Nat} {v : Value} {xs : List Value} (h : w.ownsRow base e sz v n xs) (hb : ∀ k cs t fr, v.ownBlock = some k → w.heap[k]? = some (Obj.cells cs t fr) → w'.heap[k]? = some (Obj.cells cs t fr)) : w'.ownsRow base e sz v n xs := by
  refine ⟨h.1, ?_⟩
  rcases h.2 with h0 | ⟨g, cap, cur, hv, hb', hg, r⟩
  · exact .inl h0
  · exact .inr ⟨g, cap, cur, hv, hb', hb g _ _ _ (by rw [hv]; rfl) hg, r⟩
theorem YdAt.cellsOnly {w w' : World} {y : Yd} {Y : YS} (h : YdAt w y Y) (row : Option Nat) (hg : w.grownBy w' row) (hr : ∀ r, row = some r → w.heap.size ≤ r ∨ (¬ y.M r ∧ r ≠ y.u.g ∧ y.u.w0.heap.size ≤ r)) : YdAt w' y Y := by
  refine h.offs (M := fun b => row = some b ∧ ¬ w.heap.size ≤ b) (fun b hb => (hr b hb.1).resolve_left hb.2) ⟨hg.os, hg.tape, hg.output, hg.size, fun b hb hn => hg.block b hb (fun e => hn ⟨e.symm, by omega⟩)⟩
theorem GwAt.grown {w : World} {kb rb : Nat} {TV : Array Value} {y : Yd} {Y : YS} {W W' : World} {row : Option Nat} {C : Nat} (h : GwAt w kb rb TV y Y W) (hC : ∀ b, C ≤ b → ¬ y.M b ∧ b ≠ y.u.g ∧ y.u.w0.heap.size ≤ b) (hg : W.grownBy W' row) (hr : ∀ r, row = some r → C ≤ r) : GwAt w kb rb TV y Y W' :=
  h.own (M := fun b => row = some b) (fun b hb => hC b (hr b hb)) ⟨hg.os, hg.tape, hg.output, hg.size, fun b hb hn => hg.block b hb (fun e => hn e.symm)⟩
theorem ThI.grown {w : World} {kb rb : Nat} {TV : Array Value} {y : Yd} {Y : YS} {C mb : Nat} {ds : List Nat} {l : List MV} {Fb : Nat → Prop} {W W' : World} {row : Option Nat} (h : ThI w kb rb TV y Y C mb ds l Fb W) (hC : ∀ b, C ≤ b → ¬ y.M b ∧ b ≠ y.u.g ∧ y.u.w0.heap.size ≤ b) (hD : ∀ D ∈ ds, D < C) (hg : W.grownBy W' row) (hr : ∀ r, row = some r → C ≤ r ∧ ∃ o : Obj, W.heap[r]? = some o ∧ o.isCells = false) : ThI w kb rb TV y Y C mb ds l Fb W' := by
  obtain ⟨ve, k1, k2, k3⟩ := h.ro
  have key : ∀ (k : Nat) (cs : Array Value) (t : TypeId) (fr : Nat × Nat), W.heap[k]? = some (Obj.cells cs t fr) → W'.heap[k]? = some (Obj.cells cs t fr) := fun k cs t fr hk => (hg.block k (heap_lt hk) (fun e => by
    obtain ⟨_, o, ho, hc⟩ := hr k e.symm
    rw [hk] at ho; cases ho; simp [Obj.isCells] at hc)).trans hk
  exact ⟨h.g.grown hC hg (fun r e => (hr r e).1), Nat.le_trans h.c hg.size, h.fm, h.mo, fun D hd => (hg.block D (Array.getElem?_eq_some_iff.1 (h.ds D hd)).1 (fun e => by have := (hr D e.symm).1; have := hD D hd; omega)).trans (h.ds D hd), ve, key _ _ _ _ k1, own_keep k2 (fun k cs t fr _ hk => key k cs t fr hk), k3⟩
theorem ThI.below' {w : World} {kb rb : Nat} {TV : Array Value} {y : Yd} {Y : YS} {C mb : Nat} {ds : List Nat} {l : List MV} {Fb : Nat → Prop} {A B : World} (h : ThI w kb rb TV y Y C mb ds l Fb A) (hb : Below A.heap.size A B) : ThI w kb rb TV y Y C mb ds l Fb B := by
  obtain ⟨ve, k1, k2, k3⟩ := h.ro
  exact ⟨h.g.below hb, Nat.le_trans h.c hb.size, h.fm, h.mo, fun D hd => kept (h.ds D hd) hb, ve, kept k1 hb, own_keep k2 (fun k cs t fr _ hk => kept hk hb), k3⟩
theorem ThI.below {w : World} {kb rb : Nat} {TV : Array Value} {y : Yd} {Y : YS} {C mb : Nat} {ds : List Nat} {l : List MV} {Fb : Nat → Prop} {A B : World} (h : ThI w kb rb TV y Y C mb ds l Fb A) (hb : Below A.heap.size A B) : ThI w kb rb TV y Y C mb ds l (extF Fb A B) B := by
  have h' := h.below' hb
  obtain ⟨ve, k1, k2, k3⟩ := h.ro
  obtain ⟨ve', k1', k2', k3'⟩ := h'.ro
  have l1 := heap_lt k1
  have e : ve' = ve := by
    have := (kept k1 hb).symm.trans k1'
    simp at this; exact this.symm
  subst e
  exact ⟨h'.g, h'.c, fun e => e.elim h.fm (fun e => by omega), h.mo, h'.ds, ve', k1', k2', fun g hg e => e.elim (k3 g hg) (fun e => by have := (k2.lt g hg).2; omega)⟩
/-- A move is put behind the others. -/
theorem ThI.app {w : World} {kb rb : Nat} {TV : Array Value} {y : Yd} {Y : YS} {C mb : Nat} {ds : List Nat} {l : List MV} {Fb : Nat → Prop} {W w8 : World} {o : Obj} {ve v8 : Value} {m : MV} (h : ThI w kb rb TV y Y C mb ds l Fb W) (hC : ∀ b, C ≤ b → ¬ y.M b ∧ b ≠ y.u.g ∧ y.u.w0.heap.size ≤ b) (hF : ∀ b, Fb b → b < W.heap.size)
    (k1 : W.heap[mb]? = some (.cells #[ve] 36 (0, 0))) (k2 : W.ownsRow C 56 2 ve l.length (mvF l)) (k3 : ∀ g, ve.ownBlock = some g → ¬ Fb g)
    (hg : (W.alloc o).grownBy w8 ve.ownBlock) (ho : w8.ownsRow C 56 2 v8 (l.length + 1) (mvF l ++ [.int .u8 (m.kd : Int), .int .i64 m.n])) (hat : v8.ownBlock = ve.ownBlock ∨ v8.ownBlock = some (W.alloc o).heap.size) :
    w8.heap[mb]? = some (.cells #[ve] 36 (0, 0)) ∧ ∀ B, KeepsFrom B W (w8.setCell ⟨mb, 0, none⟩ v8) ∧ (KeepF Fb W (w8.setCell ⟨mb, 0, none⟩ v8) ∧ W.heap.size ≤ (w8.setCell ⟨mb, 0, none⟩ v8).heap.size) ∧ ThI w kb rb TV y Y C mb ds (l ++ [m]) Fb (w8.setCell ⟨mb, 0, none⟩ v8) := by
  have hmbW := heap_lt k1
  have hnm : ∀ g, ve.ownBlock = some g → C ≤ g ∧ g ≠ mb := fun g hg' => ⟨(k2.lt g hg').1, by have := (k2.lt g hg').1; have := h.mo.2.2.2; omega⟩
  have L1 : Only (fun b => ve.ownBlock = some b) W w8 := ((Only.refl _ W).alloc _).trans (Only.grown hg (fun g hg' => .inr hg'))
  have L2 : Only (fun b => b = mb ∨ ve.ownBlock = some b) W (w8.setCell ⟨mb, 0, none⟩ v8) := (L1.mono fun i _ e => .inr e).set _ _ (.inr (.inl rfl))
  have h8 : w8.heap[mb]? = some (.cells #[ve] 36 (0, 0)) := (L1.block _ hmbW (fun e => (hnm _ e).2 rfl)).trans k1
  have hnc : ∀ k o', W.heap[k]? = some o' → o'.isCells = false → ¬ (k = mb ∨ ve.ownBlock = some k) := fun k o' hk hc e => by
    rcases e with rfl | e
    · rw [k1] at hk; cases hk; simp [Obj.isCells] at hc
    · rcases k2.2 with ⟨h0, _⟩ | ⟨g, cap, cur, hv, hb', hgc, r⟩
      · rw [h0] at e; cases e
      · rw [hv] at e; cases e; rw [hgc] at hk; cases hk; simp [Obj.isCells] at hc
  refine ⟨h8, fun B => ⟨⟨L2.size, fun k o' hk hko hoc => (L2.block k (Array.getElem?_eq_some_iff.1 hko).1 (hnc k o' hko hoc)).trans hko⟩, ⟨fun b o' hb hbo => (L2.block b (Array.getElem?_eq_some_iff.1 hbo).1 (fun e => by
    rcases e with rfl | e
    · exact h.fm hb
    · exact k3 b e hb)).trans hbo, L2.size⟩, ?_⟩⟩
  have hS := heap_setCell_same w8 mb 0 _ _ v8 h8
  refine ⟨h.g.own (fun b hb => by
    rcases hb with rfl | e
    · exact ⟨h.mo.1, h.mo.2.1, h.mo.2.2.1⟩
    · exact hC b (hnm b e).1) L2, Nat.le_trans h.c L2.size, h.fm, h.mo, fun D hD => (L2.block D (Array.getElem?_eq_some_iff.1 (h.ds D hD)).1 (hnc D _ (h.ds D hD) rfl)).trans (h.ds D hD), v8, hS, ?_, fun g hg' => ?_⟩
  · rw [mvF_snoc, List.length_append]
    refine own_keep ho (fun k cs t fr hk hkc => (heap_setCell_other _ _ _ _ (fun e => ?_)).trans hkc)
    have h1 := (ho.lt k hk).1
    have h2 := h.mo.2.2.2
    have e' : k = mb := e
    omega
  · rcases hat with e | e
    · exact k3 g (by rw [← e]; exact hg')
    · rw [e] at hg'
      cases hg'
      intro hb
      have h1 := hF _ hb
      have h2 : (W.alloc o).heap.size = W.heap.size + 1 := Array.size_push _
      omega
theorem yfine_on {T : Tab} {Y : YS} {d : Nat} (hc : checkE T = 0) (hT : TOk T) (hd : d ≤ 100) (h : YFine T Y) : ∀ k, YFine T (onFrames T d Y k)
  | 0 => h
  | k + 1 => (yfine_on hc hT hd h k).frame hc hT hd _
theorem own_slice2 {w : World} {B e n : Nat} {v : Value} {xs : List Value} (h : w.ownsRow B e 2 v (n + 1) xs) : ∃ g cap, v = .slice (some ⟨g, 0, none⟩) (n + 1) cap := by
  rcases h.2 with ⟨_, h0⟩ | ⟨g, cap, cur, rfl, _⟩
  · exact absurd h0 (by omega)
  · exact ⟨g, cap, rfl⟩
theorem infoMv : (Try.prog.info? 56).map (fun i => (i.zero, i.size, i.bytes)) = some (some (.agg #[.int .u8 0, .int .i64 0]), 2, 16) := by kernel_rfl
/-- A move is appended. -/
theorem wp_app_mv {F : Fence} {n' : Nat} {ops : Array Oper} {rest : List Oper} {o : Oper} {a : Act} {Q : Exit → Act → World → Prop} {W : World} {kd ni : Int} (hgd : o.guard = none) (s x : Operand)
    (ho : o.op = .call { callee := .builtin .append, args := #[s, x], argTypes := #[36, 36] }) (C : Nat) (ve : Value) (k : Nat) (xs : List Value) (hs : a.eval s = ve) (hx : a.eval x = .slice (some ⟨W.heap.size, 0, none⟩) 1 1)
    (hown : W.ownsRow C 56 2 ve k xs) (hk : k ≤ 1000) (hC : C ≤ W.heap.size)
    (h : ∀ v' w', w'.ownsRow C 56 2 v' (k + 1) (xs ++ [.int .u8 kd, .int .i64 ni]) → (W.alloc (.cells #[.int .u8 kd, .int .i64 ni] 56)).grownBy w' ve.ownBlock → (v'.ownBlock = ve.ownBlock ∨ v'.ownBlock = some (W.alloc (.cells #[.int .u8 kd, .int .i64 ni] 56)).heap.size) → wpListIn F n' Try.prog ops Q rest (a.put o.dst v') w') :
    wpListIn F n' Try.prog ops Q (o :: rest) a (W.alloc (.cells #[.int .u8 kd, .int .i64 ni] 56)) := by
  obtain ⟨i0, hi, hz0, hz1, hz2⟩ := tb_info infoMv
  have HNW : (W.alloc (.cells #[.int .u8 kd, .int .i64 ni] 56)).heap[W.heap.size]? = some (.cells #[.int .u8 kd, .int .i64 ni] 56 (0, 0)) := heap_alloc_new _ _
  have HAS : (W.alloc (.cells #[.int .u8 kd, .int .i64 ni] 56)).heap.size = W.heap.size + 1 := Array.size_push _
  refine wpListIn_append_own_at _ hgd s x 36 ho C 56 i0 (.agg #[.int .u8 0, .int .i64 0]) 2 16 Try.underlying36 hi hz0 hz1 hz2 rfl (by decide) ve k xs hs (hown.alloc _) ⟨W.heap.size, 0, none⟩ 1 1 [.int .u8 kd, .int .i64 ni] hx rfl (fun j u hu => ?_) (fun u hu => ?_) (by unfold maxLen; omega) (by omega) (by omega) fun v' w' h1 h2 _ h4 => h v' w' h1 h2 h4
  · match j, hu with
    | 0, hu => simp at hu; subst hu; exact cell_row (j := 0) HNW rfl
    | 1, hu => simp at hu; subst hu; exact cell_row (j := 1) HNW rfl
    | j + 2, hu => simp at hu
  · rcases List.mem_cons.1 hu with rfl | hu
    · rfl
    · rcases List.mem_cons.1 hu with rfl | hu
      · rfl
      · cases hu
set_option maxRecDepth 100000 in
set_option maxHeartbeats 32000000 in
theorem ythrough_in (n : Nat) (v vl : Value) (T : Tab) (d : Int) (ls : List (List MV)) (w : World) (hT : TabAt w v T) (hsm : TSm T) (hd : i64ok d) (hl : MssAt w vl ls) :
    CallsIn Fence.wide (n + 4) Try.prog 4 #[v, .int .i64 d, vl] w fun e w' => e = .returned (.bool true) ∧ Below w.heap.size w w' := by
  have HT0 := Lib.hid hT
  obtain ⟨⟨vp, vr, rfl, hP, hr⟩, _, _⟩ := hT
  obtain ⟨a, c, C0, rfl, hlc, hcm, _⟩ := hr.at_
  obtain ⟨⟨va, vc, rfl, hvl, hvm, _⟩, _⟩ := id hP
  have HLS := Lib.hid hl
  obtain ⟨⟨la, lc, V, rfl, hl1, hl2, hls, hlv⟩, hz1, hz2⟩ := hl
  obtain ⟨w1, hw1⟩ : ∃ w1, w1 = (w.alloc (.cells #[.int .i64 T.tracks, .slice va T.pts.length vc, .int .i64 T.sigs, .slice a T.rts.length c] 25)).alloc (.cells #[.bool false] 4) := ⟨_, rfl⟩
  have hz : (w.alloc (.cells #[.int .i64 T.tracks, .slice va T.pts.length vc, .int .i64 T.sigs, .slice a T.rts.length c] 25)).heap.size = w.heap.size + 1 := Array.size_push _
  have B1 : Hid (Below w.heap.size w w1) := by rw [hw1]; exact (alloc_below _ _).alloc (alloc_below w (.cells #[.int .i64 T.tracks, .slice va T.pts.length vc, .int .i64 T.sigs, .slice a T.rts.length c] 25)).size _
  have K1 : Hid (w1.heap[w.heap.size]? = some (.cells #[.int .i64 T.tracks, .slice va T.pts.length vc, .int .i64 T.sigs, .slice a T.rts.length c] 25 (0, 0))) := by rw [hw1]; exact tb_kept (heap_alloc_new _ _) (alloc_below _ _)
  have R1 : Hid (w1.heap[w.heap.size + 1]? = some (.cells #[.bool false] 4 (0, 0))) := by rw [hw1, ← hz]; exact heap_alloc_new _ _
  have HW1 := Lib.hid hw1; have HZ1 := Lib.hid hz
  have HSM := Lib.hid hsm; have HD := Lib.hid hd; have HP := Lib.hid hP; have HR := Lib.hid hr
  have HHO : Hid (∀ n, n < T.rts.length → (T.rts.getD n rt0).hold < 65536) := fun n hn => by
    obtain ⟨_, _, _, _, _, _, _, hR⟩ := hr.at_
    exact (hR n hn).holdOk
  have HSL := Lib.hid hls; have HLV := Lib.hid hlv
  have hd0 := hd.1; have hd1 := hd.2
  unfold maxLen at hl2 hcm hvm
  clear hw1 hP hr hls hlv hz2 hsm hd hz
  refine callsIn_of_wp_marks Try.func4 rfl trivial ?_ rfl
  simp only [Try.ntmps4, List.size_toArray, List.length_cons, List.length_nil, Nat.reduceAdd, Nat.reduceSub, Array.replicate_succ, Array.replicate_zero, List.push_toArray, List.append_toArray, List.nil_append, List.cons_append]
  gi_upto_region 1 with (fail)
  rw [← HW1.out]
  obtain ⟨kb, hkb⟩ : ∃ b, b = w.heap.size := ⟨_, rfl⟩
  have HKB := Lib.hid hkb
  rw [← hkb] at K1 R1 ⊢
  obtain ⟨rb, hrb⟩ : ∃ b, b = kb + 1 := ⟨_, rfl⟩
  have HRB := Lib.hid hrb
  rw [← hrb] at R1 ⊢
  clear hkb hrb HW1 HZ1
  gi_wp2_with (fail)
  refine ⟨trivial, (callsIn_wide.2 (yworks_any w1)).mono ?_⟩
  rintro e w2 ⟨rfl, hb⟩
  have B2 : Hid (Below w.heap.size w w2) := B1.out.trans (hb.mono B1.out.size)
  have K2 := Lib.hid (tb_kept K1.out hb); have R2 := Lib.hid (tb_kept R1.out hb)
  clear hb B1 K1 R1
  have c0 := cell_row (j := 0) K2.out rfl; have c1 := cell_row (j := 1) K2.out rfl; have c2 := cell_row (j := 2) K2.out rfl; have c3 := cell_row (j := 3) K2.out rfl
  have lk := heap_lt K2.out
  have HHV := Lib.hid (yheavy_any (.agg #[.int .i64 T.tracks, .slice va T.pts.length vc, .int .i64 T.sigs, .slice a T.rts.length c]) (.slice la ls.length lc) T ls w2 (HT0.out.below B2.out) HSM.out (HLS.out.below B2.out))
  have HHB := Lib.hid (heavy_no (T := T) (ls := ls))
  generalize heavyB T ls = F at *
  gi_wp2_with (fail)
  refine ⟨trivial, (callsIn_wide.2 (HHV.out)).mono ?_⟩
  rintro e w3 ⟨rfl, hb⟩
  have B3 : Hid (Below w.heap.size w w3) := B2.out.trans (hb.mono B2.out.size)
  have K3 := Lib.hid (tb_kept K2.out hb); have R3 := Lib.hid (tb_kept R2.out hb)
  clear hb B2 K2 HHV c0 c1 c2 c3 lk R2
  cases F
  case true =>
    gi_wp2_with (fail)
    refine ⟨trivial, (callsIn_wide.2 (yworks_any w3)).mono ?_⟩
    rintro e wE ⟨rfl, hbE⟩
    have BE := Lib.hid (B3.out.trans (hbE.mono (B3.out).size))
    have RE := tb_kept R3.out hbE
    clear hbE
    have z0 := cell_row (j := 0) RE rfl
    have zf0 : wE.frozen? ⟨rb, 0, none⟩ = false := frozen_of_row _ _ _ _ _ RE
    have lr := heap_lt RE
    clear RE
    gi_wp2_with (fail)
    exact ⟨.bool true, by simp [results, Try.f4, go_sem, z0, lr], rfl, BE.out.setCell (p := ⟨rb, 0, none⟩) (by have := HKB.out; have := HRB.out; show _ ≤ rb; omega) _⟩
  case false =>
  obtain ⟨hgr, htot⟩ := HHB.out rfl
  have HSS := Lib.hid (small_of hgr)
  have HTT := Lib.hid htot
  clear hgr htot HHB
  have c0 := cell_row (j := 0) K3.out rfl; have c1 := cell_row (j := 1) K3.out rfl; have c2 := cell_row (j := 2) K3.out rfl; have c3 := cell_row (j := 3) K3.out rfl
  have lk := heap_lt K3.out
  have HN := Lib.hid (ynew_any (.agg #[.int .i64 T.tracks, .slice va T.pts.length vc, .int .i64 T.sigs, .slice a T.rts.length c]) T d w3 (HT0.out.below B3.out) HD.out HSS.out.big (fun h => tok_of h HHO.out))
  gi_wp2_with (fail)
  refine ⟨trivial, (callsIn_wide.2 (HN.out)).mono ?_⟩
  rintro e w4 ⟨hb, hif⟩
  have B4 : Hid (Below w.heap.size w w4) := B3.out.trans (hb.mono B3.out.size)
  have K4 := Lib.hid (tb_kept K3.out hb); have R4 := Lib.hid (tb_kept R3.out hb)
  clear hb HN c0 c1 c2 c3 lk
  by_cases hE : checkE T = 0
  case neg =>
    rw [if_neg hE] at hif
    subst hif
    have t2 : (checkE T != 0) = true := by simpa using hE
    clear hE
    generalize checkE T = E at *
    gi_wp2_with (fail)
    refine ⟨trivial, (callsIn_wide.2 (yworks_any w4)).mono ?_⟩
    rintro e wE ⟨rfl, hbE⟩
    have BE := Lib.hid (B4.out.trans (hbE.mono (B4.out).size))
    have RE := tb_kept R4.out hbE
    clear hbE
    have z0 := cell_row (j := 0) RE rfl
    have zf0 : wE.frozen? ⟨rb, 0, none⟩ = false := frozen_of_row _ _ _ _ _ RE
    have lr := heap_lt RE
    clear RE
    gi_wp2_with (fail)
    exact ⟨.bool true, by simp [results, Try.f4, go_sem, z0, lr], rfl, BE.out.setCell (p := ⟨rb, 0, none⟩) (by have := HKB.out; have := HRB.out; show _ ≤ rb; omega) _⟩
  case pos =>
  rw [if_pos hE] at hif
  by_cases hd2 : 0 ≤ d ∧ d ≤ 100
  case neg =>
    rw [if_neg hd2] at hif
    subst hif
    clear hE hd2
    gi_wp2_with (fail)
    refine ⟨trivial, (callsIn_wide.2 (yworks_any w4)).mono ?_⟩
    rintro e wE ⟨rfl, hbE⟩
    have BE := Lib.hid (B4.out.trans (hbE.mono (B4.out).size))
    have RE := tb_kept R4.out hbE
    clear hbE
    have z0 := cell_row (j := 0) RE rfl
    have zf0 : wE.frozen? ⟨rb, 0, none⟩ = false := frozen_of_row _ _ _ _ _ RE
    have lr := heap_lt RE
    clear RE
    gi_wp2_with (fail)
    exact ⟨.bool true, by simp [results, Try.f4, go_sem, z0, lr], rfl, BE.out.setCell (p := ⟨rb, 0, none⟩) (by have := HKB.out; have := HRB.out; show _ ≤ rb; omega) _⟩
  case pos =>
  rw [if_pos hd2] at hif
  obtain ⟨y, rfl, hY, hyT, hyd, hyw, _⟩ := hif
  have htk := tok_of hE HHO.out
  have hyd1 : y.d ≤ 100 := by omega
  have hx : YCtx y := ⟨by rw [hyT]; exact hE, by rw [hyT]; exact htk.1, by rw [hyT]; exact tracks_of hE, hyd1, by rw [hyT]; exact htk.2⟩
  have G4 : Hid (GwAt w kb rb #[.int .i64 T.tracks, .slice va T.pts.length vc, .int .i64 T.sigs, .slice a T.rts.length c] y ys0 w4) := ⟨⟨K4.out, hY, B4.out, by rw [hyw]; exact B3.out.size, by rw [hyw]; exact heap_lt K3.out⟩, R4.out, by rw [hyw]; exact heap_lt R3.out, by have := HKB.out; have := HRB.out; omega⟩
  have HX := Lib.hid hx; have HYT := Lib.hid hyT; have HCE := Lib.hid hE; have HTO := Lib.hid htk.1; have HN0 := Lib.hid htk.2
  clear hE hd2 hY hyT hyd hyw htk hyd1 hx K3 K4 B3 B4 R3 R4
  have htl := Nat.le_trans (totN_len ls) HTT.out
  have HFM : Hid (∀ W Y ms mv, YdAt W y Y → YFine T Y → MvsAt W mv ms → (∀ b off n c, mv = .slice (some ⟨b, off, none⟩) n c → 0 < ms.length → ¬ y.M b) → ms.length ≤ 1000 → Calls Try.prog 14 #[.pointer (some ⟨y.g, 0, none⟩), mv] W fun e w' =>
      (∃ ve, e = .returned (.tuple #[(frameY T y.d Y ms).L.val, ve]) ∧ IntsAt w' ve (intE (errsY T Y ms)) ∧ ∀ b o k c, ve = .slice (some ⟨b, o, none⟩) k c → W.heap.size ≤ b) ∧ TurnY y W (frameY T y.d Y ms) w') := fun W Y ms mv h1 h2 h3 h4 h5 => by
    have := yframe_any y Y ms mv W h1 HX.out.hc HX.out.tok HX.out.tk HX.out.d (by rw [HYT.out]; exact h2) h3 h4 h5
    rw [HYT.out] at this
    exact this
  have G40 : Hid (GwAt w kb rb #[.int .i64 T.tracks, .slice va T.pts.length vc, .int .i64 T.sigs, .slice a T.rts.length c] y (framesY T y.d ys0 (ls.take 0)) w4) := G4.out
  clear G4
  gi_upto_region 9 with (fail)
  gi_loopw [39] (fun i wr => ∃ k : Nat, k ≤ ls.length ∧ i = .int .i64 k ∧ GwAt w kb rb #[.int .i64 T.tracks, .slice va T.pts.length vc, .int .i64 T.sigs, .slice a T.rts.length c] y (framesY T y.d ys0 (ls.take k)) wr) (fun i _ => ls.length - (intOf i).toNat)
  case atStart => exact ⟨0, Nat.zero_le _, rfl, G40.out⟩
  case round =>
    clear G40
    obtain ⟨k, hk, rfl, h1⟩ := hrel
    have G5 := Lib.hid h1
    clear h1
    obtain ⟨w5, rfl⟩ : ∃ w5 : World, w5 = wr := ⟨_, rfl⟩
    have HFI := Lib.hid (yfine_frames (d := y.d) HCE.out HTO.out HX.out.d (ls.take k) ys0 (yfine0 T))
    by_cases hlt : k < ls.length
    case pos =>
      obtain ⟨lb, loff, rfl, hlb, hlx⟩ := (HSL.out.below G5.out.l.b).at (by omega)
      have x0 := hlx k hlt
      have HMV := Lib.hid (HLV.out k hlt)
      obtain ⟨⟨xa, xc, hxv, _⟩, _⟩ := HMV.out
      have HTS := Lib.hid (framesY_snoc T y.d (ls.getD k []) (ls.take k) ys0)
      have hts := take_snoc ([] : List MV) hlt
      rw [← hts] at HTS
      have hxl := Nat.le_trans (totN_get hlt) HTT.out
      rw [hxv] at x0 HMV
      clear hlx hxv hts
      obtain ⟨ms, hms⟩ : ∃ x, x = ls.getD k [] := ⟨_, rfl⟩
      rw [← hms] at HMV HTS hxl x0
      clear hms
      have HFR := Lib.hid (HFM.out w5 _ ms (.slice xa ms.length xc) G5.out.l.yd HFI.out (HMV.out.below G5.out.l.b) (mvs_off HMV.out G5.out.l.yd G5.out.l.ge) (by omega))
      rw [← HTS.out] at HFR
      gi_wp2_with (fail)
      refine ⟨trivial, (callsIn_wide.2 (HFR.out)).mono ?_⟩
      rintro e w6 ⟨⟨ve, rfl, _, _⟩, hk6⟩
      have G6 := Lib.hid (G5.out.turn hk6)
      clear hk6 x0 hlb HFR G5
      gi_wp2_with (fail)
      go_roundw
      case rel => exact ⟨k + 1, by omega, by go_num, G6.out⟩
      case measure => simp [intOf]; omega
    case neg =>
    obtain rfl : k = ls.length := by omega
    rw [List.take_length] at G5 HFI
    obtain ⟨Y, hY⟩ : ∃ x, x = framesY T y.d ys0 ls := ⟨_, rfl⟩
    rw [← hY] at G5 HFI
    clear hY
    obtain ⟨N, hN⟩ : ∃ m, m = T.rts.length := ⟨_, rfl⟩
    have HNN := Lib.hid hN
    have c3 := cell_row (j := 3) G5.out.l.k rfl
    have lk := heap_lt G5.out.l.k
    gi_upto_region 15 with (fail)
    clear c3 lk
    have HN16 := Lib.hid HTO.out.n
    rw [← hN]
    clear hN
    have hN16 : N ≤ 16 := by rw [HNN.out]; exact HN16.out
    have HML : Hid (∀ k, k ≤ N → maxTr T k ≤ 24) := fun k hk => maxTr_le T HTO.out (by rw [← HNN.out]; exact hk)
    gi_loopw [50, 11] (fun i mv wr => ∃ k : Nat, k ≤ N ∧ i = .int .i64 k ∧ mv = .int .i64 (maxTr T k : Int) ∧ GwAt w kb rb #[.int .i64 T.tracks, .slice va T.pts.length vc, .int .i64 T.sigs, .slice a T.rts.length c] y Y wr) (fun i _ _ => N - (intOf i).toNat)
    case atStart => exact ⟨0, Nat.zero_le _, rfl, rfl, G5.out⟩
    case round =>
      clear G5
      obtain ⟨k, hk, rfl, rfl, h1⟩ := hrel
      have G5 := Lib.hid h1
      clear h1
      obtain ⟨w5, rfl⟩ : ∃ w5 : World, w5 = wr := ⟨_, rfl⟩
      have hmk := HML.out k hk
      by_cases hlt : k < N
      case pos =>
        obtain ⟨b, off, C, e, hb, hc, hR⟩ := HR.out.cells (i := k) (by rw [← HNN.out]; exact hlt)
        cases e
        have hbl := G5.out.l.b
        have x0 := (hbl.cell hb).trans (hc 0 (by omega)); have x1 := (hbl.cell hb).trans (hc 1 (by omega)); have x2 := (hbl.cell hb).trans (hc 2 (by omega)); have x3 := (hbl.cell hb).trans (hc 3 (by omega)); have x4 := (hbl.cell hb).trans (hc 4 (by omega)); have x5 := (hbl.cell hb).trans (hc 5 (by omega))
        rw [Nat.add_zero] at x0
        have lr : b < w5.heap.size := Nat.lt_of_lt_of_le hb hbl.size
        have HMX : Hid (maxTr T (k + 1) = max (maxTr T k) (T.rts.getD k rt0).tr.length) := rfl
        have hml1 := HML.out (k + 1) hlt
        rw [HMX.out] at hml1
        obtain ⟨A, hA⟩ : ∃ A, A = T.rts.getD k rt0 := ⟨_, rfl⟩
        rw [← hA] at hR HMX hml1
        obtain ⟨⟨ta, tc, ht, ht1, ht2, _⟩, _⟩ := id hR.tr
        obtain ⟨⟨pa, pc, hp, _⟩, _⟩ := id hR.pts
        obtain ⟨⟨ca, cc, hcn, _⟩, _⟩ := id hR.con
        rw [hR.sig] at x0; rw [ht] at x1; rw [hp] at x2; rw [hR.app] at x3; rw [hcn] at x4; rw [hR.hold] at x5
        obtain ⟨w6, hw6⟩ : ∃ W, W = w5.alloc (.cells #[.int .i64 A.sig, .slice ta A.tr.length tc, .slice pa A.pts.length pc, .int .i64 A.app, .slice ca A.con.length cc, .int .u16 (A.hold : Int)] 41) := ⟨_, rfl⟩
        have B56 : Hid (Below w5.heap.size w5 w6) := by rw [hw6]; exact alloc_below _ _
        have Q6 : Hid (w6.heap[w5.heap.size]? = some (.cells #[.int .i64 A.sig, .slice ta A.tr.length tc, .slice pa A.pts.length pc, .int .i64 A.app, .slice ca A.con.length cc, .int .u16 (A.hold : Int)] 41 (0, 0))) := by rw [hw6]; exact heap_alloc_new _ _
        have HW6 := Lib.hid hw6
        have G6 := Lib.hid (G5.out.below B56.out)
        clear hw6 hA hR hc hb hbl ht hp hcn
        gi_upto_region 17 with (fail)
        rw [← HW6.out]
        obtain ⟨qb, hqb⟩ : ∃ b, b = w5.heap.size := ⟨_, rfl⟩
        rw [← hqb] at Q6 ⊢
        clear hqb HW6 x0 x1 x2 x3 x4 x5 lr B56 G5
        have q1 := cell_row (j := 1) Q6.out rfl
        have lq := heap_lt Q6.out
        obtain ⟨m, hm⟩ : ∃ m, m = maxTr T k := ⟨_, rfl⟩
        rw [← hm] at hmk hml1 HMX ⊢
        generalize A.tr.length = L at *
        clear hm
        gi_wp2_with (fail)
        go_roundw
        case rel => exact ⟨k + 1, by omega, by go_num, by
          rw [HMX.out]
          congr 1
          first | (split <;> omega) | omega, G6.out⟩
        case measure => simp [intOf]; omega
      case neg =>
      obtain rfl : k = N := by omega
      have hmk := HML.out k (Nat.le_refl _)
      have HMG : Hid (∀ n, n < T.rts.length → (T.rts.getD n rt0).tr.length ≤ maxTr T k) := fun n hn => maxTr_ge T (by rw [HNN.out]; exact hn)
      obtain ⟨lo, hlo⟩ : ∃ m, m = maxTr T k := ⟨_, rfl⟩
      rw [← hlo] at hmk HMG ⊢
      clear hlo
      gi_upto_region 20 with (fail)
      have G50 : Hid (GwAt w kb rb #[.int .i64 T.tracks, .slice va T.pts.length vc, .int .i64 T.sigs, .slice a T.rts.length c] y (onFrames T y.d Y 0) w5) := G5.out
      clear G5
      refine wpIn_loop (fun a' W => ∃ (v14 v17 v18 v19 v20 v64 v65 v66 v86 v87 v88 v89 v90 v91 v92 v93 v94 v95 v96 v97 v98 v99 v100 v101 : Value), ∃ (ds : List Nat) (q : Nat), (q ≤ 2 * lo + 2 ∧ GwAt w kb rb #[.int .i64 T.tracks, .slice va T.pts.length vc, .int .i64 T.sigs, .slice a T.rts.length c] y (onFrames T y.d Y q) W ∧ (∀ D ∈ ds, W.heap[D]? = some (.deferred (some [])) ∧ ¬ y.M D ∧ D ≠ rb ∧ w.heap.size ≤ D) ∧ ds.Nodup) ∧ a' = ⟨#[Value.agg #[Value.int IntKind.i64 T.tracks, Value.slice va T.pts.length vc, Value.int IntKind.i64 T.sigs, Value.slice a k c], Value.int IntKind.i64 d, Value.slice la ls.length lc, Value.pointer (some { block := kb, off := 0 }), undef, undef, Value.pointer (some { block := rb, off := 0 }), Value.pointer (some { block := y.g, off := 0 }), Value.int IntKind.i64 0, undef, u10, Value.int IntKind.i64 ↑lo, undef, u13, v14, undef, undef, v17, v18, v19, v20, undef, Value.bool true, Value.bool false, Value.agg #[Value.int IntKind.i64 T.tracks, Value.slice va T.pts.length vc, Value.int IntKind.i64 T.sigs, Value.slice a k c], Value.slice la ls.length lc, Value.bool false, undef, Value.tuple #[Value.pointer (some { block := y.g, off := 0 }), Value.int IntKind.i64 0], Value.agg #[Value.int IntKind.i64 T.tracks, Value.slice va T.pts.length vc, Value.int IntKind.i64 T.sigs, Value.slice a k c], Value.int IntKind.i64 d, Value.tuple #[Value.pointer (some { block := y.g, off := 0 }), Value.int IntKind.i64 0], Value.pointer (some { block := y.g, off := 0 }), Value.int IntKind.i64 0, Value.int IntKind.i64 0, Value.bool false, undef, Value.slice la ls.length lc, Value.int IntKind.i64 ↑ls.length, Value.int IntKind.i64 ↑ls.length, Value.bool false, u41, u42, u43, u44, u45, u46, Value.pointer (some { block := kb, off := 3 }), Value.slice a k c, Value.int IntKind.i64 ↑k, Value.int IntKind.i64 ↑k, Value.bool false, u52, u53, u54, u55, u56, u57, u58, u59, Value.int IntKind.i64 ↑lo, Value.int IntKind.i64 (2 * ↑lo), Value.int IntKind.i64 (2 * ↑lo + 2), Value.int IntKind.i64 ↑q, v64, v65, v66, undef, undef, undef, undef, undef, undef, undef, undef, undef, undef, undef, undef, undef, undef, undef, undef, undef, undef, undef, v86, v87, v88, v89, v90, v91, v92, v93, v94, v95, v96, v97, v98, v99, v100, v101, undef, undef, undef, undef, undef, undef, undef, undef, undef, undef, undef, undef, undef, undef, undef, undef], marks ds⟩) (fun a' _ => 2 * lo + 2 - (intOf (a'.tmps.getD 63 undef)).toNat) ⟨_, _, _, _, _, _, _, _, _, _, _, _, _, _, _, _, _, _, _, _, _, _, _, _, [], 0, ⟨Nat.zero_le _, G50.out, fun D hD => absurd hD (by simp), List.nodup_nil⟩, rfl⟩ ?_
      clear G50
      rintro a0 w5 ⟨v14, v17, v18, v19, v20, v64, v65, v66, v86, v87, v88, v89, v90, v91, v92, v93, v94, v95, v96, v97, v98, v99, v100, v101, ds, q, ⟨hq, hg5, hds5, hnd⟩, rfl⟩
      have G5 := Lib.hid hg5; have DS5 := Lib.hid hds5; have ND := Lib.hid hnd
      clear hg5 hds5 hnd
      by_cases hlt : q < 2 * lo + 2
      case neg =>
        obtain rfl : q = 2 * lo + 2 := by omega
        have t63 : decide (((2 * lo + 2 : Nat) : Int) < 2 * (lo : Int) + 2) = false := decide_eq_false (by omega)
        have HGN : Hid (∀ n, n < T.rts.length → ((onFrames T y.d Y (2 * lo + 2)).tn n).is = false ∧ ((onFrames T y.d Y (2 * lo + 2)).A.R n).ph ≠ 3) := fun n hn => onFrames_gone HCE.out HTO.out HFI.out.inv hn (by have := HMG.out n hn; omega)
        obtain ⟨Z, hZ⟩ : ∃ x, x = onFrames T y.d Y (2 * lo + 2) := ⟨_, rfl⟩
        rw [← hZ] at HGN G5
        clear hZ
        gi_wp2_with (fail)
        refine ⟨trivial, (callsIn_wide.2 (trains_any _ (.inr ⟨y.g, rfl⟩) w5)).mono ?_⟩
        rintro e w6 ⟨rfl, hbx, hb⟩
        have G6 := Lib.hid (G5.out.below hb)
        have DS6 : Hid (∀ D ∈ ds, w6.heap[D]? = some (.deferred (some [])) ∧ ¬ y.M D ∧ D ≠ rb ∧ w.heap.size ≤ D) := fun D hD => ⟨kept (DS5.out D hD).1 hb, (DS5.out D hD).2⟩
        obtain ⟨tb, htb⟩ : ∃ b, b = w5.heap.size := ⟨_, rfl⟩
        rw [← htb] at hbx ⊢
        have hN7 : y.u.T.rts.length = k := by rw [HYT.out, HNN.out]
        have HQ := trains1_in (n + 4 - 1) y Z tb w6 G6.out.l.yd (by omega) (by rw [HYT.out]; exact HN0.out) hbx
        rw [hN7, onIdx_none (m := k) (fun n hn => (HGN.out n (by rw [← HNN.out]; exact hn)).1)] at HQ
        have HDL : Hid (∀ D ∈ ds, D < w6.heap.size) := fun D hD => (Array.getElem?_eq_some_iff.1 (DS6.out D hD).1).1
        have HRL : Hid (rb < w6.heap.size) := heap_lt G6.out.r
        have HML9 : Hid (∀ b, y.M b → b < w6.heap.size) := fun b hb => (G6.out.l.M b hb).2
        have HWL : Hid (w.heap.size ≤ w6.heap.size) := G6.out.l.b.size
        clear hb htb G5 DS5
        gi_wp2_with (fail)
        refine rangeFunc_c (ps := #[104]) rfl (by omega) (gf := 27) (lb := #[.pointer (some ⟨tb, 0, none⟩)]) rfl trivial (enters_of Try.func27 (by kernel_rfl) rfl)
          (Kb := fun _ => False) (N := 0) (fun b hb => hb.elim) HQ (fun _ => rfl)
          (fun x Fb W => Below w6.heap.size w6 W) (fun _ _ _ _ => False)
          (fun Fb s W W' row h hg hr => h.grown hg h.size (fun r e => (hr r e).1)) (fun _ _ s W W' row h _ _ => h.elim)
          (fun s Fb A W h hb => h.trans (hb.mono h.size)) (fun _ _ _ _ _ h _ => h.elim)
          (fun A hA => hA) ?_ ?assign2 ?body2 ?done2 ?stop2
        case assign2 =>
          intro l x W K hK
          unfold encT
          gi_wp2
          exact hK
        case stop2 => intro D c x Fb W _ _ _ h; exact h.elim
        case body2 => intro l x Fb W hx; exact absurd hx (by omega)
        case done2 =>
          intro D Fb W hD hW hK
          have G7 := Lib.hid (G6.out.below hW)
          have DS7 : Hid (∀ E ∈ D :: ds, W.heap[E]? = some (.deferred (some [])) ∧ ¬ y.M E ∧ E ≠ rb ∧ w.heap.size ≤ E) := fun E hE => by
            rcases List.mem_cons.1 hE with rfl | hE
            · exact ⟨hK, fun h => by have := HML9.out _ h; omega, fun e => by have := HRL.out; omega, Nat.le_trans HWL.out hD⟩
            · exact ⟨kept (DS6.out E hE).1 hW, (DS6.out E hE).2⟩
          have ND7 : Hid ((D :: ds).Nodup) := List.nodup_cons.2 ⟨fun h => by have := HDL.out D h; omega, ND.out⟩
          clear hW hK G6 DS6 HQ hbx hD
          have c3 : W.cell? ⟨kb, 3, none⟩ = some (.slice a k c) := by rw [HNN.out]; exact cell_row (j := 3) G7.out.l.k rfl
          have lk := heap_lt G7.out.l.k
          obtain ⟨w7, rfl⟩ : ∃ x, x = W := ⟨_, rfl⟩
          gi_upto_region 39 with (fail)
          clear c3 lk
          gi_loopw [108] (fun i wr => ∃ j : Nat, j ≤ k ∧ i = .int .i64 j ∧ GwAt w kb rb #[.int .i64 T.tracks, .slice va T.pts.length vc, .int .i64 T.sigs, .slice a T.rts.length c] y Z wr ∧ (∀ E ∈ D :: ds, wr.heap[E]? = some (.deferred (some [])) ∧ ¬ y.M E ∧ E ≠ rb ∧ w.heap.size ≤ E)) (fun i _ => k - (intOf i).toNat)
          case atStart => exact ⟨0, Nat.zero_le _, rfl, G7.out, DS7.out⟩
          case round =>
            clear G7 DS7
            obtain ⟨j, hj, rfl, h1, h2⟩ := hrel
            have G8 := Lib.hid h1; have DS8 := Lib.hid h2
            clear h1 h2
            obtain ⟨w8, rfl⟩ : ∃ w8 : World, w8 = wr := ⟨_, rfl⟩
            by_cases hjl : j < k
            case pos =>
              have HRT := Lib.hid (yroute_any y Z (j : Int) w8 G8.out.l.yd (by omega))
              rw [hN7] at HRT
              have hat : Z.A.at k (j : Int) = Z.A.R j := by unfold AS.at; rw [if_pos ⟨by omega, by omega⟩]; rfl
              rw [hat] at HRT
              have hph := (HGN.out j (by rw [← HNN.out]; exact hjl)).2
              have hp4 := (G8.out.l.yd.au).rlt
              clear hat hp4
              obtain ⟨r, hr⟩ : ∃ r, r = Z.A.R j := ⟨_, rfl⟩
              rw [← hr] at HRT hph
              clear hr
              obtain ⟨ph, tm, us, rl⟩ := r
              unfold RS.val at HRT
              dsimp only at hph HRT
              have hf : ∀ W, (Instr.field 43 (.agg #[.int .u8 (ph : Int), .int .u16 (tm : Int), .int .u32 (us : Int), .int .u32 (rl : Int)]) 0).run Try.prog W = .ok (.int .u8 (ph : Int)) W := fun W => by kernel_rfl
              have tp : ((ph : Int) == 3) = false := by simpa using (show ¬ (ph : Int) = 3 by omega)
              gi_wp2_with (fail)
              refine ⟨trivial, (callsIn_wide.2 (HRT.out)).mono ?_⟩
              rintro e w9 ⟨rfl, hb⟩
              have G9 := Lib.hid (G8.out.below hb)
              have DS9 : Hid (∀ E ∈ D :: ds, w9.heap[E]? = some (.deferred (some [])) ∧ ¬ y.M E ∧ E ≠ rb ∧ w.heap.size ≤ E) := fun E hE => ⟨kept (DS8.out E hE).1 hb, (DS8.out E hE).2⟩
              clear hb HRT G8 DS8
              gi_wp2_with (fail)
              go_roundw
              case rel => exact ⟨j + 1, by omega, by go_num, G9.out, DS9.out⟩
              case measure => simp [intOf]; omega
            case neg =>
              gi_wp2_with (fail)
              refine ⟨trivial, (callsIn_wide.2 (yworks_any w8)).mono ?_⟩
              rintro e w9 ⟨rfl, hb⟩
              have G9 := Lib.hid (G8.out.below hb)
              have DS9 : Hid (∀ E ∈ D :: ds, w9.heap[E]? = some (.deferred (some [])) ∧ ¬ y.M E ∧ E ≠ rb ∧ w.heap.size ≤ E) := fun E hE => ⟨kept (DS8.out E hE).1 hb, (DS8.out E hE).2⟩
              clear hb G8 DS8
              have z0 := cell_row (j := 0) G9.out.r rfl
              have zf0 : w9.frozen? ⟨rb, 0, none⟩ = false := frozen_of_row _ _ _ _ _ G9.out.r
              have lr := heap_lt G9.out.r
              gi_wp2_with (fail)
              have hK16 : ∀ E ∈ D :: ds, (w9.setCell ⟨rb, 0, none⟩ (.bool true)).heap[E]? = some (.deferred (some [])) ∧ w.heap.size ≤ E ∧ E ≠ rb := fun E hE => ⟨(heap_setCell_other _ _ _ _ (by show ¬ _ = _; dsimp only; exact (DS9.out E hE).2.2.1)).trans (DS9.out E hE).1, (DS9.out E hE).2.2.2, (DS9.out E hE).2.2.1⟩
              have hR16 : (w9.setCell ⟨rb, 0, none⟩ (.bool true)).heap[rb]? = some (.cells #[.bool true] 4 (0, 0)) := heap_setCell_same w9 rb 0 _ _ (.bool true) G9.out.r
              have hB16 : Below w.heap.size w (w9.setCell ⟨rb, 0, none⟩ (.bool true)) := G9.out.l.b.setCell (p := ⟨rb, 0, none⟩) (by have := HKB.out; have := HRB.out; show _ ≤ rb; omega) _
              generalize w9.setCell ⟨rb, 0, none⟩ (.bool true) = w16 at *
              clear z0 zf0 lr G9 DS9
              refine leaves_marks (D :: ds) w16 ND7.out hK16 hR16 hB16 hB16.size fun w17 hR17 hB17 => ?_
              have x0 := cell_row (j := 0) hR17 rfl
              have lx := heap_lt hR17
              exact ⟨.bool true, by simp [results, Try.f4, go_sem, x0, lx], rfl, hB17⟩
      case pos =>
      have t63 : decide ((q : Int) < 2 * (lo : Int) + 2) = true := decide_eq_true (by omega)
      obtain ⟨w6, hw6⟩ : ∃ x, x = w5.alloc (.cells #[.slice none 0 0] 36) := ⟨_, rfl⟩
      have B56 : Hid (Below w5.heap.size w5 w6) := by rw [hw6]; exact alloc_below _ _
      have M6 : Hid (w6.heap[w5.heap.size]? = some (.cells #[.slice none 0 0] 36 (0, 0))) := by rw [hw6]; exact heap_alloc_new _ _
      have HW6 := Lib.hid hw6
      have G6 := Lib.hid (G5.out.below B56.out)
      obtain ⟨mb, hmb⟩ : ∃ b, b = w5.heap.size := ⟨_, rfl⟩
      have HMB0 : Hid (¬ y.M mb ∧ mb ≠ y.u.g ∧ y.u.w0.heap.size ≤ mb) := by
        have h1 := heap_lt G5.out.l.yd.au.obj
        have h2 := G5.out.l.yd.au.bel.size
        exact ⟨fun h => by have := (G5.out.l.yd.M_ge _ h).2; omega, by omega, by omega⟩
      have DS6 : Hid (∀ D ∈ ds, w6.heap[D]? = some (.deferred (some []))) := fun D hD => kept (DS5.out D hD).1 B56.out
      have HM5 := Lib.hid hmb
      rw [← hmb] at M6
      clear hw6 hmb B56
      gi_upto_region 22 with (fail)
      rw [← HW6.out, ← HM5.out]
      gi_wp2_with (fail)
      refine ⟨trivial, (callsIn_wide.2 (trains_any _ (.inr ⟨y.g, rfl⟩) w6)).mono ?_⟩
      rintro e w7 ⟨rfl, hbx, hb⟩
      have G7 := Lib.hid (G6.out.below hb)
      have M7 := Lib.hid (kept M6.out hb)
      have DS7 : Hid (∀ D ∈ ds, w7.heap[D]? = some (.deferred (some []))) := fun D hD => kept (DS6.out D hD) hb
      obtain ⟨tb, htb⟩ : ∃ b, b = w6.heap.size := ⟨_, rfl⟩
      rw [← htb] at hbx ⊢
      have HFQ : Hid (YFine T (onFrames T y.d Y q)) := yfine_on HCE.out HTO.out HX.out.d HFI.out q
      obtain ⟨Z, hZ⟩ : ∃ x, x = onFrames T y.d Y q := ⟨_, rfl⟩
      have HZZ := Lib.hid hZ
      rw [← hZ] at HFQ G7
      have hN7 : y.u.T.rts.length = k := by rw [HYT.out, HNN.out]
      have HQ := trains1_in (n + 4 - 1) y Z tb w7 G7.out.l.yd (by omega) (by rw [HYT.out]; exact HN0.out) hbx
      rw [hN7] at HQ
      have HC7 : Hid (∀ b, w7.heap.size ≤ b → ¬ y.M b ∧ b ≠ y.u.g ∧ y.u.w0.heap.size ≤ b) := fun b hb => by
        have h1 := heap_lt G7.out.l.yd.au.obj
        have h2 := G7.out.l.yd.au.bel.size
        exact ⟨fun h => by have := (G7.out.l.yd.M_ge _ h).2; omega, by omega, by omega⟩
      have HMO : Hid (¬ y.M mb ∧ mb ≠ y.u.g ∧ y.u.w0.heap.size ≤ mb ∧ mb < w7.heap.size) := ⟨HMB0.out.1, HMB0.out.2.1, HMB0.out.2.2, heap_lt M7.out⟩
      have HDL : Hid (∀ D ∈ ds, D < w7.heap.size) := fun D hD => (Array.getElem?_eq_some_iff.1 (DS7.out D hD)).1
      clear hb hZ htb G6 M6 DS6 G5 HW6
      obtain ⟨C, hCC⟩ : ∃ C, C = w7.heap.size := ⟨_, rfl⟩
      rw [← hCC] at HC7 HMO HDL
      have HML2 : Hid (onMoves Z k = (onIdx Z.tn k).map (trnM Z.tn)) := onMoves_idx Z k
      have HLEN : Hid ((onMoves Z k).length = (onIdx Z.tn k).length) := by show _ = _; rw [HML2.out, List.length_map]
      have ht64 := t63
      gi_wp2_with (fail)
      refine rangeFunc_d (ps := #[67]) rfl (by omega) (gf := 27) (lb := #[.pointer (some ⟨tb, 0, none⟩)]) rfl trivial (enters_of Try.func27 (by kernel_rfl) rfl)
        (Kb := fun _ => False) (N := (onIdx Z.tn k).length) (fun b hb => hb.elim) HQ (fun _ => rfl)
        (fun x Fb W => ThI w kb rb #[.int .i64 T.tracks, .slice va T.pts.length vc, .int .i64 T.sigs, .slice a T.rts.length c] y Z C mb ds ((onMoves Z k).take x) Fb W) (fun _ _ _ _ => False)
        (fun Fb s W W' row h hg hr => h.grown HC7.out HDL.out hg (fun r e => ⟨by rw [hCC]; exact (hr r e).1, (hr r e).2⟩)) (fun _ _ s W W' row h _ _ => h.elim)
        (fun s Fb A W h hb => h.below hb) (fun _ _ _ _ _ h _ => h.elim) (fun s Fb A W h hb => h.below' hb)
        (fun A hA => ⟨G7.out.below hA, by rw [hCC]; exact hA.size, fun e => e.elim, HMO.out, fun D hD => kept (DS7.out D hD) hA, _, kept M7.out hA, ⟨rfl, .inl ⟨rfl, rfl⟩⟩, fun g hg => by cases hg⟩)
        (fun x a' W => ∃ (zb ni tl hd : Nat), a' = ⟨#[Value.agg #[Value.int IntKind.i64 T.tracks, Value.slice va T.pts.length vc, Value.int IntKind.i64 T.sigs, Value.slice a k c], Value.int IntKind.i64 d, Value.slice la ls.length lc, Value.pointer (some { block := kb, off := 0 }), undef, undef, Value.pointer (some { block := rb, off := 0 }), Value.pointer (some { block := y.g, off := 0 }), Value.int IntKind.i64 0, undef, u10, Value.int IntKind.i64 ↑lo, undef, u13, .pointer (some ⟨mb, 0, none⟩), .pointer (some ⟨zb, 0, none⟩), undef, v17, v18, v19, v20, undef, Value.bool true, Value.bool false, Value.agg #[Value.int IntKind.i64 T.tracks, Value.slice va T.pts.length vc, Value.int IntKind.i64 T.sigs, Value.slice a k c], Value.slice la ls.length lc, Value.bool false, undef, Value.tuple #[Value.pointer (some { block := y.g, off := 0 }), Value.int IntKind.i64 0], Value.agg #[Value.int IntKind.i64 T.tracks, Value.slice va T.pts.length vc, Value.int IntKind.i64 T.sigs, Value.slice a k c], Value.int IntKind.i64 d, Value.tuple #[Value.pointer (some { block := y.g, off := 0 }), Value.int IntKind.i64 0], Value.pointer (some { block := y.g, off := 0 }), Value.int IntKind.i64 0, Value.int IntKind.i64 0, Value.bool false, undef, Value.slice la ls.length lc, Value.int IntKind.i64 ↑ls.length, Value.int IntKind.i64 ↑ls.length, Value.bool false, u41, u42, u43, u44, u45, u46, Value.pointer (some { block := kb, off := 3 }), Value.slice a k c, Value.int IntKind.i64 ↑k, Value.int IntKind.i64 ↑k, Value.bool false, u52, u53, u54, u55, u56, u57, u58, u59, Value.int IntKind.i64 ↑lo, Value.int IntKind.i64 (2 * ↑lo), Value.int IntKind.i64 (2 * ↑lo + 2), Value.int IntKind.i64 ↑q, .bool true, .pointer (some ⟨y.g, 0, none⟩), .func (.func 27) #[] #[.pointer (some ⟨tb, 0, none⟩)], .agg #[.int .i64 (ni : Int), .int .i64 (tl : Int), .int .i64 (hd : Int)], undef, undef, undef, undef, undef, undef, undef, undef, undef, undef, undef, undef, undef, undef, undef, undef, undef, undef, v86, v87, v88, v89, v90, v91, v92, v93, v94, v95, v96, v97, v98, v99, v100, v101, undef, undef, undef, undef, undef, undef, undef, undef, undef, undef, undef, undef, undef, undef, undef, undef], []⟩ ∧ ni = (onIdx Z.tn k).getD x 0 ∧ tl = (Z.tn ni).tl ∧ hd = (Z.tn ni).hd ∧ W.heap[zb]? = some (.cells #[.int .i64 (ni : Int), .int .i64 (tl : Int), .int .i64 (hd : Int)] 50 (0, 0)))
        ?hAo ?assign ?body ?done ?stop
      case hAo =>
        intro x a' s W W' row h hg hr
        obtain ⟨zb, ni, tl, hd, e1, e2, e3, e4, e5⟩ := h
        exact ⟨zb, ni, tl, hd, e1, e2, e3, e4, (hg.block _ (heap_lt e5) (fun e => by
          obtain ⟨_, o, ho, hc⟩ := hr _ e.symm
          rw [e5] at ho; cases ho; simp [Obj.isCells] at hc)).trans e5⟩
      case stop => intro D c x Fb W _ _ _ h; exact h.elim
      case assign =>
        intro l x W K hx hK
        unfold encT
        obtain ⟨ni, hni⟩ : ∃ m, m = (onIdx Z.tn k).getD x 0 := ⟨_, rfl⟩
        obtain ⟨tl, htl⟩ : ∃ m, m = (Z.tn ni).tl := ⟨_, rfl⟩
        obtain ⟨hd, hhd⟩ : ∃ m, m = (Z.tn ni).hd := ⟨_, rfl⟩
        rw [← hni, ← htl, ← hhd]
        have HB2 : Hid ((W.alloc (.cells #[.int .i64 (ni : Int), .int .i64 (tl : Int), .int .i64 (hd : Int)] 50)).heap[W.heap.size]? = some (.cells #[.int .i64 (ni : Int), .int .i64 (tl : Int), .int .i64 (hd : Int)] 50 (0, 0))) := heap_alloc_new _ _
        have HKK : Hid (∀ a' W', Below W.heap.size W W' → (∃ (zb ni tl hd : Nat), a' = ⟨#[Value.agg #[Value.int IntKind.i64 T.tracks, Value.slice va T.pts.length vc, Value.int IntKind.i64 T.sigs, Value.slice a k c], Value.int IntKind.i64 d, Value.slice la ls.length lc, Value.pointer (some { block := kb, off := 0 }), undef, undef, Value.pointer (some { block := rb, off := 0 }), Value.pointer (some { block := y.g, off := 0 }), Value.int IntKind.i64 0, undef, u10, Value.int IntKind.i64 ↑lo, undef, u13, .pointer (some ⟨mb, 0, none⟩), .pointer (some ⟨zb, 0, none⟩), undef, v17, v18, v19, v20, undef, Value.bool true, Value.bool false, Value.agg #[Value.int IntKind.i64 T.tracks, Value.slice va T.pts.length vc, Value.int IntKind.i64 T.sigs, Value.slice a k c], Value.slice la ls.length lc, Value.bool false, undef, Value.tuple #[Value.pointer (some { block := y.g, off := 0 }), Value.int IntKind.i64 0], Value.agg #[Value.int IntKind.i64 T.tracks, Value.slice va T.pts.length vc, Value.int IntKind.i64 T.sigs, Value.slice a k c], Value.int IntKind.i64 d, Value.tuple #[Value.pointer (some { block := y.g, off := 0 }), Value.int IntKind.i64 0], Value.pointer (some { block := y.g, off := 0 }), Value.int IntKind.i64 0, Value.int IntKind.i64 0, Value.bool false, undef, Value.slice la ls.length lc, Value.int IntKind.i64 ↑ls.length, Value.int IntKind.i64 ↑ls.length, Value.bool false, u41, u42, u43, u44, u45, u46, Value.pointer (some { block := kb, off := 3 }), Value.slice a k c, Value.int IntKind.i64 ↑k, Value.int IntKind.i64 ↑k, Value.bool false, u52, u53, u54, u55, u56, u57, u58, u59, Value.int IntKind.i64 ↑lo, Value.int IntKind.i64 (2 * ↑lo), Value.int IntKind.i64 (2 * ↑lo + 2), Value.int IntKind.i64 ↑q, .bool true, .pointer (some ⟨y.g, 0, none⟩), .func (.func 27) #[] #[.pointer (some ⟨tb, 0, none⟩)], .agg #[.int .i64 (ni : Int), .int .i64 (tl : Int), .int .i64 (hd : Int)], undef, undef, undef, undef, undef, undef, undef, undef, undef, undef, undef, undef, undef, undef, undef, undef, undef, undef, v86, v87, v88, v89, v90, v91, v92, v93, v94, v95, v96, v97, v98, v99, v100, v101, undef, undef, undef, undef, undef, undef, undef, undef, undef, undef, undef, undef, undef, undef, undef, undef], []⟩ ∧ ni = (onIdx Z.tn k).getD x 0 ∧ tl = (Z.tn ni).tl ∧ hd = (Z.tn ni).hd ∧ W'.heap[zb]? = some (.cells #[.int .i64 (ni : Int), .int .i64 (tl : Int), .int .i64 (hd : Int)] 50 (0, 0))) → K a' W') := hK
        have HNI := Lib.hid hni; have HTL := Lib.hid htl; have HHD := Lib.hid hhd
        clear hK HQ hni htl hhd
        gi_wp2
        exact HKK.out _ _ (alloc_below _ _) ⟨W.heap.size, ni, tl, hd, rfl, HNI.out, HTL.out, HHD.out, HB2.out⟩
      case body =>
        intro l x Fb a' W hx hl hF hI hA
        obtain ⟨zb, ni, tl, hd, rfl, hni, htl, hhd, hzb⟩ := hA
        have HI := Lib.hid hI
        obtain ⟨ve, hk1, hk2, hk3⟩ := hI.ro
        have K1 := Lib.hid hk1; have K2 := Lib.hid hk2; have K3 := Lib.hid hk3
        have z0 := cell_row (j := 0) hzb rfl; have z1 := cell_row (j := 1) hzb rfl; have z2 := cell_row (j := 2) hzb rfl
        have lz := heap_lt hzb
        have m0 := cell_row (j := 0) hk1 rfl
        have lm := heap_lt hk1
        have hxM : x < (onMoves Z k).length := by rw [HLEN.out]; exact hx
        have HTK := Lib.hid (take_snoc mv0 hxM)
        have hmv : (onMoves Z k).getD x mv0 = ⟨if tl < hd then 5 else 6, (ni : Int)⟩ := by
          rw [HML2.out, List.getD_eq_getElem?_getD, List.getElem?_map, List.getElem?_eq_getElem hx]
          have : (onIdx Z.tn k)[x] = ni := by rw [hni, List.getD_eq_getElem?_getD, List.getElem?_eq_getElem hx]; exact rfl
          show trnM Z.tn ((onIdx Z.tn k)[x]) = _
          rw [this]
          unfold trnM onKind
          rw [← htl, ← hhd]
        rw [hmv] at HTK
        have hlen : ((onMoves Z k).take x).length = x := by rw [List.length_take]; omega
        have hx16 : x ≤ 16 := by
          have h1 : ∀ m, (onIdx Z.tn m).length ≤ m := fun m => by
            induction m with
            | zero => exact Nat.le_refl _
            | succ m ih =>
              rw [onIdx_succ]
              split
              · rw [List.length_append]; show _ + 1 ≤ m + 1; omega
              · omega
          have := h1 k; omega
        have HLT := Lib.hid hlen
        rw [hlen] at K2
        have HFL : Hid (∀ b, Fb b → b < W.heap.size) := fun b hb => (hF b hb).1
        have HCS : Hid (C ≤ W.heap.size) := hI.c
        obtain ⟨i0, hi, hz0, hz1', hz2'⟩ := tb_info infoMv
        have HIn := Lib.hid hi; have HZ0 := Lib.hid hz0; have HZ1 := Lib.hid hz1'; have HZ2 := Lib.hid hz2'
        have HB7 : Hid (w7.heap.size ≤ C) := Nat.le_of_eq hCC.symm
        clear hi hz0 hz1' hz2' hI hk1 hk2 hk3 hni htl hhd hzb hF hmv HQ hlen hxM hCC
        by_cases htd : tl < hd
        case pos =>
          rw [if_pos htd] at HTK
          have dt : decide ((tl : Int) < (hd : Int)) = true := decide_eq_true (by omega)
          gi_wp2_with (gi_at_builtin; refine wp_app_mv rfl _ _ rfl C ve x _ rfl rfl K2.out (by omega) HCS.out ?_)
          intro v8 w8 ho8 hg8 hat8
          obtain ⟨g8, c8, rfl⟩ := own_slice2 ho8
          obtain ⟨h8, hall⟩ := HI.out.app (m := ⟨5, (ni : Int)⟩) HC7.out HFL.out K1.out (by rw [HLT.out]; exact K2.out) K3.out hg8 (by rw [HLT.out]; exact ho8) (hat8.imp id fun e => e.trans (congrArg some (Array.size_push _).symm))
          rw [← HTK.out] at hall
          have m8 := cell_row (j := 0) h8 rfl
          have f8 : w8.frozen? ⟨mb, 0, none⟩ = false := frozen_of_row _ _ _ _ _ h8
          have l8 := heap_lt h8
          have FIN := Lib.hid (hall w7.heap.size)
          clear hall h8 ho8 hg8 hat8 z0 z1 z2 lz m0 lm
          gi_wp2
          exact FIN.out
        case neg =>
          rw [if_neg htd] at HTK
          have dt : decide ((tl : Int) < (hd : Int)) = false := decide_eq_false (by omega)
          gi_wp2_with (gi_at_builtin; refine wp_app_mv rfl _ _ rfl C ve x _ rfl rfl K2.out (by omega) HCS.out ?_)
          intro v8 w8 ho8 hg8 hat8
          obtain ⟨g8, c8, rfl⟩ := own_slice2 ho8
          obtain ⟨h8, hall⟩ := HI.out.app (m := ⟨6, (ni : Int)⟩) HC7.out HFL.out K1.out (by rw [HLT.out]; exact K2.out) K3.out hg8 (by rw [HLT.out]; exact ho8) (hat8.imp id fun e => e.trans (congrArg some (Array.size_push _).symm))
          rw [← HTK.out] at hall
          have m8 := cell_row (j := 0) h8 rfl
          have f8 : w8.frozen? ⟨mb, 0, none⟩ = false := frozen_of_row _ _ _ _ _ h8
          have l8 := heap_lt h8
          have FIN := Lib.hid (hall w7.heap.size)
          clear hall h8 ho8 hg8 hat8 z0 z1 z2 lz m0 lm
          gi_wp2
          exact FIN.out
      case done =>
        intro D Fb W hD hI hDd
        have hall : (onMoves Z k).take (onIdx Z.tn k).length = onMoves Z k := by rw [← HLEN.out, List.take_length]
        rw [hall] at hI
        obtain ⟨ve, hk1, hk2, hk3⟩ := hI.ro
        have HI := Lib.hid hI
        have HDD := Lib.hid hDd
        have hko : ∀ m ∈ onMoves Z k, m.kd < 256 ∧ i64ok m.n := fun m hm => by
          rw [HML2.out] at hm
          obtain ⟨ni, hni, rfl⟩ := List.mem_map.1 hm
          have := (onIdx_lt hni).1
          refine ⟨by show onKind _ < 256; unfold onKind; split <;> omega, by show i64ok (ni : Int); unfold i64ok; omega⟩
        obtain ⟨hmv, hge⟩ := own_mvs hk2 hko
        have hlm : (onMoves Z k).length ≤ 1000 := by
          rw [HLEN.out]
          have h1 : ∀ m, (onIdx Z.tn m).length ≤ m := fun m => by
            induction m with
            | zero => exact Nat.le_refl _
            | succ m ih =>
              rw [onIdx_succ]
              split
              · rw [List.length_append]; show _ + 1 ≤ m + 1; omega
              · omega
          have := h1 k; omega
        have HDN : Hid (¬ y.M D ∧ D ≠ rb ∧ w.heap.size ≤ D ∧ ∀ E ∈ ds, E ≠ D) := by
          have hDC : C ≤ D := by rw [hCC]; exact hD
          refine ⟨(HC7.out D hDC).1, fun e => ?_, ?_, fun E hE e => ?_⟩
          · have h1 := HI.out.g.rw; have h2 := HI.out.g.l.yd.ap.z; have h3 := HMO.out.2.2; omega
          · have h1 := HI.out.g.l.ge; have h2 := HI.out.g.l.yd.ap.z; have h3 := HMO.out.2.2; omega
          · have := HDL.out E hE; omega
        have HFR := Lib.hid (HFM.out W Z (onMoves Z k) ve HI.out.g.l.yd HFQ.out hmv (fun b off nn cc e _ hb => by have := hge b off nn cc e; exact (HC7.out b this).1 hb) hlm)
        have HRR : Hid (∀ x ∈ errsY T Z (onMoves Z k), x = 0) := by
          have := onFrames_errs HFQ.out.inv
          rw [← HNN.out] at this
          exact this
        have HON : Hid (onFrames T y.d Y (q + 1) = frameY T y.d Z (onMoves Z k)) := by
          show onFrames T y.d Y (q + 1) = _
          rw [HZZ.out, HNN.out]; rfl
        have m0 := cell_row (j := 0) hk1 rfl
        have lm := heap_lt hk1
        clear hall hk1 hk2 hk3 hko hmv hge hlm hI hDd HQ hCC
        obtain ⟨Z', hZ'⟩ : ∃ x, x = frameY T y.d Z (onMoves Z k) := ⟨_, rfl⟩
        rw [← hZ'] at HFR HON
        obtain ⟨L, hL⟩ : ∃ x, x = Z'.L := ⟨_, rfl⟩
        rw [← hL] at HFR
        clear hZ' hL
        obtain ⟨pr, no, re, lc'⟩ := L
        unfold OD.val at HFR
        gi_wp2_with (fail)
        refine ⟨trivial, (callsIn_wide.2 (HFR.out)).mono ?_⟩
        rintro e w8 ⟨⟨vx, rfl, hin, _⟩, hk8⟩
        have G8 : Hid (GwAt w kb rb #[.int .i64 T.tracks, .slice va T.pts.length vc, .int .i64 T.sigs, .slice a T.rts.length c] y Z' w8) := HI.out.g.turn hk8
        have DS8 : Hid (∀ E ∈ D :: ds, w8.heap[E]? = some (.deferred (some [])) ∧ ¬ y.M E ∧ E ≠ rb ∧ w.heap.size ≤ E) := fun E hE => by
          rcases List.mem_cons.1 hE with rfl | hE
          · exact ⟨(hk8.2.block _ (Array.getElem?_eq_some_iff.1 HDD.out).1 HDN.out.1).trans HDD.out, HDN.out.1, HDN.out.2.1, HDN.out.2.2.1⟩
          · have h := DS5.out E hE
            exact ⟨(hk8.2.block _ (Array.getElem?_eq_some_iff.1 (HI.out.ds E hE)).1 h.2.1).trans (HI.out.ds E hE), h.2.1, h.2.2.1, h.2.2.2⟩
        have ND8 : Hid ((D :: ds).Nodup) := List.nodup_cons.2 ⟨fun h => HDN.out.2.2.2 D h rfl, ND.out⟩
        have HZE : Hid (∀ j, j < (intE (errsY T Z (onMoves Z k))).length → (intE (errsY T Z (onMoves Z k))).getD j 0 = 0) := fun j hj => by
          have hm : (intE (errsY T Z (onMoves Z k))).getD j 0 ∈ intE (errsY T Z (onMoves Z k)) := by rw [List.getD_eq_getElem?_getD, List.getElem?_eq_getElem hj]; exact List.getElem_mem hj
          generalize (intE (errsY T Z (onMoves Z k))).getD j 0 = z at *
          obtain ⟨x, hx, e⟩ := List.mem_map.1 hm
          rw [← e, HRR.out x hx]; rfl
        have HIN := Lib.hid hin
        clear hk8 hin HFR m0 lm
        generalize intE (errsY T Z (onMoves Z k)) = es at *
        obtain ⟨w9, hw9⟩ : ∃ x, x = w8.alloc (.cells #[.int .u32 (pr : Int), .int .u32 (no : Int), .int .u32 (re : Int), .int .u32 (lc' : Int)] 35) := ⟨_, rfl⟩
        have B89 : Hid (Below w8.heap.size w8 w9) := by rw [hw9]; exact alloc_below _ _
        have HW9 := Lib.hid hw9
        have G9 := Lib.hid (G8.out.below B89.out)
        have DS9 : Hid (∀ E ∈ D :: ds, w9.heap[E]? = some (.deferred (some [])) ∧ ¬ y.M E ∧ E ≠ rb ∧ w.heap.size ≤ E) := fun E hE => ⟨kept (DS8.out E hE).1 B89.out, (DS8.out E hE).2⟩
        have HIN9 := Lib.hid (HIN.out.below B89.out)
        obtain ⟨⟨ea, ec, rfl, he1, he2, _⟩, _⟩ := id HIN9.out
        unfold maxLen at he2
        clear hw9 G8 DS8 HIN B89
        gi_upto_region 30 with (fail)
        rw [← HW9.out]
        clear HW9
        gi_loopw [94] (fun i wr => ∃ j : Nat, j ≤ es.length ∧ i = .int .i64 j ∧ wr = w9) (fun i _ => es.length - (intOf i).toNat)
        case atStart => exact ⟨0, Nat.zero_le _, rfl, rfl⟩
        case round =>
          obtain ⟨j, hj, rfl, rfl⟩ := hrel
          by_cases hjl : j < es.length
          case pos =>
            obtain ⟨eb, eoff, rfl, heb, hex⟩ := HIN9.out.cell hjl
            rw [HZE.out j hjl] at hex
            gi_wp2_with (fail)
            go_roundw
            case rel => exact ⟨j + 1, by omega, by go_num, by first | trivial | rfl⟩
            case measure => simp [intOf]; omega
          case neg =>
            gi_wp2_with (fail)
            refine ⟨⟨_, _, _, _, _, _, _, _, _, _, _, _, _, _, _, _, _, _, _, _, _, _, _, _, D :: ds, q + 1, ⟨by omega, by rw [HON.out]; exact G9.out, DS9.out, ND8.out⟩, rfl⟩, ?_⟩
            show 2 * lo + 2 - (intOf (.int .i64 ((q : Int) + 1))).toNat < 2 * lo + 2 - (intOf (.int .i64 (q : Int))).toNat
            simp [intOf]; omega
set_option maxRecDepth 100000 in
theorem ythrough_any (v0 : Value) (a1 : Int) (a2 : Option Addr) (len2 cap2 : Nat) (w : World) (h0 : ReadsW w 25 v0.cells.toList ∧ Value.okWide Try.prog w .any 0 25 v0) (h1 : (Lit.int .i64 a1).wf = true) (h2 : ReadsW w 26 [.slice a2 len2 cap2]) :
    Calls Try.prog 4 #[v0, .int .i64 a1, .slice a2 len2 cap2] w fun e w' => e = .returned (.bool true) ∧ Below w.heap.size w w' := by
  obtain ⟨T, hT⟩ := reads_tab ⟨h0.1.c, h0.2⟩
  obtain ⟨l, hl⟩ := reads_mvss h2
  exact (callsIn_wide (n := 4)).1 (ythrough_in 0 v0 _ T a1 l w hT (tab_sm h0.1 hT) (i64ok_of h1) hl)
end Go.Proofs.Ytnjeiigdfdjccaa
