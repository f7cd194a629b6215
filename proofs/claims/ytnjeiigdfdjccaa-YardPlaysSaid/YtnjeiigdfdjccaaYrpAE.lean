/- The document's yard: how it lies. -/
import Derived.Test.YtnjeiigdfdjccaaYrdFr
import Derived.Test.YtnjeiigdfdjccaaRgEH
import Derived.Test.YtnjeiigdfdjccaaAutN
namespace Go.Proofs.Ytnjeiigdfdjccaa
open Go.RowKit
set_option linter.unusedVariables false
set_option linter.unusedSimpArgs false
/-- How many sections a train stands on, and which, as the document keeps them. -/
def secN (x : TN) : Nat := if x.tl = x.hd then 1 else 2
def secV (x : TN) (i : Nat) : Value := .int .i64 ((if i = 0 then x.tl else x.hd : Nat) : Int)
def onV (tn : Nat → TN) (bs : Nat → Nat) (n : Nat) : Value := if (tn n).is then .slice (some ⟨bs n, 0, none⟩) (secN (tn n)) (secN (tn n)) else .slice none 0 0
structure Rd where
  (B g ob mb tb lb bb d : Nat)
  r : Rf
/-- Its six blocks. -/
def RdO (u : Rd) (b : Nat) : Prop := b = u.g ∨ b = u.ob ∨ b = u.mb ∨ b = u.tb ∨ b = u.lb ∨ b = u.bb
def OwnR (u : Rd) (S : AS) (ub lb : Nat → Nat) (b : Nat) : Prop := RdO u b ∨ Own27 u.r S ub lb b
def AllR (u : Rd) (Y : YS) (ub lb bs : Nat → Nat) (b : Nat) : Prop := OwnR u Y.A ub lb b ∨ ∃ n, n < u.r.T.rts.length ∧ (Y.tn n).is = true ∧ b = bs n
structure RdF (u : Rd) : Prop where
  w0 : u.r.w0.heap.size ≤ u.B
  rB : u.B ≤ u.r.B
  ge : ∀ b, RdO u b → u.B ≤ b ∧ b ≠ u.r.g
  go : u.g ≠ u.ob
  gm : u.g ≠ u.mb
  gt : u.g ≠ u.tb
  gl : u.g ≠ u.lb
  gb : u.g ≠ u.bb
  om : u.ob ≠ u.mb
  ot : u.ob ≠ u.tb
  ol : u.ob ≠ u.lb
  ob_ : u.ob ≠ u.bb
  mt : u.mb ≠ u.tb
  ml : u.mb ≠ u.lb
  mb_ : u.mb ≠ u.bb
  tl : u.tb ≠ u.lb
  tb_ : u.tb ≠ u.bb
  lb_ : u.lb ≠ u.bb
/-- A block off all that is turned. -/
def FarB (u : Rd) (S : AS) (ub lb : Nat → Nat) (b : Nat) : Prop := u.B ≤ b ∧ ¬ OwnR u S ub lb b ∧ b ≠ u.r.g
structure RdAt (w : World) (u : Rd) (Y : YS) (ub lb bs : Nat → Nat) : Prop where
  obj : ∀ L, L = Y.L → w.heap[u.g]? = some (.cells #[.int .i64 u.r.T.tracks, u.r.vp, .int .i64 u.r.T.sigs, u.r.vr, .pointer (some ⟨u.r.g, 0, none⟩), .int .i64 (u.d : Int), .int .u32 (L.pr : Int), .int .u32 (L.no : Int), .int .u32 (L.re : Int), .int .u32 (L.lo : Int), .slice (some ⟨u.ob, 0, none⟩) u.r.T.rts.length u.r.T.rts.length, .slice (some ⟨u.mb, 0, none⟩) u.r.T.rts.length u.r.T.rts.length, .slice (some ⟨u.tb, 0, none⟩) u.r.T.pts.length u.r.T.pts.length, .slice (some ⟨u.lb, 0, none⟩) u.r.T.pts.length u.r.T.pts.length, .slice (some ⟨u.bb, 0, none⟩) u.r.T.pts.length u.r.T.pts.length] 98 (0, 0))
  on : RowAt w u.ob 22 u.r.T.rts.length (onV Y.tn bs)
  os : ∀ n, n < u.r.T.rts.length → (Y.tn n).is = true → RowAt w (bs n) 3 (secN (Y.tn n)) (secV (Y.tn n)) ∧ FarB u Y.A ub lb (bs n)
  mv : RowAt w u.mb 4 u.r.T.rts.length (fun n => .bool (Y.tn n).mv)
  sd : RowAt w u.tb 3 u.r.T.pts.length (fun n => .int .i64 ((Y.pn n).sd : Int))
  lf : RowAt w u.lb 3 u.r.T.pts.length (fun n => .int .i64 ((Y.pn n).lf : Int))
  br : RowAt w u.bb 4 u.r.T.pts.length (fun n => .bool (Y.pn n).br)
  au : R27At w u.r Y.A ub lb
  ap : RdF u
  off : ∀ b, Own27 u.r Y.A ub lb b → ¬ RdO u b
theorem RdAt.ob {w : World} {u : Rd} {Y : YS} {ub lb bs : Nat → Nat} (h : RdAt w u Y ub lb bs) : w.heap[u.g]? = some (.cells (let L := Y.L; #[.int .i64 u.r.T.tracks, u.r.vp, .int .i64 u.r.T.sigs, u.r.vr, .pointer (some ⟨u.r.g, 0, none⟩), .int .i64 (u.d : Int), .int .u32 (L.pr : Int), .int .u32 (L.no : Int), .int .u32 (L.re : Int), .int .u32 (L.lo : Int), .slice (some ⟨u.ob, 0, none⟩) u.r.T.rts.length u.r.T.rts.length, .slice (some ⟨u.mb, 0, none⟩) u.r.T.rts.length u.r.T.rts.length, .slice (some ⟨u.tb, 0, none⟩) u.r.T.pts.length u.r.T.pts.length, .slice (some ⟨u.lb, 0, none⟩) u.r.T.pts.length u.r.T.pts.length, .slice (some ⟨u.bb, 0, none⟩) u.r.T.pts.length u.r.T.pts.length]) 98 (0, 0)) := h.obj _ rfl
theorem RdAt.only {M : Nat → Prop} {w w' : World} {u : Rd} {Y : YS} {ub lb bs : Nat → Nat} (h : RdAt w u Y ub lb bs) (ho : Only M w w') (hM : ∀ b, M b → u.r.w0.heap.size ≤ b) (hr : ¬ M u.r.g) (hall : ∀ b, AllR u Y ub lb bs b → ¬ M b) : RdAt w' u Y ub lb bs :=
  have hown := fun b (hb : OwnR u Y.A ub lb b) => hall b (.inl hb)
  ⟨fun L hL => (ho.block _ (heap_lt (h.obj L hL)) (hown _ (.inl (.inl rfl)))).trans (h.obj L hL), h.on.same (ho.block _ h.on.lt (hown _ (.inl (.inr (.inl rfl))))), fun n hn hi => ⟨(h.os n hn hi).1.same (ho.block _ (h.os n hn hi).1.lt (hall _ (.inr ⟨n, hn, hi, rfl⟩))), (h.os n hn hi).2⟩,
    h.mv.same (ho.block _ h.mv.lt (hown _ (.inl (.inr (.inr (.inl rfl)))))), h.sd.same (ho.block _ h.sd.lt (hown _ (.inl (.inr (.inr (.inr (.inl rfl))))))), h.lf.same (ho.block _ h.lf.lt (hown _ (.inl (.inr (.inr (.inr (.inr (.inl rfl)))))))), h.br.same (ho.block _ h.br.lt (hown _ (.inl (.inr (.inr (.inr (.inr (.inr rfl)))))))),
    h.au.only ho hM hr (fun b hb => hown b (.inr hb)), h.ap, h.off⟩
theorem RdAt.below {w w' : World} {u : Rd} {Y : YS} {ub lb bs : Nat → Nat} (h : RdAt w u Y ub lb bs) (hb : Below w.heap.size w w') : RdAt w' u Y ub lb bs :=
  h.only (Only.of_below (fun _ => False) hb) (fun _ h => h.elim) (fun h => h) (fun _ _ h => h)
theorem RdAt.g0 {w : World} {u : Rd} {Y : YS} {ub lb bs : Nat → Nat} (h : RdAt w u Y ub lb bs) {b : Nat} (hb : RdO u b) : u.r.w0.heap.size ≤ b := Nat.le_trans h.ap.w0 (h.ap.ge b hb).1
theorem RdAt.own_lt {w : World} {u : Rd} {Y : YS} {ub lb bs : Nat → Nat} (h : RdAt w u Y ub lb bs) {b : Nat} (hb : OwnR u Y.A ub lb b) : b < w.heap.size := by
  rcases hb with hb | hb
  · rcases hb with e | e | e | e | e | e <;> rw [e]
    · exact heap_lt h.ob
    · exact h.on.lt
    · exact h.mv.lt
    · exact h.sd.lt
    · exact h.lf.lt
    · exact h.br.lt
  · exact h.au.own_lt hb
theorem RdAt.own_ge {w : World} {u : Rd} {Y : YS} {ub lb bs : Nat → Nat} (h : RdAt w u Y ub lb bs) {b : Nat} (hb : OwnR u Y.A ub lb b) : u.B ≤ b ∧ b ≠ u.r.g := by
  rcases hb with hb | hb
  · exact h.ap.ge b hb
  · exact ⟨Nat.le_trans h.ap.rB (h.au.own_ge hb).1, (h.au.own_ge hb).2⟩
theorem RdAt.osO {w : World} {u : Rd} {Y : YS} {ub lb bs : Nat → Nat} (h : RdAt w u Y ub lb bs) {x : Nat} (hx : RdO u x) : ∀ n, n < u.r.T.rts.length → (Y.tn n).is = true → ¬ bs n = x :=
  fun n hn hi e => (h.os n hn hi).2.2.1 (.inl (by rw [e]; exact hx))
/-- On: one is set. -/
theorem RdAt.setO {w : World} {u : Rd} {Y : YS} {ub lb bs : Nat → Nat} (h : RdAt w u Y ub lb bs) {n : Nat} {x : TN} (b : Nat) (hm : x.mv = (Y.tn n).mv) (hb : x.is = true → RowAt w b 3 (secN x) (secV x) ∧ FarB u Y.A ub lb b) :
    RdAt (w.setCell ⟨u.ob, n, none⟩ (if x.is then .slice (some ⟨b, 0, none⟩) (secN x) (secN x) else .slice none 0 0)) u (Y.setT n x) ub lb (fset bs n b) := by
  have ho : Only (fun b => b = u.ob) w (w.setCell ⟨u.ob, n, none⟩ (if x.is then .slice (some ⟨b, 0, none⟩) (secN x) (secN x) else .slice none 0 0)) := (Only.refl _ w).set _ _ (.inr rfl)
  have hx := h.ap.ge _ (show RdO u u.ob from .inr (.inl rfl))
  have hau := h.au.only ho (fun b hb => by rw [hb]; exact h.g0 (show RdO u u.ob from .inr (.inl rfl))) (fun e => hx.2 e.symm) (fun b hb e => h.off b hb (by rw [e]; exact (show RdO u u.ob from .inr (.inl rfl))))
  have hos := fun n hn hi => (h.os n hn hi).1.same (ho.block _ (h.os n hn hi).1.lt (h.osO (show RdO u u.ob from .inr (.inl rfl)) n hn hi))
  have a := h.ap
  refine ⟨fun L hL => (ho.block _ (heap_lt (h.obj L hL)) a.go).trans (h.obj L hL), (h.on.set _).congr (fun m hm => ?_), fun m hm hi => ?_, (h.mv.same (ho.block _ h.mv.lt a.om.symm)).congr (fun m _ => ?_), h.sd.same (ho.block _ h.sd.lt a.ot.symm), h.lf.same (ho.block _ h.lf.lt a.ol.symm), h.br.same (ho.block _ h.br.lt a.ob_.symm), hau, a, h.off⟩
  · show (if m = n then _ else _) = onV (fun j => if j = n then x else Y.tn j) (fset bs n b) m
    unfold onV fset
    by_cases e : m = n
    · simp only [if_pos e]
    · simp only [if_neg e]
  · by_cases e : m = n
    · subst e
      have hi' : x.is = true := by rw [show (Y.setT m x).tn m = x from if_pos rfl] at hi; exact hi
      have hb' := hb hi'
      rw [show (Y.setT m x).tn m = x from if_pos rfl, show fset bs m b m = b from if_pos rfl]
      refine ⟨hb'.1.same (ho.block _ hb'.1.lt (fun e => hb'.2.2.1 (.inl (.inr (.inl e))))), hb'.2⟩
    · rw [show (Y.setT n x).tn m = Y.tn m from if_neg e] at hi ⊢
      rw [show fset bs n b m = bs m from if_neg e]
      exact ⟨hos m hm hi, (h.os m hm hi).2⟩
  · show _ = Value.bool (if m = n then x else Y.tn m).mv
    by_cases e : m = n
    · rw [if_pos e, hm, e]
    · rw [if_neg e]
theorem setT_same (Y : YS) (n : Nat) : Y.setT n (Y.tn n) = Y := by
  unfold YS.setT
  have : (fun j => if j = n then Y.tn n else Y.tn j) = Y.tn := by funext j; by_cases e : j = n; (· rw [if_pos e, e]); (· rw [if_neg e])
  rw [this]
/-- Moved: one is set. -/
theorem RdAt.setM {w : World} {u : Rd} {Y : YS} {ub lb bs : Nat → Nat} (h : RdAt w u Y ub lb bs) (n : Nat) (m : Bool) :
    RdAt (w.setCell ⟨u.mb, n, none⟩ (.bool m)) u (Y.setT n { Y.tn n with mv := m }) ub lb bs := by
  have ho : Only (fun b => b = u.mb) w (w.setCell ⟨u.mb, n, none⟩ (.bool m)) := (Only.refl _ w).set _ _ (.inr rfl)
  have hx := h.ap.ge _ (show RdO u u.mb from .inr (.inr (.inl rfl)))
  have hau := h.au.only ho (fun b hb => by rw [hb]; exact h.g0 (show RdO u u.mb from .inr (.inr (.inl rfl)))) (fun e => hx.2 e.symm) (fun b hb e => h.off b hb (by rw [e]; exact (show RdO u u.mb from .inr (.inr (.inl rfl)))))
  have hos := fun n hn hi => (h.os n hn hi).1.same (ho.block _ (h.os n hn hi).1.lt (h.osO (show RdO u u.mb from .inr (.inr (.inl rfl))) n hn hi))
  have a := h.ap
  have hk : ∀ k, ((Y.setT n { Y.tn n with mv := m }).tn k).is = (Y.tn k).is ∧ secN ((Y.setT n { Y.tn n with mv := m }).tn k) = secN (Y.tn k) ∧ secV ((Y.setT n { Y.tn n with mv := m }).tn k) = secV (Y.tn k) := fun k => by
    show ((if k = n then ({ Y.tn n with mv := m } : TN) else Y.tn k).is = _) ∧ secN (if k = n then ({ Y.tn n with mv := m } : TN) else Y.tn k) = _ ∧ secV (if k = n then ({ Y.tn n with mv := m } : TN) else Y.tn k) = _
    by_cases e : k = n
    · rw [if_pos e, e]; exact ⟨rfl, rfl, rfl⟩
    · rw [if_neg e]; exact ⟨rfl, rfl, rfl⟩
  refine ⟨fun L hL => (ho.block _ (heap_lt (h.obj L hL)) a.gm).trans (h.obj L hL), (h.on.same (ho.block _ h.on.lt a.om)).congr (fun k _ => ?_), fun k hk' hi => ?_, (h.mv.set _).congr (fun k _ => ?_), h.sd.same (ho.block _ h.sd.lt a.mt.symm), h.lf.same (ho.block _ h.lf.lt a.ml.symm), h.br.same (ho.block _ h.br.lt a.mb_.symm), hau, a, h.off⟩
  · unfold onV; rw [(hk k).1, (hk k).2.1]
  · rw [(hk k).1] at hi
    rw [(hk k).2.1, (hk k).2.2]
    exact ⟨hos k hk' hi, (h.os k hk' hi).2⟩
  · show (if k = n then _ else _) = Value.bool (if k = n then ({ Y.tn n with mv := m } : TN) else Y.tn k).mv
    by_cases e : k = n
    · rw [if_pos e, if_pos e]
    · rw [if_neg e, if_neg e]
theorem RdAt.setS {w : World} {u : Rd} {Y : YS} {ub lb bs : Nat → Nat} (h : RdAt w u Y ub lb bs) (n : Nat) (p : PN) (h1 : p.lf = (Y.pn n).lf) (h2 : p.br = (Y.pn n).br) :
    RdAt (w.setCell ⟨u.tb, n, none⟩ (.int .i64 (p.sd : Int))) u (Y.setP n p) ub lb bs := by
  have ho : Only (fun b => b = u.tb) w (w.setCell ⟨u.tb, n, none⟩ (.int .i64 (p.sd : Int))) := (Only.refl _ w).set _ _ (.inr rfl)
  have hx := h.ap.ge _ (show RdO u u.tb from .inr (.inr (.inr (.inl rfl))))
  have hau := h.au.only ho (fun b hb => by rw [hb]; exact h.g0 (show RdO u u.tb from .inr (.inr (.inr (.inl rfl))))) (fun e => hx.2 e.symm) (fun b hb e => h.off b hb (by rw [e]; exact (show RdO u u.tb from .inr (.inr (.inr (.inl rfl))))))
  have hos := fun n hn hi => (h.os n hn hi).1.same (ho.block _ (h.os n hn hi).1.lt (h.osO (show RdO u u.tb from .inr (.inr (.inr (.inl rfl)))) n hn hi))
  have a := h.ap
  have hP : ∀ k, (Y.setP n p).pn k = if k = n then p else Y.pn k := fun k => rfl
  refine ⟨fun L hL => (ho.block _ (heap_lt (h.obj L hL)) a.gt).trans (h.obj L hL), h.on.same (ho.block _ h.on.lt a.ot), fun k hk hi => ⟨hos k hk hi, (h.os k hk hi).2⟩, h.mv.same (ho.block _ h.mv.lt a.mt), (h.sd.set _).congr (fun k _ => ?_), (h.lf.same (ho.block _ h.lf.lt a.tl.symm)).congr (fun k _ => ?_), (h.br.same (ho.block _ h.br.lt a.tb_.symm)).congr (fun k _ => ?_), hau, a, h.off⟩ <;> rw [hP] <;> by_cases e : k = n <;> simp [e, h1, h2]
theorem RdAt.setL {w : World} {u : Rd} {Y : YS} {ub lb bs : Nat → Nat} (h : RdAt w u Y ub lb bs) (n : Nat) (p : PN) (h1 : p.sd = (Y.pn n).sd) (h2 : p.br = (Y.pn n).br) :
    RdAt (w.setCell ⟨u.lb, n, none⟩ (.int .i64 (p.lf : Int))) u (Y.setP n p) ub lb bs := by
  have ho : Only (fun b => b = u.lb) w (w.setCell ⟨u.lb, n, none⟩ (.int .i64 (p.lf : Int))) := (Only.refl _ w).set _ _ (.inr rfl)
  have hx := h.ap.ge _ (show RdO u u.lb from .inr (.inr (.inr (.inr (.inl rfl)))))
  have hau := h.au.only ho (fun b hb => by rw [hb]; exact h.g0 (show RdO u u.lb from .inr (.inr (.inr (.inr (.inl rfl)))))) (fun e => hx.2 e.symm) (fun b hb e => h.off b hb (by rw [e]; exact (show RdO u u.lb from .inr (.inr (.inr (.inr (.inl rfl)))))))
  have hos := fun n hn hi => (h.os n hn hi).1.same (ho.block _ (h.os n hn hi).1.lt (h.osO (show RdO u u.lb from .inr (.inr (.inr (.inr (.inl rfl))))) n hn hi))
  have a := h.ap
  have hP : ∀ k, (Y.setP n p).pn k = if k = n then p else Y.pn k := fun k => rfl
  refine ⟨fun L hL => (ho.block _ (heap_lt (h.obj L hL)) a.gl).trans (h.obj L hL), h.on.same (ho.block _ h.on.lt a.ol), fun k hk hi => ⟨hos k hk hi, (h.os k hk hi).2⟩, h.mv.same (ho.block _ h.mv.lt a.ml), (h.sd.same (ho.block _ h.sd.lt a.tl)).congr (fun k _ => ?_), (h.lf.set _).congr (fun k _ => ?_), (h.br.same (ho.block _ h.br.lt a.lb_.symm)).congr (fun k _ => ?_), hau, a, h.off⟩ <;> rw [hP] <;> by_cases e : k = n <;> simp [e, h1, h2]
theorem RdAt.setB {w : World} {u : Rd} {Y : YS} {ub lb bs : Nat → Nat} (h : RdAt w u Y ub lb bs) (n : Nat) (p : PN) (h1 : p.sd = (Y.pn n).sd) (h2 : p.lf = (Y.pn n).lf) :
    RdAt (w.setCell ⟨u.bb, n, none⟩ (.bool p.br)) u (Y.setP n p) ub lb bs := by
  have ho : Only (fun b => b = u.bb) w (w.setCell ⟨u.bb, n, none⟩ (.bool p.br)) := (Only.refl _ w).set _ _ (.inr rfl)
  have hx := h.ap.ge _ (show RdO u u.bb from .inr (.inr (.inr (.inr (.inr rfl)))))
  have hau := h.au.only ho (fun b hb => by rw [hb]; exact h.g0 (show RdO u u.bb from .inr (.inr (.inr (.inr (.inr rfl)))))) (fun e => hx.2 e.symm) (fun b hb e => h.off b hb (by rw [e]; exact (show RdO u u.bb from .inr (.inr (.inr (.inr (.inr rfl)))))))
  have hos := fun n hn hi => (h.os n hn hi).1.same (ho.block _ (h.os n hn hi).1.lt (h.osO (show RdO u u.bb from .inr (.inr (.inr (.inr (.inr rfl))))) n hn hi))
  have a := h.ap
  have hP : ∀ k, (Y.setP n p).pn k = if k = n then p else Y.pn k := fun k => rfl
  refine ⟨fun L hL => (ho.block _ (heap_lt (h.obj L hL)) a.gb).trans (h.obj L hL), h.on.same (ho.block _ h.on.lt a.ob_), fun k hk hi => ⟨hos k hk hi, (h.os k hk hi).2⟩, h.mv.same (ho.block _ h.mv.lt a.mb_), (h.sd.same (ho.block _ h.sd.lt a.tb_)).congr (fun k _ => ?_), (h.lf.same (ho.block _ h.lf.lt a.lb_)).congr (fun k _ => ?_), (h.br.set _).congr (fun k _ => ?_), hau, a, h.off⟩ <;> rw [hP] <;> by_cases e : k = n <;> simp [e, h1, h2]
/-- The last order is set. -/
theorem RdAt.setOd {w w' : World} {u : Rd} {Y : YS} {ub lb bs : Nat → Nat} (h : RdAt w u Y ub lb bs) {L : OD} (ho : Only (fun b => b = u.g) w w') (hr : w'.heap[u.g]? = some (.cells #[.int .i64 u.r.T.tracks, u.r.vp, .int .i64 u.r.T.sigs, u.r.vr, .pointer (some ⟨u.r.g, 0, none⟩), .int .i64 (u.d : Int), .int .u32 (L.pr : Int), .int .u32 (L.no : Int), .int .u32 (L.re : Int), .int .u32 (L.lo : Int), .slice (some ⟨u.ob, 0, none⟩) u.r.T.rts.length u.r.T.rts.length, .slice (some ⟨u.mb, 0, none⟩) u.r.T.rts.length u.r.T.rts.length, .slice (some ⟨u.tb, 0, none⟩) u.r.T.pts.length u.r.T.pts.length, .slice (some ⟨u.lb, 0, none⟩) u.r.T.pts.length u.r.T.pts.length, .slice (some ⟨u.bb, 0, none⟩) u.r.T.pts.length u.r.T.pts.length] 98 (0, 0))) : RdAt w' u { Y with L := L } ub lb bs := by
  have hx := h.ap.ge _ (show RdO u u.g from .inl rfl)
  have hau := h.au.only ho (fun b hb => by rw [hb]; exact h.g0 (show RdO u u.g from .inl rfl)) (fun e => hx.2 e.symm) (fun b hb e => h.off b hb (by rw [e]; exact (show RdO u u.g from .inl rfl)))
  have hos := fun n hn hi => (h.os n hn hi).1.same (ho.block _ (h.os n hn hi).1.lt (h.osO (show RdO u u.g from .inl rfl) n hn hi))
  have a := h.ap
  exact ⟨fun L' hL => by rw [hL]; exact hr, h.on.same (ho.block _ h.on.lt a.go.symm), fun n hn hi => ⟨hos n hn hi, (h.os n hn hi).2⟩, h.mv.same (ho.block _ h.mv.lt a.gm.symm), h.sd.same (ho.block _ h.sd.lt a.gt.symm), h.lf.same (ho.block _ h.lf.lt a.gl.symm), h.br.same (ho.block _ h.br.lt a.gb.symm), hau, a, h.off⟩
/-- The automaton is turned. -/
theorem RdAt.setA {w w' : World} {u : Rd} {Y : YS} {A : AS} {ub lb bs u' l' : Nat → Nat} (h : RdAt w u Y ub lb bs) (ho : Only (Own27 u.r Y.A ub lb) w w') (hA : R27At w' u.r A u' l') (hc : ∀ b, Own27 u.r A u' l' b → Own27 u.r Y.A ub lb b ∨ w.heap.size ≤ b) : RdAt w' u { Y with A := A } u' l' bs := by
  have n := fun b (hb : RdO u b) (h' : Own27 u.r Y.A ub lb b) => h.off b h' hb
  have hlt := fun b (hb : RdO u b) => h.own_lt (b := b) (.inl hb)
  refine ⟨fun L hL => (ho.block _ (heap_lt (h.obj L hL)) (n _ (.inl rfl))).trans (h.obj L hL), h.on.same (ho.block _ h.on.lt (n _ (.inr (.inl rfl)))), fun m hm hi => ⟨(h.os m hm hi).1.same (ho.block _ (h.os m hm hi).1.lt (fun hb => (h.os m hm hi).2.2.1 (.inr hb))), ?_⟩,
    h.mv.same (ho.block _ h.mv.lt (n _ (.inr (.inr (.inl rfl))))), h.sd.same (ho.block _ h.sd.lt (n _ (.inr (.inr (.inr (.inl rfl)))))), h.lf.same (ho.block _ h.lf.lt (n _ (.inr (.inr (.inr (.inr (.inl rfl))))))), h.br.same (ho.block _ h.br.lt (n _ (.inr (.inr (.inr (.inr (.inr rfl))))))), hA, h.ap, fun b hb hO => ?_⟩
  · obtain ⟨k1, k2, k3⟩ := (h.os m hm hi).2
    refine ⟨k1, fun hO => ?_, k3⟩
    rcases hO with hO | hO
    · exact k2 (.inl hO)
    · rcases hc _ hO with h1 | h1
      · exact k2 (.inr h1)
      · have := (h.os m hm hi).1.lt; omega
  · rcases hc b hb with h1 | h1
    · exact h.off b h1 hO
    · have := hlt b hO; omega
theorem RdAt.all_lt {w : World} {u : Rd} {Y : YS} {ub lb bs : Nat → Nat} (h : RdAt w u Y ub lb bs) {b : Nat} (hb : AllR u Y ub lb bs b) : b < w.heap.size := by
  rcases hb with hb | ⟨n, hn, hi, rfl⟩
  · exact h.own_lt hb
  · exact (h.os n hn hi).1.lt
theorem RdAt.all_ge {w : World} {u : Rd} {Y : YS} {ub lb bs : Nat → Nat} (h : RdAt w u Y ub lb bs) {b : Nat} (hb : AllR u Y ub lb bs b) : u.B ≤ b ∧ b ≠ u.r.g := by
  rcases hb with hb | ⟨n, hn, hi, rfl⟩
  · exact h.own_ge hb
  · exact ⟨(h.os n hn hi).2.1, (h.os n hn hi).2.2.2⟩
/-- What a call on the document's yard comes to: only its own blocks are turned; what it holds behind it is its own, or new. -/
def RdP (u : Rd) (Y : YS) (ub lb bs : Nat → Nat) (w : World) (Y' : YS) (w' : World) : Prop :=
  ∃ u' l' b', RdAt w' u Y' u' l' b' ∧ Only (AllR u Y ub lb bs) w w' ∧ ∀ b, AllR u Y' u' l' b' b → AllR u Y ub lb bs b ∨ w.heap.size ≤ b
theorem RdP.refl {u : Rd} {Y : YS} {ub lb bs : Nat → Nat} {w : World} (h : RdAt w u Y ub lb bs) : RdP u Y ub lb bs w Y w := ⟨ub, lb, bs, h, Only.refl _ w, fun _ h => .inl h⟩
theorem Only.chain {M M1 : Nat → Prop} {w w1 w2 : World} (ho : Only M w w1) (hc : ∀ b, M1 b → M b ∨ w.heap.size ≤ b) (h2 : Only M1 w1 w2) : Only M w w2 :=
  ⟨h2.os.trans ho.os, h2.tape.trans ho.tape, h2.output.trans ho.output, Nat.le_trans ho.size h2.size, fun i hi hm => (h2.block i (Nat.lt_of_lt_of_le hi ho.size) (fun hx => by
    rcases hc i hx with h | h
    · exact hm h
    · omega)).trans (ho.block i hi hm)⟩
theorem RdP.comp {u : Rd} {Y Y1 Y2 : YS} {ub lb bs u1 l1 b1 : Nat → Nat} {w w1 w2 : World} (ho : Only (AllR u Y ub lb bs) w w1) (hc : ∀ b, AllR u Y1 u1 l1 b1 b → AllR u Y ub lb bs b ∨ w.heap.size ≤ b) (h : RdP u Y1 u1 l1 b1 w1 Y2 w2) : RdP u Y ub lb bs w Y2 w2 := by
  obtain ⟨u', l', b', h1, h2, h3⟩ := h
  refine ⟨u', l', b', h1, ho.chain hc h2, fun b hb => ?_⟩
  rcases h3 b hb with h | h
  · exact hc b h
  · exact .inr (Nat.le_trans ho.size h)
end Go.Proofs.Ytnjeiigdfdjccaa
/- The document's yard: bit, Clear, goes. -/
namespace Go.Proofs.Ytnjeiigdfdjccaa
open Go.RowKit
set_option linter.unusedVariables false
set_option linter.unusedSimpArgs false
set_option maxHeartbeats 1000000 in
theorem rbit_any (x n : Nat) (w : World) (hx : x < 4294967296) (hn : n < 32) :
    Calls Try.prog 39 #[.int .u32 (x : Int), .int .i64 (n : Int)] w fun e w' => e = .returned (.bool (x.testBit n)) ∧ w' = w := by
  have hq := rpow_mod hn
  have HB := Lib.hid (on_bit x n)
  have h0 : 0 < 2 ^ n := Nat.pow_pos (by omega)
  obtain ⟨q, hqd⟩ : ∃ q, q = 2 ^ n := ⟨_, rfl⟩
  rw [← hqd] at hq HB h0
  clear hqd
  go_enter Try.func39, Try.ntmps39
  go_wp2_with fail
  rw [HB.out]
  go_ret
  exact ⟨rfl, by first | trivial | rfl⟩
theorem rbit_q (x n : Nat) (w : World) (hx : x < 4294967296) (hn : n < 32) (k : Nat) :
    Calls Try.prog 39 #[.int .u32 (x : Int), .int .i64 (n : Int)] (w.drewN k) fun e w' => e = .returned (.bool (x.testBit n)) ∧ ∃ m, w' = w.drewN m :=
  Calls.quiet_of_same (rbit_any x n _ hx hn)
def Ord3 (T : Tab) (tn : Nat → TN) : Prop := ∀ n, n < T.rts.length → (tn n).is = true → (tn n).tl ≤ (tn n).hd ∧ (tn n).hd ≤ (tn n).tl + 1 ∧ (tn n).hd < (T.rts.getD n rt0).tr.length
def onC (tn : Nat → TN) (k : Nat) : Nat := if (tn k).is then secN (tn k) else 0
def secP (x : TN) (i : Nat) : Nat := if i = 0 then x.tl else x.hd
theorem secN_le (x : TN) : secN x ≤ 2 ∧ 0 < secN x := by unfold secN; split <;> omega
theorem RdAt.onAt {w : World} {u : Rd} {Y : YS} {ub lb bs : Nat → Nat} (h : RdAt w u Y ub lb bs) {k : Nat} (hk : k < u.r.T.rts.length) :
    ∃ a, w.cell? ⟨u.ob, k, none⟩ = some (.slice a (onC Y.tn k) (onC Y.tn k)) ∧ ∀ i, i < onC Y.tn k → a = some ⟨bs k, 0, none⟩ ∧ (Y.tn k).is = true ∧ w.cell? ⟨bs k, i, none⟩ = some (.int .i64 (secP (Y.tn k) i : Int)) ∧ bs k < w.heap.size := by
  have h1 := h.on.cell hk
  unfold onV at h1
  unfold onC
  cases hi : (Y.tn k).is with
  | false => rw [hi] at h1; exact ⟨none, h1, fun i hi' => absurd hi' (by simp)⟩
  | true =>
    rw [hi] at h1
    have h2 := (h.os k hk hi).1
    exact ⟨_, h1, fun i hi' => ⟨rfl, rfl, h2.cell hi', h2.lt⟩⟩
theorem onB_at {T : Tab} {tn : Nat → TN} {k : Nat} {x : Int} (ho : Ord3 T tn) (hk : k < T.rts.length) : onB T tn k x = true ↔ ∃ i, i < onC tn k ∧ (T.rts.getD k rt0).tr.getD (secP (tn k) i) 0 = x := by
  unfold onB onC
  cases hi : (tn k).is with
  | false => simp
  | true =>
    obtain ⟨h1, h2, h3⟩ := ho k hk hi
    rw [Bool.true_and, stands_iff]
    unfold secN secP
    constructor
    · rintro ⟨j, j1, j2, j3, e⟩
      by_cases ej : j = (tn k).tl
      · exact ⟨0, by simp; split <;> omega, by rw [if_pos rfl, ← ej]; exact e⟩
      · have : j = (tn k).hd := by omega
        exact ⟨1, by rw [if_pos rfl, if_neg (by omega)]; omega, by rw [if_neg (by omega), ← this]; exact e⟩
    · rintro ⟨i, _, e⟩
      by_cases ei : i = 0
      · rw [if_pos ei] at e; exact ⟨_, Nat.le_refl _, h1, by omega, e⟩
      · rw [if_neg ei] at e; exact ⟨_, h1, Nat.le_refl _, h3, e⟩
set_option maxRecDepth 100000 in
set_option maxHeartbeats 4000000 in
theorem rclear_any (u : Rd) (Y : YS) (ub lb bs : Nat → Nat) (x : Int) (w : World) (H : RdAt w u Y ub lb bs) (hN : u.r.T.rts.length ≤ 16) (ho : Ord3 u.r.T Y.tn) :
    Calls Try.prog 37 #[.pointer (some ⟨u.g, 0, none⟩), .int .i64 x] w fun e w' =>
      e = .returned (.bool (onN u.r.T Y.tn x u.r.T.rts.length == 0)) ∧ Below w.heap.size w w' := by
  obtain ⟨ra, rc, C0, hvr, hrl, hrc, hs, hR⟩ := H.au.tr.at_
  have HY := Lib.hid H; have HO := Lib.hid ho; have HR := Lib.hid hR; have HS := Lib.hid hs; have HVR := Lib.hid hvr
  unfold maxLen at hrc
  obtain ⟨m, hm⟩ : ∃ m, m = u.r.T.rts.length := ⟨_, rfl⟩
  have HM := Lib.hid hm
  have HYES : Hid ((∀ n, n < m → onB u.r.T Y.tn n x = false) → (onN u.r.T Y.tn x m == 0) = true) := fun h => by rw [onN_zero.2 h]; rfl
  have HNO : Hid (∀ n, n < m → onB u.r.T Y.tn n x = true → (onN u.r.T Y.tn x m == 0) = false) := fun n hn h => by
    cases e : (onN u.r.T Y.tn x m == 0) with
    | false => rfl
    | true =>
      have := onN_zero.1 (beq_iff_eq.1 e) n hn
      rw [h] at this; cases this
  rw [← hm] at hrl hN ⊢
  generalize (onN u.r.T Y.tn x m == 0) = R at *
  clear H ho hR hs hvr hm
  go_enter Try.func37, Try.ntmps37
  go_wp2_with fail
  go_loopw [5] (fun i wr => ∃ k : Nat, k ≤ m ∧ i = .int .i64 k ∧ (∀ n, n < k → onB u.r.T Y.tn n x = false) ∧ Below w.heap.size w wr) (fun i _ => m - (intOf i).toNat)
  case atStart => exact ⟨0, Nat.zero_le _, rfl, fun n hn => absurd hn (by omega), Below.refl _ _⟩
  case round =>
    obtain ⟨k, hk, rfl, hno, hb⟩ := hrel
    have B1 := Lib.hid hb; have NO := Lib.hid hno
    clear hb hno
    obtain ⟨w1, rfl⟩ : ∃ w1 : World, w1 = wr := ⟨_, rfl⟩
    have H1 := Lib.hid (HY.out.below B1.out)
    have gA := cell_row (j := 10) H1.out.ob rfl
    have lg := heap_lt H1.out.ob
    rw [← HM.out] at gA
    by_cases hlt : k < m
    case neg =>
      obtain rfl : k = m := by omega
      go_wp2_with fail
      go_ret
      rw [HYES.out NO.out]
      exact ⟨rfl, B1.out⟩
    case pos =>
    have HLT : Hid (k < u.r.T.rts.length) := by rw [← HM.out]; exact hlt
    obtain ⟨a, o1, hoa⟩ := H1.out.onAt HLT.out
    have lo := H1.out.on.lt
    have HOA := Lib.hid hoa
    have HOB := Lib.hid (onB_at (x := x) HO.out HLT.out)
    have hs2 : onC Y.tn k ≤ 2 := by unfold onC; have := secN_le (Y.tn k); split <;> omega
    clear hoa
    obtain ⟨s, hs0⟩ : ∃ s, s = onC Y.tn k := ⟨_, rfl⟩
    have HSC := Lib.hid hs0
    rw [← hs0] at o1 hs2 HOA HOB
    clear hs0
    go_wp2_with fail
    clear gA lg o1 lo
    go_loopw [6] (fun i wr => ∃ j : Nat, j ≤ s ∧ i = .int .i64 j ∧ (∀ n, n < j → (u.r.T.rts.getD k rt0).tr.getD (secP (Y.tn k) n) 0 ≠ x) ∧ Below w.heap.size w wr) (fun i _ => s - (intOf i).toNat)
    case atStart => exact ⟨0, Nat.zero_le _, rfl, fun n hn => absurd hn (by omega), B1.out⟩
    case round =>
      clear H1 HOA
      obtain ⟨j, hj, rfl, hnj, hb2⟩ := hrel
      have B2 := Lib.hid hb2; have NJ := Lib.hid hnj
      clear hb2 hnj
      obtain ⟨w2, rfl⟩ : ∃ w2 : World, w2 = wr := ⟨_, rfl⟩
      have H2 := Lib.hid (HY.out.below B2.out)
      have gA := cell_row (j := 10) H2.out.ob rfl
      have lg := heap_lt H2.out.ob
      rw [← HM.out] at gA
      obtain ⟨a2, o1, hoa⟩ := H2.out.onAt HLT.out
      have lo := H2.out.on.lt
      have hsc : onC Y.tn k = s := HSC.out.symm
      rw [hsc] at o1 hoa
      clear hsc
      by_cases hjs : j < s
      case neg =>
        obtain rfl : j = s := by omega
        clear hoa
        have NO2 : Hid (∀ n, n < k + 1 → onB u.r.T Y.tn n x = false) := fun n hn => by
          by_cases e : n = k
          · rw [e]
            cases hb : onB u.r.T Y.tn k x with
            | false => rfl
            | true => obtain ⟨i, hi, e⟩ := HOB.out.1 hb; exact absurd e (NJ.out i hi)
          · exact NO.out n (by omega)
        go_wp2_with fail
        go_roundw
        case rel => exact ⟨k + 1, by omega, by go_num, NO2.out, B2.out⟩
        case measure => simp [intOf]; omega
      case pos =>
      obtain ⟨rfl, hi, b0, lb0⟩ := hoa j hjs
      have hpl : secP (Y.tn k) j < (u.r.T.rts.getD k rt0).tr.length := by
        have := HO.out k HLT.out hi
        unfold secP; split <;> omega
      have HRk := HR.out k HLT.out
      obtain ⟨⟨ta, tc, hvt, htl2, htm, hts⟩, _⟩ := id HRk.tr
      obtain ⟨tb, toff, rfl, htb, htc⟩ := hts.at (Nat.lt_of_le_of_lt (Nat.zero_le _) hpl)
      have t0 : w2.cell? ⟨tb, toff + secP (Y.tn k) j, none⟩ = some (.int .i64 ((u.r.T.rts.getD k rt0).tr.getD (secP (Y.tn k) j) 0)) := by rw [H2.out.au.bel.cell htb]; exact htc _ hpl
      have ltb := Nat.lt_of_lt_of_le htb H2.out.au.bel.size
      obtain ⟨b, off, rfl, hb, hc⟩ := HS.out.at (Nat.lt_of_le_of_lt (Nat.zero_le _) HLT.out)
      have g3 : w2.cell? ⟨u.g, 3, none⟩ = some (.slice (some ⟨b, off, none⟩) m rc) := by rw [HM.out, ← HVR.out]; exact cell_row (j := 3) H2.out.ob rfl
      have r1 : w2.cell? ⟨b, off + k * 6 + 1, none⟩ = some (.slice (some ⟨tb, toff, none⟩) (u.r.T.rts.getD k rt0).tr.length tc) := by rw [H2.out.au.bel.cell hb, ← hvt]; exact hc k HLT.out 1 (by omega)
      have lr : b < w2.heap.size := Nat.lt_of_lt_of_le hb H2.out.au.bel.size
      obtain ⟨L, hL⟩ : ∃ L, L = (u.r.T.rts.getD k rt0).tr.length := ⟨_, rfl⟩
      have HHIT : Hid ((u.r.T.rts.getD k rt0).tr.getD (secP (Y.tn k) j) 0 = x → R = false) := fun e => HNO.out k hlt (HOB.out.2 ⟨j, hjs, e⟩)
      have HMISS : Hid ((u.r.T.rts.getD k rt0).tr.getD (secP (Y.tn k) j) 0 ≠ x → ∀ n, n < j + 1 → (u.r.T.rts.getD k rt0).tr.getD (secP (Y.tn k) n) 0 ≠ x) := fun e n hn => by
        by_cases en : n = j
        · rw [en]; exact e
        · exact NJ.out n (by omega)
      rw [← hL] at r1 hpl htl2
      unfold maxLen at htm
      obtain ⟨p, hp⟩ : ∃ p, p = secP (Y.tn k) j := ⟨_, rfl⟩
      rw [← hp] at b0 t0 hpl
      obtain ⟨z, hz⟩ : ∃ z, z = (u.r.T.rts.getD k rt0).tr.getD p 0 := ⟨_, rfl⟩
      rw [← hp] at HHIT HMISS
      rw [← hz] at t0 HHIT HMISS
      clear hL hp hz hvt hts htb htc hb hc HRk hoa hi
      go_wp2_with fail
      go_quiet (fail)
      have B3 : Hid (Below w.heap.size w (w2.drewN nq)) := B2.out.trans ((YD_drewN w2 nq).mono B2.out.size)
      generalize w2.drewN nq = w3 at *
      clear gA lg o1 lo b0 lb0 t0 ltb g3 r1 lr
      by_cases hzx : z = x
      case pos =>
        have hzb : (z == x) = true := by simpa using hzx
        have HF := HHIT.out hzx
        clear hzx
        go_wp2_with fail
        go_ret
        rw [HF]
        exact ⟨rfl, B3.out⟩
      case neg =>
        have hzb : (z == x) = false := by simpa using hzx
        have HF := Lib.hid (HMISS.out hzx)
        clear hzx
        go_wp2_with fail
        go_roundw
        case rel => exact ⟨j + 1, by omega, by go_num, HF.out, B3.out⟩
        case measure => simp [intOf]; omega
end Go.Proofs.Ytnjeiigdfdjccaa
/- The document's yard: goes. -/
namespace Go.Proofs.Ytnjeiigdfdjccaa
open Go.RowKit
set_option linter.unusedVariables false
set_option linter.unusedSimpArgs false
theorem RdAt.put {w : World} {u : Rd} {Y : YS} {ub lb bs : Nat → Nat} (H : RdAt w u Y ub lb bs) (n : Nat) {x : TN} (hi : x.is = true) (hm : x.mv = true) (cs : Array Value) (hsz : secN x ≤ cs.size) (hcs : ∀ i, i < secN x → cs[i]? = some (secV x i)) :
    RdP u Y ub lb bs w (Y.setT n x) (((w.alloc (.cells cs 3)).setCell ⟨u.ob, n, none⟩ (.slice (some ⟨w.heap.size, 0, none⟩) (secN x) (secN x))).setCell ⟨u.mb, n, none⟩ (.bool true)) := by
  have B : Below w.heap.size w (w.alloc (.cells cs 3)) := tb_alloc_below _ _
  have h1 := H.below B
  have hr : RowAt (w.alloc (.cells cs 3)) w.heap.size 3 (secN x) (secV x) := ⟨cs, heap_alloc_new _ _, hsz, hcs⟩
  have hf : FarB u Y.A ub lb w.heap.size := ⟨by have := (H.ap.ge u.g (.inl rfl)).1; have := heap_lt H.ob; omega, fun h => by have := H.own_lt h; omega, by have := heap_lt H.au.obj; omega⟩
  have h2 := h1.setO (n := n) (x := { x with mv := (Y.tn n).mv }) w.heap.size rfl (fun _ => ⟨hr, hf⟩)
  rw [if_pos (show ({ x with mv := (Y.tn n).mv } : TN).is = true from hi)] at h2
  have h3 := h2.setM n true
  have e : ((Y.setT n { x with mv := (Y.tn n).mv }).setT n { (Y.setT n { x with mv := (Y.tn n).mv }).tn n with mv := true }) = Y.setT n x := by
    rw [setT_setT, show (Y.setT n { x with mv := (Y.tn n).mv }).tn n = { x with mv := (Y.tn n).mv } from if_pos rfl]
    show Y.setT n ⟨x.is, true, x.tl, x.hd⟩ = _
    rw [← hm]
  rw [e] at h3
  refine ⟨_, _, _, h3, (((Only.refl (AllR u Y ub lb bs) w).alloc _).set _ _ (.inr (.inl (.inl (.inr (.inl rfl)))))).set _ _ (.inr (.inl (.inl (.inr (.inr (.inl rfl)))))), fun b hb => ?_⟩
  rcases hb with hb | ⟨k, hk, hik, rfl⟩
  · exact .inl (.inl hb)
  · by_cases e : k = n
    · exact .inr (by unfold fset; rw [if_pos e]; exact Nat.le_refl _)
    · refine .inl (.inr ⟨k, hk, ?_, ?_⟩)
      · rw [← hik]; exact congrArg TN.is (if_neg e).symm
      · unfold fset; rw [if_neg e]
theorem RdAt.rm {w : World} {u : Rd} {Y : YS} {ub lb bs : Nat → Nat} (H : RdAt w u Y ub lb bs) (n : Nat) (hm : (Y.tn n).mv = false) : RdP u Y ub lb bs w (Y.setT n tn0) (w.setCell ⟨u.ob, n, none⟩ (.slice none 0 0)) :=
  ⟨_, _, _, H.setO (n := n) (x := tn0) 0 hm.symm (fun h => absurd h (by decide)), (Only.refl (AllR u Y ub lb bs) w).set _ _ (.inr (.inl (.inl (.inr (.inl rfl))))), fun b hb => by
    rcases hb with hb | ⟨k, hk, hik, rfl⟩
    · exact .inl (.inl hb)
    · by_cases e : k = n
      · rw [e, show (Y.setT n tn0).tn n = tn0 from if_pos rfl] at hik; exact absurd hik (by decide)
      · refine .inl (.inr ⟨k, hk, ?_, ?_⟩)
        · rw [← hik]; exact congrArg TN.is (if_neg e).symm
        · unfold fset; rw [if_neg e]⟩
theorem ansN_train {T : Tab} {Y : YS} {kd n : Nat} (hk : 4 ≤ kd ∧ kd ≤ 6) (hn : n < T.rts.length) : ansN T Y ⟨kd, (n : Int)⟩ = if (Y.tn n).is = false then 4 else if stuckB ((T.rts.getD n rt0).tr.length - 1) (Y.tn n) (kd != 5) (kd != 4) then 6 else 0 := by
  have hM : manyN T kd = T.rts.length := if_neg (by omega)
  unfold ansN
  dsimp only
  rw [if_neg (by omega), if_neg (by rw [hM]; omega)]
  show (if 4 ≤ kd ∧ kd ≤ 6 ∧ (Y.tn n).is = false then 4 else if kd = 3 then _ else if 4 ≤ kd ∧ kd ≤ 6 then (if stuckB ((T.rts.getD n rt0).tr.length - 1) (Y.tn n) (kd != 5) (kd != 4) then 6 else 0) else 0) = _
  by_cases hi : (Y.tn n).is = false
  · rw [if_pos ⟨hk.1, hk.2, hi⟩, if_pos hi]
  · rw [if_neg (fun h => hi h.2.2), if_neg hi, if_neg (by omega), if_pos hk]
theorem doY_train {T : Tab} {Y : YS} {kd n : Nat} (hk : 4 ≤ kd ∧ kd ≤ 6) : doY T Y ⟨kd, (n : Int)⟩ = Y.setT n (goneOn ((T.rts.getD n rt0).tr.length - 1) (Y.tn n) (kd != 5) (kd != 4)) := by
  unfold doY
  dsimp only
  rw [if_neg (by omega), if_pos (by omega)]
  rfl
set_option maxRecDepth 100000 in
set_option maxHeartbeats 8000000 in
theorem rgoes_any (u : Rd) (Y : YS) (ub lb bs : Nat → Nat) (kd n : Nat) (w : World) (H : RdAt w u Y ub lb bs) (hN : u.r.T.rts.length ≤ 16) (hn : n < u.r.T.rts.length) (ho : Ord3 u.r.T Y.tn) (hk : 4 ≤ kd ∧ kd ≤ 6) :
    Calls Try.prog 52 #[.pointer (some ⟨u.g, 0, none⟩), .int .i64 (n : Int), .int .u8 (kd : Int)] w fun e w' =>
      e = .returned (.int .i64 (ansN u.r.T Y ⟨kd, (n : Int)⟩ : Int)) ∧ RdP u Y ub lb bs w (moveY u.r.T Y ⟨kd, (n : Int)⟩) w' := by
  have HA := Lib.hid (ansN_train (Y := Y) hk hn)
  have HD := Lib.hid (doY_train (T := u.r.T) (Y := Y) (n := n) hk)
  have HM : Hid (moveY u.r.T Y ⟨kd, (n : Int)⟩ = if ansN u.r.T Y ⟨kd, (n : Int)⟩ = 0 then doY u.r.T Y ⟨kd, (n : Int)⟩ else Y) := rfl
  rw [HD.out, HA.out] at HM
  clear HD
  rw [HA.out]
  clear HA
  obtain ⟨ra, rc, C0, hvr, hrl, hrc, hs, hR⟩ := H.au.tr.at_
  have HRk := hR n hn
  obtain ⟨⟨ta, tc, hvt, htl2, htm, hts⟩, _⟩ := id HRk.tr
  obtain ⟨b, off, rfl, hb, hc⟩ := hs.at (Nat.lt_of_le_of_lt (Nat.zero_le _) hn)
  have gA := cell_row (j := 10) H.ob rfl
  have gM := cell_row (j := 11) H.ob rfl
  have lg := heap_lt H.ob
  have g3 : w.cell? ⟨u.g, 3, none⟩ = some (.slice (some ⟨b, off, none⟩) u.r.T.rts.length rc) := by rw [← hvr]; exact cell_row (j := 3) H.ob rfl
  have r1 : w.cell? ⟨b, off + n * 6 + 1, none⟩ = some (.slice ta (u.r.T.rts.getD n rt0).tr.length tc) := by rw [H.au.bel.cell hb, ← hvt]; exact hc n hn 1 (by omega)
  have lr : b < w.heap.size := Nat.lt_of_lt_of_le hb H.au.bel.size
  obtain ⟨a, o1, hoa⟩ := H.onAt hn
  have lo := H.on.lt
  have fo := H.on.frozen n
  have m1 := H.mv.cell hn
  have fm := H.mv.frozen n
  have lm := H.mv.lt
  have hor := ho n hn
  have HSETF : Hid (∀ X, X = Y.tn n → X = ⟨(Y.tn n).is, (Y.tn n).mv, (Y.tn n).tl, (Y.tn n).hd⟩) := fun X e => e
  obtain ⟨L, hL⟩ : ∃ L, L = (u.r.T.rts.getD n rt0).tr.length := ⟨_, rfl⟩
  rw [← hL] at r1 htl2 hor HM ⊢
  unfold maxLen at htm hrc
  have HY := Lib.hid H
  have hsec : onC Y.tn n = if (Y.tn n).is then (if (Y.tn n).tl = (Y.tn n).hd then 1 else 2) else 0 := rfl
  rw [hsec] at o1 hoa
  have hP0 : secP (Y.tn n) 0 = (Y.tn n).tl := rfl
  have hP1 : secP (Y.tn n) 1 = (Y.tn n).hd := rfl
  have HT := Lib.hid (rfl : Y.tn n = Y.tn n)
  obtain ⟨X, hX⟩ : ∃ X, X = Y.tn n := ⟨_, rfl⟩
  rw [← hX] at o1 hoa m1 hor HM hP0 hP1 ⊢
  have HRM : Hid (X.mv = false → RdP u Y ub lb bs w (Y.setT n tn0) (w.setCell ⟨u.ob, n, none⟩ (.slice none 0 0))) := fun h => H.rm n (by rw [← hX]; exact h)
  have HPUT : Hid (∀ (x : TN) (cs : Array Value), x.is = true → x.mv = true → secN x ≤ cs.size → (∀ i, i < secN x → cs[i]? = some (secV x i)) → RdP u Y ub lb bs w (Y.setT n x) (((w.alloc (.cells cs 3)).setCell ⟨u.ob, n, none⟩ (.slice (some ⟨w.heap.size, 0, none⟩) (secN x) (secN x))).setCell ⟨u.mb, n, none⟩ (.bool true))) := fun x cs h1 h2 h3 h4 => H.put n h1 h2 cs h3 h4
  have HREF := Lib.hid (RdP.refl H)
  have hob : u.ob ≠ u.mb := H.ap.om
  have hgo : u.g ≠ u.ob := H.ap.go
  have hgm : u.g ≠ u.mb := H.ap.gm
  clear hL hX H hR hs hc hb hvr hvt hts HRk hsec ho HT HSETF HY
  obtain ⟨is, mv, tl, hd⟩ := X
  dsimp only at o1 hoa m1 hor hP0 hP1
  obtain ⟨q, hq⟩ : ∃ q, q = (if (⟨is, mv, tl, hd⟩ : TN).is = false then 4 else if stuckB (L - 1) ⟨is, mv, tl, hd⟩ (kd != 5) (kd != 4) = true then 6 else 0) := ⟨_, rfl⟩
  obtain ⟨Z, hZ⟩ : ∃ Z, Z = moveY u.r.T Y ⟨kd, (n : Int)⟩ := ⟨_, rfl⟩
  rw [← hq, ← hZ]
  rw [← hq, ← hZ] at HM
  have HQ := Lib.hid hq
  clear hq hZ
  cases is
  case false =>
    clear hoa
    have HE : Hid (q = 4) := by show _ = _; rw [HQ.out]; exact rfl
    have HE2 : Hid (Z = Y) := by show _ = _; rw [HM.out, HE.out]; rfl
    go_enter Try.func52, Try.ntmps52
    go_wp2_with fail
    go_ret
    rw [HE.out, HE2.out]
    exact ⟨rfl, HREF.out⟩
  case true =>
  obtain ⟨hor1, hor2, hor3⟩ := hor rfl
  clear hor
  cases mv
  case true =>
    clear hoa
    have hs0 : 0 < (if tl = hd then 1 else 2) := by split <;> omega
    rw [if_pos rfl] at o1
    generalize (if tl = hd then 1 else 2) = s at *
    have HE : Hid (q = 6) := by show _ = _; rw [HQ.out]; exact rfl
    have HE2 : Hid (Z = Y) := by show _ = _; rw [HM.out, HE.out]; rfl
    go_enter Try.func52, Try.ntmps52
    go_wp2_with fail
    go_ret
    rw [HE.out, HE2.out]
    exact ⟨rfl, HREF.out⟩
  case false =>
  have hlt0 : 0 < L := by omega
  by_cases e1 : tl = hd
  case pos =>
    subst e1
    rw [if_pos rfl, if_pos rfl] at o1
    obtain ⟨rfl, _, b0, lb0⟩ := hoa 0 (by simp)
    rw [hP0] at b0
    clear hoa hP0 hP1
    by_cases el : tl + 1 = L
    case pos =>
      have t1 : decide ((tl : Int) < (L : Int) - 1) = false := decide_eq_false (by omega)
      have t2 : ((tl : Int) == (L : Int) - 1) = true := by simpa using (show (tl : Int) = (L : Int) - 1 by omega)
      have h1 : (tl == L - 1) = true := by simpa using (show tl = L - 1 by omega)
      rcases (show kd = 4 ∨ kd = 5 ∨ kd = 6 by omega) with rfl | rfl | rfl
      · have hst : (if (true = false) then 4 else if stuckB (L - 1) ⟨true, false, tl, tl⟩ (4 != 5) (4 != 4) = true then 6 else 0) = 6 := by simp [stuckB, h1]
        clear el h1
        have HE : Hid (q = 6) := by show _ = _; rw [HQ.out]; exact hst
        have HE2 : Hid (Z = Y) := by show _ = _; rw [HM.out, HE.out]; rfl
        go_enter Try.func52, Try.ntmps52
        go_wp2_with fail
        go_ret
        rw [HE.out, HE2.out]
        exact ⟨rfl, HREF.out⟩
      · have hst : (if (true = false) then 4 else if stuckB (L - 1) ⟨true, false, tl, tl⟩ (5 != 5) (5 != 4) = true then 6 else 0) = 0 := by simp [stuckB, h1, bne]
        have hgn : goneOn (L - 1) ⟨true, false, tl, tl⟩ (5 != 5) (5 != 4) = tn0 := by simp [goneOn, goneB, h1]
        clear el h1
        have HE : Hid (q = 0) := by show _ = _; rw [HQ.out]; exact hst
        have HE2 : Hid (Z = Y.setT n tn0) := by show _ = _; rw [HM.out, HE.out, ← hgn]; rfl
        have HP := Lib.hid (HRM.out rfl)
        clear hst hgn
        go_enter Try.func52, Try.ntmps52
        go_wp2_with fail
        go_ret
        rw [HE.out, HE2.out]
        exact ⟨rfl, HP.out⟩
      · have hst : (if (true = false) then 4 else if stuckB (L - 1) ⟨true, false, tl, tl⟩ (6 != 5) (6 != 4) = true then 6 else 0) = 0 := by simp [stuckB, h1, bne]
        have hgn : goneOn (L - 1) ⟨true, false, tl, tl⟩ (6 != 5) (6 != 4) = tn0 := by simp [goneOn, goneB, h1]
        clear el h1
        have HE : Hid (q = 0) := by show _ = _; rw [HQ.out]; exact hst
        have HE2 : Hid (Z = Y.setT n tn0) := by show _ = _; rw [HM.out, HE.out, ← hgn]; rfl
        have HP := Lib.hid (HRM.out rfl)
        clear hst hgn
        go_enter Try.func52, Try.ntmps52
        go_wp2_with fail
        go_ret
        rw [HE.out, HE2.out]
        exact ⟨rfl, HP.out⟩
    case neg =>
      have t1 : decide ((tl : Int) < (L : Int) - 1) = true := decide_eq_true (by omega)
      have t2 : ((tl : Int) == (L : Int) - 1) = false := by simpa using (show ¬ (tl : Int) = (L : Int) - 1 by omega)
      have h1 : (tl == L - 1) = false := by simpa using (show ¬ tl = L - 1 by omega)
      rcases (show kd = 4 ∨ kd = 5 ∨ kd = 6 by omega) with rfl | rfl | rfl
      · have hst : (if (true = false) then 4 else if stuckB (L - 1) ⟨true, false, tl, tl⟩ (4 != 5) (4 != 4) = true then 6 else 0) = 0 := by simp [stuckB, h1, bne]
        have hgn : goneOn (L - 1) ⟨true, false, tl, tl⟩ (4 != 5) (4 != 4) = ⟨true, true, tl, tl + 1⟩ := by simp [goneOn, goneB, h1]
        have hsn : secN ⟨true, true, tl, tl + 1⟩ ≤ (#[.int .i64 (tl : Int), .int .i64 ((tl : Int) + 1)] : Array Value).size := by show secN ⟨true, true, tl, tl + 1⟩ ≤ 2; simp [secN]
        have hsv : ∀ i, i < secN ⟨true, true, tl, tl + 1⟩ → (#[.int .i64 (tl : Int), .int .i64 ((tl : Int) + 1)] : Array Value)[i]? = some (secV ⟨true, true, tl, tl + 1⟩ i) := fun i hi => by
          have := (secN_le ⟨true, true, tl, tl + 1⟩).1
          match i, (show i < 2 by omega) with
          | 0, _ => rfl
          | 1, _ => rfl
        have hs2 : secN ⟨true, true, tl, tl + 1⟩ = 2 := by simp [secN]
        clear el h1
        have HE : Hid (q = 0) := by show _ = _; rw [HQ.out]; exact hst
        have HE2 : Hid (Z = Y.setT n ⟨true, true, tl, tl + 1⟩) := by show _ = _; rw [HM.out, HE.out, ← hgn]; rfl
        have hP := HPUT.out ⟨true, true, tl, tl + 1⟩ #[.int .i64 (tl : Int), .int .i64 ((tl : Int) + 1)] rfl rfl hsn hsv
        rw [hs2, World.setCell_alloc_past _ _ _ _ lo, World.setCell_alloc_past _ _ _ _ (by simpa [World.setCell] using lm)] at hP
        have HP := Lib.hid hP
        clear hst hgn hsn hsv hs2 hP
        go_enter Try.func52, Try.ntmps52
        go_wp2_with fail
        go_ret
        rw [HE.out, HE2.out]
        exact ⟨rfl, HP.out⟩
      · have hst : (if (true = false) then 4 else if stuckB (L - 1) ⟨true, false, tl, tl⟩ (5 != 5) (5 != 4) = true then 6 else 0) = 6 := by simp [stuckB, h1]; omega
        clear el h1
        have HE : Hid (q = 6) := by show _ = _; rw [HQ.out]; exact hst
        have HE2 : Hid (Z = Y) := by show _ = _; rw [HM.out, HE.out]; rfl
        go_enter Try.func52, Try.ntmps52
        go_wp2_with fail
        go_ret
        rw [HE.out, HE2.out]
        exact ⟨rfl, HREF.out⟩
      · have hst : (if (true = false) then 4 else if stuckB (L - 1) ⟨true, false, tl, tl⟩ (6 != 5) (6 != 4) = true then 6 else 0) = 0 := by simp [stuckB, h1, bne]
        have hgn : goneOn (L - 1) ⟨true, false, tl, tl⟩ (6 != 5) (6 != 4) = ⟨true, true, tl + 1, tl + 1⟩ := by simp [goneOn, goneB, h1]
        have hsn : secN ⟨true, true, tl + 1, tl + 1⟩ ≤ (#[.int .i64 ((tl : Int) + 1)] : Array Value).size := by show secN ⟨true, true, tl + 1, tl + 1⟩ ≤ 1; simp [secN]
        have hsv : ∀ i, i < secN ⟨true, true, tl + 1, tl + 1⟩ → (#[.int .i64 ((tl : Int) + 1)] : Array Value)[i]? = some (secV ⟨true, true, tl + 1, tl + 1⟩ i) := fun i hi => by
          have h1 : secN ⟨true, true, tl + 1, tl + 1⟩ = 1 := by simp [secN]
          rw [h1] at hi
          obtain rfl : i = 0 := by omega
          rfl
        have hs2 : secN ⟨true, true, tl + 1, tl + 1⟩ = 1 := by simp [secN]
        clear el h1
        have HE : Hid (q = 0) := by show _ = _; rw [HQ.out]; exact hst
        have HE2 : Hid (Z = Y.setT n ⟨true, true, tl + 1, tl + 1⟩) := by show _ = _; rw [HM.out, HE.out, ← hgn]; rfl
        have hP := HPUT.out ⟨true, true, tl + 1, tl + 1⟩ #[.int .i64 ((tl : Int) + 1)] rfl rfl hsn hsv
        rw [hs2, World.setCell_alloc_past _ _ _ _ lo, World.setCell_alloc_past _ _ _ _ (by simpa [World.setCell] using lm)] at hP
        have HP := Lib.hid hP
        clear hst hgn hsn hsv hs2 hP
        go_enter Try.func52, Try.ntmps52
        go_wp2_with fail
        go_ret
        rw [HE.out, HE2.out]
        exact ⟨rfl, HP.out⟩
  case neg =>
    rw [if_pos rfl, if_neg e1] at o1
    obtain ⟨rfl, _, b0, lb0⟩ := hoa 0 (by simp [e1])
    obtain ⟨_, _, b1, _⟩ := hoa 1 (by simp [e1])
    rw [hP0] at b0
    rw [hP1] at b1
    clear hoa hP0 hP1
    obtain rfl : hd = tl + 1 := by omega
    have h1 : (tl == tl + 1) = false := by simp
    rcases (show kd = 4 ∨ kd = 5 ∨ kd = 6 by omega) with rfl | rfl | rfl
    · have hst : (if (true = false) then 4 else if stuckB (L - 1) ⟨true, false, tl, tl + 1⟩ (4 != 5) (4 != 4) = true then 6 else 0) = 6 := by simp [stuckB, h1]
      clear e1 h1
      have HE : Hid (q = 6) := by show _ = _; rw [HQ.out]; exact hst
      have HE2 : Hid (Z = Y) := by show _ = _; rw [HM.out, HE.out]; rfl
      go_enter Try.func52, Try.ntmps52
      go_wp2_with fail
      go_ret
      rw [HE.out, HE2.out]
      exact ⟨rfl, HREF.out⟩
    · have hst : (if (true = false) then 4 else if stuckB (L - 1) ⟨true, false, tl, tl + 1⟩ (5 != 5) (5 != 4) = true then 6 else 0) = 0 := by simp [stuckB, h1, bne]
      have hgn : goneOn (L - 1) ⟨true, false, tl, tl + 1⟩ (5 != 5) (5 != 4) = ⟨true, true, tl + 1, tl + 1⟩ := by simp [goneOn, goneB, h1]
      have hsn : secN ⟨true, true, tl + 1, tl + 1⟩ ≤ (#[.int .i64 ((tl : Int) + 1)] : Array Value).size := by show secN ⟨true, true, tl + 1, tl + 1⟩ ≤ 1; simp [secN]
      have hsv : ∀ i, i < secN ⟨true, true, tl + 1, tl + 1⟩ → (#[.int .i64 ((tl : Int) + 1)] : Array Value)[i]? = some (secV ⟨true, true, tl + 1, tl + 1⟩ i) := fun i hi => by
        have h1 : secN ⟨true, true, tl + 1, tl + 1⟩ = 1 := by simp [secN]
        rw [h1] at hi
        obtain rfl : i = 0 := by omega
        rfl
      have hs2 : secN ⟨true, true, tl + 1, tl + 1⟩ = 1 := by simp [secN]
      clear e1 h1
      have HE : Hid (q = 0) := by show _ = _; rw [HQ.out]; exact hst
      have HE2 : Hid (Z = Y.setT n ⟨true, true, tl + 1, tl + 1⟩) := by show _ = _; rw [HM.out, HE.out, ← hgn]; rfl
      have hP := HPUT.out ⟨true, true, tl + 1, tl + 1⟩ #[.int .i64 ((tl : Int) + 1)] rfl rfl hsn hsv
      rw [hs2, World.setCell_alloc_past _ _ _ _ lo, World.setCell_alloc_past _ _ _ _ (by simpa [World.setCell] using lm)] at hP
      have HP := Lib.hid hP
      clear hst hgn hsn hsv hs2 hP
      go_enter Try.func52, Try.ntmps52
      go_wp2_with fail
      go_ret
      rw [HE.out, HE2.out]
      exact ⟨rfl, HP.out⟩
    · have hst : (if (true = false) then 4 else if stuckB (L - 1) ⟨true, false, tl, tl + 1⟩ (6 != 5) (6 != 4) = true then 6 else 0) = 6 := by simp [stuckB, h1]
      clear e1 h1
      have HE : Hid (q = 6) := by show _ = _; rw [HQ.out]; exact hst
      have HE2 : Hid (Z = Y) := by show _ = _; rw [HM.out, HE.out]; rfl
      go_enter Try.func52, Try.ntmps52
      go_wp2_with fail
      go_ret
      rw [HE.out, HE2.out]
      exact ⟨rfl, HREF.out⟩
end Go.Proofs.Ytnjeiigdfdjccaa
/- The document's yard: does. -/
namespace Go.Proofs.Ytnjeiigdfdjccaa
open Go.RowKit
set_option linter.unusedVariables false
set_option linter.unusedSimpArgs false
/-- A block off the document's yard. -/
structure OffR (u : Rd) (Y : YS) (ub lb bs : Nat → Nat) (fb : Nat) : Prop where
  o : ¬ AllR u Y ub lb bs fb
  g : fb ≠ u.r.g
  z : u.r.w0.heap.size ≤ fb
def RdPF (u : Rd) (Y : YS) (ub lb bs : Nat → Nat) (fb : Nat) (w : World) (Y' : YS) (f' : FD) (w' : World) : Prop :=
  ∃ u' l' b', RdAt w' u Y' u' l' b' ∧ FeedAt w' fb f' ∧ OffR u Y' u' l' b' fb ∧ Only (fun b => AllR u Y ub lb bs b ∨ b = fb) w w' ∧ ∀ b, AllR u Y' u' l' b' b → AllR u Y ub lb bs b ∨ w.heap.size ≤ b
theorem RdP.feed {u : Rd} {Y Y' : YS} {ub lb bs : Nat → Nat} {fb : Nat} {w w' : World} {f : FD} (h : RdP u Y ub lb bs w Y' w') (hf : FeedAt w fb f) (hO : OffR u Y ub lb bs fb) : RdPF u Y ub lb bs fb w Y' f w' := by
  obtain ⟨u', l', b', h1, h2, h3⟩ := h
  have hl := heap_lt hf
  refine ⟨u', l', b', h1, (h2.block _ hl hO.o).trans hf, ⟨fun h => ?_, hO.g, hO.z⟩, h2.mono (fun i _ hi => .inl hi), h3⟩
  rcases h3 _ h with h | h
  · exact hO.o h
  · omega
theorem RdPF.below {u : Rd} {Y Y' : YS} {ub lb bs : Nat → Nat} {fb : Nat} {w w1 w2 : World} {f : FD} (h : RdPF u Y ub lb bs fb w Y' f w1) (hb : Below w1.heap.size w1 w2) : RdPF u Y ub lb bs fb w Y' f w2 := by
  obtain ⟨u', l', b', h1, h2, h3, h4, h5⟩ := h
  exact ⟨u', l', b', h1.below hb, tb_kept h2 hb, h3, h4.trans (Only.of_below _ hb), h5⟩
theorem RdPF.pre {u : Rd} {Y Y' : YS} {ub lb bs : Nat → Nat} {fb : Nat} {w w1 w2 : World} {f : FD} (hb : Below w.heap.size w w1) (h : RdPF u Y ub lb bs fb w1 Y' f w2) : RdPF u Y ub lb bs fb w Y' f w2 := by
  obtain ⟨u', l', b', h1, h2, h3, h4, h5⟩ := h
  exact ⟨u', l', b', h1, h2, h3, (Only.of_below _ hb).trans h4, fun b hb' => (h5 b hb').imp id (fun h => Nat.le_trans hb.size h)⟩
theorem OffR.drewN {u : Rd} {Y : YS} {ub lb bs : Nat → Nat} {fb : Nat} (h : OffR u Y ub lb bs fb) : OffR u Y ub lb bs fb := h
theorem RdAt.off_ {w w' : World} {u : Rd} {Y : YS} {ub lb bs : Nat → Nat} {fb : Nat} (h : RdAt w u Y ub lb bs) (hO : OffR u Y ub lb bs fb) (ho : Only (fun b => b = fb) w w') : RdAt w' u Y ub lb bs :=
  h.only ho (fun b hb => by rw [hb]; exact hO.z) (fun e => hO.g e.symm) (fun b hb e => hO.o (by rw [← e]; exact hb))
theorem RdPF.set {u : Rd} {Y : YS} {ub lb bs : Nat → Nat} {fb : Nat} {w : World} {f f' : FD} (h : RdAt w u Y ub lb bs) (hf : FeedAt w fb f) (hO : OffR u Y ub lb bs fb) {j : Nat} {v : Value} (hv : FeedAt (w.setCell ⟨fb, j, none⟩ v) fb f') : RdPF u Y ub lb bs fb w Y f' (w.setCell ⟨fb, j, none⟩ v) :=
  ⟨ub, lb, bs, h.off_ hO ((Only.refl _ _).set _ _ (.inr rfl)), hv, hO, (Only.refl _ _).set _ _ (.inr (.inr rfl)), fun _ h => .inl h⟩
theorem RdPF.refl {u : Rd} {Y : YS} {ub lb bs : Nat → Nat} {fb : Nat} {w : World} {f : FD} (h : RdAt w u Y ub lb bs) (hf : FeedAt w fb f) (hO : OffR u Y ub lb bs fb) : RdPF u Y ub lb bs fb w Y f w := ⟨ub, lb, bs, h, hf, hO, Only.refl _ _, fun _ h => .inl h⟩
theorem RdAt.pt {w : World} {u : Rd} {Y : YS} {ub lb bs : Nat → Nat} {b n : Nat} {v : Value} {p : PN} (h : RdAt (w.setCell ⟨b, n, none⟩ v) u (Y.setP n p) ub lb bs) (hb : RdO u b) : RdP u Y ub lb bs w (Y.setP n p) (w.setCell ⟨b, n, none⟩ v) :=
  ⟨ub, lb, bs, h, (Only.refl _ _).set _ _ (.inr (.inl (.inl hb))), fun _ h => .inl h⟩
set_option maxRecDepth 100000 in
set_option maxHeartbeats 16000000 in
theorem rdoes_any (u : Rd) (Y : YS) (ub lb bs : Nat → Nat) (f : FD) (fb kd : Nat) (z : Int) (w : World) (H : RdAt w u Y ub lb bs) (hf : FeedAt w fb f) (hO : OffR u Y ub lb bs fb) (hT : TOk u.r.T) (ho : Ord3 u.r.T Y.tn) (hpr : Y.L.pr < 4294967296) (hfo : f.Ok) (hkd : kd < 256) (hz : i64ok z) :
    Calls Try.prog 36 #[.pointer (some ⟨u.g, 0, none⟩), .int .u8 (kd : Int), .int .i64 z, .pointer (some ⟨fb, 0, none⟩)] w fun e w' =>
      e = .returned (.int .i64 (ansN u.r.T Y ⟨kd, z⟩ : Int)) ∧ RdPF u Y ub lb bs fb w (moveY u.r.T Y ⟨kd, z⟩) (moveF u.r.T Y f ⟨kd, z⟩) w' := by
  have HT := Lib.hid hT; have HOR := Lib.hid ho; have HFO := Lib.hid hfo; have HOF := Lib.hid hO; have HPR := Lib.hid hpr
  have HY := Lib.hid H; have HF := Lib.hid hf
  have hN := hT.n; have hP := hT.p
  have HN0 := Lib.hid (show u.r.T.rts.length ≤ 16 from hN); have HP0 := Lib.hid (show u.r.T.pts.length ≤ 12 from hP)
  obtain ⟨q, hq⟩ : ∃ q, q = ansN u.r.T Y ⟨kd, z⟩ := ⟨_, rfl⟩
  obtain ⟨Z, hZ⟩ : ∃ Z, Z = moveY u.r.T Y ⟨kd, z⟩ := ⟨_, rfl⟩
  obtain ⟨G, hG⟩ : ∃ Z, Z = moveF u.r.T Y f ⟨kd, z⟩ := ⟨_, rfl⟩
  rw [← hq, ← hZ, ← hG]
  have HQ := Lib.hid hq; have HZ := Lib.hid hZ; have HG := Lib.hid hG
  have HREF : Hid (q ≠ 0 → Z = Y ∧ G = f) := fun h => by
    have h' : ansN u.r.T Y ⟨kd, z⟩ ≠ 0 := by rw [← HQ.out]; exact h
    exact ⟨by rw [HZ.out]; unfold moveY; rw [if_neg h'], by rw [HG.out]; unfold moveF; rw [if_neg h']⟩
  have HDO : Hid (q = 0 → Z = doY u.r.T Y ⟨kd, z⟩ ∧ G = doF f ⟨kd, z⟩) := fun h => by
    have h' : ansN u.r.T Y ⟨kd, z⟩ = 0 := by rw [← HQ.out]; exact h
    exact ⟨by rw [HZ.out]; unfold moveY; rw [if_pos h'], by rw [HG.out]; unfold moveF; rw [if_pos h']⟩
  have HSAME := Lib.hid (RdPF.refl H hf hO)
  have gA := cell_row (j := 10) H.ob rfl; have gB := cell_row (j := 12) H.ob rfl
  have lg := heap_lt H.ob
  have hz0 := hz.1
  have hz1 := hz.2
  clear hq hZ hG H hf hT ho hfo hO hpr
  by_cases k0 : kd = 0
  case pos =>
    subst k0
    go_enter Try.func36, Try.ntmps36
    go_wp2_with fail
    go_ret
    have ha : q = 2 := by rw [HQ.out]; exact if_pos (.inl Nat.zero_lt_one)
    obtain ⟨e1, e2⟩ := HREF.out (by omega)
    rw [ha, e1, e2]
    exact ⟨rfl, HSAME.out⟩
  case neg =>
  by_cases k9 : 8 < kd
  case pos =>
    have d1 : decide ((kd : Int) < 1) = false := decide_eq_false (by omega)
    have d8 : decide ((8 : Int) < (kd : Int)) = true := decide_eq_true (by omega)
    go_enter Try.func36, Try.ntmps36
    go_wp2_with fail
    go_ret
    have ha : q = 2 := by rw [HQ.out]; exact if_pos (.inr k9)
    obtain ⟨e1, e2⟩ := HREF.out (by omega)
    rw [ha, e1, e2]
    exact ⟨rfl, HSAME.out⟩
  case neg =>
  have HM : Hid (q = if z < 0 ∨ (manyN u.r.T kd : Int) ≤ z then 4
      else if 4 ≤ kd ∧ kd ≤ 6 ∧ (Y.tn z.toNat).is = false then 4
      else if kd = 3 then (if enterB u.r.T Y z.toNat then 0 else 6)
      else if 4 ≤ kd ∧ kd ≤ 6 then (if stuckB ((u.r.T.rts.getD z.toNat rt0).tr.length - 1) (Y.tn z.toNat) (kd != 5) (kd != 4) then 6 else 0)
      else 0) := by show _ = _; rw [HQ.out]; exact if_neg (by show ¬ (kd < 1 ∨ 8 < kd); omega)
  by_cases k1 : kd = 1
  case pos =>
    subst k1
    have hM : manyN u.r.T 1 = u.r.T.rts.length := if_neg (by decide)
    rw [hM] at HM
    clear hM
    by_cases z0 : z < 0
    case pos =>
      have dz : decide (z < (0 : Int)) = true := decide_eq_true z0
      go_enter Try.func36, Try.ntmps36
      go_wp2_with fail
      go_ret
      have ha : q = 4 := by rw [HM.out]; exact if_pos (.inl z0)
      obtain ⟨e1, e2⟩ := HREF.out (by omega)
      rw [ha, e1, e2]
      exact ⟨rfl, HSAME.out⟩
    case neg =>
    obtain ⟨n, rfl⟩ := Int.eq_ofNat_of_zero_le (show 0 ≤ z by omega)
    by_cases zn : u.r.T.rts.length ≤ n
    case pos =>
      have dz : decide ((u.r.T.rts.length : Int) ≤ (n : Int)) = true := decide_eq_true (by omega)
      go_enter Try.func36, Try.ntmps36
      go_wp2_with fail
      go_ret
      have ha : q = 4 := by rw [HM.out]; exact if_pos (.inr (by omega))
      obtain ⟨e1, e2⟩ := HREF.out (by omega)
      rw [ha, e1, e2]
      exact ⟨rfl, HSAME.out⟩
    case neg =>
    have dz : decide ((u.r.T.rts.length : Int) ≤ (n : Int)) = false := decide_eq_false (by omega)
    have hn : n < u.r.T.rts.length := by omega
    rw [if_neg (by omega)] at HM
    have hq0 : Hid (q = 0) := by show _ = _; rw [HM.out]; rfl
    have y3 := cell_row (j := 3) HF.out rfl
    have y3f : w.frozen? ⟨fb, 3, none⟩ = false := frozen_of_row _ _ _ _ _ HF.out
    have lf := heap_lt HF.out
    go_enter Try.func36, Try.ntmps36
    go_upto_region 8 with fail
    go_region
    rw [or_bit f.ak n HFO.out.ak (by omega)]
    have H3 := Lib.hid ((RdPF.set (f' := { f with ak := f.ak ||| 2 ^ n }) HY.out HF.out HOF.out (heap_setCell_same w fb 3 _ _ (.int .u32 ((f.ak ||| 2 ^ n : Nat) : Int)) HF.out)).below (w2 := (w.setCell ⟨fb, 3, none⟩ (.int .u32 ((f.ak ||| 2 ^ n : Nat) : Int))).drew) ⟨rfl, rfl, rfl, Nat.le_refl _, fun _ _ => rfl⟩)
    generalize (w.setCell ⟨fb, 3, none⟩ (.int .u32 ((f.ak ||| 2 ^ n : Nat) : Int))).drew = w3 at *
    clear y3 y3f lf gA gB lg
    go_wp2_with fail
    go_ret
    obtain ⟨e1, e2⟩ := HDO.out hq0.out
    rw [hq0.out, e1, e2]
    exact ⟨rfl, H3.out⟩
  case neg =>
  by_cases k2 : kd = 2
  case pos =>
    subst k2
    have hM : manyN u.r.T 2 = u.r.T.rts.length := if_neg (by decide)
    rw [hM] at HM
    clear hM
    by_cases z0 : z < 0
    case pos =>
      have dz : decide (z < (0 : Int)) = true := decide_eq_true z0
      go_enter Try.func36, Try.ntmps36
      go_wp2_with fail
      go_ret
      have ha : q = 4 := by rw [HM.out]; exact if_pos (.inl z0)
      obtain ⟨e1, e2⟩ := HREF.out (by omega)
      rw [ha, e1, e2]
      exact ⟨rfl, HSAME.out⟩
    case neg =>
    obtain ⟨n, rfl⟩ := Int.eq_ofNat_of_zero_le (show 0 ≤ z by omega)
    by_cases zn : u.r.T.rts.length ≤ n
    case pos =>
      have dz : decide ((u.r.T.rts.length : Int) ≤ (n : Int)) = true := decide_eq_true (by omega)
      go_enter Try.func36, Try.ntmps36
      go_wp2_with fail
      go_ret
      have ha : q = 4 := by rw [HM.out]; exact if_pos (.inr (by omega))
      obtain ⟨e1, e2⟩ := HREF.out (by omega)
      rw [ha, e1, e2]
      exact ⟨rfl, HSAME.out⟩
    case neg =>
    have dz : decide ((u.r.T.rts.length : Int) ≤ (n : Int)) = false := decide_eq_false (by omega)
    have hn : n < u.r.T.rts.length := by omega
    rw [if_neg (by omega)] at HM
    have hq0 : Hid (q = 0) := by show _ = _; rw [HM.out]; rfl
    have y3 := cell_row (j := 4) HF.out rfl
    have y3f : w.frozen? ⟨fb, 4, none⟩ = false := frozen_of_row _ _ _ _ _ HF.out
    have lf := heap_lt HF.out
    go_enter Try.func36, Try.ntmps36
    go_upto_region 10 with fail
    go_region
    rw [or_bit f.ca n HFO.out.ca (by omega)]
    have H3 := Lib.hid ((RdPF.set (f' := { f with ca := f.ca ||| 2 ^ n }) HY.out HF.out HOF.out (heap_setCell_same w fb 4 _ _ (.int .u32 ((f.ca ||| 2 ^ n : Nat) : Int)) HF.out)).below (w2 := (w.setCell ⟨fb, 4, none⟩ (.int .u32 ((f.ca ||| 2 ^ n : Nat) : Int))).drew) ⟨rfl, rfl, rfl, Nat.le_refl _, fun _ _ => rfl⟩)
    generalize (w.setCell ⟨fb, 4, none⟩ (.int .u32 ((f.ca ||| 2 ^ n : Nat) : Int))).drew = w3 at *
    clear y3 y3f lf gA gB lg
    go_wp2_with fail
    go_ret
    obtain ⟨e1, e2⟩ := HDO.out hq0.out
    rw [hq0.out, e1, e2]
    exact ⟨rfl, H3.out⟩
  case neg =>
  by_cases k3 : kd = 3
  case pos =>
    subst k3
    have hM : manyN u.r.T 3 = u.r.T.rts.length := if_neg (by decide)
    rw [hM] at HM
    clear hM
    by_cases z0 : z < 0
    case pos =>
      have dz : decide (z < (0 : Int)) = true := decide_eq_true z0
      go_enter Try.func36, Try.ntmps36
      go_wp2_with fail
      go_ret
      have ha : q = 4 := by rw [HM.out]; exact if_pos (.inl z0)
      obtain ⟨e1, e2⟩ := HREF.out (by omega)
      rw [ha, e1, e2]
      exact ⟨rfl, HSAME.out⟩
    case neg =>
    obtain ⟨n, rfl⟩ := Int.eq_ofNat_of_zero_le (show 0 ≤ z by omega)
    by_cases zn : u.r.T.rts.length ≤ n
    case pos =>
      have dz : decide ((u.r.T.rts.length : Int) ≤ (n : Int)) = true := decide_eq_true (by omega)
      go_enter Try.func36, Try.ntmps36
      go_wp2_with fail
      go_ret
      have ha : q = 4 := by rw [HM.out]; exact if_pos (.inr (by omega))
      obtain ⟨e1, e2⟩ := HREF.out (by omega)
      rw [ha, e1, e2]
      exact ⟨rfl, HSAME.out⟩
    case neg =>
    have dz : decide ((u.r.T.rts.length : Int) ≤ (n : Int)) = false := decide_eq_false (by omega)
    have hn : n < u.r.T.rts.length := by omega
    rw [if_neg (by omega)] at HM
    have hq0 : Hid (q = if enterB u.r.T Y n then 0 else 6) := HM.out
    have HEB : Hid (enterB u.r.T Y n = (!(Y.tn n).is && (Y.L.pr.testBit (u.r.T.rts.getD n rt0).sig.toNat && (Y.A.R n).ph == 1))) := rfl
    obtain ⟨a, o1, hoa⟩ := HY.out.onAt hn
    have hsec : onC Y.tn n = if (Y.tn n).is then (if (Y.tn n).tl = (Y.tn n).hd then 1 else 2) else 0 := rfl
    rw [hsec] at o1
    clear hoa hsec
    have lo := HY.out.on.lt
    have fo := HY.out.on.frozen n
    have fm := HY.out.mv.frozen n
    have lm := HY.out.mv.lt
    have gM := cell_row (j := 11) HY.out.ob rfl
    have g4 := cell_row (j := 4) HY.out.ob rfl
    have g6 : w.cell? ⟨u.g, 6, none⟩ = some (.int .u32 (Y.L.pr : Int)) := cell_row (j := 6) HY.out.ob rfl
    have a4 := cell_row (j := 4) HY.out.au.obj rfl
    have la := heap_lt HY.out.au.obj
    have p0 := HY.out.au.rs.cell (i := n * 4) (by omega)
    rw [r27V_0] at p0
    have lrb := HY.out.au.rs.lt
    have hph := (HY.out.au.nf n hn).ph
    obtain ⟨ra, rc, C0, hvr, hrl, hrc, hs, hR⟩ := HY.out.au.tr.at_
    obtain ⟨b, off, rfl, hb, hc⟩ := hs.at (Nat.lt_of_le_of_lt (Nat.zero_le _) hn)
    have g3 : w.cell? ⟨u.g, 3, none⟩ = some (.slice (some ⟨b, off, none⟩) u.r.T.rts.length rc) := by rw [← hvr]; exact cell_row (j := 3) HY.out.ob rfl
    have hsg := HT.out.sig n hn
    obtain ⟨sg, hsge⟩ := Int.eq_ofNat_of_zero_le hsg.1
    have hsg12 : sg < 32 := by omega
    have r0 : w.cell? ⟨b, off + n * 6, none⟩ = some (.int .i64 (sg : Int)) := by rw [HY.out.au.bel.cell hb, ← hsge, ← (hR n hn).sig]; exact hc n hn 0 (by omega)
    have lr : b < w.heap.size := Nat.lt_of_lt_of_le hb HY.out.au.bel.size
    rw [hsge] at HEB
    rw [show ((sg : Int)).toNat = sg from rfl] at HEB
    have HBQ := Lib.hid (fun k => rbit_q Y.L.pr sg w HPR.out hsg12 k)
    have HPUT : Hid (∀ W, RdAt W u Y ub lb bs → RdP u Y ub lb bs W (Y.setT n ⟨true, true, 0, 0⟩) (((W.alloc (.cells #[.int .i64 0] 3)).setCell ⟨u.ob, n, none⟩ (.slice (some ⟨W.heap.size, 0, none⟩) 1 1)).setCell ⟨u.mb, n, none⟩ (.bool true))) :=
      fun W hW => hW.put n (x := ⟨true, true, 0, 0⟩) rfl rfl #[.int .i64 0] (by decide) (fun i hi => by have : i = 0 := (by have h : i < 1 := hi; omega); subst this; rfl)
    have hob : u.ob ≠ u.mb := HY.out.ap.om
    have hgo : u.g ≠ u.ob := HY.out.ap.go
    have hgm : u.g ≠ u.mb := HY.out.ap.gm
    unfold maxLen at hrc
    have hprl := HPR.out
    obtain ⟨pr, hpre⟩ : ∃ x, x = Y.L.pr := ⟨_, rfl⟩
    rw [← hpre] at g6 HEB HBQ hprl
    generalize (Y.A.R n).ph = ph at *
    clear hvr hs hR hb hc hsg hsge hpre
    generalize (Y.tn n).is = is at *
    cases is
    case true =>
      rw [if_pos rfl] at o1
      rcases (show (if (Y.tn n).tl = (Y.tn n).hd then 1 else 2) = 1 ∨ (if (Y.tn n).tl = (Y.tn n).hd then 1 else 2) = 2 by split <;> simp) with hs | hs <;> rw [hs] at o1 <;> clear hs
      case inl =>
        go_enter Try.func36, Try.ntmps36
        go_upto_region 12 with fail
        go_quiet ((go_at_call 39; exact HBQ.out _))
        have HS6 := Lib.hid (HSAME.out.below (YD_drewN w nq))
        generalize w.drewN nq = w2 at *
        clear gA gB lg o1 lo fo fm lm gM g4 g6 a4 la p0 lrb g3 r0 lr
        go_wp2_with fail
        go_ret
        have ha : q = 6 := by rw [hq0.out, HEB.out]; rfl
        obtain ⟨e1, e2⟩ := HREF.out (by omega)
        rw [ha, e1, e2]
        exact ⟨rfl, HS6.out⟩
      case inr =>
        go_enter Try.func36, Try.ntmps36
        go_upto_region 12 with fail
        go_quiet ((go_at_call 39; exact HBQ.out _))
        have HS6 := Lib.hid (HSAME.out.below (YD_drewN w nq))
        generalize w.drewN nq = w2 at *
        clear gA gB lg o1 lo fo fm lm gM g4 g6 a4 la p0 lrb g3 r0 lr
        go_wp2_with fail
        go_ret
        have ha : q = 6 := by rw [hq0.out, HEB.out]; rfl
        obtain ⟨e1, e2⟩ := HREF.out (by omega)
        rw [ha, e1, e2]
        exact ⟨rfl, HS6.out⟩
    case false =>
    rw [if_neg (by decide)] at o1
    by_cases hp1 : ph = 1
    case neg =>
      have hpb : ((ph : Int) == 1) = false := by simpa using (show ¬ (ph : Int) = 1 by omega)
      have hpc : ((ph : Int) != 1) = true := by simp; omega
      have hpd : (ph == 1) = false := by simpa using hp1
      rw [hpd, Bool.and_false] at HEB
      clear hp1 hpd
      go_enter Try.func36, Try.ntmps36
      go_upto_region 12 with fail
      go_quiet ((go_at_call 39; exact HBQ.out _))
      have HS6 := Lib.hid (HSAME.out.below (YD_drewN w nq))
      generalize w.drewN nq = w2 at *
      clear gA gB lg o1 lo fo fm lm gM g4 g6 a4 la p0 lrb g3 r0 lr
      go_wp2_with fail
      go_ret
      have ha : q = 6 := by rw [hq0.out, HEB.out]; rfl
      obtain ⟨e1, e2⟩ := HREF.out (by omega)
      rw [ha, e1, e2]
      exact ⟨rfl, HS6.out⟩
    case pos =>
    subst hp1
    generalize hbt : pr.testBit sg = bb at *
    clear hbt
    cases bb
    case false =>
      go_enter Try.func36, Try.ntmps36
      go_upto_region 12 with fail
      go_quiet ((go_at_call 39; exact HBQ.out _))
      have HS6 := Lib.hid (HSAME.out.below (YD_drewN w nq))
      generalize w.drewN nq = w2 at *
      clear gA gB lg o1 lo fo fm lm gM g4 g6 a4 la p0 lrb g3 r0 lr
      go_wp2_with fail
      go_ret
      have ha : q = 6 := by rw [hq0.out, HEB.out]; rfl
      obtain ⟨e1, e2⟩ := HREF.out (by omega)
      rw [ha, e1, e2]
      exact ⟨rfl, HS6.out⟩
    case true =>
      go_enter Try.func36, Try.ntmps36
      go_upto_region 12 with fail
      go_quiet ((go_at_call 39; exact HBQ.out _))
      have H2 := Lib.hid (HY.out.below (YD_drewN w nq))
      have F2 : Hid (FeedAt (w.drewN nq) fb f) := tb_kept HF.out (YD_drewN w nq)
      have B2 : Hid (Below w.heap.size w (w.drewN nq)) := YD_drewN w nq
      generalize w.drewN nq = w2 at *
      clear gA gB lg o1 lo fo fm lm gM g4 g6 a4 la p0 lrb g3 r0 lr
      have gA := cell_row (j := 10) H2.out.ob rfl
      have gM := cell_row (j := 11) H2.out.ob rfl
      have lg := heap_lt H2.out.ob
      have o1 := H2.out.on.cell hn
      have lo := H2.out.on.lt
      have fo := H2.out.on.frozen n
      have m1 := H2.out.mv.cell hn
      have fm := H2.out.mv.frozen n
      have lm := H2.out.mv.lt
      have hP := HPUT.out _ H2.out
      rw [World.setCell_alloc_past _ _ _ _ lo, World.setCell_alloc_past _ _ _ _ (by simpa [World.setCell] using lm)] at hP
      have HP := Lib.hid ((hP.feed F2.out HOF.out).pre B2.out)
      have hq : Hid (q = 0) := by show _ = _; rw [hq0.out, HEB.out]; rfl
      have HDY : Hid (doY u.r.T Y ⟨3, (n : Int)⟩ = Y.setT n ⟨true, true, 0, 0⟩ ∧ doF f ⟨3, (n : Int)⟩ = f) := ⟨rfl, rfl⟩
      clear hP
      go_wp2_with fail
      go_ret
      obtain ⟨e1, e2⟩ := HDO.out hq.out
      rw [hq.out, e1, e2, HDY.out.1, HDY.out.2]
      exact ⟨rfl, HP.out⟩
  case neg =>
  by_cases k4 : kd = 4
  case pos =>
    subst k4
    have hM : manyN u.r.T 4 = u.r.T.rts.length := if_neg (by decide)
    rw [hM] at HM
    clear hM
    by_cases z0 : z < 0
    case pos =>
      have dz : decide (z < (0 : Int)) = true := decide_eq_true z0
      go_enter Try.func36, Try.ntmps36
      go_wp2_with fail
      go_ret
      have ha : q = 4 := by rw [HM.out]; exact if_pos (.inl z0)
      obtain ⟨e1, e2⟩ := HREF.out (by omega)
      rw [ha, e1, e2]
      exact ⟨rfl, HSAME.out⟩
    case neg =>
    obtain ⟨n, rfl⟩ := Int.eq_ofNat_of_zero_le (show 0 ≤ z by omega)
    by_cases zn : u.r.T.rts.length ≤ n
    case pos =>
      have dz : decide ((u.r.T.rts.length : Int) ≤ (n : Int)) = true := decide_eq_true (by omega)
      go_enter Try.func36, Try.ntmps36
      go_wp2_with fail
      go_ret
      have ha : q = 4 := by rw [HM.out]; exact if_pos (.inr (by omega))
      obtain ⟨e1, e2⟩ := HREF.out (by omega)
      rw [ha, e1, e2]
      exact ⟨rfl, HSAME.out⟩
    case neg =>
    have dz : decide ((u.r.T.rts.length : Int) ≤ (n : Int)) = false := decide_eq_false (by omega)
    have hn : n < u.r.T.rts.length := by omega
    rw [if_neg (by omega)] at HM
    have HGO := Lib.hid (rgoes_any u Y ub lb bs 4 n w HY.out HN0.out hn HOR.out ⟨by omega, by omega⟩)
    rw [← HQ.out, ← HZ.out] at HGO
    have HDG : Hid (q = 0 → G = f) := fun h => (HDO.out h).2
    go_enter Try.func36, Try.ntmps36
    go_wp2_with fail
    refine HGO.out.mono ?_
    rintro e w3 ⟨rfl, hk⟩
    have H3 := Lib.hid (hk.feed HF.out HOF.out)
    clear hk HGO gA gB lg
    go_wp2_with fail
    go_ret
    have hG : G = f := by
      by_cases e : q = 0
      · exact HDG.out e
      · exact (HREF.out e).2
    rw [hG]
    exact ⟨rfl, H3.out⟩
  case neg =>
  by_cases k5 : kd = 5
  case pos =>
    subst k5
    have hM : manyN u.r.T 5 = u.r.T.rts.length := if_neg (by decide)
    rw [hM] at HM
    clear hM
    by_cases z0 : z < 0
    case pos =>
      have dz : decide (z < (0 : Int)) = true := decide_eq_true z0
      go_enter Try.func36, Try.ntmps36
      go_wp2_with fail
      go_ret
      have ha : q = 4 := by rw [HM.out]; exact if_pos (.inl z0)
      obtain ⟨e1, e2⟩ := HREF.out (by omega)
      rw [ha, e1, e2]
      exact ⟨rfl, HSAME.out⟩
    case neg =>
    obtain ⟨n, rfl⟩ := Int.eq_ofNat_of_zero_le (show 0 ≤ z by omega)
    by_cases zn : u.r.T.rts.length ≤ n
    case pos =>
      have dz : decide ((u.r.T.rts.length : Int) ≤ (n : Int)) = true := decide_eq_true (by omega)
      go_enter Try.func36, Try.ntmps36
      go_wp2_with fail
      go_ret
      have ha : q = 4 := by rw [HM.out]; exact if_pos (.inr (by omega))
      obtain ⟨e1, e2⟩ := HREF.out (by omega)
      rw [ha, e1, e2]
      exact ⟨rfl, HSAME.out⟩
    case neg =>
    have dz : decide ((u.r.T.rts.length : Int) ≤ (n : Int)) = false := decide_eq_false (by omega)
    have hn : n < u.r.T.rts.length := by omega
    rw [if_neg (by omega)] at HM
    have HGO := Lib.hid (rgoes_any u Y ub lb bs 5 n w HY.out HN0.out hn HOR.out ⟨by omega, by omega⟩)
    rw [← HQ.out, ← HZ.out] at HGO
    have HDG : Hid (q = 0 → G = f) := fun h => (HDO.out h).2
    go_enter Try.func36, Try.ntmps36
    go_wp2_with fail
    refine HGO.out.mono ?_
    rintro e w3 ⟨rfl, hk⟩
    have H3 := Lib.hid (hk.feed HF.out HOF.out)
    clear hk HGO gA gB lg
    go_wp2_with fail
    go_ret
    have hG : G = f := by
      by_cases e : q = 0
      · exact HDG.out e
      · exact (HREF.out e).2
    rw [hG]
    exact ⟨rfl, H3.out⟩
  case neg =>
  by_cases k6 : kd = 6
  case pos =>
    subst k6
    have hM : manyN u.r.T 6 = u.r.T.rts.length := if_neg (by decide)
    rw [hM] at HM
    clear hM
    by_cases z0 : z < 0
    case pos =>
      have dz : decide (z < (0 : Int)) = true := decide_eq_true z0
      go_enter Try.func36, Try.ntmps36
      go_wp2_with fail
      go_ret
      have ha : q = 4 := by rw [HM.out]; exact if_pos (.inl z0)
      obtain ⟨e1, e2⟩ := HREF.out (by omega)
      rw [ha, e1, e2]
      exact ⟨rfl, HSAME.out⟩
    case neg =>
    obtain ⟨n, rfl⟩ := Int.eq_ofNat_of_zero_le (show 0 ≤ z by omega)
    by_cases zn : u.r.T.rts.length ≤ n
    case pos =>
      have dz : decide ((u.r.T.rts.length : Int) ≤ (n : Int)) = true := decide_eq_true (by omega)
      go_enter Try.func36, Try.ntmps36
      go_wp2_with fail
      go_ret
      have ha : q = 4 := by rw [HM.out]; exact if_pos (.inr (by omega))
      obtain ⟨e1, e2⟩ := HREF.out (by omega)
      rw [ha, e1, e2]
      exact ⟨rfl, HSAME.out⟩
    case neg =>
    have dz : decide ((u.r.T.rts.length : Int) ≤ (n : Int)) = false := decide_eq_false (by omega)
    have hn : n < u.r.T.rts.length := by omega
    rw [if_neg (by omega)] at HM
    have HGO := Lib.hid (rgoes_any u Y ub lb bs 6 n w HY.out HN0.out hn HOR.out ⟨by omega, by omega⟩)
    rw [← HQ.out, ← HZ.out] at HGO
    have HDG : Hid (q = 0 → G = f) := fun h => (HDO.out h).2
    go_enter Try.func36, Try.ntmps36
    go_wp2_with fail
    refine HGO.out.mono ?_
    rintro e w3 ⟨rfl, hk⟩
    have H3 := Lib.hid (hk.feed HF.out HOF.out)
    clear hk HGO gA gB lg
    go_wp2_with fail
    go_ret
    have hG : G = f := by
      by_cases e : q = 0
      · exact HDG.out e
      · exact (HREF.out e).2
    rw [hG]
    exact ⟨rfl, H3.out⟩
  case neg =>
  by_cases k7 : kd = 7
  case pos =>
    subst k7
    have hM : manyN u.r.T 7 = u.r.T.pts.length := if_pos (by decide)
    rw [hM] at HM
    clear hM
    by_cases z0 : z < 0
    case pos =>
      have dz : decide (z < (0 : Int)) = true := decide_eq_true z0
      go_enter Try.func36, Try.ntmps36
      go_wp2_with fail
      go_ret
      have ha : q = 4 := by rw [HM.out]; exact if_pos (.inl z0)
      obtain ⟨e1, e2⟩ := HREF.out (by omega)
      rw [ha, e1, e2]
      exact ⟨rfl, HSAME.out⟩
    case neg =>
    obtain ⟨n, rfl⟩ := Int.eq_ofNat_of_zero_le (show 0 ≤ z by omega)
    by_cases zn : u.r.T.pts.length ≤ n
    case pos =>
      have dz : decide ((u.r.T.pts.length : Int) ≤ (n : Int)) = true := decide_eq_true (by omega)
      go_enter Try.func36, Try.ntmps36
      go_wp2_with fail
      go_ret
      have ha : q = 4 := by rw [HM.out]; exact if_pos (.inr (by omega))
      obtain ⟨e1, e2⟩ := HREF.out (by omega)
      rw [ha, e1, e2]
      exact ⟨rfl, HSAME.out⟩
    case neg =>
    have dz : decide ((u.r.T.pts.length : Int) ≤ (n : Int)) = false := decide_eq_false (by omega)
    have hn : n < u.r.T.pts.length := by omega
    rw [if_neg (by omega)] at HM
    have hq0 : Hid (q = 0) := by show _ = _; rw [HM.out]; rfl
    have HDY : Hid (doY u.r.T Y ⟨7, (n : Int)⟩ = Y.setP n { Y.pn n with br := true } ∧ doF f ⟨7, (n : Int)⟩ = f) := ⟨rfl, rfl⟩
    have gC := cell_row (j := 14) HY.out.ob rfl
    have fbk := HY.out.br.frozen n
    have lbk := HY.out.br.lt
    have bk := HY.out.br.cell hn
    have H3 := Lib.hid ((RdAt.pt (HY.out.setB n { Y.pn n with br := true } rfl rfl) (.inr (.inr (.inr (.inr (.inr rfl)))))).feed HF.out HOF.out)
    go_enter Try.func36, Try.ntmps36
    go_wp2_with fail
    go_ret
    obtain ⟨e1, e2⟩ := HDO.out hq0.out
    rw [hq0.out, e1, e2, HDY.out.1, HDY.out.2]
    exact ⟨rfl, H3.out⟩
  case neg =>
  have k8 : kd = 8 := by omega
  subst k8
  have hM : manyN u.r.T 8 = u.r.T.pts.length := if_pos (by decide)
  rw [hM] at HM
  clear hM
  by_cases z0 : z < 0
  case pos =>
    have dz : decide (z < (0 : Int)) = true := decide_eq_true z0
    go_enter Try.func36, Try.ntmps36
    go_wp2_with fail
    go_ret
    have ha : q = 4 := by rw [HM.out]; exact if_pos (.inl z0)
    obtain ⟨e1, e2⟩ := HREF.out (by omega)
    rw [ha, e1, e2]
    exact ⟨rfl, HSAME.out⟩
  case neg =>
  obtain ⟨n, rfl⟩ := Int.eq_ofNat_of_zero_le (show 0 ≤ z by omega)
  by_cases zn : u.r.T.pts.length ≤ n
  case pos =>
    have dz : decide ((u.r.T.pts.length : Int) ≤ (n : Int)) = true := decide_eq_true (by omega)
    go_enter Try.func36, Try.ntmps36
    go_wp2_with fail
    go_ret
    have ha : q = 4 := by rw [HM.out]; exact if_pos (.inr (by omega))
    obtain ⟨e1, e2⟩ := HREF.out (by omega)
    rw [ha, e1, e2]
    exact ⟨rfl, HSAME.out⟩
  case neg =>
  have dz : decide ((u.r.T.pts.length : Int) ≤ (n : Int)) = false := decide_eq_false (by omega)
  have hn : n < u.r.T.pts.length := by omega
  rw [if_neg (by omega)] at HM
  have hq0 : Hid (q = 0) := by show _ = _; rw [HM.out]; rfl
  have HDY : Hid (doY u.r.T Y ⟨8, (n : Int)⟩ = Y.setP n { Y.pn n with br := false } ∧ doF f ⟨8, (n : Int)⟩ = f) := ⟨rfl, rfl⟩
  have gC := cell_row (j := 14) HY.out.ob rfl
  have fbk := HY.out.br.frozen n
  have lbk := HY.out.br.lt
  have bk := HY.out.br.cell hn
  have H3 := Lib.hid ((RdAt.pt (HY.out.setB n { Y.pn n with br := false } rfl rfl) (.inr (.inr (.inr (.inr (.inr rfl)))))).feed HF.out HOF.out)
  go_enter Try.func36, Try.ntmps36
  go_wp2_with fail
  go_ret
  obtain ⟨e1, e2⟩ := HDO.out hq0.out
  rw [hq0.out, e1, e2, HDY.out.1, HDY.out.2]
  exact ⟨rfl, H3.out⟩
end Go.Proofs.Ytnjeiigdfdjccaa
/- The document's yard: what lies while a frame is reckoned. -/
namespace Go.Proofs.Ytnjeiigdfdjccaa
open Go.RowKit
set_option linter.unusedVariables false
set_option linter.unusedSimpArgs false
/-- What a frame begins with. -/
structure FC where
  u : Rd
  Y0 : YS
  (ub lb bs : Nat → Nat)
  w : World
  (rb fb C : Nat)
structure FC.Ok (c : FC) : Prop where
  z : c.u.r.w0.heap.size ≤ c.w.heap.size
  g : c.u.r.g < c.w.heap.size
  r : c.w.heap.size ≤ c.rb
  f : c.w.heap.size ≤ c.fb
  rf : c.rb ≠ c.fb
  rC : c.rb < c.C
  fC : c.fb < c.C
structure FrI (c : FC) (Y : YS) (f : FD) (ve : Value) (n : Nat) (xs : List Value) (ub lb bs : Nat → Nat) (W : World) : Prop where
  at_ : RdAt W c.u Y ub lb bs
  on : Only (AllR c.u c.Y0 c.ub c.lb c.bs) c.w W
  all : ∀ b, AllR c.u Y ub lb bs b → AllR c.u c.Y0 c.ub c.lb c.bs b ∨ c.w.heap.size ≤ b
  fd : FeedAt W c.fb f
  od : W.heap[c.rb]? = some (.cells #[.int .u32 0, .int .u32 0, .int .u32 0, .int .u32 0] 35 (0, 0))
  own : W.ownsRow c.C 3 1 ve n xs
  C : c.C ≤ W.heap.size
  nf : ¬ AllR c.u Y ub lb bs c.fb
  nr : ¬ AllR c.u Y ub lb bs c.rb
  nv : ∀ g, ve.ownBlock = some g → ¬ AllR c.u Y ub lb bs g
theorem own_lt_ {w : World} {base e sz n : Nat} {v : Value} {xs : List Value} (h : w.ownsRow base e sz v n xs) : ∀ g, v.ownBlock = some g → base ≤ g ∧ g < w.heap.size := fun g hg => by
  rcases h.2 with ⟨h0, _⟩ | ⟨k, cap, cur, hv, hb, hg', _⟩
  · rw [h0] at hg; cases hg
  · rw [hv] at hg
    have e : k = g := by injection hg
    subst e
    exact ⟨hb, heap_lt hg'⟩
theorem own_slice0 {w : World} {base e sz n : Nat} {v : Value} {xs : List Value} (h : w.ownsRow base e sz v n xs) : ∃ a c, v = .slice a n c := by
  rcases h.2 with ⟨h0, h1⟩ | ⟨g, cap, cur, hv, _⟩
  · exact ⟨_, _, by rw [h0, h1]⟩
  · exact ⟨_, _, hv⟩
theorem FrI.off {c : FC} {Y : YS} {f : FD} {ve : Value} {n : Nat} {xs : List Value} {ub lb bs : Nat → Nat} {W : World} (hc : c.Ok) (h : FrI c Y f ve n xs ub lb bs W) : OffR c.u Y ub lb bs c.fb :=
  ⟨h.nf, by have := hc.g; have := hc.f; omega, by have := hc.z; have := hc.f; omega⟩
theorem FrI.below {c : FC} {Y : YS} {f : FD} {ve : Value} {n : Nat} {xs : List Value} {ub lb bs : Nat → Nat} {W W' : World} (h : FrI c Y f ve n xs ub lb bs W) (hb : Below W.heap.size W W') : FrI c Y f ve n xs ub lb bs W' :=
  ⟨h.at_.below hb, h.on.trans (Only.of_below _ hb), h.all, tb_kept h.fd hb, tb_kept h.od hb, tb_own h.own (Only.of_below (fun _ => False) hb) (fun _ _ h => h), Nat.le_trans h.C hb.size, h.nf, h.nr, h.nv⟩
theorem FrI.rdf {c : FC} {Y Y' : YS} {f f' : FD} {ve : Value} {n : Nat} {xs : List Value} {ub lb bs : Nat → Nat} {W W' : World} (hc : c.Ok) (h : FrI c Y f ve n xs ub lb bs W) (k : RdPF c.u Y ub lb bs c.fb W Y' f' W') :
    ∃ ub' lb' bs', FrI c Y' f' ve n xs ub' lb' bs' W' := by
  obtain ⟨u', l', b', h1, h2, h3, h4, h5⟩ := k
  have hr := heap_lt h.od
  have hz := h.on.size
  refine ⟨u', l', b', h1, h.on.chain (M1 := fun b => AllR c.u Y ub lb bs b ∨ b = c.fb) (fun b hb => ?_) h4, fun b hb => ?_, h2, (h4.block _ hr (fun e => ?_)).trans h.od, tb_own h.own h4 (fun g hg e => ?_), Nat.le_trans h.C h4.size, h3.o, fun hb => ?_, fun g hg hb => ?_⟩
  · rcases hb with hb | hb
    · exact h.all b hb
    · exact .inr (by rw [hb]; exact hc.f)
  · rcases h5 b hb with h6 | h6
    · exact h.all b h6
    · exact .inr (Nat.le_trans hz h6)
  · rcases e with e | e
    · exact h.nr e
    · exact hc.rf e
  · rcases e with e | e
    · exact h.nv g hg e
    · have := (own_lt_ h.own g hg).1; have := hc.fC; omega
  · rcases h5 _ hb with h6 | h6
    · exact h.nr h6
    · omega
  · rcases h5 _ hb with h6 | h6
    · exact h.nv g hg h6
    · have := (own_lt_ h.own g hg).2; omega
theorem FrI.rdp {c : FC} {Y Y' : YS} {f : FD} {ve : Value} {n : Nat} {xs : List Value} {ub lb bs : Nat → Nat} {W W' : World} (hc : c.Ok) (h : FrI c Y f ve n xs ub lb bs W) (k : RdP c.u Y ub lb bs W Y' W') :
    ∃ ub' lb' bs', FrI c Y' f ve n xs ub' lb' bs' W' := h.rdf hc (k.feed h.fd (h.off hc))
theorem FrI.fset {c : FC} {Y : YS} {f f' : FD} {ve : Value} {n : Nat} {xs : List Value} {ub lb bs : Nat → Nat} {W : World} (hc : c.Ok) (h : FrI c Y f ve n xs ub lb bs W) {j : Nat} {v : Value} (hv : FeedAt (W.setCell ⟨c.fb, j, none⟩ v) c.fb f') :
    ∃ ub' lb' bs', FrI c Y f' ve n xs ub' lb' bs' (W.setCell ⟨c.fb, j, none⟩ v) := h.rdf hc (RdPF.set h.at_ h.fd (h.off hc) hv)
theorem FrI.row {c : FC} {Y : YS} {f : FD} {ve v' : Value} {n n' : Nat} {xs xs' : List Value} {ub lb bs : Nat → Nat} {W W' : World} {o : Obj} (hc : c.Ok) (h : FrI c Y f ve n xs ub lb bs W) (ho : W'.ownsRow c.C 3 1 v' n' xs') (hg : (W.alloc o).grownBy W' ve.ownBlock)
    (hv : v'.ownBlock = ve.ownBlock ∨ v'.ownBlock = some (W.alloc o).heap.size) : FrI c Y f v' n' xs' ub lb bs W' := by
  have hM : Only (fun b => ve.ownBlock = some b) W W' := ((Only.refl _ W).alloc _).trans (Only.grown hg (fun g hg => .inr hg))
  have hl := own_lt_ h.own
  have z1 := hc.rC; have z2 := hc.fC; have z3 := hc.z; have z4 := hc.g; have z5 := hc.r
  have hs : W.heap.size < (W.alloc o).heap.size := by simp
  refine ⟨h.at_.only hM (fun b hb => by have := hl b hb; omega) (fun hb => by have := hl _ hb; omega) (fun b hb e => h.nv b e hb), h.on.chain (M1 := fun b => ve.ownBlock = some b) (fun b hb => .inr (by have := hl b hb; omega)) hM, h.all,
    (hM.block _ (heap_lt h.fd) (fun e => by have := hl _ e; omega)).trans h.fd, (hM.block _ (heap_lt h.od) (fun e => by have := hl _ e; omega)).trans h.od, ho, Nat.le_trans h.C hM.size, h.nf, h.nr, fun g hg hb => ?_⟩
  rcases hv with e | e
  · exact h.nv g (by rw [← e]; exact hg) hb
  · have := h.at_.all_lt hb
    rw [e] at hg
    have : (W.alloc o).heap.size = g := by injection hg
    omega
theorem RdAt.tn_congr {W : World} {u : Rd} {Y : YS} {ub lb bs : Nat → Nat} {tn : Nat → TN} (h : RdAt W u Y ub lb bs) (e : ∀ j, j < u.r.T.rts.length → Y.tn j = tn j) : RdAt W u { Y with tn := tn } ub lb bs :=
  ⟨h.obj, h.on.congr (fun n hn => by unfold onV; rw [e n hn]), fun n hn hi => by
    have he : ({ Y with tn := tn } : YS).tn n = Y.tn n := (e n hn).symm
    rw [he] at hi ⊢; exact h.os n hn hi, h.mv.congr (fun n hn => by show _ = Value.bool (tn n).mv; rw [e n hn]), h.sd, h.lf, h.br, h.au, h.ap, h.off⟩
theorem RdAt.pn_congr {W : World} {u : Rd} {Y : YS} {ub lb bs : Nat → Nat} {pn : Nat → PN} (h : RdAt W u Y ub lb bs) (e : ∀ j, j < u.r.T.pts.length → Y.pn j = pn j) : RdAt W u { Y with pn := pn } ub lb bs :=
  ⟨h.obj, h.on, h.os, h.mv, h.sd.congr (fun n hn => by show _ = Value.int _ ((pn n).sd : Int); rw [e n hn]), h.lf.congr (fun n hn => by show _ = Value.int _ ((pn n).lf : Int); rw [e n hn]), h.br.congr (fun n hn => by show _ = Value.bool (pn n).br; rw [e n hn]), h.au, h.ap, h.off⟩
theorem FrI.pn_congr {c : FC} {Y : YS} {f : FD} {ve : Value} {n : Nat} {xs : List Value} {ub lb bs : Nat → Nat} {W : World} {pn : Nat → PN} (h : FrI c Y f ve n xs ub lb bs W) (e : ∀ j, j < c.u.r.T.pts.length → Y.pn j = pn j) : FrI c { Y with pn := pn } f ve n xs ub lb bs W :=
  ⟨h.at_.pn_congr e, h.on, h.all, h.fd, h.od, h.own, h.C, h.nf, h.nr, h.nv⟩
/-- The automaton does a step. -/
theorem RdAt.step {W W' : World} {u : Rd} {Y : YS} {ub lb bs : Nat → Nat} {S : AS} (h : RdAt W u Y ub lb bs) (k : UnderP u.r Y.A ub lb W S W') : RdP u Y ub lb bs W { Y with A := S } W' := by
  obtain ⟨u', l', h1, h2, h3⟩ := k
  refine ⟨u', l', bs, h.setA h2 h1 h3, h2.mono (fun i _ hi => .inl (.inr hi)), fun b hb => ?_⟩
  rcases hb with (hb | hb) | hb
  · exact .inl (.inl (.inl hb))
  · rcases h3 b hb with h4 | h4
    · exact .inl (.inl (.inr h4))
    · exact .inr h4
  · exact .inl (.inr hb)
/-- The last order is set. -/
theorem RdAt.set_L {w1 : World} {u : Rd} {Y : YS} {ub lb bs : Nat → Nat} (h : RdAt w1 u Y ub lb bs) (L : OD) :
    RdP u Y ub lb bs w1 { Y with L := L } ((((w1.setCell ⟨u.g, 6, none⟩ (.int .u32 (L.pr : Int))).setCell ⟨u.g, 7, none⟩ (.int .u32 (L.no : Int))).setCell ⟨u.g, 8, none⟩ (.int .u32 (L.re : Int))).setCell ⟨u.g, 9, none⟩ (.int .u32 (L.lo : Int))) := by
  have h6 := heap_setCell_same w1 u.g 6 _ _ (.int .u32 (L.pr : Int)) h.ob
  have h7 := heap_setCell_same _ u.g 7 _ _ (.int .u32 (L.no : Int)) h6
  have h8 := heap_setCell_same _ u.g 8 _ _ (.int .u32 (L.re : Int)) h7
  have h9 := heap_setCell_same _ u.g 9 _ _ (.int .u32 (L.lo : Int)) h8
  have ho : Only (fun b => b = u.g) w1 ((((w1.setCell ⟨u.g, 6, none⟩ (.int .u32 (L.pr : Int))).setCell ⟨u.g, 7, none⟩ (.int .u32 (L.no : Int))).setCell ⟨u.g, 8, none⟩ (.int .u32 (L.re : Int))).setCell ⟨u.g, 9, none⟩ (.int .u32 (L.lo : Int))) :=
    ((((Only.refl (fun b => b = u.g) w1).set _ _ (.inr rfl)).set _ _ (.inr rfl)).set _ _ (.inr rfl)).set _ _ (.inr rfl)
  exact ⟨ub, lb, bs, h.setOd ho h9, ho.mono (fun i _ e => .inl (.inl (.inl e))), fun _ h => .inl h⟩
theorem add_bit {x k : Nat} (h : x < 2 ^ k) : x + 2 ^ k = x ||| 2 ^ k := by
  have e := Nat.two_pow_add_eq_or_of_lt h 1
  rw [Nat.mul_one] at e
  rw [Nat.or_comm, ← e, Nat.add_comm]
theorem clN_add {T : Tab} {tn : Nat → TN} {k : Nat} (h : clearB T tn (k : Int) = true) : clN T tn (k + 1) = clN T tn k + 2 ^ k := by
  rw [add_bit (clN_lt T tn k)]; exact if_pos h
theorem fnN_add {pn : Nat → PN} {k : Nat} (h : (stillB (pn k) && (pn k).sd == 1) = true) : fnN pn (k + 1) = fnN pn k + 2 ^ k := by
  rw [add_bit (fnN_lt pn k)]; exact if_pos h
theorem frN_add {pn : Nat → PN} {k : Nat} (h : (stillB (pn k) && (pn k).sd != 1) = true) : frN pn (k + 1) = frN pn k + 2 ^ k := by
  rw [add_bit (frN_lt pn k)]; exact if_pos h
theorem sum_bit {x k : Nat} (h : x < 2 ^ k) (hk : k ≤ 24) : ((x : Int) + 2 ^ k) % 4294967296 = ((x + 2 ^ k : Nat) : Int) := by
  have h1 : 2 ^ k ≤ 16777216 := Nat.pow_le_pow_right (n := 2) (by omega) hk
  have e : ((2 : Int) ^ k) = ((2 ^ k : Nat) : Int) := by simp
  rw [e]
  generalize 2 ^ k = p at *
  omega
theorem pow_le32 {k : Nat} (h : k ≤ 24) : 2 ^ k ≤ 16777216 := Nat.pow_le_pow_right (n := 2) (by omega) h
end Go.Proofs.Ytnjeiigdfdjccaa
