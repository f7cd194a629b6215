/- How a yard lies. -/
import Derived.Test.YtnjeiigdfdjccaaYrdPl
import Derived.Test.YtnjeiigdfdjccaaAutSt
import Derived.Test.YtnjeiigdfdjccaaAutRt
namespace Go.Proofs.Ytnjeiigdfdjccaa
open Go.RowKit
set_option linter.unusedVariables false
set_option linter.unusedSimpArgs false
def tnV (tn : Nat → TN) (q : Nat) : Value :=
  if q % 4 = 0 then .bool (tn (q / 4)).is else if q % 4 = 1 then .bool (tn (q / 4)).mv else if q % 4 = 2 then .int .i64 ((tn (q / 4)).tl : Int) else .int .i64 ((tn (q / 4)).hd : Int)
theorem tnV_0 (tn : Nat → TN) (n : Nat) : tnV tn (n * 4) = .bool (tn n).is := by
  unfold tnV; rw [show n * 4 % 4 = 0 by omega, show n * 4 / 4 = n by omega]; rfl
theorem tnV_1 (tn : Nat → TN) (n : Nat) : tnV tn (n * 4 + 1) = .bool (tn n).mv := by
  unfold tnV; rw [show (n * 4 + 1) % 4 = 1 by omega, show (n * 4 + 1) / 4 = n by omega]; rfl
theorem tnV_2 (tn : Nat → TN) (n : Nat) : tnV tn (n * 4 + 2) = .int .i64 ((tn n).tl : Int) := by
  unfold tnV; rw [show (n * 4 + 2) % 4 = 2 by omega, show (n * 4 + 2) / 4 = n by omega]; rfl
theorem tnV_3 (tn : Nat → TN) (n : Nat) : tnV tn (n * 4 + 3) = .int .i64 ((tn n).hd : Int) := by
  unfold tnV; rw [show (n * 4 + 3) % 4 = 3 by omega, show (n * 4 + 3) / 4 = n by omega]; rfl
def pnV (pn : Nat → PN) (q : Nat) : Value :=
  if q % 3 = 0 then .int .u8 ((pn (q / 3)).sd : Int) else if q % 3 = 1 then .int .i64 ((pn (q / 3)).lf : Int) else .bool (pn (q / 3)).br
theorem pnV_0 (pn : Nat → PN) (n : Nat) : pnV pn (n * 3) = .int .u8 ((pn n).sd : Int) := by
  unfold pnV; rw [show n * 3 % 3 = 0 by omega, show n * 3 / 3 = n by omega]; rfl
theorem pnV_1 (pn : Nat → PN) (n : Nat) : pnV pn (n * 3 + 1) = .int .i64 ((pn n).lf : Int) := by
  unfold pnV; rw [show (n * 3 + 1) % 3 = 1 by omega, show (n * 3 + 1) / 3 = n by omega]; rfl
theorem pnV_2 (pn : Nat → PN) (n : Nat) : pnV pn (n * 3 + 2) = .bool (pn n).br := by
  unfold pnV; rw [show (n * 3 + 2) % 3 = 2 by omega, show (n * 3 + 2) / 3 = n by omega]; rfl
/-- A yard: a world in which its table lay, its blocks, its automaton. -/
structure Yd where
  w0 : World
  (g tb pb d : Nat)
  (vp vr : Value)
  u : Au
def Yd.T (y : Yd) : Tab := y.u.T
/-- The blocks that a frame turns. -/
def Yd.M (y : Yd) (b : Nat) : Prop := b = y.g ∨ b = y.tb ∨ b = y.pb ∨ y.u.M b
structure YAp (y : Yd) : Prop where
  z : y.w0.heap.size ≤ y.u.w0.heap.size
  g0 : y.u.w0.heap.size ≤ y.g
  t0 : y.u.w0.heap.size ≤ y.tb
  p0 : y.u.w0.heap.size ≤ y.pb
  gt : y.g ≠ y.tb
  gp : y.g ≠ y.pb
  tp : y.tb ≠ y.pb
  ag : y.g ≠ y.u.g ∧ y.g ≠ y.u.rb ∧ y.g ≠ y.u.pb
  at_ : y.tb ≠ y.u.g ∧ y.tb ≠ y.u.rb ∧ y.tb ≠ y.u.pb
  ap : y.pb ≠ y.u.g ∧ y.pb ≠ y.u.rb ∧ y.pb ≠ y.u.pb
structure YdAt (w : World) (y : Yd) (Y : YS) : Prop where
  obj : w.heap[y.g]? = some (.cells #[.int .i64 y.u.T.tracks, y.vp, .int .i64 y.u.T.sigs, y.vr, .pointer (some ⟨y.u.g, 0, none⟩), .int .i64 (y.d : Int), .int .u32 (Y.L.pr : Int), .int .u32 (Y.L.no : Int), .int .u32 (Y.L.re : Int), .int .u32 (Y.L.lo : Int), .slice (some ⟨y.tb, 0, none⟩) y.u.T.rts.length y.u.T.rts.length, .slice (some ⟨y.pb, 0, none⟩) y.u.T.pts.length y.u.T.pts.length] 76 (0, 0))
  tp : IntsAt y.w0 y.vp y.u.T.pts
  tr : RtsAt y.w0 y.vr y.u.T.rts
  bel : Below y.w0.heap.size y.w0 w
  ts : RowAt w y.tb 83 (y.u.T.rts.length * 4) (tnV Y.tn)
  ps : RowAt w y.pb 78 (y.u.T.pts.length * 3) (pnV Y.pn)
  au : AutoAt w y.u Y.A
  ap : YAp y
theorem YdAt.below {w w' : World} {y : Yd} {Y : YS} (h : YdAt w y Y) (hb : Below w.heap.size w w') : YdAt w' y Y :=
  ⟨tb_kept h.obj hb, h.tp, h.tr, h.bel.trans (hb.mono h.bel.size), h.ts.same (hb.block _ h.ts.lt), h.ps.same (hb.block _ h.ps.lt), h.au.below hb, h.ap⟩
/-- A train is turned. -/
theorem YdAt.turnT {w w' : World} {y : Yd} {Y : YS} {tn : Nat → TN} (h : YdAt w y Y) (ho : Only (fun b => b = y.tb) w w') (hr : RowAt w' y.tb 83 (y.u.T.rts.length * 4) (tnV tn)) : YdAt w' y { Y with tn := tn } := by
  have a := h.ap
  exact ⟨(ho.block _ (heap_lt h.obj) a.gt).trans h.obj, h.tp, h.tr, h.bel.trans (ho.below h.bel.size (fun i hi hm => by have := a.z; have := a.t0; omega)), hr, h.ps.same (ho.block _ h.ps.lt (Ne.symm a.tp)),
    h.au.only ho (fun b hb => by rw [hb]; exact a.t0) (fun e => a.at_.1 e.symm) (fun e => a.at_.2.1 e.symm) (fun _ e => a.at_.2.2 e.symm), a⟩
/-- A point is turned. -/
theorem YdAt.turnP {w w' : World} {y : Yd} {Y : YS} {pn : Nat → PN} (h : YdAt w y Y) (ho : Only (fun b => b = y.pb) w w') (hr : RowAt w' y.pb 78 (y.u.T.pts.length * 3) (pnV pn)) : YdAt w' y { Y with pn := pn } := by
  have a := h.ap
  exact ⟨(ho.block _ (heap_lt h.obj) a.gp).trans h.obj, h.tp, h.tr, h.bel.trans (ho.below h.bel.size (fun i hi hm => by have := a.z; have := a.p0; omega)), h.ts.same (ho.block _ h.ts.lt a.tp), hr,
    h.au.only ho (fun b hb => by rw [hb]; exact a.p0) (fun e => a.ap.1 e.symm) (fun e => a.ap.2.1 e.symm) (fun _ e => a.ap.2.2 e.symm), a⟩
/-- The automaton is turned. -/
theorem YdAt.turnA {w w' : World} {y : Yd} {Y : YS} {A : AS} (h : YdAt w y Y) (ho : Only y.u.M w w') (hA : AutoAt w' y.u A) : YdAt w' y { Y with A := A } := by
  have a := h.ap
  have e1 := h.au.rB; have e2 := h.au.pB
  exact ⟨(ho.block _ (heap_lt h.obj) (fun e => by rcases e with e | e; (· exact a.ag.2.1 e); (· exact a.ag.2.2 e))).trans h.obj, h.tp, h.tr, h.bel.trans (ho.below h.bel.size (fun i hi hm => by have := a.z; rcases hm with e | e <;> omega)),
    h.ts.same (ho.block _ h.ts.lt (fun e => by rcases e with e | e; (· exact a.at_.2.1 e); (· exact a.at_.2.2 e))), h.ps.same (ho.block _ h.ps.lt (fun e => by rcases e with e | e; (· exact a.ap.2.1 e); (· exact a.ap.2.2 e))), hA, a⟩
/-- The last order is turned. -/
theorem YdAt.turnL {w w' : World} {y : Yd} {Y : YS} {L : OD} (h : YdAt w y Y) (ho : Only (fun b => b = y.g) w w') (hO : w'.heap[y.g]? = some (.cells #[.int .i64 y.u.T.tracks, y.vp, .int .i64 y.u.T.sigs, y.vr, .pointer (some ⟨y.u.g, 0, none⟩), .int .i64 (y.d : Int), .int .u32 (L.pr : Int), .int .u32 (L.no : Int), .int .u32 (L.re : Int), .int .u32 (L.lo : Int), .slice (some ⟨y.tb, 0, none⟩) y.u.T.rts.length y.u.T.rts.length, .slice (some ⟨y.pb, 0, none⟩) y.u.T.pts.length y.u.T.pts.length] 76 (0, 0))) : YdAt w' y { Y with L := L } := by
  have a := h.ap
  exact ⟨hO, h.tp, h.tr, h.bel.trans (ho.below h.bel.size (fun i hi hm => by have := a.z; have := a.g0; omega)), h.ts.same (ho.block _ h.ts.lt (Ne.symm a.gt)), h.ps.same (ho.block _ h.ps.lt (Ne.symm a.gp)),
    h.au.only ho (fun b hb => by rw [hb]; exact a.g0) (fun e => a.ag.1 e.symm) (fun e => a.ag.2.1 e.symm) (fun _ e => a.ag.2.2 e.symm), a⟩
/-- The trains' row, one set. -/
theorem tn_row {tn : Nat → TN} {n m : Nat} {x : TN} {w : World} {tb : Nat} {V : Nat → Value} (h : RowAt w tb 83 m V) (hV : ∀ q, q < m → q / 4 ≠ n → V q = tnV tn q) (h0 : V (n * 4) = .bool x.is) (h1 : V (n * 4 + 1) = .bool x.mv) (h2 : V (n * 4 + 2) = .int .i64 (x.tl : Int)) (h3 : V (n * 4 + 3) = .int .i64 (x.hd : Int)) :
    RowAt w tb 83 m (tnV fun j => if j = n then x else tn j) := by
  refine h.congr fun q hq => ?_
  by_cases e : q / 4 = n
  · have : q = n * 4 ∨ q = n * 4 + 1 ∨ q = n * 4 + 2 ∨ q = n * 4 + 3 := by omega
    rcases this with rfl | rfl | rfl | rfl
    · rw [tnV_0, if_pos rfl, h0]
    · rw [tnV_1, if_pos rfl, h1]
    · rw [tnV_2, if_pos rfl, h2]
    · rw [tnV_3, if_pos rfl, h3]
  · rw [hV q hq e]
    unfold tnV
    rw [show (fun j => if j = n then x else tn j) (q / 4) = tn (q / 4) from if_neg e]
theorem pn_row {pn : Nat → PN} {n m : Nat} {x : PN} {w : World} {pb : Nat} {V : Nat → Value} (h : RowAt w pb 78 m V) (hV : ∀ q, q < m → q / 3 ≠ n → V q = pnV pn q) (h0 : V (n * 3) = .int .u8 (x.sd : Int)) (h1 : V (n * 3 + 1) = .int .i64 (x.lf : Int)) (h2 : V (n * 3 + 2) = .bool x.br) :
    RowAt w pb 78 m (pnV fun j => if j = n then x else pn j) := by
  refine h.congr fun q hq => ?_
  by_cases e : q / 3 = n
  · have : q = n * 3 ∨ q = n * 3 + 1 ∨ q = n * 3 + 2 := by omega
    rcases this with rfl | rfl | rfl
    · rw [pnV_0, if_pos rfl, h0]
    · rw [pnV_1, if_pos rfl, h1]
    · rw [pnV_2, if_pos rfl, h2]
  · rw [hV q hq e]
    unfold pnV
    rw [show (fun j => if j = n then x else pn j) (q / 3) = pn (q / 3) from if_neg e]
/-- A train's cells. -/
theorem YdAt.tcell {w : World} {y : Yd} {Y : YS} (h : YdAt w y Y) {n : Nat} (hn : n < y.u.T.rts.length) : w.cell? ⟨y.tb, n * 4, none⟩ = some (.bool (Y.tn n).is) ∧ w.cell? ⟨y.tb, n * 4 + 1, none⟩ = some (.bool (Y.tn n).mv) ∧ w.cell? ⟨y.tb, n * 4 + 2, none⟩ = some (.int .i64 ((Y.tn n).tl : Int)) ∧ w.cell? ⟨y.tb, n * 4 + 3, none⟩ = some (.int .i64 ((Y.tn n).hd : Int)) ∧ ∀ o, w.frozen? ⟨y.tb, o, none⟩ = false := by
  refine ⟨?_, ?_, ?_, ?_, fun o => h.ts.frozen o⟩
  · rw [← tnV_0]; exact h.ts.cell (by omega)
  · rw [← tnV_1]; exact h.ts.cell (by omega)
  · rw [← tnV_2]; exact h.ts.cell (by omega)
  · rw [← tnV_3]; exact h.ts.cell (by omega)
theorem YdAt.pcell {w : World} {y : Yd} {Y : YS} (h : YdAt w y Y) {n : Nat} (hn : n < y.u.T.pts.length) : w.cell? ⟨y.pb, n * 3, none⟩ = some (.int .u8 ((Y.pn n).sd : Int)) ∧ w.cell? ⟨y.pb, n * 3 + 1, none⟩ = some (.int .i64 ((Y.pn n).lf : Int)) ∧ w.cell? ⟨y.pb, n * 3 + 2, none⟩ = some (.bool (Y.pn n).br) ∧ ∀ o, w.frozen? ⟨y.pb, o, none⟩ = false := by
  refine ⟨?_, ?_, ?_, fun o => h.ps.frozen o⟩
  · rw [← pnV_0]; exact h.ps.cell (by omega)
  · rw [← pnV_1]; exact h.ps.cell (by omega)
  · rw [← pnV_2]; exact h.ps.cell (by omega)
theorem setT_setT (Y : YS) (n : Nat) (a b : TN) : (Y.setT n a).setT n b = Y.setT n b := by
  unfold YS.setT
  congr 1
  funext j
  by_cases e : j = n
  · simp [e]
  · simp [e]
theorem setP_setP (Y : YS) (n : Nat) (a b : PN) : (Y.setP n a).setP n b = Y.setP n b := by
  unfold YS.setP
  congr 1
  funext j
  by_cases e : j = n
  · simp [e]
  · simp [e]
theorem YdAt.set_is {w : World} {y : Yd} {Y : YS} (h : YdAt w y Y) (n : Nat) (b : Bool) : YdAt (w.setCell ⟨y.tb, n * 4, none⟩ (.bool b)) y (Y.setT n { Y.tn n with is := b }) :=
  h.turnT ((Only.refl _ w).set _ _ (.inr rfl)) (tn_row (h.ts.set (i := n * 4) (.bool b)) (fun q _ hq => if_neg (by omega)) (if_pos rfl) ((if_neg (by omega)).trans (tnV_1 _ _)) ((if_neg (by omega)).trans (tnV_2 _ _)) ((if_neg (by omega)).trans (tnV_3 _ _)))
theorem YdAt.set_mv {w : World} {y : Yd} {Y : YS} (h : YdAt w y Y) (n : Nat) (b : Bool) : YdAt (w.setCell ⟨y.tb, n * 4 + 1, none⟩ (.bool b)) y (Y.setT n { Y.tn n with mv := b }) :=
  h.turnT ((Only.refl _ w).set _ _ (.inr rfl)) (tn_row (h.ts.set (i := n * 4 + 1) (.bool b)) (fun q _ hq => if_neg (by omega)) ((if_neg (by omega)).trans (tnV_0 _ _)) (if_pos rfl) ((if_neg (by omega)).trans (tnV_2 _ _)) ((if_neg (by omega)).trans (tnV_3 _ _)))
theorem YdAt.set_tl {w : World} {y : Yd} {Y : YS} (h : YdAt w y Y) (n k : Nat) : YdAt (w.setCell ⟨y.tb, n * 4 + 2, none⟩ (.int .i64 (k : Int))) y (Y.setT n { Y.tn n with tl := k }) :=
  h.turnT ((Only.refl _ w).set _ _ (.inr rfl)) (tn_row (h.ts.set (i := n * 4 + 2) (.int .i64 (k : Int))) (fun q _ hq => if_neg (by omega)) ((if_neg (by omega)).trans (tnV_0 _ _)) ((if_neg (by omega)).trans (tnV_1 _ _)) (if_pos rfl) ((if_neg (by omega)).trans (tnV_3 _ _)))
theorem YdAt.set_hd {w : World} {y : Yd} {Y : YS} (h : YdAt w y Y) (n k : Nat) : YdAt (w.setCell ⟨y.tb, n * 4 + 3, none⟩ (.int .i64 (k : Int))) y (Y.setT n { Y.tn n with hd := k }) :=
  h.turnT ((Only.refl _ w).set _ _ (.inr rfl)) (tn_row (h.ts.set (i := n * 4 + 3) (.int .i64 (k : Int))) (fun q _ hq => if_neg (by omega)) ((if_neg (by omega)).trans (tnV_0 _ _)) ((if_neg (by omega)).trans (tnV_1 _ _)) ((if_neg (by omega)).trans (tnV_2 _ _)) (if_pos rfl))
theorem YdAt.set_sd {w : World} {y : Yd} {Y : YS} (h : YdAt w y Y) (n k : Nat) : YdAt (w.setCell ⟨y.pb, n * 3, none⟩ (.int .u8 (k : Int))) y (Y.setP n { Y.pn n with sd := k }) :=
  h.turnP ((Only.refl _ w).set _ _ (.inr rfl)) (pn_row (h.ps.set (i := n * 3) (.int .u8 (k : Int))) (fun q _ hq => if_neg (by omega)) (if_pos rfl) ((if_neg (by omega)).trans (pnV_1 _ _)) ((if_neg (by omega)).trans (pnV_2 _ _)))
theorem YdAt.set_lf {w : World} {y : Yd} {Y : YS} (h : YdAt w y Y) (n k : Nat) : YdAt (w.setCell ⟨y.pb, n * 3 + 1, none⟩ (.int .i64 (k : Int))) y (Y.setP n { Y.pn n with lf := k }) :=
  h.turnP ((Only.refl _ w).set _ _ (.inr rfl)) (pn_row (h.ps.set (i := n * 3 + 1) (.int .i64 (k : Int))) (fun q _ hq => if_neg (by omega)) ((if_neg (by omega)).trans (pnV_0 _ _)) (if_pos rfl) ((if_neg (by omega)).trans (pnV_2 _ _)))
theorem YdAt.set_br {w : World} {y : Yd} {Y : YS} (h : YdAt w y Y) (n : Nat) (b : Bool) : YdAt (w.setCell ⟨y.pb, n * 3 + 2, none⟩ (.bool b)) y (Y.setP n { Y.pn n with br := b }) :=
  h.turnP ((Only.refl _ w).set _ _ (.inr rfl)) (pn_row (h.ps.set (i := n * 3 + 2) (.bool b)) (fun q _ hq => if_neg (by omega)) ((if_neg (by omega)).trans (pnV_0 _ _)) ((if_neg (by omega)).trans (pnV_1 _ _)) (if_pos rfl))
/-- The yard is turned; nothing else is. -/
def TurnY (y : Yd) (w : World) (Y' : YS) (w' : World) : Prop := YdAt w' y Y' ∧ Only y.M w w'
theorem TurnY.of_below {y : Yd} {Y : YS} {w w' : World} (h : YdAt w y Y) (hb : Below w.heap.size w w') : TurnY y w Y w' := ⟨h.below hb, Only.of_below _ hb⟩
theorem TurnY.refl {y : Yd} {Y : YS} {w : World} (h : YdAt w y Y) : TurnY y w Y w := ⟨h, Only.refl _ _⟩
theorem TurnY.below {y : Yd} {Y : YS} {w w1 w2 : World} (h : TurnY y w Y w1) (hb : Below w1.heap.size w1 w2) : TurnY y w Y w2 := ⟨h.1.below hb, h.2.trans (Only.of_below _ hb)⟩
theorem TurnY.trans {y : Yd} {Y Y' : YS} {w w1 w2 : World} (h : TurnY y w Y w1) (k : TurnY y w1 Y' w2) : TurnY y w Y' w2 := ⟨k.1, h.2.trans k.2⟩
theorem TurnY.set_is {y : Yd} {Y : YS} {w w1 : World} (h : TurnY y w Y w1) (n : Nat) (b : Bool) : TurnY y w (Y.setT n { Y.tn n with is := b }) (w1.setCell ⟨y.tb, n * 4, none⟩ (.bool b)) := ⟨h.1.set_is n b, h.2.set _ _ (.inr (.inr (.inl rfl)))⟩
theorem TurnY.set_mv {y : Yd} {Y : YS} {w w1 : World} (h : TurnY y w Y w1) (n : Nat) (b : Bool) : TurnY y w (Y.setT n { Y.tn n with mv := b }) (w1.setCell ⟨y.tb, n * 4 + 1, none⟩ (.bool b)) := ⟨h.1.set_mv n b, h.2.set _ _ (.inr (.inr (.inl rfl)))⟩
theorem TurnY.set_tl {y : Yd} {Y : YS} {w w1 : World} (h : TurnY y w Y w1) (n k : Nat) : TurnY y w (Y.setT n { Y.tn n with tl := k }) (w1.setCell ⟨y.tb, n * 4 + 2, none⟩ (.int .i64 (k : Int))) := ⟨h.1.set_tl n k, h.2.set _ _ (.inr (.inr (.inl rfl)))⟩
theorem TurnY.set_hd {y : Yd} {Y : YS} {w w1 : World} (h : TurnY y w Y w1) (n k : Nat) : TurnY y w (Y.setT n { Y.tn n with hd := k }) (w1.setCell ⟨y.tb, n * 4 + 3, none⟩ (.int .i64 (k : Int))) := ⟨h.1.set_hd n k, h.2.set _ _ (.inr (.inr (.inl rfl)))⟩
theorem TurnY.set_sd {y : Yd} {Y : YS} {w w1 : World} (h : TurnY y w Y w1) (n k : Nat) : TurnY y w (Y.setP n { Y.pn n with sd := k }) (w1.setCell ⟨y.pb, n * 3, none⟩ (.int .u8 (k : Int))) := ⟨h.1.set_sd n k, h.2.set _ _ (.inr (.inr (.inr (.inl rfl))))⟩
theorem TurnY.set_lf {y : Yd} {Y : YS} {w w1 : World} (h : TurnY y w Y w1) (n k : Nat) : TurnY y w (Y.setP n { Y.pn n with lf := k }) (w1.setCell ⟨y.pb, n * 3 + 1, none⟩ (.int .i64 (k : Int))) := ⟨h.1.set_lf n k, h.2.set _ _ (.inr (.inr (.inr (.inl rfl))))⟩
theorem TurnY.set_br {y : Yd} {Y : YS} {w w1 : World} (h : TurnY y w Y w1) (n : Nat) (b : Bool) : TurnY y w (Y.setP n { Y.pn n with br := b }) (w1.setCell ⟨y.pb, n * 3 + 2, none⟩ (.bool b)) := ⟨h.1.set_br n b, h.2.set _ _ (.inr (.inr (.inr (.inl rfl))))⟩
end Go.Proofs.Ytnjeiigdfdjccaa
/- The yard's goes. -/
namespace Go.Proofs.Ytnjeiigdfdjccaa
open Go.RowKit
set_option linter.unusedVariables false
set_option linter.unusedSimpArgs false
set_option maxRecDepth 100000 in
set_option maxHeartbeats 8000000 in
theorem ygoes_any (y : Yd) (Y : YS) (n : Nat) (h t : Bool) (w : World) (H : YdAt w y Y) (hn : n < y.u.T.rts.length) (hT : TOk y.u.T) (hx : (Y.tn n).tl ≤ 1000 ∧ (Y.tn n).hd ≤ 1000) :
    Calls Try.prog 46 #[.pointer (some ⟨y.g, 0, none⟩), .int .i64 n, .bool h, .bool t] w fun e w' =>
      e = .returned (.bool (!stuckB ((y.u.T.rts.getD n rt0).tr.length - 1) (Y.tn n) h t)) ∧ TurnY y w (if stuckB ((y.u.T.rts.getD n rt0).tr.length - 1) (Y.tn n) h t then Y else Y.setT n (goneOn ((y.u.T.rts.getD n rt0).tr.length - 1) (Y.tn n) h t)) w' := by
  obtain ⟨ra, rc, C0, hvr, hrl, hrc, hs, hR⟩ := H.tr.at_
  have hRn := hR n hn
  obtain ⟨⟨ta, tc, hvt, htl, htm, _⟩, _⟩ := hRn.tr
  obtain ⟨b, off, rfl, hb, hc⟩ := hs.at (by omega)
  have hL := hT.tl n hn
  have hN := hT.n
  have HY := Lib.hid H
  have g3 : w.cell? ⟨y.g, 3, none⟩ = some (.slice (some ⟨b, off, none⟩) y.u.T.rts.length rc) := by rw [← hvr]; exact cell_row (j := 3) H.obj rfl
  have gA := cell_row (j := 10) H.obj rfl
  have x1 : w.cell? ⟨b, off + n * 6 + 1, none⟩ = some (.slice ta (y.u.T.rts.getD n rt0).tr.length tc) := by rw [H.bel.cell hb, ← hvt]; exact hc n hn 1 (by omega)
  have hbl : b < w.heap.size := Nat.lt_of_lt_of_le hb H.bel.size
  have lg := heap_lt H.obj; have lt := H.ts.lt
  obtain ⟨t0, t1, t2, t3, tf⟩ := H.tcell hn
  have f0 := tf (n * 4); have f1 := tf (n * 4 + 1); have f2 := tf (n * 4 + 2); have f3 := tf (n * 4 + 3)
  have HL := Lib.hid hL
  obtain ⟨L, hLL⟩ : ∃ L, L = (y.u.T.rts.getD n rt0).tr.length := ⟨_, rfl⟩
  rw [← hLL] at x1 hL ⊢
  obtain ⟨x, hxx⟩ : ∃ x, x = Y.tn n := ⟨_, rfl⟩
  rw [← hxx] at t0 t1 t2 t3 hx ⊢
  have HX := Lib.hid hxx
  have HN := Lib.hid hn
  clear hxx hLL HL hs hR hRn hc hb tf H hvr hvt
  obtain ⟨is, mv, tl, hd⟩ := x
  dsimp only at t0 t1 t2 t3 hx
  unfold maxLen at hrc htm
  obtain ⟨N, hNN⟩ : ∃ N, N = y.u.T.rts.length := ⟨_, rfl⟩
  rw [← hNN] at g3 gA hn hrl hN
  have HNN := Lib.hid hNN
  clear hNN
  obtain ⟨sb, hsb⟩ : ∃ s, s = stuckB (L - 1) ⟨is, mv, tl, hd⟩ h t := ⟨_, rfl⟩
  obtain ⟨G, hG⟩ : ∃ G, G = goneOn (L - 1) ⟨is, mv, tl, hd⟩ h t := ⟨_, rfl⟩
  rw [← hsb, ← hG]
  obtain ⟨Z, hZ⟩ : ∃ Z, Z = if sb then Y else Y.setT n G := ⟨_, rfl⟩
  rw [← hZ]
  have HSB := Lib.hid hsb; have HG := Lib.hid hG; have HZ := Lib.hid hZ
  clear hsb hG hZ
  have HD : Hid (TurnY y w Y w.drew) := TurnY.of_below HY.out ⟨rfl, rfl, rfl, Nat.le_refl _, fun _ _ => rfl⟩
  go_enter Try.func46, Try.ntmps46
  by_cases e : tl = hd
  case pos =>
    have e1 : ((tl : Int) == (hd : Int)) = true := by simpa using (show (tl : Int) = (hd : Int) by omega)
    have HE := Lib.hid e
    clear e
    go_upto_region 3 with fail
    go_region
    generalize w.drew = wd at *
    clear g3 gA x1 hbl lg lt t0 t1 t2 t3 f0 f1 f2 f3
    obtain ⟨t0, t1, t2, t3, tf⟩ := HD.out.1.tcell (n := n) HN.out
    rw [← HX.out] at t0 t1 t2 t3
    dsimp only at t0 t1 t2 t3
    have f0 := tf (n * 4); have f1 := tf (n * 4 + 1); have f2 := tf (n * 4 + 2); have f3 := tf (n * 4 + 3)
    have lt := HD.out.1.ts.lt
    clear tf
    cases mv
    case true =>
      go_wp2_with fail
      go_ret
      have hs : sb = true := by rw [HSB.out]; unfold stuckB; simp []
      have hz : Z = Y := by rw [HZ.out, hs]; rfl
      rw [hs, hz]
      exact ⟨rfl, HD.out⟩
    case false =>
    by_cases l : hd = L - 1
    case pos =>
      have l1 : ((hd : Int) == (L : Int) - 1) = true := by simpa using (show (hd : Int) = (L : Int) - 1 by omega)
      have l2 : ((hd : Int) != (L : Int) - 1) = false := by simpa using (show (hd : Int) = (L : Int) - 1 by omega)
      have HL := Lib.hid l
      clear l
      cases h <;> cases t
      case false.false =>
        go_upto_region 13 with fail
        have H1 : Hid (TurnY y w (Y.setT n ⟨is, true, tl, hd⟩) (wd.setCell ⟨y.tb, n * 4 + 1, none⟩ (.bool true))) := by
          have := HD.out.set_mv n true
          rw [← HX.out] at this
          exact this
        generalize wd.setCell ⟨y.tb, n * 4 + 1, none⟩ (.bool true) = w1 at *
        clear lt t0 t1 t2 t3 f0 f1 f2 f3 HD
        obtain ⟨_, _, t2, t3, tf⟩ := H1.out.1.tcell (n := n) HN.out
        rw [setT_at] at t2 t3
        have f2 := tf (n * 4 + 2); have f3 := tf (n * 4 + 3)
        have lt := H1.out.1.ts.lt
        clear tf
        go_wp2_with fail
        go_ret
        have hs : sb = false := by rw [HSB.out]; unfold stuckB; simp [HE.out, HL.out]
        have hg : G = ⟨is, true, tl, hd⟩ := by rw [HG.out]; unfold goneOn goneB; simp [HE.out, HL.out]
        have hz : Z = Y.setT n G := by rw [HZ.out, hs]; rfl
        rw [hs, hz, hg]
        exact ⟨rfl, H1.out⟩
      case false.true =>
        go_wp2_with fail
        go_ret
        have hs : sb = false := by rw [HSB.out]; unfold stuckB; simp [HE.out, HL.out]
        have hg : G = tn0 := by rw [HG.out]; unfold goneOn goneB; simp [HE.out, HL.out]
        have hz : Z = Y.setT n G := by rw [HZ.out, hs]; rfl
        rw [hs, hz, hg]
        refine ⟨rfl, ?_⟩
        have k := (((HD.out.set_is n false).set_mv n false).set_tl n 0).set_hd n 0
        simp only [setT_at, setT_setT] at k
        exact k
      case true.false =>
        go_wp2_with fail
        go_ret
        have hs : sb = true := by rw [HSB.out]; unfold stuckB; simp [HE.out, HL.out]
        have hz : Z = Y := by rw [HZ.out, hs]; rfl
        rw [hs, hz]
        exact ⟨rfl, HD.out⟩
      case true.true =>
        go_wp2_with fail
        go_ret
        have hs : sb = false := by rw [HSB.out]; unfold stuckB; simp [HE.out, HL.out]
        have hg : G = tn0 := by rw [HG.out]; unfold goneOn goneB; simp [HE.out, HL.out]
        have hz : Z = Y.setT n G := by rw [HZ.out, hs]; rfl
        rw [hs, hz, hg]
        refine ⟨rfl, ?_⟩
        have k := (((HD.out.set_is n false).set_mv n false).set_tl n 0).set_hd n 0
        simp only [setT_at, setT_setT] at k
        exact k
    case neg =>
      have l1 : ((hd : Int) == (L : Int) - 1) = false := by simpa using (show ¬ (hd : Int) = (L : Int) - 1 by omega)
      have l2 : ((hd : Int) != (L : Int) - 1) = true := by simpa using (show ¬ (hd : Int) = (L : Int) - 1 by omega)
      have HL := Lib.hid l
      clear l
      cases h <;> cases t
      case false.false =>
        go_upto_region 13 with fail
        have H1 : Hid (TurnY y w (Y.setT n ⟨is, true, tl, hd⟩) (wd.setCell ⟨y.tb, n * 4 + 1, none⟩ (.bool true))) := by
          have := HD.out.set_mv n true
          rw [← HX.out] at this
          exact this
        generalize wd.setCell ⟨y.tb, n * 4 + 1, none⟩ (.bool true) = w1 at *
        clear lt t0 t1 t2 t3 f0 f1 f2 f3 HD
        obtain ⟨_, _, t2, t3, tf⟩ := H1.out.1.tcell (n := n) HN.out
        rw [setT_at] at t2 t3
        have f2 := tf (n * 4 + 2); have f3 := tf (n * 4 + 3)
        have lt := H1.out.1.ts.lt
        clear tf
        go_wp2_with fail
        go_ret
        have hs : sb = false := by rw [HSB.out]; unfold stuckB; simp [HE.out, HL.out]
        have hg : G = ⟨is, true, tl, hd⟩ := by rw [HG.out]; unfold goneOn goneB; simp [HE.out, HL.out]
        have hz : Z = Y.setT n G := by rw [HZ.out, hs]; rfl
        rw [hs, hz, hg]
        exact ⟨rfl, H1.out⟩
      case false.true =>
        go_wp2_with fail
        go_ret
        have hs : sb = true := by rw [HSB.out]; unfold stuckB; simp [HE.out, HL.out]
        have hz : Z = Y := by rw [HZ.out, hs]; rfl
        rw [hs, hz]
        exact ⟨rfl, HD.out⟩
      case true.false =>
        go_upto_region 13 with fail
        have H1 : Hid (TurnY y w (Y.setT n ⟨is, true, tl, hd⟩) (wd.setCell ⟨y.tb, n * 4 + 1, none⟩ (.bool true))) := by
          have := HD.out.set_mv n true
          rw [← HX.out] at this
          exact this
        generalize wd.setCell ⟨y.tb, n * 4 + 1, none⟩ (.bool true) = w1 at *
        clear lt t0 t1 t2 t3 f0 f1 f2 f3 HD
        obtain ⟨_, _, t2, t3, tf⟩ := H1.out.1.tcell (n := n) HN.out
        rw [setT_at] at t2 t3
        have f2 := tf (n * 4 + 2); have f3 := tf (n * 4 + 3)
        have lt := H1.out.1.ts.lt
        clear tf
        go_upto_region 15 with fail
        have H2 : Hid (TurnY y w (Y.setT n ⟨is, true, tl, hd + 1⟩) (w1.setCell ⟨y.tb, n * 4 + 3, none⟩ (.int .i64 ((hd : Int) + 1)))) := by
          have := H1.out.set_hd n (hd + 1)
          rw [setT_at, setT_setT, show ((hd + 1 : Nat) : Int) = (hd : Int) + 1 by omega] at this
          exact this
        generalize w1.setCell ⟨y.tb, n * 4 + 3, none⟩ (.int .i64 ((hd : Int) + 1)) = w2 at *
        clear t2 t3 f2 f3 lt H1
        obtain ⟨_, _, t2, t3, tf⟩ := H2.out.1.tcell (n := n) HN.out
        rw [setT_at] at t2 t3
        have f2 := tf (n * 4 + 2); have f3 := tf (n * 4 + 3)
        have lt := H2.out.1.ts.lt
        clear tf
        go_wp2_with fail
        go_ret
        have hs : sb = false := by rw [HSB.out]; unfold stuckB; simp [HE.out, HL.out]
        have hg : G = ⟨is, true, tl, hd + 1⟩ := by rw [HG.out]; unfold goneOn goneB; simp [HE.out, HL.out]
        have hz : Z = Y.setT n G := by rw [HZ.out, hs]; rfl
        rw [hs, hz, hg]
        exact ⟨rfl, H2.out⟩
      case true.true =>
        go_upto_region 13 with fail
        have H1 : Hid (TurnY y w (Y.setT n ⟨is, true, tl, hd⟩) (wd.setCell ⟨y.tb, n * 4 + 1, none⟩ (.bool true))) := by
          have := HD.out.set_mv n true
          rw [← HX.out] at this
          exact this
        generalize wd.setCell ⟨y.tb, n * 4 + 1, none⟩ (.bool true) = w1 at *
        clear lt t0 t1 t2 t3 f0 f1 f2 f3 HD
        obtain ⟨_, _, t2, t3, tf⟩ := H1.out.1.tcell (n := n) HN.out
        rw [setT_at] at t2 t3
        have f2 := tf (n * 4 + 2); have f3 := tf (n * 4 + 3)
        have lt := H1.out.1.ts.lt
        clear tf
        go_upto_region 15 with fail
        have H2 : Hid (TurnY y w (Y.setT n ⟨is, true, tl, hd + 1⟩) (w1.setCell ⟨y.tb, n * 4 + 3, none⟩ (.int .i64 ((hd : Int) + 1)))) := by
          have := H1.out.set_hd n (hd + 1)
          rw [setT_at, setT_setT, show ((hd + 1 : Nat) : Int) = (hd : Int) + 1 by omega] at this
          exact this
        generalize w1.setCell ⟨y.tb, n * 4 + 3, none⟩ (.int .i64 ((hd : Int) + 1)) = w2 at *
        clear t2 t3 f2 f3 lt H1
        obtain ⟨_, _, t2, t3, tf⟩ := H2.out.1.tcell (n := n) HN.out
        rw [setT_at] at t2 t3
        have f2 := tf (n * 4 + 2); have f3 := tf (n * 4 + 3)
        have lt := H2.out.1.ts.lt
        clear tf
        go_upto_region 17 with fail
        have H3 : Hid (TurnY y w (Y.setT n ⟨is, true, tl + 1, hd + 1⟩) (w2.setCell ⟨y.tb, n * 4 + 2, none⟩ (.int .i64 ((tl : Int) + 1)))) := by
          have := H2.out.set_tl n (tl + 1)
          rw [setT_at, setT_setT, show ((tl + 1 : Nat) : Int) = (tl : Int) + 1 by omega] at this
          exact this
        generalize w2.setCell ⟨y.tb, n * 4 + 2, none⟩ (.int .i64 ((tl : Int) + 1)) = w3 at *
        clear t2 t3 f2 f3 lt H2
        go_wp2_with fail
        go_ret
        have hs : sb = false := by rw [HSB.out]; unfold stuckB; simp [HE.out, HL.out]
        have hg : G = ⟨is, true, tl + 1, hd + 1⟩ := by rw [HG.out]; unfold goneOn goneB; simp [HE.out, HL.out]
        have hz : Z = Y.setT n G := by rw [HZ.out, hs]; rfl
        rw [hs, hz, hg]
        exact ⟨rfl, H3.out⟩
  case neg =>
    have e1 : ((tl : Int) == (hd : Int)) = false := by simpa using (show ¬ (tl : Int) = (hd : Int) by omega)
    have HE := Lib.hid e
    clear e
    go_upto_region 3 with fail
    go_region
    generalize w.drew = wd at *
    clear g3 gA x1 hbl lg lt t0 t1 t2 t3 f0 f1 f2 f3
    obtain ⟨t0, t1, t2, t3, tf⟩ := HD.out.1.tcell (n := n) HN.out
    rw [← HX.out] at t0 t1 t2 t3
    dsimp only at t0 t1 t2 t3
    have f0 := tf (n * 4); have f1 := tf (n * 4 + 1); have f2 := tf (n * 4 + 2); have f3 := tf (n * 4 + 3)
    have lt := HD.out.1.ts.lt
    clear tf
    cases mv
    case true =>
      go_wp2_with fail
      go_ret
      have hs : sb = true := by rw [HSB.out]; unfold stuckB; simp []
      have hz : Z = Y := by rw [HZ.out, hs]; rfl
      rw [hs, hz]
      exact ⟨rfl, HD.out⟩
    case false =>
    cases h <;> cases t
    case false.false =>
      go_upto_region 13 with fail
      have H1 : Hid (TurnY y w (Y.setT n ⟨is, true, tl, hd⟩) (wd.setCell ⟨y.tb, n * 4 + 1, none⟩ (.bool true))) := by
        have := HD.out.set_mv n true
        rw [← HX.out] at this
        exact this
      generalize wd.setCell ⟨y.tb, n * 4 + 1, none⟩ (.bool true) = w1 at *
      clear lt t0 t1 t2 t3 f0 f1 f2 f3 HD
      obtain ⟨_, _, t2, t3, tf⟩ := H1.out.1.tcell (n := n) HN.out
      rw [setT_at] at t2 t3
      have f2 := tf (n * 4 + 2); have f3 := tf (n * 4 + 3)
      have lt := H1.out.1.ts.lt
      clear tf
      go_wp2_with fail
      go_ret
      have hs : sb = false := by rw [HSB.out]; unfold stuckB; simp [HE.out]
      have hg : G = ⟨is, true, tl, hd⟩ := by rw [HG.out]; unfold goneOn goneB; simp [HE.out]
      have hz : Z = Y.setT n G := by rw [HZ.out, hs]; rfl
      rw [hs, hz, hg]
      exact ⟨rfl, H1.out⟩
    case false.true =>
      go_upto_region 13 with fail
      have H1 : Hid (TurnY y w (Y.setT n ⟨is, true, tl, hd⟩) (wd.setCell ⟨y.tb, n * 4 + 1, none⟩ (.bool true))) := by
        have := HD.out.set_mv n true
        rw [← HX.out] at this
        exact this
      generalize wd.setCell ⟨y.tb, n * 4 + 1, none⟩ (.bool true) = w1 at *
      clear lt t0 t1 t2 t3 f0 f1 f2 f3 HD
      obtain ⟨_, _, t2, t3, tf⟩ := H1.out.1.tcell (n := n) HN.out
      rw [setT_at] at t2 t3
      have f2 := tf (n * 4 + 2); have f3 := tf (n * 4 + 3)
      have lt := H1.out.1.ts.lt
      clear tf
      go_upto_region 17 with fail
      have H2 : Hid (TurnY y w (Y.setT n ⟨is, true, tl + 1, hd⟩) (w1.setCell ⟨y.tb, n * 4 + 2, none⟩ (.int .i64 ((tl : Int) + 1)))) := by
        have := H1.out.set_tl n (tl + 1)
        rw [setT_at, setT_setT, show ((tl + 1 : Nat) : Int) = (tl : Int) + 1 by omega] at this
        exact this
      generalize w1.setCell ⟨y.tb, n * 4 + 2, none⟩ (.int .i64 ((tl : Int) + 1)) = w2 at *
      clear t2 t3 f2 f3 lt H1
      go_wp2_with fail
      go_ret
      have hs : sb = false := by rw [HSB.out]; unfold stuckB; simp [HE.out]
      have hg : G = ⟨is, true, tl + 1, hd⟩ := by rw [HG.out]; unfold goneOn goneB; simp [HE.out]
      have hz : Z = Y.setT n G := by rw [HZ.out, hs]; rfl
      rw [hs, hz, hg]
      exact ⟨rfl, H2.out⟩
    case true.false =>
      go_wp2_with fail
      go_ret
      have hs : sb = true := by rw [HSB.out]; unfold stuckB; simp [HE.out]
      have hz : Z = Y := by rw [HZ.out, hs]; rfl
      rw [hs, hz]
      exact ⟨rfl, HD.out⟩
    case true.true =>
      go_wp2_with fail
      go_ret
      have hs : sb = true := by rw [HSB.out]; unfold stuckB; simp [HE.out]
      have hz : Z = Y := by rw [HZ.out, hs]; rfl
      rw [hs, hz]
      exact ⟨rfl, HD.out⟩
end Go.Proofs.Ytnjeiigdfdjccaa
/- The yard's enter. -/
namespace Go.Proofs.Ytnjeiigdfdjccaa
open Go.RowKit
set_option linter.unusedVariables false
set_option linter.unusedSimpArgs false
theorem yroute_in {y : Yd} {Y : YS} {n : Nat} {w : World} (H : YdAt w y Y) (hn : n < y.u.T.rts.length) (hT : TOk y.u.T) :
    Calls Try.prog 25 #[.pointer (some ⟨y.u.g, 0, none⟩), .int .i64 (n : Int)] w fun e w' => e = .returned (Y.A.R n).val ∧ Below w.heap.size w w' := by
  have h := route_at y.u Y.A (n : Int) w H.au hT.n
  have e : Y.A.at y.u.T.rts.length (n : Int) = Y.A.R n := by unfold AS.at; rw [if_pos ⟨by omega, by omega⟩]; rfl
  rw [e] at h
  exact h
set_option maxRecDepth 100000 in
set_option maxHeartbeats 8000000 in
theorem yenter_any (y : Yd) (Y : YS) (n : Nat) (w : World) (H : YdAt w y Y) (hn : n < y.u.T.rts.length) (hT : TOk y.u.T) (hS : Y.A.Ok) (hpr : Y.L.pr < 4294967296) :
    Calls Try.prog 45 #[.pointer (some ⟨y.g, 0, none⟩), .int .i64 n] w fun e w' =>
      e = .returned (.bool (enterB y.u.T Y n)) ∧ TurnY y w (if enterB y.u.T Y n then Y.setT n ⟨true, true, 0, 0⟩ else Y) w' := by
  obtain ⟨ra, rc, C0, hvr, hrl, hrc, hs, hR⟩ := H.tr.at_
  have hRn := hR n hn
  obtain ⟨b, off, rfl, hb, hc⟩ := hs.at (by omega)
  have hN := hT.n
  have hsg := hT.sig n hn
  obtain ⟨s, hsn⟩ := Int.eq_ofNat_of_zero_le hsg.1
  have HY := Lib.hid H
  have g1 := cell_row (j := 4) H.obj rfl
  have g3 : w.cell? ⟨y.g, 3, none⟩ = some (.slice (some ⟨b, off, none⟩) y.u.T.rts.length rc) := by rw [← hvr]; exact cell_row (j := 3) H.obj rfl
  have g6 := cell_row (j := 6) H.obj rfl
  have gA := cell_row (j := 10) H.obj rfl
  have x0 : w.cell? ⟨b, off + n * 6, none⟩ = some (.int .i64 (s : Int)) := by rw [H.bel.cell hb, ← hsn, ← hRn.sig]; exact hc n hn 0 (by omega)
  have hbl : b < w.heap.size := Nat.lt_of_lt_of_le hb H.bel.size
  have lg := heap_lt H.obj; have lt := H.ts.lt
  obtain ⟨t0, t1, t2, t3, tf⟩ := H.tcell hn
  have f0 := tf (n * 4); have f1 := tf (n * 4 + 1); have f2 := tf (n * 4 + 2); have f3 := tf (n * 4 + 3)
  have hs32 : s < 32 := by omega
  have HBT : Hid ((bits .and .u32 ((Y.L.pr : Int) / 2 ^ s) 1 == 1) = Y.L.pr.testBit s) := by
    show _ = _
    have := and_bit Y.L.pr s hpr
    rwa [show min s 32 = s by omega] at this
  have HEB : Hid (enterB y.u.T Y n = (!(Y.tn n).is && (Y.L.pr.testBit s && (Y.A.R n).ph == 1))) := by
    show _ = _
    unfold enterB
    rw [hsn]; rfl
  have HRT := Lib.hid (fun W (hW : Below w.heap.size w W) => yroute_in (H.below hW) hn hT)
  clear hsn hsg hs hR hRn hc hb tf H hvr
  obtain ⟨Z, hZ⟩ : ∃ Z, Z = if enterB y.u.T Y n then Y.setT n ⟨true, true, 0, 0⟩ else Y := ⟨_, rfl⟩
  rw [← hZ]
  obtain ⟨E, hE⟩ : ∃ E, E = enterB y.u.T Y n := ⟨_, rfl⟩
  rw [← hE] at hZ HEB ⊢
  have HZ := Lib.hid hZ
  clear hZ hE
  have HD : Hid (TurnY y w Y w.drew) := TurnY.of_below HY.out ⟨rfl, rfl, rfl, Nat.le_refl _, fun _ _ => rfl⟩
  go_enter Try.func45, Try.ntmps45
  go_upto_region 1 with fail
  go_region
  rw [HBT.out]
  have HRT' : Hid (Calls Try.prog 25 #[.pointer (some ⟨y.u.g, 0, none⟩), .int .i64 (n : Int)] w.drew fun e w' => e = .returned (.agg #[.int .u8 ((Y.A.R n).ph : Int), .int .u16 ((Y.A.R n).tm : Int), .int .u32 ((Y.A.R n).us : Int), .int .u32 ((Y.A.R n).rl : Int)]) ∧ Below w.drew.heap.size w.drew w') := HRT.out w.drew ⟨rfl, rfl, rfl, Nat.le_refl _, fun _ _ => rfl⟩
  have hf0 : ∀ (a b c d : Int) W, (Instr.field 43 (.agg #[.int .u8 a, .int .u16 b, .int .u32 c, .int .u32 d]) 0).run Try.prog W = .ok (.int .u8 a) W := fun _ _ _ _ _ => by kernel_rfl
  generalize w.drew = wd at *
  clear g1 g3 g6 gA x0 hbl lg lt t0 t1 t2 t3 f0 f1 f2 f3 HRT HBT
  have g1 := cell_row (j := 4) HD.out.1.obj rfl
  have gA := cell_row (j := 10) HD.out.1.obj rfl
  have lg := heap_lt HD.out.1.obj; have lt := HD.out.1.ts.lt
  obtain ⟨t0, t1, t2, t3, tf⟩ := HD.out.1.tcell (n := n) hn
  have HS0 := Lib.hid (hS.R n)
  generalize (Y.tn n).is = I at *
  generalize Y.L.pr.testBit s = Q at *
  generalize (Y.A.R n).ph = P at *
  cases I
  case true =>
    go_wp2_with fail
    go_ret
    have he : E = false := by rw [HEB.out]; rfl
    have hz : Z = Y := by rw [HZ.out, he]; rfl
    rw [he, hz]
    exact ⟨rfl, HD.out⟩
  case false =>
  cases Q
  case false =>
    go_wp2_with fail
    go_ret
    have he : E = false := by rw [HEB.out]; rfl
    have hz : Z = Y := by rw [HZ.out, he]; rfl
    rw [he, hz]
    exact ⟨rfl, HD.out⟩
  case true =>
  go_wp2_with fail
  refine HRT'.out.mono ?_
  rintro e w2 ⟨rfl, hb⟩
  have H2 := Lib.hid (HD.out.below hb)
  clear hb g1 gA lg lt t0 t1 t2 t3 tf HD HRT'
  have gA := cell_row (j := 10) H2.out.1.obj rfl
  have lg := heap_lt H2.out.1.obj; have lt := H2.out.1.ts.lt
  obtain ⟨t0, t1, t2, t3, tf⟩ := H2.out.1.tcell (n := n) hn
  have f0 := tf (n * 4); have f1 := tf (n * 4 + 1); have f2 := tf (n * 4 + 2); have f3 := tf (n * 4 + 3)
  clear tf
  by_cases hP : P = 1
  case pos =>
    have p1 : ((P : Int) == 1) = true := by simpa using (show (P : Int) = 1 by omega)
    have p2 : ((P : Int) != 1) = false := by simpa using (show (P : Int) = 1 by omega)
    have he : Hid (E = true) := by show _ = _; rw [HEB.out, hP]; rfl
    clear hP
    go_wp2_with fail
    go_ret
    have hz : Z = Y.setT n ⟨true, true, 0, 0⟩ := by rw [HZ.out, he.out]; rfl
    rw [he.out, hz]
    refine ⟨rfl, ?_⟩
    have k := (((H2.out.set_is n true).set_mv n true).set_tl n 0).set_hd n 0
    simp only [setT_at, setT_setT] at k
    exact k
  case neg =>
    have p1 : ((P : Int) == 1) = false := by simpa using (show ¬ (P : Int) = 1 by omega)
    have p2 : ((P : Int) != 1) = true := by simpa using (show ¬ (P : Int) = 1 by omega)
    have he : Hid (E = false) := by show _ = _; rw [HEB.out]; simpa using hP
    clear hP
    go_wp2_with fail
    go_ret
    have hz : Z = Y := by rw [HZ.out, he.out]; rfl
    rw [he.out, hz]
    exact ⟨rfl, H2.out⟩
end Go.Proofs.Ytnjeiigdfdjccaa
/- How many trains stand on a track, and whether it is clear. -/
namespace Go.Proofs.Ytnjeiigdfdjccaa
open Go.RowKit
set_option linter.unusedVariables false
set_option linter.unusedSimpArgs false
/-- The middle of a list. -/
theorem IntsAt.mid {w : World} {b off c : Nat} {l : List Int} (h : IntsAt w (.slice (some ⟨b, off, none⟩) l.length c) l) {lo hi : Nat} (hl : lo ≤ hi) (hh : hi ≤ l.length) : IntsAt w (.slice (some ⟨b, off + lo, none⟩) (hi - lo) (c - lo)) ((l.take hi).drop lo) := by
  have h := h.take hh
  obtain ⟨⟨a', c', e, h1, h2, hs⟩, ho⟩ := h
  injection e with e1 e2 e3
  subst e1; subst e3
  have hlen : (l.take hi).length = hi := by simp; omega
  have hl2 : ((l.take hi).drop lo).length = hi - lo := by rw [List.length_drop, hlen]
  have hg : ∀ i, ((l.take hi).drop lo).getD i 0 = (l.take hi).getD (lo + i) 0 := fun i => by rw [List.getD_eq_getElem?_getD, List.getD_eq_getElem?_getD, List.getElem?_drop]
  rw [hlen] at hs ho h1
  refine ⟨⟨_, _, by rw [hl2], by omega, by omega, ?_⟩, fun i hi => ?_⟩
  · rw [hl2]
    exact (hs.drop lo).congr fun i hi => by show Value.int .i64 _ = Value.int .i64 _; rw [hg]
  · rw [hl2] at hi
    rw [hg]
    exact ho _ (by omega)
theorem YD_drewN (w : World) (k : Nat) : Below w.heap.size w (w.drewN k) := ⟨rfl, rfl, rfl, Nat.le_refl _, fun _ _ => rfl⟩
set_option maxRecDepth 100000 in
set_option maxHeartbeats 8000000 in
theorem yon_any (y : Yd) (Y : YS) (x : Int) (w : World) (H : YdAt w y Y) (hT : TOk y.u.T)
    (hx : ∀ n, n < y.u.T.rts.length → (Y.tn n).is = true → (Y.tn n).tl ≤ (Y.tn n).hd ∧ (Y.tn n).hd < (y.u.T.rts.getD n rt0).tr.length) :
    Calls Try.prog 26 #[.pointer (some ⟨y.g, 0, none⟩), .int .i64 x] w fun e w' =>
      e = .returned (.int .i64 (onN y.u.T Y.tn x y.u.T.rts.length : Int)) ∧ Below w.heap.size w w' := by
  obtain ⟨ra, rc, C0, hvr, hrl, hrc, hs, hR⟩ := H.tr.at_
  have HN := Lib.hid hT.n
  have HY := Lib.hid H; have HX := Lib.hid hx; have HT := Lib.hid hT; have HR := Lib.hid hR; have HS := Lib.hid hs; have HVR := Lib.hid hvr
  unfold maxLen at hrc
  have gA := cell_row (j := 10) H.obj rfl
  have lg := heap_lt H.obj
  have HLE : Hid (∀ k, onN y.u.T Y.tn x k ≤ k) := fun k => by
    show onN y.u.T Y.tn x k ≤ k
    induction k with
    | zero => exact Nat.le_refl _
    | succ k ih => unfold onN; split <;> omega
  have HON : Hid (∀ k, onN y.u.T Y.tn x (k + 1) = if onB y.u.T Y.tn k x then onN y.u.T Y.tn x k + 1 else onN y.u.T Y.tn x k) := fun k => rfl
  clear H hx hT hR hs hvr
  obtain ⟨m, hm⟩ : ∃ m, m = y.u.T.rts.length := ⟨_, rfl⟩
  have HM := Lib.hid hm
  rw [← hm] at gA HN hrl ⊢
  clear hm
  obtain ⟨F, hF⟩ : ∃ F : Nat → Nat, F = onN y.u.T Y.tn x := ⟨_, rfl⟩
  rw [← hF] at HLE HON ⊢
  clear hF
  have hN := HN.out
  have H0 : Hid (F 0 = 0) := Nat.le_zero.1 (HLE.out 0)
  go_enter Try.func26, Try.ntmps26
  go_wp2_with fail
  clear gA lg
  go_loopw [13, 5] (fun i nv wr => ∃ k : Nat, k ≤ m ∧ i = .int .i64 k ∧ nv = .int .i64 (F k : Int) ∧ Below w.heap.size w wr) (fun i _ _ => m - (intOf i).toNat)
  case atStart => exact ⟨0, Nat.zero_le _, rfl, by rw [H0.out]; rfl, Below.refl _ _⟩
  case round =>
    obtain ⟨k, hk, rfl, rfl, hb⟩ := hrel
    have B1 := Lib.hid hb
    clear hb
    obtain ⟨w1, rfl⟩ : ∃ w1 : World, w1 = wr := ⟨_, rfl⟩
    have hfk := HLE.out k
    by_cases hlt : k < m
    case neg =>
      obtain rfl : k = m := by omega
      go_wp2_with fail
      go_ret
      exact ⟨rfl, B1.out⟩
    case pos =>
    have H1 := Lib.hid (HY.out.below B1.out)
    have HLT : Hid (k < y.u.T.rts.length) := by rw [← HM.out]; exact hlt
    obtain ⟨t0, t1, t2, t3, _⟩ := H1.out.tcell HLT.out
    have lt := H1.out.ts.lt
    have HON1 := Lib.hid (HON.out k)
    have HX1 := Lib.hid (HX.out k HLT.out)
    have hOB : onB y.u.T Y.tn k x = ((Y.tn k).is && hasI (stands (y.u.T.rts.getD k rt0).tr (Y.tn k)) x) := rfl
    rw [hOB] at HON1
    clear hOB
    obtain ⟨is, hI⟩ : ∃ t, t = (Y.tn k).is := ⟨_, rfl⟩
    obtain ⟨tl, htl⟩ : ∃ t, t = (Y.tn k).tl := ⟨_, rfl⟩
    obtain ⟨hd, hhd⟩ : ∃ t, t = (Y.tn k).hd := ⟨_, rfl⟩
    unfold stands at HON1
    rw [← hI, ← htl, ← hhd] at HON1 HX1
    rw [← hI] at t0; rw [← htl] at t2; rw [← hhd] at t3
    generalize (Y.tn k).mv = mv at *
    clear hI htl hhd
    obtain ⟨w2, hw2⟩ : ∃ w2, w2 = w1.alloc (.cells #[.bool is, .bool mv, .int .i64 (tl : Int), .int .i64 (hd : Int)] 83) := ⟨_, rfl⟩
    have HW2 := Lib.hid hw2
    have B12 : Hid (Below w1.heap.size w1 w2) := by rw [hw2]; exact tb_alloc_below _ _
    have K2 : Hid (w2.heap[w1.heap.size]? = some (.cells #[.bool is, .bool mv, .int .i64 (tl : Int), .int .i64 (hd : Int)] 83 (0, 0))) := by rw [hw2]; exact heap_alloc_new _ _
    have H2 := Lib.hid (H1.out.below B12.out)
    have B2 : Hid (Below w.heap.size w w2) := B1.out.trans (B12.out.mono B1.out.size)
    clear hw2
    go_upto_region 5 with fail
    rw [← HW2.out]
    obtain ⟨xb, hxb⟩ : ∃ b, b = w1.heap.size := ⟨_, rfl⟩
    rw [← hxb] at K2 ⊢
    clear hxb HW2 t0 t1 t2 t3 lt
    have x0 := cell_row (j := 0) K2.out rfl; have x2 := cell_row (j := 2) K2.out rfl; have x3 := cell_row (j := 3) K2.out rfl
    have lx := heap_lt K2.out
    cases is
    case false =>
      have hon : Hid (F (k + 1) = F k) := by show _ = _; rw [HON1.out]; rfl
      clear HON1 HX1
      go_region
      have B3 : Hid (Below w.heap.size w w2.drew) := B2.out.trans ((YD_drewN w2 1).mono B2.out.size)
      generalize w2.drew = w3 at *
      clear x0 x2 x3 lx
      go_wp2_with fail
      go_roundw
      case rel => exact ⟨k + 1, by omega, by go_num, by rw [hon.out], B3.out⟩
      case measure => simp [intOf]; omega
    case true =>
    obtain ⟨hx1, hx2⟩ := HX1.out rfl
    have HRk := HR.out k HLT.out
    obtain ⟨⟨ta, tc, hvt, htl2, htm, hts⟩, _⟩ := id HRk.tr
    have HTR0 := HRk.tr
    rw [hvt] at HTR0
    obtain ⟨tb, toff, rfl, htb, _⟩ := hts.at (by omega)
    have HMID := (HTR0.mid (lo := tl) (hi := hd + 1) (by omega) (by omega)).below H2.out.bel
    obtain ⟨b, off, rfl, hb, hc⟩ := HS.out.at (Nat.lt_of_le_of_lt (Nat.zero_le _) HLT.out)
    have g3 : w2.cell? ⟨y.g, 3, none⟩ = some (.slice (some ⟨b, off, none⟩) m rc) := by rw [HM.out, ← HVR.out]; exact cell_row (j := 3) H2.out.obj rfl
    have r1 : w2.cell? ⟨b, off + k * 6 + 1, none⟩ = some (.slice (some ⟨tb, toff, none⟩) (y.u.T.rts.getD k rt0).tr.length tc) := by rw [H2.out.bel.cell hb, ← hvt]; exact hc k HLT.out 1 (by omega)
    have lr : b < w2.heap.size := Nat.lt_of_lt_of_le hb H2.out.bel.size
    have lg := heap_lt H2.out.obj
    have HMI2 : IntsAt w2 (.slice (if tc = tl then some ⟨tb, toff, none⟩ else some ⟨tb, toff + tl, none⟩) (hd + 1 - tl) (tc - tl)) (((y.u.T.rts.getD k rt0).tr.take (hd + 1)).drop tl) := by rw [if_neg (by omega)]; exact HMID
    have HC := Lib.hid (fun q => Calls.quiet_of_same (contains_int _ _ x (w2.drewN q) (HMI2.below (YD_drewN w2 q))))
    obtain ⟨L, hL⟩ : ∃ L, L = (y.u.T.rts.getD k rt0).tr.length := ⟨_, rfl⟩
    rw [← hL] at r1 hx2 htl2
    clear hL hvt HTR0 hts htb HMID HMI2 hb hc HRk
    unfold maxLen at htm
    have sb0 : (0 : Int) ≤ (tl : Int) := by omega
    have sb1 : (tl : Int) ≤ (hd : Int) + 1 := by omega
    have sb2 : (hd : Int) + 1 ≤ (tc : Int) := by omega
    have sb3 : IntKind.i64.wrap ((hd : Int) + 1) = (hd : Int) + 1 := IntWalk.i64_in _ ⟨by omega, by omega⟩
    generalize hasI (((y.u.T.rts.getD k rt0).tr.take (hd + 1)).drop tl) x = h at *
    go_quiet ((go_at_call 40; first | (with_reducible exact HC.out _) | (exact HC.out _)))
    have B3 : Hid (Below w.heap.size w (w2.drewN nq)) := B2.out.trans ((YD_drewN w2 nq).mono B2.out.size)
    generalize w2.drewN nq = w3 at *
    clear x0 x2 x3 lx g3 r1 lr lg HC
    cases h
    case false =>
      have hon : Hid (F (k + 1) = F k) := by show _ = _; rw [HON1.out]; rfl
      go_wp2_with fail
      go_roundw
      case rel => exact ⟨k + 1, by omega, by go_num, by rw [hon.out], B3.out⟩
      case measure => simp [intOf]; omega
    case true =>
      have hon : Hid (F (k + 1) = F k + 1) := by show _ = _; rw [HON1.out]; rfl
      go_wp2_with fail
      go_roundw
      case rel => exact ⟨k + 1, by omega, by go_num, by rw [hon.out]; go_num, B3.out⟩
      case measure => simp [intOf]; omega
end Go.Proofs.Ytnjeiigdfdjccaa
