/- YardPlays: the two yards in one memory. -/
import Derived.Test.YtnjeiigdfdjccaaYrpH
import Derived.Test.YtnjeiigdfdjccaaYrdL
import Derived.Test.YtnjeiigdfdjccaaRfDE
namespace Go.Proofs.Ytnjeiigdfdjccaa
open Go.RowKit
set_option linter.unusedVariables false
set_option linter.unusedSimpArgs false
theorem RdAt.rebase {V w0 : World} {u : Rd} {Y : YS} {ub lb bs : Nat → Nat} (h : RdAt V u Y ub lb bs) (hp : IntsAt w0 u.r.vp u.r.T.pts) (hr : RtsAt w0 u.r.vr u.r.T.rts) (hb : Below w0.heap.size w0 V) (hB : w0.heap.size ≤ u.r.w0.heap.size) :
    RdAt V { u with r := { u.r with w0 := w0 } } Y ub lb bs :=
  ⟨h.obj, h.on, h.os, h.mv, h.sd, h.lf, h.br, ⟨h.au.obj, hp, hr, hb, h.au.rs, h.au.cs, h.au.us, h.au.nf, Nat.le_trans hB h.au.B0, h.au.gB, h.au.rB, h.au.cB, h.au.gr, h.au.gc, h.au.rc, fun n hn h3 => by
      have := h.au.du n hn h3; exact ⟨this.ne, this.g1, this.r1, this.c1, this.g2, this.r2, this.c2, this.B1, this.B2⟩, h.au.dd⟩,
    ⟨Nat.le_trans hB h.ap.w0, h.ap.rB, h.ap.ge, h.ap.go, h.ap.gm, h.ap.gt, h.ap.gl, h.ap.gb, h.ap.om, h.ap.ot, h.ap.ol, h.ap.ob_, h.ap.mt, h.ap.ml, h.ap.mb_, h.ap.tl, h.ap.tb_, h.ap.lb_⟩, h.off⟩
/-- Both yards in one memory. -/
structure PwAt (w : World) (kb : Nat) (TV : Array Value) (y : Yd) (u : Rd) (Y Z : YS) (ub lb bs : Nat → Nat) (W : World) : Prop where
  l : LwAt w kb TV y Y W
  r : RdAt W u Z ub lb bs
  w0 : u.r.w0 = y.w0
  sp : ∀ b, AllR u Z ub lb bs b ∨ b = u.r.g → ¬ y.M b ∧ b ≠ y.u.g ∧ y.u.w0.heap.size ≤ b
theorem PwAt.below {w : World} {kb : Nat} {TV : Array Value} {y : Yd} {u : Rd} {Y Z : YS} {ub lb bs : Nat → Nat} {W W' : World} (h : PwAt w kb TV y u Y Z ub lb bs W) (hb : Below W.heap.size W W') : PwAt w kb TV y u Y Z ub lb bs W' :=
  ⟨h.l.below hb, h.r.below hb, h.w0, h.sp⟩
/-- The program's yard does a frame. -/
theorem PwAt.turnY {w : World} {kb : Nat} {TV : Array Value} {y : Yd} {u : Rd} {Y Y' Z : YS} {ub lb bs : Nat → Nat} {W W' : World} (h : PwAt w kb TV y u Y Z ub lb bs W) (k : TurnY y W Y' W') : PwAt w kb TV y u Y' Z ub lb bs W' :=
  ⟨h.l.turn k, h.r.only k.2 (fun b hb => by have h1 := (h.l.yd.M_ge b hb).1; have h2 := h.l.yd.ap.z; rw [h.w0]; omega) (fun hb => (h.sp _ (.inr rfl)).1 hb) (fun b hb hm => (h.sp b (.inl hb)).1 hm), h.w0, h.sp⟩
/-- The document's yard does a frame. -/
theorem PwAt.turnR {w : World} {kb : Nat} {TV : Array Value} {y : Yd} {u : Rd} {Y Z Z' : YS} {ub lb bs : Nat → Nat} {W W' : World} (h : PwAt w kb TV y u Y Z ub lb bs W) (k : RdP u Z ub lb bs W Z' W') : ∃ u' l' b', PwAt w kb TV y u Y Z' u' l' b' W' := by
  obtain ⟨u', l', b', h1, h2, h3⟩ := k
  refine ⟨u', l', b', h.l.own (M := AllR u Z ub lb bs) (fun b hb => h.sp b (.inl hb)) h2, h1, h.w0, fun b hb => ?_⟩
  rcases hb with hb | hb
  · rcases h3 b hb with h4 | h4
    · exact h.sp b (.inl h4)
    · have e1 := heap_lt h.l.yd.au.obj
      have e2 := h.l.yd.au.bel.size
      exact ⟨fun hm => by have := (h.l.yd.M_ge b hm).2; omega, by omega, by omega⟩
  · exact h.sp b (.inr hb)
theorem rnew_pw {w w3 w6 W : World} {kb : Nat} {TV : Array Value} {y : Yd} {u : Rd} {ub lb bs : Nat → Nat} (h : LwAt w kb TV y ys0 w6) (hy : y.w0 = w3) (hb36 : Below w3.heap.size w3 w6) (R : RdAt W u ys0 ub lb bs) (hB : u.B = w6.heap.size) (hw : u.r.w0 = w6) (hp : IntsAt w3 u.r.vp u.r.T.pts) (hr : RtsAt w3 u.r.vr u.r.T.rts) (hb : Below w6.heap.size w6 W) :
    PwAt w kb TV y { u with r := { u.r with w0 := w3 } } ys0 ys0 ub lb bs W := by
  refine ⟨h.below hb, R.rebase hp hr (hb36.trans (hb.mono hb36.size)) (by rw [hw]; exact hb36.size), hy.symm, fun b hb' => ?_⟩
  have e1 := heap_lt h.yd.au.obj
  have e2 := h.yd.au.bel.size
  have hge : w6.heap.size ≤ b := by
    rcases hb' with hb' | hb'
    · have := (R.all_ge hb').1; omega
    · have hb' : b = u.r.g := hb'
      have h1 := R.au.gB; have h2 := R.ap.rB; omega
  exact ⟨fun hm => by have := (h.yd.M_ge b hm).2; omega, by omega, by omega⟩
def kdL (ms : List MV) (k : Nat) : List Value := (ms.take k).map fun m => .int .u8 (m.kd : Int)
def nnL (ms : List MV) (k : Nat) : List Value := (ms.take k).map fun m => .int .i64 m.n
theorem kdL_succ {ms : List MV} {k : Nat} (h : k < ms.length) : kdL ms (k + 1) = kdL ms k ++ [.int .u8 ((ms.getD k mv0).kd : Int)] := by
  unfold kdL; rw [take_snoc mv0 h, List.map_append]; rfl
theorem nnL_succ {ms : List MV} {k : Nat} (h : k < ms.length) : nnL ms (k + 1) = nnL ms k ++ [.int .i64 (ms.getD k mv0).n] := by
  unfold nnL; rw [take_snoc mv0 h, List.map_append]; rfl
/-- A row of one's own reads as a slice that came in does. -/
theorem own_sl {w : World} {base n : Nat} {v : Value} {xs : List Value} {t : TypeId} {V : Nat → Value} (h : w.ownsRow base t 1 v n xs) (hV : ∀ i, i < n → xs[i]? = some (V i)) : ∃ a c, v = .slice a n c ∧ SliceAt w a n V ∧ (∀ b o, a = some ⟨b, o, none⟩ → base ≤ b ∧ b < w.heap.size) := by
  rcases h.2 with ⟨rfl, h0⟩ | ⟨g, cap, cur, rfl, hb, hg, hn, hm, hs, htk⟩
  · subst h0; exact ⟨none, 0, rfl, .inl rfl, fun b o e => by cases e⟩
  · refine ⟨_, cap, rfl, .inr ⟨g, 0, rfl, heap_lt hg, fun i hi => ?_⟩, fun b o e => by cases e; exact ⟨hb, heap_lt hg⟩⟩
    have := hV i hi
    rw [← htk, List.getElem?_take, if_pos (by omega)] at this
    rw [Nat.zero_add]
    exact cell_row hg (by simpa using this)
/-- Two rows of one's own beside the yards, and a move's box. -/
structure Tw (C : Nat) (w5 : World) (mb : Nat) (kd z v1 : Value) (n1 : Nat) (X : List Value) (v2 : Value) (n2 : Nat) (Y : List Value) (V : World) : Prop where
  b : Below C w5 V
  o1 : V.ownsRow C 5 1 v1 n1 X
  o2 : V.ownsRow C 3 1 v2 n2 Y
  ne : ∀ g, v1.ownBlock = some g → v2.ownBlock ≠ some g
  bx : V.heap[mb]? = some (.cells #[kd, z] 56 (0, 0))
  b1 : v1.ownBlock ≠ some mb
  b2 : v2.ownBlock ≠ some mb
  c : C ≤ w5.heap.size
theorem Tw.below {C : Nat} {w5 : World} {mb : Nat} {kd z v1 : Value} {n1 : Nat} {X : List Value} {v2 : Value} {n2 : Nat} {Y : List Value} {V V' : World} (h : Tw C w5 mb kd z v1 n1 X v2 n2 Y V) (hb : Below V.heap.size V V') : Tw C w5 mb kd z v1 n1 X v2 n2 Y V' :=
  ⟨h.b.trans (hb.mono (Nat.le_trans h.c h.b.size)), tb_own h.o1 (Only.of_below (fun _ => False) hb) (fun _ _ h => h), tb_own h.o2 (Only.of_below (fun _ => False) hb) (fun _ _ h => h), h.ne, tb_kept h.bx hb, h.b1, h.b2, h.c⟩
theorem Tw.app1 {C : Nat} {w5 : World} {mb : Nat} {kd z v1 v1' : Value} {n1 n1' : Nat} {X X' : List Value} {v2 : Value} {n2 : Nat} {Y : List Value} {V V' : World} (h : Tw C w5 mb kd z v1 n1 X v2 n2 Y V) (ho : V'.ownsRow C 5 1 v1' n1' X') (hg : V.grownBy V' v1.ownBlock) (hv : v1.ownBlock = v1'.ownBlock ∨ v1'.ownBlock = some V.heap.size) : Tw C w5 mb kd z v1' n1' X' v2 n2 Y V' := by
  have hM : Only (fun b => v1.ownBlock = some b) V V' := Only.grown hg (fun g hg => .inr hg)
  have l1 := own_lt_ h.o1; have l2 := own_lt_ h.o2; have lm := heap_lt h.bx
  refine ⟨⟨hM.os.trans h.b.os, hM.tape.trans h.b.tape, hM.output.trans h.b.output, Nat.le_trans h.b.size hM.size, fun i hi => (hM.block i (by have := h.b.size; have := h.c; omega) (fun e => by have := (l1 i e).1; omega)).trans (h.b.block i hi)⟩, ho, tb_own h.o2 hM (fun g hg e => h.ne g e hg), fun g hg e => ?_, (hM.block mb lm (fun e => h.b1 e)).trans h.bx, fun e => ?_, h.b2, h.c⟩
  · rcases hv with h1 | h1
    · exact h.ne g (by rw [h1]; exact hg) e
    · rw [h1] at hg; cases hg; have := (l2 _ e).2; omega
  · rcases hv with h1 | h1
    · exact h.b1 (by rw [h1]; exact e)
    · rw [h1] at e; cases e; omega
theorem Tw.app2 {C : Nat} {w5 : World} {mb : Nat} {kd z v1 v2' : Value} {n1 n2' : Nat} {X Y' : List Value} {v2 : Value} {n2 : Nat} {Y : List Value} {V V' : World} (h : Tw C w5 mb kd z v1 n1 X v2 n2 Y V) (ho : V'.ownsRow C 3 1 v2' n2' Y') (hg : V.grownBy V' v2.ownBlock) (hv : v2.ownBlock = v2'.ownBlock ∨ v2'.ownBlock = some V.heap.size) : Tw C w5 mb kd z v1 n1 X v2' n2' Y' V' := by
  have hM : Only (fun b => v2.ownBlock = some b) V V' := Only.grown hg (fun g hg => .inr hg)
  have l1 := own_lt_ h.o1; have l2 := own_lt_ h.o2; have lm := heap_lt h.bx
  refine ⟨⟨hM.os.trans h.b.os, hM.tape.trans h.b.tape, hM.output.trans h.b.output, Nat.le_trans h.b.size hM.size, fun i hi => (hM.block i (by have := h.b.size; have := h.c; omega) (fun e => by have := (l2 i e).1; omega)).trans (h.b.block i hi)⟩, tb_own h.o1 hM (fun g hg e => h.ne g hg e), ho, fun g hg e => ?_, (hM.block mb lm (fun e => h.b2 e)).trans h.bx, h.b1, fun e => ?_, h.c⟩
  · rcases hv with h1 | h1
    · exact h.ne g hg (by rw [h1]; exact e)
    · rw [h1] at e; cases e; have := (l1 _ hg).2; omega
  · rcases hv with h1 | h1
    · exact h.b2 (by rw [h1]; exact e)
    · rw [h1] at e; cases e; omega
theorem two_at1 (w : World) (o1 o2 : Obj) : ((w.alloc o1).alloc o2).heap[w.heap.size + 1]? = some o2 := by
  have s : (w.alloc o1).heap.size = w.heap.size + 1 := Array.size_push _
  rw [← s]; exact heap_alloc_new _ _
theorem two_at0 (w : World) (o1 o2 : Obj) : ((w.alloc o1).alloc o2).heap[w.heap.size]? = some o1 := tb_kept (heap_alloc_new _ _) (tb_alloc_below _ _)
theorem news_at {V : World} {b : Nat} {x : Value} {t : TypeId} (h : V.heap[b]? = some (.cells #[x] t (0, 0))) : ∀ j u, [x][j]? = some u → V.cell? ((⟨b, 0, none⟩ : Addr).add j) = some u := by
  intro j u hj
  match j, hj with
  | 0, hj => simp at hj; subst hj; exact cell_row h rfl
  | j + 1, hj => simp at hj
theorem news_old {W V : World} {row : Option Nat} {b : Nat} {x : Value} {t : TypeId} (hg : W.grownBy V row) (hr : row ≠ some b) (h : W.heap[b]? = some (.cells #[x] t (0, 0))) : ∀ j u, [x][j]? = some u → V.cell? ((⟨b, 0, none⟩ : Addr).add j) = some u :=
  news_at ((hg.block b (heap_lt h) (fun e => hr e.symm)).trans h)
end Go.Proofs.Ytnjeiigdfdjccaa
