/- A table under construction grows by a point, by a route; the state of a route's line. -/
import Derived.Test.YtpodedhnlicckaaGreatDoorTbLw
namespace Go.Proofs.YtpodedhnlicckaaGreatDoor
open Go.Shelf Go.RowKit Go.Sort
set_option linter.unusedVariables false
set_option linter.unusedSimpArgs false
theorem own_ty {w : World} {b1 b2 e1 e2 s1 s2 n1 n2 k : Nat} {v1 v2 : Value} {x1 x2 : List Value} (h1 : w.ownsRow b1 e1 s1 v1 n1 x1) (h2 : w.ownsRow b2 e2 s2 v2 n2 x2) (hne : e1 ≠ e2) (hk : v1.ownBlock = some k) : ¬ some k = v2.ownBlock := by
  intro hk2
  rcases h2.2 with ⟨rfl, h0⟩ | ⟨g, cap, cur, rfl, hb, hg, _⟩
  · cases hk2
  · have hk2 : some k = some g := hk2
    obtain rfl := Option.some.inj hk2
    exact own_ne h1 hg (fun e => hne e.symm) k hk rfl
theorem own_sl {w : World} {b e s n : Nat} {v : Value} {xs : List Value} (h : w.ownsRow b e s v n xs) : ∃ a c, v = .slice a n c := by
  rcases h.2 with ⟨rfl, h0⟩ | ⟨g, cap, cur, rfl, _⟩
  · exact ⟨none, 0, by rw [h0]⟩
  · exact ⟨_, _, rfl⟩
theorem grown_only {w w8 : World} {o : Obj} {v : Value} (hg : (w.alloc o).grownBy w8 v.ownBlock) : Only (fun i => some i = v.ownBlock) w w8 :=
  ((Only.refl _ w).alloc o).trans ((Only.grown hg (fun g h => .inr h.symm)))
theorem ZOk.only {C : Nat} {w w' : World} {z : Rt × Value × Value × Value} {M : Nat → Prop} (h : ZOk C w z) (ho : Only M w w') (h1 : ∀ k, z.2.1.ownBlock = some k → ¬ M k) (h2 : ∀ k, z.2.2.1.ownBlock = some k → ¬ M k) (h3 : ∀ k, z.2.2.2.ownBlock = some k → ¬ M k) : ZOk C w' z :=
  ⟨tb_own h.tr ho h1, tb_own h.pts ho h2, tb_own h.con ho h3, h.sg, h.ap, h.ho, h.t, h.p, h.c⟩
theorem TM.addPt {C tb : Nat} {T : Tab} {w w8 : World} {o : Obj} {vp v' vr : Value} {x : Int} (h : TM C tb T w) (hr : T.rts = []) (hx : i64ok x) (hc : w.heap[tb]? = some (.cells #[.int .i64 T.tracks, vp, .int .i64 T.sigs, vr] 25 (0, 0)))
    (hg : (w.alloc o).grownBy w8 vp.ownBlock) (hv : w8.ownsRow C 3 1 v' (T.pts ++ [x]).length (intsV (T.pts ++ [x]))) : TM C tb { T with pts := T.pts ++ [x] } (w8.setCell ⟨tb, 1, none⟩ v') := by
  obtain ⟨vp0, vr0, zs, h1, h2, h3, h4, h5⟩ := h.at_
  rw [h1] at hc
  injection hc with hc
  injection hc with hc _ _
  injection hc with hc
  injection hc with _ hc
  injection hc with ea hc
  injection hc with _ hc
  injection hc with eb _
  subst ea; subst eb
  have hz : zs = [] := by rw [hr] at h4; exact List.map_eq_nil_iff.1 h4.symm
  subst hz
  have hO := grown_only hg
  have h8 : w8.heap[tb]? = _ := (hO.block tb (heap_lt h1) (fun e => own_ne h2 h1 (by decide) tb e.symm rfl)).trans h1
  refine ⟨h.low, ⟨v', vr0, [], heap_setCell_same _ _ _ _ _ _ h8, own_set hv h8 (by decide), own_set (tb_own h3 hO (fun k hk => own_ty h3 h2 (by decide) hk)) h8 (by decide), h4, fun z hz => by cases hz⟩, h.tk, h.sg, ?_⟩
  intro y hy
  rcases List.mem_append.1 hy with hy | hy
  · exact h.ps y hy
  · obtain rfl := List.mem_singleton.1 hy; exact hx
theorem TM.addRt {C tb : Nat} {T : Tab} {w w8 : World} {o : Obj} {vp vr v' : Value} {zs : List (Rt × Value × Value × Value)} {z : Rt × Value × Value × Value} (h : TM C tb T w) (hc : w.heap[tb]? = some (.cells #[.int .i64 T.tracks, vp, .int .i64 T.sigs, vr] 25 (0, 0))) (h2 : w.ownsRow C 3 1 vp T.pts.length (intsV T.pts)) (h3 : w.ownsRow C 30 6 vr zs.length (zs.flatMap zC)) (h4 : T.rts = zs.map (·.1)) (h5 : ∀ z ∈ zs, ZOk C w z)
    (hg : (w.alloc o).grownBy w8 vr.ownBlock) (hv : w8.ownsRow C 30 6 v' (zs ++ [z]).length ((zs ++ [z]).flatMap zC)) (hz : ZOk C w z) : TM C tb { T with rts := T.rts ++ [z.1] } (w8.setCell ⟨tb, 3, none⟩ v') := by
  have hO := grown_only hg
  have h8 : w8.heap[tb]? = _ := (hO.block tb (heap_lt hc) (fun e => own_ne h3 hc (by decide) tb e.symm rfl)).trans hc
  have hk : ∀ y, ZOk C w y → ZOk C w8 y := fun y hy => hy.only hO (fun k hk => own_ty hy.tr h3 (by decide) hk) (fun k hk => own_ty hy.pts h3 (by decide) hk) (fun k hk => own_ty hy.con h3 (by decide) hk)
  refine ⟨h.low, ⟨vp, v', zs ++ [z], heap_setCell_same _ _ _ _ _ _ h8, own_set (tb_own h2 hO (fun k hk => own_ty h2 h3 (by decide) hk)) h8 (by decide), own_set hv h8 (by decide), by rw [List.map_append, ← h4]; rfl, ?_⟩, h.tk, h.sg, h.ps⟩
  intro y hy
  rcases List.mem_append.1 hy with hy | hy
  · exact (hk y (h5 y hy)).set h8 (by decide) (by decide)
  · obtain rfl := List.mem_singleton.1 hy; exact (hk y hz).set h8 (by decide) (by decide)
/-- The state of a route's line: the reader, what was there, the route's box. -/
structure LS (sb rb bx : Nat) (all us : List ByteArray) (bd : Bool) (cs : Array Value) (w W : World) : Prop where
  rd : RdAt rb sb all us bd W
  bel : Below sb w W
  box : W.heap[bx]? = some (.cells cs 30 (0, 0))
  o1 : sb < rb
  o2 : rb < bx
  wz : sb ≤ w.heap.size
theorem LS.call {sb rb bx : Nat} {all us us' : List ByteArray} {bd bd' : Bool} {cs : Array Value} {w W W' : World} (h : LS sb rb bx all us bd cs w W) (hr : RdAt rb sb all us' bd' W') (ho : Only (fun i => i = rb) W W') : LS sb rb bx all us' bd' cs w W' :=
  ⟨hr, h.bel.trans (ho.below (Nat.le_trans h.wz h.bel.size) (fun i hi hm => by have := h.o1; omega)), (ho.block bx (heap_lt h.box) (by have := h.o2; omega)).trans h.box, h.o1, h.o2, h.wz⟩
theorem LS.word {sb rb bx : Nat} {all us : List ByteArray} {bd : Bool} {cs : Array Value} {w W : World} (h : LS sb rb bx all us bd cs w W) (s : ByteArray) :
    Calls Tryz.prog 64 #[.pointer (some ⟨rb, 0, none⟩), .string s] W fun e W' => e = .returned (.tuple #[]) ∧ LS sb rb bx all (wordS us bd s).1 (wordS us bd s).2 cs w W' ∧ Only (fun i => i = rb) W W' := by
  refine (word_any rb sb all us bd s W h.rd).mono ?_
  rintro e W' ⟨rfl, hr, ho⟩
  exact ⟨rfl, h.call hr ho, ho⟩
theorem LS.num {sb rb bx : Nat} {all us : List ByteArray} {bd : Bool} {cs : Array Value} {w W : World} (h : LS sb rb bx all us bd cs w W) :
    Calls Tryz.prog 65 #[.pointer (some ⟨rb, 0, none⟩)] W fun e W' => e = .returned (.int .i64 ((numS2 us bd).1 : Int)) ∧ LS sb rb bx all (numS2 us bd).2.1 (numS2 us bd).2.2 cs w W' ∧ Only (fun i => i = rb) W W' := by
  refine (number_any rb sb all us bd W h.rd).mono ?_
  rintro e W' ⟨rfl, hr, ho⟩
  exact ⟨rfl, h.call hr ho, ho⟩
theorem LS.set {sb rb bx : Nat} {all us : List ByteArray} {bd : Bool} {cs : Array Value} {w W : World} (h : LS sb rb bx all us bd cs w W) (i : Nat) (x : Value) : LS sb rb bx all us bd (cs.setIfInBounds i x) w (W.setCell ⟨bx, i, none⟩ x) :=
  ⟨h.rd.other (by have := h.o2; omega) (by have := h.o1; have := h.o2; omega), h.bel.setCell (p := ⟨bx, i, none⟩) (by have := h.o1; have := h.o2; show sb ≤ bx; omega) _, heap_setCell_same _ _ _ _ _ _ h.box, h.o1, h.o2, h.wz⟩
theorem own_rb {W W' : World} {L e sz n rb : Nat} {v : Value} {xs : List Value} (h : W.ownsRow L e sz v n xs) (ho : Only (fun i => i = rb) W W') (hl : rb < L) : W'.ownsRow L e sz v n xs :=
  tb_own h ho (fun k hk => by have := (h.lt k hk).1; omega)
theorem own_bx {W : World} {L e sz n bx i : Nat} {v x : Value} {xs : List Value} (h : W.ownsRow L e sz v n xs) (hl : bx < L) : (W.setCell ⟨bx, i, none⟩ x).ownsRow L e sz v n xs :=
  tb_own h ((Only.refl (fun b => b = bx) W).set i x (.inr rfl)) (fun k hk => by have := (h.lt k hk).1; omega)
theorem strV_one (W : World) (s : ByteArray) : SliceAt (W.alloc (.cells #[.string s] 9)) (some ⟨W.heap.size, 0, none⟩) [s].length (strV [s]) :=
  .inr ⟨W.heap.size, 0, rfl, by simp, fun i hi => by
    have : i = 0 := by simpa using hi
    subst this
    exact cell_row (heap_alloc_new _ _) rfl⟩
theorem strV_two (W : World) (s t : ByteArray) : SliceAt (W.alloc (.cells #[.string s, .string t] 9)) (some ⟨W.heap.size, 0, none⟩) [s, t].length (strV [s, t]) :=
  .inr ⟨W.heap.size, 0, rfl, by simp, fun i hi => by
    have hi : i < 2 := hi
    match i, hi with
    | 0, _ => exact cell_row (heap_alloc_new _ _) rfl
    | 1, _ => exact cell_row (heap_alloc_new _ _) rfl⟩
theorem LS.allI {sb rb bx : Nat} {all us : List ByteArray} {bd : Bool} {cs : Array Value} {w W : World} (h : LS sb rb bx all us bd cs w W) (s : ByteArray) :
    Calls Tryz.prog 66 #[.pointer (some ⟨rb, 0, none⟩), .func (.func 67) #[] #[], .slice (some ⟨W.heap.size, 0, none⟩) 1 1] (W.alloc (.cells #[.string s] 9)) fun e W' => (∃ v, e = .returned v ∧ W'.ownsRow W.heap.size 3 1 v (allS [s] digF us bd).1.length (intsV (allS [s] digF us bd).1)) ∧ LS sb rb bx all (allS [s] digF us bd).2.1 (allS [s] digF us bd).2.2 cs w W' ∧ Only (fun i => i = rb) W W' := by
  have hb : Only (fun i => i = rb) W (W.alloc (.cells #[.string s] 9)) := Only.of_below _ (tb_alloc_below _ _)
  have hA := h.call (h.rd.kept (tb_alloc_below W _)) hb
  have hl := h.rd.lt
  refine (allI_any rb sb all us [s] bd (some ⟨W.heap.size, 0, none⟩) 1 _ hA.rd (strV_one W s) (fun b o e => by injection e with e; injection e with e _ _; omega) (show 1 ≤ 1000000 by omega)).mono ?_
  rintro e W' ⟨⟨v, rfl, ho⟩, hr, hon⟩
  exact ⟨⟨v, rfl, own_base ho (by simp)⟩, hA.call hr hon, hb.trans (hon.mono (fun _ _ h => h))⟩
theorem LS.allZ {sb rb bx : Nat} {all us : List ByteArray} {bd : Bool} {cs : Array Value} {w W : World} (h : LS sb rb bx all us bd cs w W) :
    Calls Tryz.prog 66 #[.pointer (some ⟨rb, 0, none⟩), .func (.func 67) #[] #[], .slice none 0 0] W fun e W' => (∃ v, e = .returned v ∧ W'.ownsRow W.heap.size 3 1 v (allS [] digF us bd).1.length (intsV (allS [] digF us bd).1)) ∧ LS sb rb bx all (allS [] digF us bd).2.1 (allS [] digF us bd).2.2 cs w W' ∧ Only (fun i => i = rb) W W' := by
  refine (allI_any rb sb all us [] bd none 0 W h.rd (.inl rfl) (fun b o e => by cases e) (show 0 ≤ 1000000 by omega)).mono ?_
  rintro e W' ⟨hv, hr, hon⟩
  exact ⟨hv, h.call hr hon, hon⟩
theorem LS.allP {sb rb bx : Nat} {all us : List ByteArray} {bd : Bool} {cs : Array Value} {w W : World} (h : LS sb rb bx all us bd cs w W) (s t : ByteArray) :
    Calls Tryz.prog 68 #[.pointer (some ⟨rb, 0, none⟩), .func (.func 69) #[] #[], .slice (some ⟨W.heap.size, 0, none⟩) 2 2] (W.alloc (.cells #[.string s, .string t] 9)) fun e W' => (∃ v, e = .returned v ∧ W'.ownsRow W.heap.size 57 2 v (allS [s, t] ptF us bd).1.length (ptsC (allS [s, t] ptF us bd).1)) ∧ (∀ p ∈ (allS [s, t] ptF us bd).1, i64ok p.1) ∧ LS sb rb bx all (allS [s, t] ptF us bd).2.1 (allS [s, t] ptF us bd).2.2 cs w W' ∧ Only (fun i => i = rb) W W' := by
  have hb : Only (fun i => i = rb) W (W.alloc (.cells #[.string s, .string t] 9)) := Only.of_below _ (tb_alloc_below _ _)
  have hA := h.call (h.rd.kept (tb_alloc_below W _)) hb
  have hl := h.rd.lt
  refine (allP_any rb sb all us [s, t] bd (some ⟨W.heap.size, 0, none⟩) 2 _ hA.rd (strV_two W s t) (fun b o e => by injection e with e; injection e with e _ _; omega) (show 2 ≤ 1000000 by omega)).mono ?_
  rintro e W' ⟨⟨v, rfl, ho⟩, hr, hon, hok⟩
  exact ⟨⟨v, rfl, own_base ho (by simp)⟩, hok, hA.call hr hon, hb.trans (hon.mono (fun _ _ h => h))⟩
theorem digF_ok (st : List ByteArray) : ∀ (us : List ByteArray) (b : Bool), ∀ x ∈ (allS st digF us b).1, i64ok x
  | [], b, x, h => by cases h
  | q :: r, b, x, h => by
    cases hq : hasS st q with
    | true => rw [allS_stop hq] at h; cases h
    | false =>
      rw [allS_go hq] at h
      rcases List.mem_cons.1 h with rfl | h
      · have := digS_lt q.data.toList
        exact ⟨by show _ ≤ (((digS q.data.toList).1 : Nat) : Int); omega, by show (((digS q.data.toList).1 : Nat) : Int) ≤ _; omega⟩
      · exact digF_ok st r _ x h
end Go.Proofs.YtpodedhnlicckaaGreatDoor
