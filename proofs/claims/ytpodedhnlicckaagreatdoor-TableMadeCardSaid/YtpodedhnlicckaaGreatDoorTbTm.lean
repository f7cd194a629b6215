/- A table that is put together: how it lies. -/
import Derived.Test.YtpodedhnlicckaaGreatDoorTbLn
import Derived.Test.YtpodedhnlicckaaGreatDoorTabK
namespace Go.Proofs.YtpodedhnlicckaaGreatDoor
open Go.RowKit
set_option linter.unusedVariables false
set_option linter.unusedSimpArgs false
theorem own_ne {w : World} {base e sz n tb : Nat} {v : Value} {xs : List Value} {c : Array Value} {t : TypeId} {fz : Nat × Nat} (h : w.ownsRow base e sz v n xs) (ht : w.heap[tb]? = some (.cells c t fz)) (hne : t ≠ e) : ∀ k, v.ownBlock = some k → k ≠ tb := by
  rintro k hk rfl
  rcases h.2 with ⟨rfl, h0⟩ | ⟨g, cap, cur, rfl, hb, hg, _⟩
  · cases hk
  · have hk : some g = some k := hk
    obtain rfl := Option.some.inj hk
    rw [hg] at ht
    injection ht with ht
    injection ht with _ h2 _
    exact hne h2.symm
theorem own_set {w : World} {base e sz n tb i : Nat} {v x : Value} {xs : List Value} {c : Array Value} {t : TypeId} {fz : Nat × Nat} (h : w.ownsRow base e sz v n xs) (ht : w.heap[tb]? = some (.cells c t fz)) (hne : t ≠ e) : (w.setCell ⟨tb, i, none⟩ x).ownsRow base e sz v n xs :=
  tb_own h ((Only.refl (fun b => b = tb) w).set i x (.inr rfl)) (own_ne h ht hne)
theorem own_old {w w' : World} {base e sz n : Nat} {v : Value} {xs : List Value} (h : w.ownsRow base e sz v n xs) (hb : Below w.heap.size w w') : w'.ownsRow base e sz v n xs :=
  tb_own h (Only.of_below (fun _ => False) hb) (fun _ _ h => h)
theorem own_base {w : World} {b b' e sz n : Nat} {v : Value} {xs : List Value} (h : w.ownsRow b e sz v n xs) (hb : b' ≤ b) : w.ownsRow b' e sz v n xs := by
  refine ⟨h.1, ?_⟩
  rcases h.2 with h0 | ⟨g, cap, cur, rfl, hbb, r⟩
  · exact .inl h0
  · exact .inr ⟨g, cap, cur, rfl, Nat.le_trans hb hbb, r⟩
theorem ownI_at {w : World} {B : Nat} {v : Value} {l : List Int} (h : w.ownsRow B 3 1 v l.length (intsV l)) (ho : ∀ x ∈ l, i64ok x) : IntsAt w v l := by
  have hok : ∀ i, i < l.length → i64ok (l.getD i 0) := fun i hi => by
    rw [List.getD_eq_getElem?_getD, List.getElem?_eq_getElem hi]; exact ho _ (List.getElem_mem hi)
  rcases h.2 with ⟨rfl, h0⟩ | ⟨g, cap, cur, rfl, hb, hg, hn, hm, hs, htk⟩
  · have hl : l = [] := List.eq_nil_of_length_eq_zero h0
    subst hl
    exact ⟨⟨none, 0, rfl, Nat.le_refl _, by unfold maxLen; omega, .inl rfl⟩, hok⟩
  · refine ⟨⟨_, cap, rfl, hn, hm, .inr ⟨g, 0, rfl, heap_lt hg, fun i hi => ?_⟩⟩, hok⟩
    have e : (intsV l)[i]? = some (intV .i64 l i) := by
      unfold intsV intV
      rw [List.getElem?_map, List.getD_eq_getElem?_getD, List.getElem?_eq_getElem hi]; rfl
    rw [← htk, List.getElem?_take, if_pos (by omega)] at e
    rw [Nat.zero_add]
    generalize intV IntKind.i64 l i = y at *
    exact cell_row hg (by simpa using e)
theorem flat_get {α : Type} (f : α → List Value) (sz : Nat) (hf : ∀ x, (f x).length = sz) : ∀ (l : List α) (i j : Nat), i < l.length → j < sz → (l.flatMap f)[i * sz + j]? = (l[i]?).bind fun x => (f x)[j]?
  | [], i, j, hi, _ => by simp at hi
  | x :: l, 0, j, _, hj => by
    rw [List.flatMap_cons, Nat.zero_mul, Nat.zero_add, List.getElem?_append_left (by rw [hf]; exact hj)]; rfl
  | x :: l, i + 1, j, hi, hj => by
    rw [List.flatMap_cons, List.getElem?_append_right (by rw [hf, Nat.succ_mul]; omega), hf]
    rw [show (i + 1) * sz + j - sz = i * sz + j by rw [Nat.succ_mul]; omega]
    exact flat_get f sz hf l i j (by simpa using hi) hj
theorem ownP_at {w : World} {B : Nat} {v : Value} {l : List (Int × Bool)} (h : w.ownsRow B 57 2 v l.length (ptsC l)) (ho : ∀ p ∈ l, i64ok p.1) : PtsAt w v l := by
  have hok : ∀ i, i < l.length → i64ok (l.getD i (0, false)).1 := fun i hi => by
    rw [List.getD_eq_getElem?_getD, List.getElem?_eq_getElem hi]; exact ho _ (List.getElem_mem hi)
  rcases h.2 with ⟨rfl, h0⟩ | ⟨g, cap, cur, rfl, hb, hg, hn, hm, hs, htk⟩
  · have hl : l = [] := List.eq_nil_of_length_eq_zero h0
    subst hl
    exact ⟨⟨none, 0, rfl, Nat.le_refl _, by unfold maxLen; omega, .inl rfl⟩, hok⟩
  · refine ⟨⟨_, cap, rfl, hn, hm, .inr ⟨g, 0, rfl, heap_lt hg, fun i hi j hj => ?_⟩⟩, hok⟩
    have e : (ptsC l)[i * 2 + j]? = some (ptV l i j) := by
      unfold ptsC ptV
      rw [flat_get (fun p : Int × Bool => [Value.int .i64 p.1, .bool p.2]) 2 (fun _ => rfl) l i j hi hj, List.getD_eq_getElem?_getD, List.getElem?_eq_getElem hi]
      match j, hj with
      | 0, _ => rfl
      | 1, _ => rfl
    rw [← htk, List.getElem?_take, if_pos (by omega)] at e
    rw [Nat.zero_add]
    exact cell_row hg (by simpa using e)
/-- A route and the slices of its lists. -/
def zC (z : Rt × Value × Value × Value) : List Value := [.int .i64 z.1.sig, z.2.1, z.2.2.1, .int .i64 z.1.app, z.2.2.2, .int .u16 (z.1.hold : Int)]
structure ZOk (C : Nat) (w : World) (z : Rt × Value × Value × Value) : Prop where
  tr : w.ownsRow C 3 1 z.2.1 z.1.tr.length (intsV z.1.tr)
  pts : w.ownsRow C 57 2 z.2.2.1 z.1.pts.length (ptsC z.1.pts)
  con : w.ownsRow C 3 1 z.2.2.2 z.1.con.length (intsV z.1.con)
  sg : i64ok z.1.sig
  ap : i64ok z.1.app
  ho : z.1.hold < 65536
  t : ∀ x ∈ z.1.tr, i64ok x
  p : ∀ x ∈ z.1.pts, i64ok x.1
  c : ∀ x ∈ z.1.con, i64ok x
structure TM (C tb : Nat) (T : Tab) (w : World) : Prop where
  low : C ≤ tb
  at_ : ∃ (vp vr : Value) (zs : List (Rt × Value × Value × Value)), w.heap[tb]? = some (.cells #[.int .i64 T.tracks, vp, .int .i64 T.sigs, vr] 25 (0, 0)) ∧ w.ownsRow C 3 1 vp T.pts.length (intsV T.pts) ∧ w.ownsRow C 30 6 vr zs.length (zs.flatMap zC) ∧ T.rts = zs.map (·.1) ∧ ∀ z ∈ zs, ZOk C w z
  tk : i64ok T.tracks
  sg : i64ok T.sigs
  ps : ∀ x ∈ T.pts, i64ok x
theorem ZOk.old {C : Nat} {w w' : World} {z : Rt × Value × Value × Value} (h : ZOk C w z) (hb : Below w.heap.size w w') : ZOk C w' z :=
  ⟨own_old h.tr hb, own_old h.pts hb, own_old h.con hb, h.sg, h.ap, h.ho, h.t, h.p, h.c⟩
theorem TM.old {C tb : Nat} {T : Tab} {w w' : World} (h : TM C tb T w) (hb : Below w.heap.size w w') : TM C tb T w' := by
  obtain ⟨vp, vr, zs, h1, h2, h3, h4, h5⟩ := h.at_
  exact ⟨h.low, ⟨vp, vr, zs, tb_kept h1 hb, own_old h2 hb, own_old h3 hb, h4, fun z hz => (h5 z hz).old hb⟩, h.tk, h.sg, h.ps⟩
theorem ZOk.set {C tb i : Nat} {w : World} {z : Rt × Value × Value × Value} {x : Value} {c : Array Value} {fz : Nat × Nat} {t : TypeId} (h : ZOk C w z) (ht : w.heap[tb]? = some (.cells c t fz)) (h1 : t ≠ 3) (h2 : t ≠ 57) : ZOk C (w.setCell ⟨tb, i, none⟩ x) z :=
  ⟨own_set h.tr ht h1, own_set h.pts ht h2, own_set h.con ht h1, h.sg, h.ap, h.ho, h.t, h.p, h.c⟩
/-- A number of the table is set. -/
theorem TM.tracks {C tb : Nat} {T : Tab} {w : World} (h : TM C tb T w) (x : Int) (hx : i64ok x) : TM C tb { T with tracks := x } (w.setCell ⟨tb, 0, none⟩ (.int .i64 x)) := by
  obtain ⟨vp, vr, zs, h1, h2, h3, h4, h5⟩ := h.at_
  exact ⟨h.low, ⟨vp, vr, zs, heap_setCell_same _ _ _ _ _ _ h1, own_set h2 h1 (by decide), own_set h3 h1 (by decide), h4, fun z hz => (h5 z hz).set h1 (by decide) (by decide)⟩, hx, h.sg, h.ps⟩
theorem TM.sigs {C tb : Nat} {T : Tab} {w : World} (h : TM C tb T w) (x : Int) (hx : i64ok x) : TM C tb { T with sigs := x } (w.setCell ⟨tb, 2, none⟩ (.int .i64 x)) := by
  obtain ⟨vp, vr, zs, h1, h2, h3, h4, h5⟩ := h.at_
  exact ⟨h.low, ⟨vp, vr, zs, heap_setCell_same _ _ _ _ _ _ h1, own_set h2 h1 (by decide), own_set h3 h1 (by decide), h4, fun z hz => (h5 z hz).set h1 (by decide) (by decide)⟩, h.tk, hx, h.ps⟩
theorem TM.tab {C tb : Nat} {T : Tab} {w : World} (h : TM C tb T w) : ∃ vp vr, w.heap[tb]? = some (.cells #[.int .i64 T.tracks, vp, .int .i64 T.sigs, vr] 25 (0, 0)) ∧ TabAt w (.agg #[.int .i64 T.tracks, vp, .int .i64 T.sigs, vr]) T := by
  obtain ⟨vp, vr, zs, h1, h2, h3, h4, h5⟩ := h.at_
  refine ⟨vp, vr, h1, ⟨vp, vr, rfl, ownI_at h2 h.ps, ?_⟩, h.tk, h.sg⟩
  have hl : T.rts.length = zs.length := by rw [h4, List.length_map]
  have hz : ∀ i, i < zs.length → RtAt w (fun j => (zC (zs.getD i (rt0, undef, undef, undef))).getD j undef) (T.rts.getD i rt0) := fun i hi => by
    have e : T.rts.getD i rt0 = (zs.getD i (rt0, undef, undef, undef)).1 := by
      rw [h4, List.getD_eq_getElem?_getD, List.getElem?_map, List.getD_eq_getElem?_getD, List.getElem?_eq_getElem hi]; rfl
    have ok : ZOk C w (zs.getD i (rt0, undef, undef, undef)) := by
      rw [List.getD_eq_getElem?_getD, List.getElem?_eq_getElem hi]; exact h5 _ (List.getElem_mem hi)
    rw [e]
    generalize zs.getD i (rt0, undef, undef, undef) = z at *
    exact ⟨rfl, ownI_at ok.tr ok.t, ownP_at ok.pts ok.p, rfl, ownI_at ok.con ok.c, rfl, ok.sg, ok.ap, ok.ho⟩
  rcases h3.2 with ⟨rfl, h0⟩ | ⟨g, cap, cur, rfl, hb, hg, hn, hm, hs, htk⟩
  · refine ⟨none, 0, fun _ _ => undef, by rw [hl, h0], by omega, by unfold maxLen; omega, .inl (by omega), fun i hi => absurd hi (by omega)⟩
  · refine ⟨_, cap, fun i j => (zC (zs.getD i (rt0, undef, undef, undef))).getD j undef, by rw [hl], by omega, hm, .inr ⟨g, 0, rfl, heap_lt hg, fun i hi j hj => ?_⟩, fun i hi => hz i (by omega)⟩
    rw [hl] at hi
    have e : (zs.flatMap zC)[i * 6 + j]? = some ((zC (zs.getD i (rt0, undef, undef, undef))).getD j undef) := by
      have e1 : zs.getD i (rt0, undef, undef, undef) = zs[i] := by rw [List.getD_eq_getElem?_getD, List.getElem?_eq_getElem hi]; rfl
      rw [flat_get zC 6 (fun _ => rfl) zs i j hi hj, e1, List.getElem?_eq_getElem hi]
      show (zC zs[i])[j]? = _
      rw [List.getD_eq_getElem?_getD, List.getElem?_eq_getElem (show j < (zC zs[i]).length from hj)]; rfl
    show w.cell? _ = some ((zC (zs.getD i (rt0, undef, undef, undef))).getD j undef)
    generalize (zC (zs.getD i (rt0, undef, undef, undef))).getD j undef = y at *
    rw [← htk, List.getElem?_take, if_pos (by omega)] at e
    rw [Nat.zero_add]
    exact cell_row hg (by simpa using e)
end Go.Proofs.YtpodedhnlicckaaGreatDoor
