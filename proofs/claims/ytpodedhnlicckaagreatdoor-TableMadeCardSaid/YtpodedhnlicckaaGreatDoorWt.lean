/- What is read is no greater than the address space: lengths of a table's lists. -/
import Derived.Test.YtpodedhnlicckaaGreatDoorTab
import Derived.SizedLaws
namespace Go.Proofs.YtpodedhnlicckaaGreatDoor
open Go.RowKit
set_option linter.unusedVariables false
/-- These cells can be read as data of that type, of no more bytes than there are. -/
def ReadsW (w : World) (t : TypeId) (cs : List Value) : Prop :=
  ∃ (H : Type) (enc : TypeId × Value → H) (m : Nat) (y : DataW H × List MemPlace), DataW.trod enc Tryz.prog w 0 (fun _ => true) true m t cs = some y ∧ ∀ n ∈ y.1.weights Tryz.prog t, n ≤ reachBytes
theorem ReadsW.c {w : World} {t : TypeId} {cs : List Value} (h : ReadsW w t cs) : ReadsC w t cs := by
  obtain ⟨H, enc, m, y, h, _⟩ := h
  exact ⟨H, enc, m, y, h⟩
theorem weights_mem_all {H : Type} {P : Program} {e : TypeId} : ∀ {ds : List (DataW H)} {d : DataW H}, d ∈ ds → ∀ n ∈ d.weights P e, n ∈ DataW.weightsAll P e ds
  | d0 :: ds, d, hd, n, hn => by
    simp only [DataW.weightsAll, List.mem_append]
    rcases List.mem_cons.1 hd with rfl | hd
    · exact .inl hn
    · exact .inr (weights_mem_all hd n hn)
  | [], _, hd, _, _ => by simp at hd
theorem readsW_len {w : World} {t e : TypeId} {a : Option Addr} {len cap : Nat} (ht : Tryz.prog.underlying t = some (.slice e)) (hb : 1 ≤ Tryz.prog.bytesOf e) (h : ReadsW w t [.slice a len cap]) : len < 2 ^ 47 := by
  obtain ⟨H, enc, m, y, hf, hw⟩ := h
  rcases Go.Deep.open_slice ht hf with ⟨hcs, _⟩ | ⟨x, l, c, m', n, D, Pl, hcs, _, hl, hm, hmm, rfl, hx⟩
  · simp at hcs
    obtain ⟨rfl, rfl, rfl⟩ := hcs
    omega
  · simp at hcs
    obtain ⟨rfl, rfl, rfl⟩ := hcs
    have := hw (((List.range len).map D).length + ((List.range (m' - len)).map fun j => D (len + j)).length |> (· * Tryz.prog.bytesOf e)) (by simp only [DataW.weights, ht]; exact List.mem_cons_self ..)
    simp only [List.length_map, List.length_range] at this
    have h2 : len * 1 ≤ (len + (m' - len)) * Tryz.prog.bytesOf e := Nat.mul_le_mul (by omega) hb
    have := reachBytes_lt
    omega
theorem readsW_each {w : World} {t e : TypeId} {sz : Nat} {a : Option Addr} {len cap : Nat} (ht : Tryz.prog.underlying t = some (.slice e)) (hc : Tryz.prog.cellsOf e = sz) (h : ReadsW w t [.slice a len cap]) (i : Nat) (hi : i < len) :
    ∃ x cs, a = some x ∧ cs.length = sz ∧ (∀ j, j < sz → w.cell? ((x.add (i * sz)).add j) = cs[j]?) ∧ ReadsW w e cs := by
  obtain ⟨H, enc, m, y, hf, hw⟩ := h
  rcases Go.Deep.open_slice ht hf with ⟨hcs, _⟩ | ⟨x, l, c, m', n, D, Pl, hcs, _, hl, hm, hmm, rfl, hx⟩
  · simp at hcs
    obtain ⟨rfl, rfl, rfl⟩ := hcs
    omega
  · simp at hcs
    obtain ⟨rfl, rfl, rfl⟩ := hcs
    have hml : len ≤ m' := by rw [hmm]; split <;> omega
    obtain ⟨cs', h1, h2⟩ := hx i (by omega)
    rw [hc] at h1
    obtain ⟨_, hlen, hcell⟩ := World.cells?_some h1
    refine ⟨x, cs', rfl, hlen, hcell, H, enc, n, _, h2, fun k hk => hw k ?_⟩
    simp only [DataW.weights, ht]
    exact List.mem_cons_of_mem _ (List.mem_append_left _ (weights_mem_all (List.mem_map.2 ⟨i, List.mem_range.2 hi, rfl⟩) k hk))
theorem readsW_struct {w : World} {t : TypeId} {fs : Array Field} {cs : List Value} (ht : Tryz.prog.underlying t = some (.struct fs)) (h : ReadsW w t cs) :
    cs.length = Tryz.prog.cellsOf t ∧ ∀ (i : Nat) (f : Field), fs[i]? = some f → ReadsW w f.type ((cs.drop f.offset).take (Tryz.prog.cellsOf f.type)) := by
  obtain ⟨H, enc, m, y, hf, hw⟩ := h
  obtain ⟨xs, n, _, rfl, hl, hlen, hx⟩ := DataW.trod_struct ht hf
  refine ⟨hl, fun i f hi => ?_⟩
  have := hx i f hi
  have hi' : i < xs.length := by
    rw [hlen]
    by_cases h : i < fs.size
    · exact h
    · rw [Array.getElem?_eq_none (by omega)] at hi; cases hi
  have hi2 := List.getElem?_eq_getElem hi'
  rw [hi2] at this
  refine ⟨H, enc, n, _, this, fun k hk => hw k ?_⟩
  simp only [DataW.weights, ht]
  exact DataW.weights_mem_each (j := i) (t := f.type) (d := (xs[i]).1) (by simp [hi]) (by simp [hi2]) k hk
theorem take_one {cs : List Value} {o : Nat} (hl : o < cs.length) : (cs.drop o).take 1 = [cs.getD o undef] := by
  rw [List.drop_eq_getElem_cons hl, List.getD_eq_getElem?_getD, List.getElem?_eq_getElem hl]
  rfl
/-- Its lists are no longer than the address space. -/
structure TSm (T : Tab) : Prop where
  p : T.pts.length < 2 ^ 47
  r : T.rts.length < 2 ^ 47
  tr : ∀ i, i < T.rts.length → (T.rts.getD i rt0).tr.length < 2 ^ 47
  pt : ∀ i, i < T.rts.length → (T.rts.getD i rt0).pts.length < 2 ^ 47
  co : ∀ i, i < T.rts.length → (T.rts.getD i rt0).con.length < 2 ^ 47
theorem intBytes : 1 ≤ Tryz.prog.bytesOf 3 := of_decide_eq_true (by kernel_rfl)
theorem ptBytes : 1 ≤ Tryz.prog.bytesOf 57 := of_decide_eq_true (by kernel_rfl)
theorem rtBytes : 1 ≤ Tryz.prog.bytesOf 30 := of_decide_eq_true (by kernel_rfl)
theorem ints_sm {w : World} {cs : List Value} {o : Nat} {l : List Int} (hl : o < cs.length) (h : ReadsW w 22 ((cs.drop o).take (Tryz.prog.cellsOf 22))) (hi : IntsAt w (cs.getD o undef) l) : l.length < 2 ^ 47 := by
  obtain ⟨a, c, e, _⟩ := hi.at_
  rw [intsCells, take_one hl, e] at h
  exact readsW_len Tryz.underlying22 intBytes h
theorem pts_sm {w : World} {cs : List Value} {o : Nat} {l : List (Int × Bool)} (hl : o < cs.length) (h : ReadsW w 27 ((cs.drop o).take (Tryz.prog.cellsOf 27))) (hi : PtsAt w (cs.getD o undef) l) : l.length < 2 ^ 47 := by
  obtain ⟨a, c, e, _⟩ := hi.at_
  rw [ptsCells, take_one hl, e] at h
  exact readsW_len Tryz.underlying27 ptBytes h
theorem rt_sm {w : World} {cs : List Value} {r : Rt} (h : ReadsW w 30 cs) (hr : RtAt w (fun j => cs.getD j undef) r) : r.tr.length < 2 ^ 47 ∧ r.pts.length < 2 ^ 47 ∧ r.con.length < 2 ^ 47 := by
  obtain ⟨hl, hf⟩ := readsW_struct Tryz.underlying30 h
  rw [rtCells] at hl
  exact ⟨ints_sm (o := 1) (by omega) (hf 1 _ rfl) hr.tr, pts_sm (o := 2) (by omega) (hf 2 _ rfl) hr.pts, ints_sm (o := 4) (by omega) (hf 4 _ rfl) hr.con⟩
theorem RtAt.congrB {w : World} {C D : Nat → Value} {r : Rt} (h : RtAt w C r) (he : ∀ j, j < 6 → D j = C j) : RtAt w D r :=
  ⟨by rw [he 0 (by omega)]; exact h.sig, by rw [he 1 (by omega)]; exact h.tr, by rw [he 2 (by omega)]; exact h.pts, by rw [he 3 (by omega)]; exact h.app, by rw [he 4 (by omega)]; exact h.con, by rw [he 5 (by omega)]; exact h.hold, h.sigOk, h.appOk, h.holdOk⟩
theorem rts_sm {w : World} {v : Value} {l : List Rt} (h : ReadsW w 23 [v]) (hr : RtsAt w v l) : l.length < 2 ^ 47 ∧ ∀ i, i < l.length → (l.getD i rt0).tr.length < 2 ^ 47 ∧ (l.getD i rt0).pts.length < 2 ^ 47 ∧ (l.getD i rt0).con.length < 2 ^ 47 := by
  obtain ⟨a, c, C, rfl, hl, hm, hS, hR⟩ := hr.at_
  refine ⟨readsW_len Tryz.underlying23 rtBytes h, fun i hi => ?_⟩
  obtain ⟨x, cs, rfl, hcl, hc, hw⟩ := readsW_each Tryz.underlying23 rtCells h i hi
  refine rt_sm hw ((hR i hi).congrB fun j hj => ?_)
  rcases hS with h0 | ⟨b, off, hx, hlt, hcell⟩
  · omega
  · cases hx
    have h1 := hc j hj
    have h2 := hcell i hi j hj
    rw [Go.WideShapes.add_plain, Go.WideShapes.add_plain, h2] at h1
    rw [List.getD_eq_getElem?_getD, ← h1]; rfl
theorem tab_sm {w : World} {v : Value} {T : Tab} (h : ReadsW w 25 v.cells.toList) (hT : TabAt w v T) : TSm T := by
  obtain ⟨hl, hf⟩ := readsW_struct Tryz.underlying25 h
  rw [tabCells] at hl
  obtain ⟨vp, vr, rfl, hp, hr⟩ := hT.at_
  generalize hcs : (Value.agg #[.int .i64 T.tracks, vp, .int .i64 T.sigs, vr]).cells.toList = l at *
  have hcs2 : l = [.int .i64 T.tracks, vp, .int .i64 T.sigs, vr] := hcs.symm
  have e1 : l.getD 1 undef = vp := by rw [hcs2]; rfl
  have e3 : l.getD 3 undef = vr := by rw [hcs2]; rfl
  have hr3 : ReadsW w 23 [vr] := by
    have this : ReadsW w 23 ((l.drop 3).take (Tryz.prog.cellsOf 23)) := hf 3 _ rfl
    rw [rtsCells, take_one (by omega), e3] at this
    exact this
  have hrs := rts_sm hr3 hr
  exact ⟨ints_sm (o := 1) (by omega) (hf 1 _ rfl) (by rw [e1]; exact hp), hrs.1, fun i hi => (hrs.2 i hi).1, fun i hi => (hrs.2 i hi).2.1, fun i hi => (hrs.2 i hi).2.2⟩
end Go.Proofs.YtpodedhnlicckaaGreatDoor
