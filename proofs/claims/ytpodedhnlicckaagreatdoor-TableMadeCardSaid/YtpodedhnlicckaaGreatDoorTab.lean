/- Control tables: what lies in memory, what is read. -/
import Derived.Test.YtpodedhnlicckaaGreatDoorRow
import Derived.Laws.BytesArg
import Derived.WalkKit
namespace Go.Proofs.YtpodedhnlicckaaGreatDoor
open Go.RowKit
set_option linter.unusedVariables false
structure Rt where
  sig : Int
  tr : List Int
  pts : List (Int × Bool)
  app : Int
  con : List Int
  hold : Nat
structure Tab where
  tracks : Int
  pts : List Int
  sigs : Int
  rts : List Rt
def rt0 : Rt := ⟨0, [], [], 0, [], 0⟩
instance : Inhabited Rt := ⟨rt0⟩
def i64ok (x : Int) : Prop := -9223372036854775808 ≤ x ∧ x ≤ 9223372036854775807
/-- A list of numbers lies behind a slice. -/
structure IntsAt (w : World) (v : Value) (l : List Int) : Prop where
  at_ : ∃ a c, v = .slice a l.length c ∧ l.length ≤ c ∧ c ≤ maxLen ∧ SliceAt w a l.length (intV .i64 l)
  ok : ∀ i, i < l.length → i64ok (l.getD i 0)
def ptV (l : List (Int × Bool)) (i j : Nat) : Value := if j = 0 then .int .i64 (l.getD i (0, false)).1 else .bool (l.getD i (0, false)).2
structure PtsAt (w : World) (v : Value) (l : List (Int × Bool)) : Prop where
  at_ : ∃ a c, v = .slice a l.length c ∧ l.length ≤ c ∧ c ≤ maxLen ∧ SliceN w a l.length 2 (ptV l)
  ok : ∀ i, i < l.length → i64ok (l.getD i (0, false)).1
structure RtAt (w : World) (C : Nat → Value) (r : Rt) : Prop where
  sig : C 0 = .int .i64 r.sig
  tr : IntsAt w (C 1) r.tr
  pts : PtsAt w (C 2) r.pts
  app : C 3 = .int .i64 r.app
  con : IntsAt w (C 4) r.con
  hold : C 5 = .int .u16 (r.hold : Int)
  sigOk : i64ok r.sig
  appOk : i64ok r.app
  holdOk : r.hold < 65536
structure RtsAt (w : World) (v : Value) (l : List Rt) : Prop where
  at_ : ∃ a c C, v = .slice a l.length c ∧ l.length ≤ c ∧ c ≤ maxLen ∧ SliceN w a l.length 6 C ∧ ∀ i, i < l.length → RtAt w (C i) (l.getD i rt0)
structure TabAt (w : World) (v : Value) (T : Tab) : Prop where
  at_ : ∃ vp vr, v = .agg #[.int .i64 T.tracks, vp, .int .i64 T.sigs, vr] ∧ IntsAt w vp T.pts ∧ RtsAt w vr T.rts
  trOk : i64ok T.tracks
  sgOk : i64ok T.sigs
theorem IntsAt.below {w w' : World} {v : Value} {l : List Int} (h : IntsAt w v l) (hb : Below w.heap.size w w') : IntsAt w' v l := by
  obtain ⟨⟨a, c, h1, h2, h3, h4⟩, h5⟩ := h
  exact ⟨⟨a, c, h1, h2, h3, h4.below hb⟩, h5⟩
theorem PtsAt.below {w w' : World} {v : Value} {l : List (Int × Bool)} (h : PtsAt w v l) (hb : Below w.heap.size w w') : PtsAt w' v l := by
  obtain ⟨⟨a, c, h1, h2, h3, h4⟩, h5⟩ := h
  exact ⟨⟨a, c, h1, h2, h3, h4.below hb⟩, h5⟩
theorem RtAt.below {w w' : World} {C : Nat → Value} {r : Rt} (h : RtAt w C r) (hb : Below w.heap.size w w') : RtAt w' C r :=
  ⟨h.sig, h.tr.below hb, h.pts.below hb, h.app, h.con.below hb, h.hold, h.sigOk, h.appOk, h.holdOk⟩
theorem RtsAt.below {w w' : World} {v : Value} {l : List Rt} (h : RtsAt w v l) (hb : Below w.heap.size w w') : RtsAt w' v l := by
  obtain ⟨a, c, C, h1, h2, h3, h4, h5⟩ := h
  exact ⟨⟨a, c, C, h1, h2, h3, h4.below hb, fun i hi => (h5 i hi).below hb⟩⟩
theorem TabAt.below {w w' : World} {v : Value} {T : Tab} (h : TabAt w v T) (hb : Below w.heap.size w w') : TabAt w' v T := by
  obtain ⟨⟨vp, vr, h1, h2, h3⟩, h4, h5⟩ := h
  exact ⟨⟨vp, vr, h1, h2.below hb, h3.below hb⟩, h4, h5⟩
/-! ### reading -/
theorem reads_shape {w : World} {t e : TypeId} {cs : List Value} (ht : Tryz.prog.underlying t = some (.slice e)) (h : ReadsC w t cs) : ∃ a n c, cs = [.slice a n c] := by
  obtain ⟨H, enc, m, y, hf⟩ := h
  rcases Go.Deep.open_slice ht hf with ⟨hcs, _⟩ | ⟨x, l, c, m', n, D, Pl, hcs, _⟩
  · exact ⟨none, 0, 0, hcs⟩
  · exact ⟨_, _, _, hcs⟩
theorem intCells : Tryz.prog.cellsOf 3 = 1 := by kernel_rfl
theorem boolCells : Tryz.prog.cellsOf 4 = 1 := by kernel_rfl
theorem hw16Cells : Tryz.prog.cellsOf 28 = 1 := by kernel_rfl
theorem intsCells : Tryz.prog.cellsOf 22 = 1 := by kernel_rfl
theorem ptsCells : Tryz.prog.cellsOf 27 = 1 := by kernel_rfl
theorem ptCells : Tryz.prog.cellsOf 57 = 2 := by kernel_rfl
theorem rtCells : Tryz.prog.cellsOf 30 = 6 := by kernel_rfl
theorem rtsCells : Tryz.prog.cellsOf 23 = 1 := by kernel_rfl
theorem tabCells : Tryz.prog.cellsOf 25 = 4 := by kernel_rfl
theorem i64ok_of {x : Int} (h : (Lit.int .i64 x).wf = true) : i64ok x := by
  obtain ⟨h0, h1⟩ := bounds_i64 h
  exact ⟨h0, by omega⟩
theorem reads_i64 {w : World} {cs : List Value} {o : Nat} (h : ReadsC w 3 ((cs.drop o).take (Tryz.prog.cellsOf 3))) : ∃ n : Int, i64ok n ∧ cs.getD o undef = .int .i64 n := by
  rw [intCells] at h
  obtain ⟨n, hc, hw⟩ := reads_int1 Tryz.underlying3 h
  exact ⟨n, i64ok_of hw, one_take hc⟩
theorem reads_boolc {w : World} {cs : List Value} {o : Nat} (h : ReadsC w 4 ((cs.drop o).take (Tryz.prog.cellsOf 4))) : ∃ n : Bool, cs.getD o undef = .bool n := by
  rw [boolCells] at h
  obtain ⟨n, hc⟩ := reads_bool1 Tryz.underlying4 h
  exact ⟨n, one_take hc⟩
theorem reads_h16 {w : World} {cs : List Value} {o : Nat} (h : ReadsC w 28 ((cs.drop o).take (Tryz.prog.cellsOf 28))) : ∃ n : Nat, n < 65536 ∧ cs.getD o undef = .int .u16 (n : Int) := by
  rw [hw16Cells] at h
  obtain ⟨n, hc, hw⟩ := reads_int1 Tryz.underlying28 h
  obtain ⟨h0, h1⟩ := bounds_u16 hw
  obtain ⟨m, rfl⟩ := Int.eq_ofNat_of_zero_le h0
  exact ⟨m, by omega, one_take hc⟩
theorem reads_intl {w : World} {v : Value} (h : ReadsC w 22 [v]) : ∃ l, IntsAt w v l := by
  obtain ⟨a, n, c, e⟩ := reads_shape Tryz.underlying22 h
  cases e
  obtain ⟨l, hl, h1, h2, h3, h4⟩ := reads_ints Tryz.underlying22 Tryz.underlying3 intCells h
  subst hl
  exact ⟨l, ⟨a, c, rfl, h1, h2, h3⟩, fun i hi => i64ok_of (h4 i hi)⟩
theorem reads_pt {w : World} {cs : List Value} (h : ReadsC w 57 cs) : ∃ p : Int × Bool, i64ok p.1 ∧ cs.getD 0 undef = .int .i64 p.1 ∧ cs.getD 1 undef = .bool p.2 := by
  obtain ⟨hl, hf⟩ := reads_struct Tryz.underlying57 h
  obtain ⟨b, h0, e0⟩ := reads_i64 (hf 0 _ rfl)
  obtain ⟨r, e1⟩ := reads_boolc (hf 1 _ rfl)
  exact ⟨(b, r), h0, e0, e1⟩
theorem reads_ptl {w : World} {v : Value} (h : ReadsC w 27 [v]) : ∃ l, PtsAt w v l := by
  obtain ⟨a, n, c, e⟩ := reads_shape Tryz.underlying27 h
  cases e
  obtain ⟨hl, hm, C, hs, hr⟩ := reads_sliceN Tryz.underlying27 ptCells (by omega) h
  obtain ⟨D, hD⟩ := choose_nat (α := Int × Bool) (p := fun i p => i64ok p.1 ∧ (C i).getD 0 undef = .int .i64 p.1 ∧ (C i).getD 1 undef = .bool p.2) (fun i hi => reads_pt (hr i hi).2)
  obtain ⟨l, hll, hle⟩ := list_of n D (0, false)
  subst hll
  refine ⟨l, ⟨a, c, rfl, hl, hm, hs.congr fun i hi j hj => ?_⟩, fun i hi => by rw [hle i hi]; exact (hD i hi).1⟩
  unfold ptV
  rw [hle i hi]
  match j, hj with
  | 0, _ => exact (hD i hi).2.1
  | 1, _ => exact (hD i hi).2.2
theorem reads_intc {w : World} {cs : List Value} {o : Nat} (hl : o < cs.length) (h : ReadsC w 22 ((cs.drop o).take (Tryz.prog.cellsOf 22))) : ∃ l, IntsAt w (cs.getD o undef) l := by
  rw [intsCells] at h
  refine reads_intl ?_
  have : (cs.drop o).take 1 = [cs.getD o undef] := by
    rw [List.drop_eq_getElem_cons hl, List.getD_eq_getElem?_getD, List.getElem?_eq_getElem hl]
    rfl
  rw [← this]; exact h
theorem reads_ptc {w : World} {cs : List Value} {o : Nat} (hl : o < cs.length) (h : ReadsC w 27 ((cs.drop o).take (Tryz.prog.cellsOf 27))) : ∃ l, PtsAt w (cs.getD o undef) l := by
  rw [ptsCells] at h
  refine reads_ptl ?_
  have : (cs.drop o).take 1 = [cs.getD o undef] := by
    rw [List.drop_eq_getElem_cons hl, List.getD_eq_getElem?_getD, List.getElem?_eq_getElem hl]
    rfl
  rw [← this]; exact h
theorem reads_rt {w : World} {cs : List Value} (h : ReadsC w 30 cs) : ∃ r : Rt, RtAt w (fun j => cs.getD j undef) r := by
  obtain ⟨hl, hf⟩ := reads_struct Tryz.underlying30 h
  rw [rtCells] at hl
  obtain ⟨s, hs, e0⟩ := reads_i64 (hf 0 _ rfl)
  obtain ⟨t, e1⟩ := reads_intc (o := 1) (by omega) (hf 1 _ rfl)
  obtain ⟨p, e2⟩ := reads_ptc (o := 2) (by omega) (hf 2 _ rfl)
  obtain ⟨a, ha, e3⟩ := reads_i64 (hf 3 _ rfl)
  obtain ⟨c, e4⟩ := reads_intc (o := 4) (by omega) (hf 4 _ rfl)
  obtain ⟨x, hx, e5⟩ := reads_h16 (hf 5 _ rfl)
  exact ⟨⟨s, t, p, a, c, x⟩, e0, e1, e2, e3, e4, e5, hs, ha, hx⟩
theorem reads_rtl {w : World} {v : Value} (h : ReadsC w 23 [v]) : ∃ l, RtsAt w v l := by
  obtain ⟨a, n, c, e⟩ := reads_shape Tryz.underlying23 h
  cases e
  obtain ⟨hl, hm, C, hs, hr⟩ := reads_sliceN Tryz.underlying23 rtCells (by omega) h
  obtain ⟨D, hD⟩ := choose_nat (α := Rt) (p := fun i r => RtAt w (fun j => (C i).getD j undef) r) (fun i hi => reads_rt (hr i hi).2)
  obtain ⟨l, hll, hle⟩ := list_of n D rt0
  subst hll
  exact ⟨l, ⟨a, c, fun i j => (C i).getD j undef, rfl, hl, hm, hs, fun i hi => by rw [hle i hi]; exact hD i hi⟩⟩
set_option maxRecDepth 100000 in
theorem reads_tab {w : World} {v : Value} (h : ReadsC w 25 v.cells.toList ∧ Value.okWide Tryz.prog w .any 0 25 v) : ∃ T : Tab, TabAt w v T := by
  obtain ⟨cs, rfl, _⟩ := Go.WideShapes.okWide_struct Tryz.underlying25 h.2
  obtain ⟨hl, hf⟩ := reads_struct Tryz.underlying25 h.1
  rw [tabCells] at hl
  generalize hcs : (Value.agg cs).cells.toList = l at *
  have hcl : cs.toList = l := hcs
  obtain ⟨t, ht, e0⟩ := reads_i64 (hf 0 _ rfl)
  obtain ⟨p, e1⟩ := reads_intc (o := 1) (by omega) (hf 1 _ rfl)
  obtain ⟨s, hs, e2⟩ := reads_i64 (hf 2 _ rfl)
  have e3 : ∃ r, RtsAt w (l.getD 3 undef) r := by
    refine reads_rtl ?_
    have this : ReadsC w 23 ((l.drop 3).take (Tryz.prog.cellsOf 23)) := hf 3 _ rfl
    rw [rtsCells] at this
    have e : (l.drop 3).take 1 = [l.getD 3 undef] := by
      rw [List.drop_eq_getElem_cons (show 3 < l.length by omega), List.getD_eq_getElem?_getD, List.getElem?_eq_getElem (show 3 < l.length by omega)]
      rfl
    rw [← e]; exact this
  obtain ⟨r, e3⟩ := e3
  refine ⟨⟨t, p, s, r⟩, ⟨l.getD 1 undef, l.getD 3 undef, ?_, e1, e3⟩, ht, hs⟩
  congr 1
  apply Array.toList_inj.1
  rw [hcl]
  match l, hl with
  | [x0, x1, x2, x3], _ =>
    have g0 : x0 = _ := e0
    have g2 : x2 = _ := e2
    subst g0 g2
    rfl
end Go.Proofs.YtpodedhnlicckaaGreatDoor
