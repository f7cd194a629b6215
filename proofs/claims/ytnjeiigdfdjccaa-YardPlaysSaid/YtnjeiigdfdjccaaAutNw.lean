/- New. -/
import Derived.Test.YtnjeiigdfdjccaaAutN
import Derived.Deep.OwnRows
namespace Go.Proofs.Ytnjeiigdfdjccaa
open Go.RowKit
set_option linter.unusedVariables false
set_option linter.unusedSimpArgs false
theorem RtAt.congr {w : World} {C C' : Nat → Value} {r : Rt} (h : RtAt w C r) (he : ∀ f, f < 6 → C f = C' f) : RtAt w C' r :=
  ⟨by rw [← he 0 (by omega)]; exact h.sig, by rw [← he 1 (by omega)]; exact h.tr, by rw [← he 2 (by omega)]; exact h.pts, by rw [← he 3 (by omega)]; exact h.app, by rw [← he 4 (by omega)]; exact h.con, by rw [← he 5 (by omega)]; exact h.hold, h.sigOk, h.appOk, h.holdOk⟩
theorem RtOff.congr {C C' : Nat → Value} {ob : Nat} (h : RtOff C ob) (he : ∀ f, f < 6 → C f = C' f) : RtOff C' ob :=
  ⟨by rw [← he 1 (by omega)]; exact h.tr, by rw [← he 2 (by omega)]; exact h.pts, by rw [← he 4 (by omega)]; exact h.con⟩
theorem Only.setOb (w : World) (ob j : Nat) (x : Value) : Only (fun b => b = ob) w (w.setCell ⟨ob, j, none⟩ x) := (Only.refl _ w).set _ _ (.inr rfl)
theorem RtRow.set1 {w : World} {ob : Nat} {l : List Rt} {V : Nat → Value} (h : RtRow w ob l V) {j : Nat} (hj : j < l.length) {x : Value} (hx : IntsAt w x (l.getD j rt0).tr) (ho : Off x ob) : RtRow (w.setCell ⟨ob, j * 6 + 1, none⟩ x) ob l (fun q => if q = j * 6 + 1 then x else V q) := by
  have hs := Only.setOb w ob (j * 6 + 1) x
  refine ⟨h.row.set _, fun i hi => ?_, fun i hi => ?_⟩
  · by_cases e : i = j
    · subst e
      have h1 := (h.rt i hi).only' hs (h.off i hi)
      have q : ∀ f, f < 6 → f ≠ 1 → (if i * 6 + f = i * 6 + 1 then x else V (i * 6 + f)) = V (i * 6 + f) := fun f hf hk => if_neg (by omega)
      have qk : (if i * 6 + 1 = i * 6 + 1 then x else V (i * 6 + 1)) = x := if_pos rfl
      have hx' := hx.only' hs ho
      have HX : IntsAt (w.setCell ⟨ob, i * 6 + 1, none⟩ x) (if i * 6 + 1 = i * 6 + 1 then x else V (i * 6 + 1)) (l.getD i rt0).tr := by rw [qk]; exact hx'
      exact ⟨(q 0 (by omega) (by omega)).trans h1.sig, HX, by show PtsAt _ (if i * 6 + 2 = i * 6 + 1 then x else V (i * 6 + 2)) _; rw [q 2 (by omega) (by omega)]; exact h1.pts, (q 3 (by omega) (by omega)).trans h1.app, by show IntsAt _ (if i * 6 + 4 = i * 6 + 1 then x else V (i * 6 + 4)) _; rw [q 4 (by omega) (by omega)]; exact h1.con, (q 5 (by omega) (by omega)).trans h1.hold, h1.sigOk, h1.appOk, h1.holdOk⟩
    · exact ((h.rt i hi).only' hs (h.off i hi)).congr fun f hf => (if_neg (by omega)).symm
  · by_cases e : i = j
    · subst e
      have h1 := h.off i hi
      have q : ∀ f, f < 6 → f ≠ 1 → (if i * 6 + f = i * 6 + 1 then x else V (i * 6 + f)) = V (i * 6 + f) := fun f hf hk => if_neg (by omega)
      have HX : Off (if i * 6 + 1 = i * 6 + 1 then x else V (i * 6 + 1)) ob := by rw [if_pos rfl]; exact ho
      refine ⟨?_, ?_, ?_⟩
      · show Off (if i * 6 + 1 = i * 6 + 1 then x else V (i * 6 + 1)) ob; first | exact HX | (rw [q 1 (by omega) (by omega)]; exact h1.tr)
      · show Off (if i * 6 + 2 = i * 6 + 1 then x else V (i * 6 + 2)) ob; first | exact HX | (rw [q 2 (by omega) (by omega)]; exact h1.pts)
      · show Off (if i * 6 + 4 = i * 6 + 1 then x else V (i * 6 + 4)) ob; first | exact HX | (rw [q 4 (by omega) (by omega)]; exact h1.con)
    · exact (h.off i hi).congr fun f hf => (if_neg (by omega)).symm
theorem RtRow.set2 {w : World} {ob : Nat} {l : List Rt} {V : Nat → Value} (h : RtRow w ob l V) {j : Nat} (hj : j < l.length) {x : Value} (hx : PtsAt w x (l.getD j rt0).pts) (ho : Off x ob) : RtRow (w.setCell ⟨ob, j * 6 + 2, none⟩ x) ob l (fun q => if q = j * 6 + 2 then x else V q) := by
  have hs := Only.setOb w ob (j * 6 + 2) x
  refine ⟨h.row.set _, fun i hi => ?_, fun i hi => ?_⟩
  · by_cases e : i = j
    · subst e
      have h1 := (h.rt i hi).only' hs (h.off i hi)
      have q : ∀ f, f < 6 → f ≠ 2 → (if i * 6 + f = i * 6 + 2 then x else V (i * 6 + f)) = V (i * 6 + f) := fun f hf hk => if_neg (by omega)
      have qk : (if i * 6 + 2 = i * 6 + 2 then x else V (i * 6 + 2)) = x := if_pos rfl
      have hx' := hx.only' hs ho
      have HX : PtsAt (w.setCell ⟨ob, i * 6 + 2, none⟩ x) (if i * 6 + 2 = i * 6 + 2 then x else V (i * 6 + 2)) (l.getD i rt0).pts := by rw [qk]; exact hx'
      exact ⟨(q 0 (by omega) (by omega)).trans h1.sig, by show IntsAt _ (if i * 6 + 1 = i * 6 + 2 then x else V (i * 6 + 1)) _; rw [q 1 (by omega) (by omega)]; exact h1.tr, HX, (q 3 (by omega) (by omega)).trans h1.app, by show IntsAt _ (if i * 6 + 4 = i * 6 + 2 then x else V (i * 6 + 4)) _; rw [q 4 (by omega) (by omega)]; exact h1.con, (q 5 (by omega) (by omega)).trans h1.hold, h1.sigOk, h1.appOk, h1.holdOk⟩
    · exact ((h.rt i hi).only' hs (h.off i hi)).congr fun f hf => (if_neg (by omega)).symm
  · by_cases e : i = j
    · subst e
      have h1 := h.off i hi
      have q : ∀ f, f < 6 → f ≠ 2 → (if i * 6 + f = i * 6 + 2 then x else V (i * 6 + f)) = V (i * 6 + f) := fun f hf hk => if_neg (by omega)
      have HX : Off (if i * 6 + 2 = i * 6 + 2 then x else V (i * 6 + 2)) ob := by rw [if_pos rfl]; exact ho
      refine ⟨?_, ?_, ?_⟩
      · show Off (if i * 6 + 1 = i * 6 + 2 then x else V (i * 6 + 1)) ob; first | exact HX | (rw [q 1 (by omega) (by omega)]; exact h1.tr)
      · show Off (if i * 6 + 2 = i * 6 + 2 then x else V (i * 6 + 2)) ob; first | exact HX | (rw [q 2 (by omega) (by omega)]; exact h1.pts)
      · show Off (if i * 6 + 4 = i * 6 + 2 then x else V (i * 6 + 4)) ob; first | exact HX | (rw [q 4 (by omega) (by omega)]; exact h1.con)
    · exact (h.off i hi).congr fun f hf => (if_neg (by omega)).symm
theorem RtRow.set4 {w : World} {ob : Nat} {l : List Rt} {V : Nat → Value} (h : RtRow w ob l V) {j : Nat} (hj : j < l.length) {x : Value} (hx : IntsAt w x (l.getD j rt0).con) (ho : Off x ob) : RtRow (w.setCell ⟨ob, j * 6 + 4, none⟩ x) ob l (fun q => if q = j * 6 + 4 then x else V q) := by
  have hs := Only.setOb w ob (j * 6 + 4) x
  refine ⟨h.row.set _, fun i hi => ?_, fun i hi => ?_⟩
  · by_cases e : i = j
    · subst e
      have h1 := (h.rt i hi).only' hs (h.off i hi)
      have q : ∀ f, f < 6 → f ≠ 4 → (if i * 6 + f = i * 6 + 4 then x else V (i * 6 + f)) = V (i * 6 + f) := fun f hf hk => if_neg (by omega)
      have qk : (if i * 6 + 4 = i * 6 + 4 then x else V (i * 6 + 4)) = x := if_pos rfl
      have hx' := hx.only' hs ho
      have HX : IntsAt (w.setCell ⟨ob, i * 6 + 4, none⟩ x) (if i * 6 + 4 = i * 6 + 4 then x else V (i * 6 + 4)) (l.getD i rt0).con := by rw [qk]; exact hx'
      exact ⟨(q 0 (by omega) (by omega)).trans h1.sig, by show IntsAt _ (if i * 6 + 1 = i * 6 + 4 then x else V (i * 6 + 1)) _; rw [q 1 (by omega) (by omega)]; exact h1.tr, by show PtsAt _ (if i * 6 + 2 = i * 6 + 4 then x else V (i * 6 + 2)) _; rw [q 2 (by omega) (by omega)]; exact h1.pts, (q 3 (by omega) (by omega)).trans h1.app, HX, (q 5 (by omega) (by omega)).trans h1.hold, h1.sigOk, h1.appOk, h1.holdOk⟩
    · exact ((h.rt i hi).only' hs (h.off i hi)).congr fun f hf => (if_neg (by omega)).symm
  · by_cases e : i = j
    · subst e
      have h1 := h.off i hi
      have q : ∀ f, f < 6 → f ≠ 4 → (if i * 6 + f = i * 6 + 4 then x else V (i * 6 + f)) = V (i * 6 + f) := fun f hf hk => if_neg (by omega)
      have HX : Off (if i * 6 + 4 = i * 6 + 4 then x else V (i * 6 + 4)) ob := by rw [if_pos rfl]; exact ho
      refine ⟨?_, ?_, ?_⟩
      · show Off (if i * 6 + 1 = i * 6 + 4 then x else V (i * 6 + 1)) ob; first | exact HX | (rw [q 1 (by omega) (by omega)]; exact h1.tr)
      · show Off (if i * 6 + 2 = i * 6 + 4 then x else V (i * 6 + 2)) ob; first | exact HX | (rw [q 2 (by omega) (by omega)]; exact h1.pts)
      · show Off (if i * 6 + 4 = i * 6 + 4 then x else V (i * 6 + 4)) ob; first | exact HX | (rw [q 4 (by omega) (by omega)]; exact h1.con)
    · exact (h.off i hi).congr fun f hf => (if_neg (by omega)).symm
theorem Below.alloc' {a w : World} (h : Below a.heap.size a w) (o : Obj) : Below a.heap.size a (w.alloc o) := h.alloc h.size o
/-- The routes behind a slice lie, with all that they hold, in blocks that are new. -/
def FrR (n : Nat) (w : World) (v : Value) (l : List Rt) : Prop := ∃ ob c C, v = .slice (some ⟨ob, 0, none⟩) l.length c ∧ n ≤ ob ∧ l.length ≤ c ∧ c ≤ maxLen ∧ SliceN w (some ⟨ob, 0, none⟩) l.length 6 C ∧ ∀ i, i < l.length → RtAt w (C i) (l.getD i rt0) ∧ ∀ b, b < n → RtOff (C i) b
def TFr (n : Nat) (u : Au) : Prop := (∀ b, b < n → Off u.vp b) ∧ FrR n u.w0 u.vr u.T.rts
theorem RtRow.fr {w : World} {ob : Nat} {l : List Rt} {V : Nat → Value} (h : RtRow w ob l V) {c n : Nat} (hc : l.length ≤ c) (hm : c ≤ maxLen) (hn : n ≤ ob) (hf : ∀ j, j < l.length → ∀ b, b < n → RtOff (fun f => V (j * 6 + f)) b) : FrR n w (.slice (some ⟨ob, 0, none⟩) l.length c) l :=
  ⟨ob, c, fun i j => V (i * 6 + j), rfl, hn, hc, hm, .inr ⟨ob, 0, rfl, h.row.lt, fun i hi j hj => by rw [Nat.zero_add]; exact h.row.cell (by omega)⟩, fun i hi => ⟨h.rt i hi, hf i hi⟩⟩
theorem fr_step {V : Nat → Value} {x1 x2 x4 : Value} {n m : Nat} (h : ∀ j, j < n → ∀ b, b < m → RtOff (fun f => V (j * 6 + f)) b) (h1 : ∀ b, b < m → Off x1 b) (h2 : ∀ b, b < m → Off x2 b) (h4 : ∀ b, b < m → Off x4 b) :
    ∀ j, j < n + 1 → ∀ b, b < m → RtOff (fun f => (fun q => if q = n * 6 + 4 then x4 else (fun q => if q = n * 6 + 2 then x2 else (fun q => if q = n * 6 + 1 then x1 else V q) q) q) (j * 6 + f)) b := by
  intro j hj b hb
  by_cases e : j = n
  · subst e
    refine ⟨?_, ?_, ?_⟩
    · show Off (if j * 6 + 1 = j * 6 + 4 then x4 else if j * 6 + 1 = j * 6 + 2 then x2 else if j * 6 + 1 = j * 6 + 1 then x1 else V (j * 6 + 1)) b
      rw [if_neg (by omega), if_neg (by omega), if_pos rfl]; exact h1 b hb
    · show Off (if j * 6 + 2 = j * 6 + 4 then x4 else if j * 6 + 2 = j * 6 + 2 then x2 else if j * 6 + 2 = j * 6 + 1 then x1 else V (j * 6 + 2)) b
      rw [if_neg (by omega), if_pos rfl]; exact h2 b hb
    · show Off (if j * 6 + 4 = j * 6 + 4 then x4 else if j * 6 + 4 = j * 6 + 2 then x2 else if j * 6 + 4 = j * 6 + 1 then x1 else V (j * 6 + 4)) b
      rw [if_pos rfl]; exact h4 b hb
  · exact (h j (by omega) b hb).congr fun f hf => by
      show V (j * 6 + f) = if j * 6 + f = n * 6 + 4 then x4 else if j * 6 + f = n * 6 + 2 then x2 else if j * 6 + f = n * 6 + 1 then x1 else V (j * 6 + f)
      rw [if_neg (by omega), if_neg (by omega), if_neg (by omega)]
def NewP (T : Tab) (w : World) (e : Ending) (w' : World) : Prop :=
  Below w.heap.size w w' ∧ if checkE T = 0 then ∃ u, e = .returned (.tuple #[.pointer (some ⟨u.g, 0, none⟩), .int .i64 0]) ∧ AutoAt w' u as0 ∧ u.T = T ∧ w.heap.size ≤ u.w0.heap.size ∧ TFr w.heap.size u
  else e = .returned (.tuple #[.pointer none, .int .i64 (checkE T)])
theorem info_ar : (Try.prog.info? 43).map (fun i => (i.zero, i.size, i.bytes)) = some (some (.agg #[.int .u8 0, .int .u16 0, .int .u32 0, .int .u32 0]), 4, 12) := by kernel_rfl
theorem make_ar (n : Nat) (hn : n ≤ 1000) (w : World) : (Instr.makeSlice 111 (.int .i64 (n : Int)) (.int .i64 (n : Int))).run Try.prog w = .ok (.slice (some ⟨w.heap.size, 0, none⟩) n n) (w.alloc (.cells (madeCells #[.int .u8 0, .int .u16 0, .int .u32 0, .int .u32 0] (n * 4)) 43)) := by
  obtain ⟨i0, hi, hz0, hz1, hz2⟩ := tb_info info_ar
  have := run_make (P := Try.prog) w 111 43 i0 _ Try.underlying111 hi hz0 .i64 .i64 n n (by omega) (Int.le_refl _) (by rw [hz2]; omega) (by omega)
  rw [Int.toNat_natCast, hz1] at this
  exact this
theorem made_ar_cells (n i : Nat) (hi : i < n * 4) : (madeCells #[Value.int .u8 0, .int .u16 0, .int .u32 0, .int .u32 0] (n * 4))[i]? = some (rsV as0.R i) := by
  unfold madeCells
  rw [Array.getElem?_map, Array.getElem?_range, if_pos hi]
  show some _ = some (rcV rs0 (i % 4))
  congr 1
  have h4 : i % 4 < 4 := Nat.mod_lt _ (by omega)
  show (#[Value.int .u8 0, .int .u16 0, .int .u32 0, .int .u32 0] : Array Value)[i % 4]! = _
  match i % 4, h4 with
  | 0, _ => rfl
  | 1, _ => rfl
  | 2, _ => rfl
  | 3, _ => rfl
theorem new_end (w7 W : World) (T : Tab) (vp vr : Value) (rb pb g : Nat) (hB : Below w7.heap.size w7 W)
    (h1 : W.heap[rb]? = some (.cells (madeCells #[.int .u8 0, .int .u16 0, .int .u32 0, .int .u32 0] (T.rts.length * 4)) 43 (0, 0))) (h2 : W.heap[pb]? = some (.cells (madeCells #[.int .u8 0] T.pts.length) 5 (0, 0)))
    (h3 : W.heap[g]? = some (.cells #[.int .i64 T.tracks, vp, .int .i64 T.sigs, vr, .slice (some ⟨rb, 0, none⟩) T.rts.length T.rts.length, .slice (some ⟨pb, 0, none⟩) T.pts.length T.pts.length] 113 (0, 0)))
    (hp : IntsAt w7 vp T.pts) (hr : RtsAt w7 vr T.rts) (hn : T.rts.length ≤ 1000) (hm : T.pts.length ≤ 1000) (e1 : w7.heap.size ≤ rb) (e2 : w7.heap.size ≤ pb) (e3 : w7.heap.size ≤ g) (e4 : g ≠ rb) (e5 : g ≠ pb) (e6 : rb ≠ pb) :
    AutoAt W ⟨w7, g, rb, pb, vp, vr, .slice (some ⟨rb, 0, none⟩) T.rts.length T.rts.length, .slice (some ⟨pb, 0, none⟩) T.pts.length T.pts.length, T⟩ as0 := by
  refine ⟨h3, hp, hr, hB, ⟨_, rfl, Nat.le_refl _, by unfold maxLen; show T.rts.length ≤ _; omega, ?_⟩, ?_, e3, e1, e2, e4, e5, e6, heap_lt h2⟩
  · exact ⟨_, h1, by rw [size_madeCells]; exact Nat.le_refl _, fun i hi => made_ar_cells _ i hi⟩
  · refine ⟨_, _, rfl, Nat.le_refl _, by unfold maxLen; show T.pts.length ≤ _; omega, fun _ => ⟨rfl, _, h2, by rw [size_madeCells]; exact Nat.le_refl _, fun i hi => ?_⟩⟩
    rw [← Array.getElem?_toList, toList_madeCells_one]
    have hi' : i < T.pts.length := hi
    simp [hi']
    rfl
set_option maxRecDepth 100000 in
set_option maxHeartbeats 8000000 in
theorem new_any (v : Value) (T : Tab) (w : World) (hT : TabAt w v T) (hbig : ∀ r ∈ T.rts, r.pts.length ≤ 1000000) (hTK : checkE T = 0 → TOk T ∧ 0 < T.rts.length) :
    Calls Try.prog 24 #[v] w (NewP T w) := by
  have hT0 := hT
  obtain ⟨⟨vp, vr, rfl, hP, hr⟩, _, _⟩ := hT
  obtain ⟨a, c, C0, rfl, hlc, hcm, _⟩ := hr.at_
  obtain ⟨⟨va, vc, rfl, hvl, hvm, _⟩, _⟩ := id hP
  have HT := Lib.hid hT0; have HP := Lib.hid hP; have HR := Lib.hid hr
  obtain ⟨w1, hw1⟩ : ∃ w1, w1 = w.alloc (.cells #[.int .i64 T.tracks, .slice va T.pts.length vc, .int .i64 T.sigs, .slice a T.rts.length c] 25) := ⟨_, rfl⟩
  have B1 : Hid (Below w.heap.size w w1) := by rw [hw1]; exact tb_alloc_below _ _
  have K1 : Hid (w1.heap[w.heap.size]? = some (.cells #[.int .i64 T.tracks, .slice va T.pts.length vc, .int .i64 T.sigs, .slice a T.rts.length c] 25 (0, 0))) := by rw [hw1]; exact heap_alloc_new _ _
  have HW1 := Lib.hid hw1
  have HCK := Lib.hid (check_any _ T w1 (hT0.below B1.out) hbig)
  obtain ⟨E, hE⟩ : ∃ E, E = checkE T := ⟨_, rfl⟩
  rw [← hE] at HCK hTK
  have HE := Lib.hid hE; have HTK := Lib.hid hTK
  have HNP : Hid (∀ e w', NewP T w e w' = (Below w.heap.size w w' ∧ if E = 0 then ∃ u, e = .returned (.tuple #[.pointer (some ⟨u.g, 0, none⟩), .int .i64 0]) ∧ AutoAt w' u as0 ∧ u.T = T ∧ w.heap.size ≤ u.w0.heap.size ∧ TFr w.heap.size u else e = .returned (.tuple #[.pointer none, .int .i64 E]))) := fun e w' => by rw [hE]; rfl
  have HBG := Lib.hid hbig
  clear hw1 hT0 hP hr hE hTK hbig
  unfold maxLen at hvm hcm
  have c0 := cell_row (j := 0) K1.out rfl
  have c1 := cell_row (j := 1) K1.out rfl
  have c2 := cell_row (j := 2) K1.out rfl
  have c3 := cell_row (j := 3) K1.out rfl
  have l1 := heap_lt K1.out
  by_cases hE0 : E = 0
  · have HNP2 : Hid (∀ u w', Below w.heap.size w w' → AutoAt w' u as0 → u.T = T → w.heap.size ≤ u.w0.heap.size → TFr w.heap.size u → NewP T w (.returned (.tuple #[.pointer (some ⟨u.g, 0, none⟩), .int .i64 0])) w') := fun u w' h1 h2 h3 h4 h5 => by rw [HNP.out, if_pos hE0]; exact ⟨h1, u, rfl, h2, h3, h4, h5⟩
    subst hE0
    clear HNP
    obtain ⟨hTOK, hN1⟩ := HTK.out rfl
    have HTOK := Lib.hid hTOK; have HN1 := Lib.hid hN1
    have hN16 := hTOK.n; have hP12 := hTOK.p
    clear hTOK
    go_enter Try.func24, Try.ntmps24
    go_upto_region 1 with fail
    rw [← HW1.out]
    go_wp2_with fail
    refine HCK.out.mono ?_
    rintro e w2 ⟨rfl, hb2⟩
    have B12 := Lib.hid hb2
    have B2 : Hid (Below w.heap.size w w2) := B1.out.trans (hb2.mono B1.out.size)
    have K2 := Lib.hid (tb_kept K1.out hb2)
    clear hb2 c0 c1 c2 c3 l1
    have c0 := cell_row (j := 0) K2.out rfl
    have c1 := cell_row (j := 1) K2.out rfl
    have c2 := cell_row (j := 2) K2.out rfl
    have c3 := cell_row (j := 3) K2.out rfl
    have l1 := heap_lt K2.out
    go_upto_region 5 with fail
    obtain ⟨w3, hw3⟩ : ∃ w3, w3 = w2.alloc (.cells #[.int .i64 T.tracks, .slice va T.pts.length vc, .int .i64 T.sigs, .slice a T.rts.length c] 25) := ⟨_, rfl⟩
    rw [← hw3]
    have B23 : Hid (Below w2.heap.size w2 w3) := by rw [hw3]; exact tb_alloc_below _ _
    have B3 : Hid (Below w.heap.size w w3) := B2.out.trans (B23.out.mono B2.out.size)
    have K3 : Hid (w3.heap[w2.heap.size]? = some (.cells #[.int .i64 T.tracks, .slice va T.pts.length vc, .int .i64 T.sigs, .slice a T.rts.length c] 25 (0, 0))) := by rw [hw3]; exact heap_alloc_new _ _
    have KT3 := Lib.hid (tb_kept K2.out B23.out)
    have HTS : Hid (w.heap.size < w2.heap.size) := heap_lt K2.out
    clear hw3 c0 c1 c2 c3 l1
    obtain ⟨sb, hsb⟩ : ∃ s, s = w2.heap.size := ⟨_, rfl⟩
    rw [← hsb] at K3 HTS ⊢
    clear hsb
    have HSV : Hid (∀ W, Only (fun b => b = sb) w3 W → (W.cell? ⟨w.heap.size, 1, none⟩ = some (.slice va T.pts.length vc) ∧ W.cell? ⟨w.heap.size, 3, none⟩ = some (.slice a T.rts.length c)) ∧ sb < W.heap.size) := fun W hW => by
      have hk := (hW.block _ (heap_lt KT3.out) (by have := HTS.out; omega)).trans KT3.out
      exact ⟨⟨cell_row hk rfl, cell_row hk rfl⟩, Nat.lt_of_lt_of_le (heap_lt K3.out) hW.size⟩
    have BD : Hid (Below w3.heap.size w3 w3.drew) := (Below.refl _ _).drew
    go_region_held3 (fun W => (W.cell? ⟨w.heap.size, 1, none⟩ = some (.slice va T.pts.length vc) ∧ W.cell? ⟨w.heap.size, 3, none⟩ = some (.slice a T.rts.length c)) ∧ sb < W.heap.size)
      (first | exact HSV.out _ ((O35.out.set _ _ (.inr rfl)).set _ _ (.inr rfl)) | exact HSV.out _ (O35.out.set _ _ (.inr rfl)) | exact HSV.out _ O35.out | exact HSV.out _ (Only.of_below _ B34.out) | exact HSV.out _ (Only.of_below _ BD.out))
      (first
        | (have _tok := B34; go_at_call 43; (with_reducible refine (clone_rts (.slice a T.rts.length c) T.rts w w4 HR.out (B3.out.trans (B34.out.mono B3.out.size)) (by omega) HN1.out).mono ?_); rintro e w5 ⟨ob, c5, V5, rfl, h51, h52, h53, h54, h56, h55⟩; have OX5 := Lib.hid h56; have B35 : Hid (Below w3.heap.size w3 w5) := B34.out.trans (h55.mono B34.out.size); have O35 : Hid (Only (fun b => b = sb) w3 w5) := Only.of_below _ B35.out; have R5 := Lib.hid h54; have Q5 := Lib.hid h51; have Q52 := Lib.hid h52; have OB5 := Lib.hid h53; have B45 := Lib.hid h55; have x1 := cell_row (j := 1) (tb_kept K3.out B35.out) rfl; have x3 := cell_row (j := 3) (tb_kept K3.out B35.out) rfl; have y1 : w5.frozen? ⟨sb, 1, none⟩ = false := frozen_of_row _ _ _ _ _ (tb_kept K3.out B35.out); have y3 : w5.frozen? ⟨sb, 3, none⟩ = false := frozen_of_row _ _ _ _ _ (tb_kept K3.out B35.out); clear h51 h52 h53 h54 h55 h56)
        | (go_at_call 42; (with_reducible refine (clone_ints (.slice va T.pts.length vc) T.pts w3.drew ((HP.out.below B3.out).below BD.out) (by omega)).mono ?_); rintro e w4 ⟨a4, c4, rfl, h41, h42, h43⟩; have B34 : Hid (Below w3.heap.size w3 w4) := BD.out.trans h43; have I4 := Lib.hid h41; have I4O := Lib.hid h42; clear h41 h42 h43))
    rename_i hheld
    clear hheld
    -- the own table
    obtain ⟨w6, hw6⟩ : ∃ w6, w6 = (w5.setCell ⟨sb, 1, none⟩ (.slice a4 T.pts.length c4)).setCell ⟨sb, 3, none⟩ (.slice (some ⟨ob, 0, none⟩) T.rts.length c5) := ⟨_, rfl⟩
    rw [← hw6]
    have O56 : Only (fun b => b = sb) w5 w6 := by rw [hw6]; exact ((Only.refl (fun b => b = sb) w5).set _ _ (.inr rfl)).set _ _ (.inr rfl)
    have K5 := tb_kept K3.out B35.out
    have K6 : Hid (w6.heap[sb]? = some (.cells #[.int .i64 T.tracks, .slice a4 T.pts.length c4, .int .i64 T.sigs, .slice (some ⟨ob, 0, none⟩) T.rts.length c5] 25 (0, 0))) := by
      rw [hw6]; exact heap_setCell_same _ _ _ _ _ _ (heap_setCell_same _ _ _ _ _ _ K5)
    have KT6 : Hid (w6.heap[w.heap.size]? = some (.cells #[.int .i64 T.tracks, .slice va T.pts.length vc, .int .i64 T.sigs, .slice a T.rts.length c] 25 (0, 0))) :=
      (O56.block _ (heap_lt (tb_kept KT3.out B35.out)) (by have := HTS.out; omega)).trans (tb_kept KT3.out B35.out)
    have HSO : Hid (sb < ob ∧ sb < w4.heap.size) := by have := heap_lt (tb_kept K3.out B34.out); have := OB5.out; exact ⟨by omega, this |> fun _ => by omega⟩
    have R6 : Hid (RtRow w6 ob T.rts V5) := by
      have h5 := R5.out
      refine ⟨h5.row.same (O56.block _ h5.row.lt (by have := HSO.out.1; omega)), fun j hj => (h5.rt j hj).only' O56 ?_, h5.off⟩
      exact OX5.out j hj sb (by have := HTS.out; omega)
    have I6 : Hid (IntsAt w6 (.slice a4 T.pts.length c4) T.pts) := (I4.out.below B45.out).only' O56 (I4O.out sb (by have := heap_lt K3.out; exact this))
    have A4O : Hid (Off (.slice a4 T.pts.length c4) ob) := fun b o k c e hk => by have := I4.out; obtain ⟨⟨a', c', e', _, _, h3⟩, _⟩ := this; rw [e'] at e; cases e; obtain ⟨b', o', e, hlt, _⟩ := h3.at hk; cases e; have := OB5.out; omega
    have B6 : Hid (Below w.heap.size w w6) := (B3.out.trans (B35.out.mono B3.out.size)).trans (O56.below (by have := B3.out.size; have := B35.out.size; omega) (fun i hi e => by have := HTS.out; omega))
    have FO4 : Hid (∀ b, b < w.heap.size → Off (.slice a4 T.pts.length c4) b) := fun b hb => I4O.out b (Nat.lt_of_lt_of_le hb B3.out.size)
    clear hw6 O56 K5 x1 x3 y1 y3
    have HOW : Hid (w.heap.size < ob) := by have := HTS.out; have := HSO.out.1; show _ < _; omega
    have HSOB : Hid (sb ≠ ob ∧ w.heap.size ≠ ob) := ⟨by have := HSO.out.1; omega, by have := HOW.out; omega⟩
    have c53 := cell_row (j := 3) K6.out rfl
    have lsb := heap_lt K6.out
    have Q5c := Q5.out; have Q52c := Q52.out
    unfold maxLen at Q52c
    clear R5 I4 I4O O35 B34 B35 B45 OB5 OX5 KT3 K3 K2 K1 BD HSV HSO B23
    go_wp2_with fail
    clear c53 lsb
    go_loopw [25] (fun i wr => ∃ (n : Nat) (V : Nat → Value), n ≤ T.rts.length ∧ i = .int .i64 n ∧ Below w.heap.size w wr ∧ wr.heap[sb]? = some (.cells #[.int .i64 T.tracks, .slice a4 T.pts.length c4, .int .i64 T.sigs, .slice (some ⟨ob, 0, none⟩) T.rts.length c5] 25 (0, 0)) ∧ wr.heap[w.heap.size]? = some (.cells #[.int .i64 T.tracks, .slice va T.pts.length vc, .int .i64 T.sigs, .slice a T.rts.length c] 25 (0, 0)) ∧ RtRow wr ob T.rts V ∧ IntsAt wr (.slice a4 T.pts.length c4) T.pts ∧ Off (.slice a4 T.pts.length c4) ob ∧ ∀ j, j < n → ∀ b, b < w.heap.size → RtOff (fun f => V (j * 6 + f)) b) (fun i _ => T.rts.length - (intOf i).toNat)
    case atStart => exact ⟨0, V5, Nat.zero_le _, rfl, B6.out, K6.out, KT6.out, R6.out, I6.out, A4O.out, fun j hj => absurd hj (Nat.not_lt_zero _)⟩
    case round =>
      clear B6 K6 KT6 R6 I6
      obtain ⟨n, V, hn, rfl, hb, hk, hkt, hrow, hint, hoff, hfr⟩ := hrel
      have B7 := Lib.hid hb; have K7 := Lib.hid hk; have KT7 := Lib.hid hkt; have R7 := Lib.hid hrow; have I7 := Lib.hid hint; have F7 := Lib.hid hoff; have FR7 := Lib.hid hfr
      clear hb hk hkt hrow hint hoff hfr
      obtain ⟨w7, rfl⟩ : ∃ w7 : World, w7 = wr := ⟨_, rfl⟩
      by_cases hlt : n < T.rts.length
      · have hR := R7.out.rt n hlt
        obtain ⟨r, hrr⟩ : ∃ r, r = T.rts.getD n rt0 := ⟨_, rfl⟩
        rw [← hrr] at hR
        have HRR := Lib.hid hrr
        have hsm : r.pts.length ≤ 1000000 := HBG.out r (by rw [hrr, List.getD_eq_getElem?_getD, List.getElem?_eq_getElem hlt]; exact List.getElem_mem hlt)
        have htl24 := (HTOK.out.tl n hlt).2
        have hcl16 := HTOK.out.cl n hlt
        rw [← hrr] at htl24 hcl16
        obtain ⟨⟨ta, tc, ht, _⟩, _⟩ := hR.tr
        obtain ⟨⟨pa, pc, hp, _⟩, _⟩ := hR.pts
        obtain ⟨⟨ca, cc, hcn, _⟩, _⟩ := hR.con
        have x0 : w7.cell? ⟨ob, n * 6, none⟩ = some (.int .i64 r.sig) := by rw [← hR.sig]; exact R7.out.row.cell (by omega)
        have x1 : w7.cell? ⟨ob, n * 6 + 1, none⟩ = some (.slice ta r.tr.length tc) := by rw [← ht]; exact R7.out.row.cell (by omega)
        have x2 : w7.cell? ⟨ob, n * 6 + 2, none⟩ = some (.slice pa r.pts.length pc) := by rw [← hp]; exact R7.out.row.cell (by omega)
        have x3 : w7.cell? ⟨ob, n * 6 + 3, none⟩ = some (.int .i64 r.app) := by rw [← hR.app]; exact R7.out.row.cell (by omega)
        have x4 : w7.cell? ⟨ob, n * 6 + 4, none⟩ = some (.slice ca r.con.length cc) := by rw [← hcn]; exact R7.out.row.cell (by omega)
        have x5 : w7.cell? ⟨ob, n * 6 + 5, none⟩ = some (.int .u16 (r.hold : Int)) := by rw [← hR.hold]; exact R7.out.row.cell (by omega)
        have lob := R7.out.row.lt
        have HTR := Lib.hid (ht ▸ hR.tr : IntsAt w7 (.slice ta r.tr.length tc) r.tr); have HPT := Lib.hid (hp ▸ hR.pts : PtsAt w7 (.slice pa r.pts.length pc) r.pts); have HCO := Lib.hid (hcn ▸ hR.con : IntsAt w7 (.slice ca r.con.length cc) r.con)
        obtain ⟨w8, hw8⟩ : ∃ w8, w8 = w7.alloc (.cells #[.int .i64 r.sig, .slice ta r.tr.length tc, .slice pa r.pts.length pc, .int .i64 r.app, .slice ca r.con.length cc, .int .u16 (r.hold : Int)] 41) := ⟨_, rfl⟩
        have B78 : Hid (Below w7.heap.size w7 w8) := by rw [hw8]; exact tb_alloc_below _ _
        have K8 : Hid (w8.heap[w7.heap.size]? = some (.cells #[.int .i64 r.sig, .slice ta r.tr.length tc, .slice pa r.pts.length pc, .int .i64 r.app, .slice ca r.con.length cc, .int .u16 (r.hold : Int)] 41 (0, 0))) := by rw [hw8]; exact heap_alloc_new _ _
        have HW8 := Lib.hid hw8
        clear hw8 hR ht hp hcn hrr
        have i0 : (0 : Int) ≤ (n : Int) := by omega
        have i1 : (n : Int) < (T.rts.length : Int) := by omega
        go_upto_region 9 with fail
        rw [← HW8.out]
        clear x0 x1 x2 x3 x4 x5 lob
        obtain ⟨kb, hkb⟩ : ∃ s, s = w7.heap.size := ⟨_, rfl⟩
        have HKB : Hid (kb ≠ ob) := by have := R7.out.row.lt; show kb ≠ ob; omega
        rw [← hkb] at K8 ⊢
        clear hkb
        have KS8 := Lib.hid (tb_kept K7.out B78.out)
        have HSV : Hid (∀ W, Only (fun b => b = ob) w8 W → (W.cell? ⟨sb, 3, none⟩ = some (.slice (some ⟨ob, 0, none⟩) T.rts.length c5) ∧ W.cell? ⟨kb, 1, none⟩ = some (.slice ta r.tr.length tc) ∧ W.cell? ⟨kb, 2, none⟩ = some (.slice pa r.pts.length pc) ∧ W.cell? ⟨kb, 4, none⟩ = some (.slice ca r.con.length cc)) ∧ ob < W.heap.size) := fun W hW => by
          have h1 := (hW.block _ (heap_lt KS8.out) HSOB.out.1).trans KS8.out
          have h2 := (hW.block _ (heap_lt K8.out) HKB.out).trans K8.out
          exact ⟨⟨cell_row h1 rfl, cell_row h2 rfl, cell_row h2 rfl, cell_row h2 rfl⟩, Nat.lt_of_lt_of_le (Nat.lt_of_lt_of_le R7.out.row.lt B78.out.size) hW.size⟩
        have BD : Hid (Below w8.heap.size w8 w8.drew) := (Below.refl _ _).drew
        have OD : Hid (Only (fun b => b = ob) w8 w8.drew) := Only.of_below _ BD.out
        have LOB : Hid (ob < w8.heap.size) := Nat.lt_of_lt_of_le R7.out.row.lt B78.out.size
        go_region_held3 (fun W => (W.cell? ⟨sb, 3, none⟩ = some (.slice (some ⟨ob, 0, none⟩) T.rts.length c5) ∧ W.cell? ⟨kb, 1, none⟩ = some (.slice ta r.tr.length tc) ∧ W.cell? ⟨kb, 2, none⟩ = some (.slice pa r.pts.length pc) ∧ W.cell? ⟨kb, 4, none⟩ = some (.slice ca r.con.length cc)) ∧ ob < W.heap.size)
          (first | exact HSV.out _ (((O11.out.set _ _ (.inr rfl)).set _ _ (.inr rfl)).set _ _ (.inr rfl)) | exact HSV.out _ ((O11.out.set _ _ (.inr rfl)).set _ _ (.inr rfl)) | exact HSV.out _ (O11.out.set _ _ (.inr rfl)) | exact HSV.out _ O11.out | exact HSV.out _ O10.out | exact HSV.out _ O9.out | exact HSV.out _ OD.out)
          (first
            | (have _tok := O10; go_at_call 42; (with_reducible refine (clone_ints (.slice ca r.con.length cc) r.con w10 ((HCO.out.below B78.out).below B10.out) (by omega)).mono ?_); rintro e w11 ⟨a11, c11, rfl, h1, h2, h3⟩; have B11 : Hid (Below w8.heap.size w8 w11) := B10.out.trans (h3.mono B10.out.size); have O11 : Hid (Only (fun b => b = ob) w8 w11) := Only.of_below _ B11.out; have I11 := Lib.hid h1; have G11 := Lib.hid h2; have F11 := Lib.hid (h2 ob (Nat.lt_of_lt_of_le LOB.out B10.out.size)); have BB11 := Lib.hid h3; have R11 := Lib.hid ((R7.out.below B78.out).below B11.out); have z1 := R11.out.row.cell (i := n * 6 + 1) (by omega); have z2 := R11.out.row.cell (i := n * 6 + 2) (by omega); have z4 := R11.out.row.cell (i := n * 6 + 4) (by omega); have u1 := R11.out.row.frozen (n * 6 + 1); have u2 := R11.out.row.frozen (n * 6 + 2); have u4 := R11.out.row.frozen (n * 6 + 4); clear h1 h2 h3)
            | (have _tok := O9; go_at_call 44; (with_reducible refine (clone_pts (.slice pa r.pts.length pc) r.pts w9 ((HPT.out.below B78.out).below B9.out) (by omega)).mono ?_); rintro e w10 ⟨a10, c10, rfl, h1, h2, h3⟩; have B10 : Hid (Below w8.heap.size w8 w10) := B9.out.trans (h3.mono B9.out.size); have O10 : Hid (Only (fun b => b = ob) w8 w10) := Only.of_below _ B10.out; have I10 := Lib.hid h1; have G10 := Lib.hid h2; have F10 := Lib.hid (h2 ob (Nat.lt_of_lt_of_le LOB.out B9.out.size)); have BB10 := Lib.hid h3; clear h1 h2 h3)
            | (go_at_call 42; (with_reducible refine (clone_ints (.slice ta r.tr.length tc) r.tr w8.drew ((HTR.out.below B78.out).below BD.out) (by omega)).mono ?_); rintro e w9 ⟨a9, c9, rfl, h1, h2, h3⟩; have B9 : Hid (Below w8.heap.size w8 w9) := BD.out.trans h3; have O9 : Hid (Only (fun b => b = ob) w8 w9) := Only.of_below _ B9.out; have I9 := Lib.hid h1; have G9 := Lib.hid h2; have F9 := Lib.hid (h2 ob LOB.out); clear h1 h2 h3))
        rename_i hheld
        clear hheld z1 z2 z4 u1 u2 u4
        have B78' := B78.out; have BB11' := BB11.out
        have P1 : IntsAt w11 (.slice a9 r.tr.length c9) (T.rts.getD n rt0).tr := by rw [← HRR.out]; exact (I9.out.below BB10.out).below BB11.out
        have R12a := R11.out.set1 hlt P1 F9.out
        have P2 : PtsAt (w11.setCell ⟨ob, n * 6 + 1, none⟩ (.slice a9 r.tr.length c9)) (.slice a10 r.pts.length c10) (T.rts.getD n rt0).pts := by rw [← HRR.out]; exact (I10.out.below BB11.out).only' (Only.setOb _ _ _ _) F10.out
        have R12b := R12a.set2 hlt P2 F10.out
        have P3 : IntsAt ((w11.setCell ⟨ob, n * 6 + 1, none⟩ (.slice a9 r.tr.length c9)).setCell ⟨ob, n * 6 + 2, none⟩ (.slice a10 r.pts.length c10)) (.slice a11 r.con.length c11) (T.rts.getD n rt0).con := by rw [← HRR.out]; exact (I11.out.only' (Only.setOb _ _ _ _) F11.out).only' (Only.setOb _ _ _ _) F11.out
        have R12c := R12b.set4 hlt P3 F11.out
        have O12 : Only (fun b => b = ob) w11 (((w11.setCell ⟨ob, n * 6 + 1, none⟩ (.slice a9 r.tr.length c9)).setCell ⟨ob, n * 6 + 2, none⟩ (.slice a10 r.pts.length c10)).setCell ⟨ob, n * 6 + 4, none⟩ (.slice a11 r.con.length c11)) := (((Only.refl (fun b => b = ob) w11).set _ _ (.inr rfl)).set _ _ (.inr rfl)).set _ _ (.inr rfl)
        obtain ⟨w12, hw12⟩ : ∃ w12, w12 = ((w11.setCell ⟨ob, n * 6 + 1, none⟩ (.slice a9 r.tr.length c9)).setCell ⟨ob, n * 6 + 2, none⟩ (.slice a10 r.pts.length c10)).setCell ⟨ob, n * 6 + 4, none⟩ (.slice a11 r.con.length c11) := ⟨_, rfl⟩
        rw [← hw12] at O12 R12c ⊢
        clear hw12
        have B711 : Below w7.heap.size w7 w11 := B78.out.trans (B11.out.mono B78.out.size)
        have R12 := Lib.hid R12c
        have K12 : Hid (w12.heap[sb]? = _) := (O12.block _ (heap_lt (tb_kept K7.out B711)) HSOB.out.1).trans (tb_kept K7.out B711)
        have KT12 : Hid (w12.heap[w.heap.size]? = _) := (O12.block _ (heap_lt (tb_kept KT7.out B711)) HSOB.out.2).trans (tb_kept KT7.out B711)
        have I12 : Hid (IntsAt w12 (.slice a4 T.pts.length c4) T.pts) := (I7.out.below B711).only' O12 F7.out
        have B12 : Hid (Below w.heap.size w w12) := (B7.out.trans (B711.mono B7.out.size)).trans (O12.below (by have := B7.out.size; have := B711.size; omega) (fun i hi e => by have := HOW.out; omega))
        have FR12 := Lib.hid (fr_step FR7.out (fun b hb => G9.out b (Nat.lt_of_lt_of_le hb (Nat.le_trans B7.out.size B78.out.size))) (fun b hb => G10.out b (Nat.lt_of_lt_of_le hb (Nat.le_trans (Nat.le_trans B7.out.size B78.out.size) B9.out.size))) (fun b hb => G11.out b (Nat.lt_of_lt_of_le hb (Nat.le_trans (Nat.le_trans B7.out.size B78.out.size) B10.out.size))))
        clear G9 G10 G11
        clear R12a R12b R12c P1 P2 P3 O12 B711 B78' BB11' K8 KS8 I9 I10 I11 F9 F10 F11 R11 B9 B10 B11 O9 O10 O11 OD BD BB10 BB11 HSV B78 HTR HPT HCO
        go_wp2_with fail
        go_roundw
        case rel => exact ⟨n + 1, _, by omega, by go_num, B12.out, K12.out, KT12.out, R12.out, I12.out, F7.out, FR12.out⟩
        case measure => simp [intOf]; omega
      · obtain rfl : n = T.rts.length := by omega
        have HRTS := Lib.hid (R7.out.rts Q5.out Q52.out)
        have hmk1 := fun w => make_ar T.rts.length (by omega) w
        have infoU : (Try.prog.info? 5).map (fun i => (i.zero, i.size, i.bytes)) = some (some (.int .u8 0), 1, 1) := by kernel_rfl
        have hmk2 := fun w => run_make_row' (P := Try.prog) 60 5 (.int .u8 0) 1 Try.underlying60 infoU rfl .i64 .i64 T.pts.length (by omega) (by omega) w
        clear infoU
        have HSV : Hid (∀ W, Below w7.heap.size w7 W → (W.cell? ⟨sb, 0, none⟩ = some (.int .i64 T.tracks) ∧ W.cell? ⟨sb, 1, none⟩ = some (.slice a4 T.pts.length c4) ∧ W.cell? ⟨sb, 2, none⟩ = some (.int .i64 T.sigs) ∧ W.cell? ⟨sb, 3, none⟩ = some (.slice (some ⟨ob, 0, none⟩) T.rts.length c5)) ∧ W.cell? ⟨w.heap.size, 1, none⟩ = some (.slice va T.pts.length vc) ∧ W.cell? ⟨w.heap.size, 3, none⟩ = some (.slice a T.rts.length c)) := fun W hW => by
          have h1 := tb_kept K7.out hW
          have h2 := tb_kept KT7.out hW
          exact ⟨⟨cell_row h1 rfl, cell_row h1 rfl, cell_row h1 rfl, cell_row h1 rfl⟩, cell_row h2 rfl, cell_row h2 rfl⟩
        have BD : Hid (Below w7.heap.size w7 w7.drew) := (Below.refl _ _).drew
        go_wp2_with fail
        go_region_held3 (fun W => (W.cell? ⟨sb, 0, none⟩ = some (.int .i64 T.tracks) ∧ W.cell? ⟨sb, 1, none⟩ = some (.slice a4 T.pts.length c4) ∧ W.cell? ⟨sb, 2, none⟩ = some (.int .i64 T.sigs) ∧ W.cell? ⟨sb, 3, none⟩ = some (.slice (some ⟨ob, 0, none⟩) T.rts.length c5)) ∧ W.cell? ⟨w.heap.size, 1, none⟩ = some (.slice va T.pts.length vc) ∧ W.cell? ⟨w.heap.size, 3, none⟩ = some (.slice a T.rts.length c))
          (first | exact HSV.out _ (Below.alloc' (Below.alloc' (Below.alloc' BD.out _) _) _) | exact HSV.out _ (Below.alloc' (Below.alloc' BD.out _) _) | exact HSV.out _ (Below.alloc' BD.out _) | exact HSV.out _ BD.out)
          (fail)
        · rename_i hheld
          clear hheld hmk1 hmk2
          obtain ⟨W, hW, k0, k1, k2, hz, hb⟩ := alloc3 w7 (madeCells #[.int .u8 0, .int .u16 0, .int .u32 0, .int .u32 0] (T.rts.length * 4)) (madeCells #[.int .u8 0] T.pts.length) #[.int .i64 T.tracks, .slice a4 T.pts.length c4, .int .i64 T.sigs, .slice (some ⟨ob, 0, none⟩) T.rts.length c5, .slice (some ⟨w7.heap.size, 0, none⟩) T.rts.length T.rts.length, .slice (some ⟨w7.heap.size + 1, 0, none⟩) T.pts.length T.pts.length] 43 5 113
          have HA : Hid (AutoAt W.drew ⟨w7, w7.heap.size + 1 + 1, w7.heap.size, w7.heap.size + 1, .slice a4 T.pts.length c4, .slice (some ⟨ob, 0, none⟩) T.rts.length c5, .slice (some ⟨w7.heap.size, 0, none⟩) T.rts.length T.rts.length, .slice (some ⟨w7.heap.size + 1, 0, none⟩) T.pts.length T.pts.length, T⟩ as0) :=
            (new_end w7 W T _ _ w7.heap.size (w7.heap.size + 1) (w7.heap.size + 1 + 1) hb k0 k1 k2 I7.out HRTS.out (by omega) (by omega) (by omega) (by omega) (by omega) (by omega) (by omega) (by omega)).drew
          have HB : Hid (Below w.heap.size w W.drew) := (B7.out.trans (hb.mono B7.out.size)).drew
          rw [← hW]
          clear hW k0 k1 k2 hz hb
          go_wp2_with fail
          go_ret2
          exact HNP2.out _ _ HB.out HA.out rfl B7.out.size ⟨FO4.out, R7.out.fr Q5.out Q52.out (Nat.le_of_lt HOW.out) FR7.out⟩
        · rename_i hheld
          clear hheld hmk1 hmk2
          obtain ⟨W, hW, k0, k1, k2, hz, hb⟩ := alloc3 w7 (madeCells #[.int .u8 0] T.pts.length) (madeCells #[.int .u8 0, .int .u16 0, .int .u32 0, .int .u32 0] (T.rts.length * 4)) #[.int .i64 T.tracks, .slice a4 T.pts.length c4, .int .i64 T.sigs, .slice (some ⟨ob, 0, none⟩) T.rts.length c5, .slice (some ⟨w7.heap.size + 1, 0, none⟩) T.rts.length T.rts.length, .slice (some ⟨w7.heap.size, 0, none⟩) T.pts.length T.pts.length] 5 43 113
          have HA : Hid (AutoAt W.drew ⟨w7, w7.heap.size + 1 + 1, w7.heap.size + 1, w7.heap.size, .slice a4 T.pts.length c4, .slice (some ⟨ob, 0, none⟩) T.rts.length c5, .slice (some ⟨w7.heap.size + 1, 0, none⟩) T.rts.length T.rts.length, .slice (some ⟨w7.heap.size, 0, none⟩) T.pts.length T.pts.length, T⟩ as0) :=
            (new_end w7 W T _ _ (w7.heap.size + 1) w7.heap.size (w7.heap.size + 1 + 1) hb k1 k0 k2 I7.out HRTS.out (by omega) (by omega) (by omega) (by omega) (by omega) (by omega) (by omega) (by omega)).drew
          have HB : Hid (Below w.heap.size w W.drew) := (B7.out.trans (hb.mono B7.out.size)).drew
          rw [← hW]
          clear hW k0 k1 k2 hz hb
          go_wp2_with fail
          go_ret2
          exact HNP2.out _ _ HB.out HA.out rfl B7.out.size ⟨FO4.out, R7.out.fr Q5.out Q52.out (Nat.le_of_lt HOW.out) FR7.out⟩
  · have HNP2 : Hid (∀ w', Below w.heap.size w w' → NewP T w (.returned (.tuple #[.pointer none, .int .i64 E])) w') := fun w' h => by rw [HNP.out, if_neg hE0]; exact ⟨h, rfl⟩
    have t1 : (E == 0) = false := by simpa using hE0
    have t2 : (E != 0) = true := by simpa using hE0
    clear hE0 HNP
    go_enter Try.func24, Try.ntmps24
    go_upto_region 1 with fail
    rw [← HW1.out]
    go_wp2_with fail
    refine HCK.out.mono ?_
    rintro e w2 ⟨rfl, hb2⟩
    have B2 : Hid (Below w.heap.size w w2) := B1.out.trans (hb2.mono B1.out.size)
    clear hb2 c0 c1 c2 c3 l1
    go_wp2_with fail
    go_ret2
    exact HNP2.out _ B2.out
end Go.Proofs.Ytnjeiigdfdjccaa
