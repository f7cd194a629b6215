/- The document's automaton: Step. -/
import Derived.Test.YtlfcmedhadfheaaRgF
import Derived.Test.YtlfcmedhadfheaaAutP
namespace Go.Proofs.Ytlfcmedhadfheaa
open Go.RowKit
set_option linter.unusedVariables false
set_option linter.unusedSimpArgs false
/-- What lies while the order is reckoned. -/
structure StW (u : Rf) (S S' : AS) (ub lb u' l' : Nat → Nat) (w wr : World) (fb qb ob : Nat) (FV : Array Value) (o : OD) : Prop where
  a : R27At wr u S' u' l'
  on : Only (Own27 u S ub lb) w wr
  f : wr.heap[fb]? = some (.cells FV 38 (0, 0))
  q : wr.heap[qb]? = some (.cells #[.int .u32 0, .int .u32 0, .int .u32 0, .int .u32 0] 36 (0, 0))
  b : wr.heap[ob]? = some (.cells #[.int .u32 (o.pr : Int), .int .u32 (o.no : Int), .int .u32 (o.re : Int), .int .u32 (o.lo : Int)] 36 (0, 0))
structure StA (u : Rf) (S' : AS) (u' l' : Nat → Nat) (w : World) (fb qb ob : Nat) : Prop where
  f : fb ≠ ob
  q : qb ≠ ob
  w : w.heap.size ≤ ob
  z : u.w0.heap.size ≤ ob
  g : u.g ≠ ob
  own : ∀ b, Own27 u S' u' l' b → b ≠ ob
theorem StW.below {u : Rf} {S S' : AS} {ub lb u' l' : Nat → Nat} {w wr wv : World} {fb qb ob : Nat} {FV : Array Value} {o : OD} (h : StW u S S' ub lb u' l' w wr fb qb ob FV o) (hb : Below wr.heap.size wr wv) : StW u S S' ub lb u' l' w wv fb qb ob FV o :=
  ⟨h.a.below hb, h.on.trans (Only.of_below _ hb), tb_kept h.f hb, tb_kept h.q hb, tb_kept h.b hb⟩
theorem StW.set {u : Rf} {S S' : AS} {ub lb u' l' : Nat → Nat} {w wr : World} {fb qb ob : Nat} {FV : Array Value} {o o' : OD} (h : StW u S S' ub lb u' l' w wr fb qb ob FV o) (ha : StA u S' u' l' w fb qb ob) {j : Nat} {v : Value}
    (hv : #[Value.int .u32 (o.pr : Int), .int .u32 (o.no : Int), .int .u32 (o.re : Int), .int .u32 (o.lo : Int)].setIfInBounds j v = #[.int .u32 (o'.pr : Int), .int .u32 (o'.no : Int), .int .u32 (o'.re : Int), .int .u32 (o'.lo : Int)]) : StW u S S' ub lb u' l' w (wr.setCell ⟨ob, j, none⟩ v) fb qb ob FV o' :=
  ⟨h.a.only (M := fun b => b = ob) ((Only.refl _ wr).set _ _ (.inr rfl)) (fun b hb => by rw [hb]; exact ha.z) (fun e => ha.g e) (fun b hb e => ha.own b hb e), h.on.set _ _ (.inl ha.w), (heap_setCell_other _ _ _ _ ha.f).trans h.f, (heap_setCell_other _ _ _ _ ha.q).trans h.q, by rw [← hv]; exact heap_setCell_same _ _ _ _ _ _ h.b⟩
theorem noN_succ (C : Nat → Nat) (k : Nat) (h : C k < 3) : noN C (k + 1) = if C k = 1 then noN C k ||| 2 ^ k else noN C k := by
  show noN C k ||| (C k &&& 1) * 2 ^ k = _
  rcases (show C k = 0 ∨ C k = 1 ∨ C k = 2 by omega) with e | e | e <;> rw [e] <;> simp
theorem reN_succ (C : Nat → Nat) (k : Nat) (h : C k < 3) : reN C (k + 1) = if C k = 2 then reN C k ||| 2 ^ k else reN C k := by
  show reN C k ||| (C k / 2) * 2 ^ k = _
  rcases (show C k = 0 ∨ C k = 1 ∨ C k = 2 by omega) with e | e | e <;> rw [e] <;> simp
set_option maxRecDepth 100000 in
set_option maxHeartbeats 8000000 in
theorem rstep_any {f : FD} {w : World} {u : Rf} {S : AS} {ub lb : Nat → Nat} (h : R27At w u S ub lb) (hf : f.Ok) (hT : TOk u.T) (hS : (stepS u.T f S).Ok) :
    Calls Try.prog 20 #[.pointer (some ⟨u.g, 0, none⟩), .agg #[.int .u32 (f.cl : Int), .int .u32 (f.no : Int), .int .u32 (f.re : Int), .int .u32 (f.ak : Int), .int .u32 (f.ca : Int), .int .u32 (f.rq : Int)]] w fun e w' => e = .returned (orderS u.T f (stepS u.T f S)).val ∧ UnderP u S ub lb w (stepS u.T f S) w' := by
  have H := Lib.hid h; have HF := Lib.hid hf; have HTK := Lib.hid hT; have HSO := Lib.hid hS
  have hN16 := hT.n; have hP12 := hT.p
  obtain ⟨ra, rc, C0, hvr, hrl, hrc, _⟩ := h.tr.at_
  have hrt := h.tr
  rw [hvr] at hrt
  have HRT := Lib.hid hrt
  obtain ⟨w1, hw1⟩ : ∃ w1, w1 = w.alloc (.cells #[.int .u32 (f.cl : Int), .int .u32 (f.no : Int), .int .u32 (f.re : Int), .int .u32 (f.ak : Int), .int .u32 (f.ca : Int), .int .u32 (f.rq : Int)] 38) := ⟨_, rfl⟩
  have B1 : Hid (Below w.heap.size w w1) := by rw [hw1]; exact tb_alloc_below _ _
  have K1 : Hid (w1.heap[w.heap.size]? = some (.cells #[.int .u32 (f.cl : Int), .int .u32 (f.no : Int), .int .u32 (f.re : Int), .int .u32 (f.ak : Int), .int .u32 (f.ca : Int), .int .u32 (f.rq : Int)] 38 (0, 0))) := by rw [hw1]; exact heap_alloc_new _ _
  obtain ⟨w2, hw2⟩ : ∃ w2, w2 = w1.alloc (.cells #[.int .u32 0, .int .u32 0, .int .u32 0, .int .u32 0] 36) := ⟨_, rfl⟩
  have B12 : Hid (Below w1.heap.size w1 w2) := by rw [hw2]; exact tb_alloc_below _ _
  have KQ2 : Hid (w2.heap[w1.heap.size]? = some (.cells #[.int .u32 0, .int .u32 0, .int .u32 0, .int .u32 0] 36 (0, 0))) := by rw [hw2]; exact heap_alloc_new _ _
  have KF2 := Lib.hid (tb_kept K1.out B12.out)
  have BW2 : Hid (Below w.heap.size w w2) := B1.out.trans (B12.out.mono B1.out.size)
  have A2 : Hid (R27At w2 u S ub lb) := h.below BW2.out
  have HW : Hid (w2 = (w.alloc (.cells #[.int .u32 (f.cl : Int), .int .u32 (f.no : Int), .int .u32 (f.re : Int), .int .u32 (f.ak : Int), .int .u32 (f.ca : Int), .int .u32 (f.rq : Int)] 38)).alloc (.cells #[.int .u32 0, .int .u32 0, .int .u32 0, .int .u32 0] 36)) := by show _ = _; rw [hw2, hw1]
  have Z1 : Hid (w1.heap.size = w.heap.size + 1) := by rw [hw1]; exact Array.size_push _
  rw [Z1.out] at KQ2
  have HOW : Hid (∀ b, Own27 u S ub lb b → b < w.heap.size) := fun b hb => h.own_lt hb
  obtain ⟨fb, hfb⟩ : ∃ b, b = w.heap.size := ⟨_, rfl⟩
  obtain ⟨qb, hqb⟩ : ∃ b, b = w.heap.size + 1 := ⟨_, rfl⟩
  have HNUM : Hid (w.heap.size + 1 = qb ∧ w.heap.size = fb) := ⟨hqb.symm, hfb.symm⟩
  rw [← hqb] at KQ2
  rw [← hfb] at KF2
  have HVR := Lib.hid hvr
  unfold maxLen at hrc
  have HG : Hid (∀ W S' u' l', R27At W u S' u' l' → W.cell? ⟨u.g, 3, none⟩ = some (.slice ra u.T.rts.length rc) ∧ W.cell? ⟨u.g, 4, none⟩ = some (.slice (some ⟨u.rb, 0, none⟩) u.T.rts.length u.T.rts.length) ∧ W.cell? ⟨u.g, 5, none⟩ = some (.slice (some ⟨u.cb, 0, none⟩) u.T.pts.length u.T.pts.length) ∧ u.g < W.heap.size) := fun W S' u' l' hW =>
    ⟨by rw [← HVR.out]; exact cell_row (j := 3) hW.obj rfl, cell_row (j := 4) hW.obj rfl, cell_row (j := 5) hW.obj rfl, heap_lt hW.obj⟩
  obtain ⟨SF, hSF⟩ : ∃ SF, SF = stepS u.T f S := ⟨_, rfl⟩
  obtain ⟨O, hO⟩ : ∃ O, O = orderS u.T f SF := ⟨_, rfl⟩
  rw [← hSF] at HSO ⊢
  rw [← hO]
  have HSF : Hid (SF = askK u.T f (goK u.T f S u.T.rts.length) u.T.rts.length) := hSF
  have HO : Hid (O = ⟨prN u.T f SF.R u.T.rts.length, noN SF.C u.T.pts.length, reN SF.C u.T.pts.length, loN SF.R u.T.rts.length⟩) := hO
  clear hw1 hw2 hfb hqb h hf hT hS hrt hvr K1 B1 B12 Z1 hSF hO
  go_enter Try.func20, Try.ntmps20
  go_upto_region 1 with fail
  rw [← HW.out, HNUM.out.1, HNUM.out.2]
  clear HW
  have HSZ : Hid (w.heap.size ≤ w2.heap.size ∧ fb < w2.heap.size ∧ qb < w2.heap.size ∧ w.heap.size ≤ fb ∧ w.heap.size ≤ qb) := ⟨BW2.out.size, heap_lt KF2.out, heap_lt KQ2.out, by have := HNUM.out; omega, by have := HNUM.out; omega⟩
  go_wp2_with fail
  go_loopw [5] (fun i wr => ∃ (k : Nat) (u5 l5 : Nat → Nat), k ≤ u.T.rts.length ∧ i = .int .i64 k ∧ R27At wr u (goK u.T f S k) u5 l5 ∧ Only (Own27 u S ub lb) w wr ∧ (∀ b, Own27 u (goK u.T f S k) u5 l5 b → Own27 u S ub lb b ∨ w2.heap.size ≤ b) ∧ wr.heap[fb]? = some (.cells #[.int .u32 (f.cl : Int), .int .u32 (f.no : Int), .int .u32 (f.re : Int), .int .u32 (f.ak : Int), .int .u32 (f.ca : Int), .int .u32 (f.rq : Int)] 38 (0, 0)) ∧ wr.heap[qb]? = some (.cells #[.int .u32 0, .int .u32 0, .int .u32 0, .int .u32 0] 36 (0, 0)) ∧ w2.heap.size ≤ wr.heap.size) (fun i _ => u.T.rts.length - (intOf i).toNat)
  case atStart => exact ⟨0, ub, lb, Nat.zero_le _, rfl, A2.out, Only.of_below _ BW2.out, fun b hb => .inl hb, KF2.out, KQ2.out, Nat.le_refl _⟩
  case round =>
    clear A2 KF2 KQ2
    obtain ⟨k, u5, l5, hk, rfl, hA5, hO5, hC5, hF5, hQ5, hZ5⟩ := hrel
    have A5 := Lib.hid hA5; have O5 := Lib.hid hO5; have C5 := Lib.hid hC5; have F5 := Lib.hid hF5; have Q5 := Lib.hid hQ5; have Z5 := Lib.hid hZ5
    clear hA5 hO5 hC5 hF5 hQ5 hZ5
    obtain ⟨-, g4, -, lg⟩ := HG.out _ _ _ _ A5.out
    by_cases hlt : k < u.T.rts.length
    case pos =>
      have HUN := Lib.hid (under_any A5.out HF.out HTK.out hlt)
      have f0 := cell_row (j := 0) F5.out rfl; have f1 := cell_row (j := 1) F5.out rfl; have f2 := cell_row (j := 2) F5.out rfl; have f3 := cell_row (j := 3) F5.out rfl; have f4 := cell_row (j := 4) F5.out rfl; have f5 := cell_row (j := 5) F5.out rfl
      have lf := heap_lt F5.out
      go_wp2_with fail
      refine HUN.out.mono ?_
      rintro e w6 ⟨rfl, u6, l6, hA6, ho6, hc6⟩
      have A6 := Lib.hid hA6
      have O6 : Hid (Only (Own27 u S ub lb) w w6) := ⟨ho6.os.trans O5.out.os, ho6.tape.trans O5.out.tape, ho6.output.trans O5.out.output, Nat.le_trans O5.out.size ho6.size, fun i hi hm => (ho6.block i (Nat.lt_of_lt_of_le hi O5.out.size) (fun h1 => by
        rcases C5.out i h1 with h2 | h2
        · exact hm h2
        · have := HSZ.out.1; omega)).trans (O5.out.block i hi hm)⟩
      have C6 : Hid (∀ b, Own27 u _ u6 l6 b → Own27 u S ub lb b ∨ w2.heap.size ≤ b) := fun b hb => by
        rcases hc6 b hb with h | h
        · exact C5.out b h
        · exact .inr (Nat.le_trans Z5.out h)
      have noF : ∀ b, b < w2.heap.size → w.heap.size ≤ b → ¬ Own27 u _ u5 l5 b := fun b h1 h2 h3 => by
        rcases C5.out b h3 with h | h
        · have := HOW.out b h; omega
        · omega
      have F6 : Hid (w6.heap[fb]? = some (.cells #[.int .u32 (f.cl : Int), .int .u32 (f.no : Int), .int .u32 (f.re : Int), .int .u32 (f.ak : Int), .int .u32 (f.ca : Int), .int .u32 (f.rq : Int)] 38 (0, 0))) := (ho6.block _ (heap_lt F5.out) (noF _ HSZ.out.2.1 HSZ.out.2.2.2.1)).trans F5.out
      have Q6 : Hid (w6.heap[qb]? = some (.cells #[.int .u32 0, .int .u32 0, .int .u32 0, .int .u32 0] 36 (0, 0))) := (ho6.block _ (heap_lt Q5.out) (noF _ HSZ.out.2.2.1 HSZ.out.2.2.2.2)).trans Q5.out
      have Z6 : Hid (w2.heap.size ≤ w6.heap.size) := Nat.le_trans Z5.out ho6.size
      clear hA6 ho6 hc6 noF f0 f1 f2 f3 f4 f5 lf g4 lg HUN
      go_wp2_with fail
      go_roundw
      case rel => exact ⟨k + 1, u6, l6, by omega, by go_num, A6.out, O6.out, C6.out, F6.out, Q6.out, Z6.out⟩
      case measure => simp [intOf]; omega
    case neg =>
    obtain rfl : k = u.T.rts.length := by omega
    go_wp2_with fail
    clear g4 lg
    go_loopw [6] (fun i wr => ∃ (k : Nat) (u5 l5 : Nat → Nat), k ≤ u.T.rts.length ∧ i = .int .i64 k ∧ R27At wr u (askK u.T f (goK u.T f S u.T.rts.length) k) u5 l5 ∧ Only (Own27 u S ub lb) w wr ∧ (∀ b, Own27 u (askK u.T f (goK u.T f S u.T.rts.length) k) u5 l5 b → Own27 u S ub lb b ∨ w2.heap.size ≤ b) ∧ wr.heap[fb]? = some (.cells #[.int .u32 (f.cl : Int), .int .u32 (f.no : Int), .int .u32 (f.re : Int), .int .u32 (f.ak : Int), .int .u32 (f.ca : Int), .int .u32 (f.rq : Int)] 38 (0, 0)) ∧ wr.heap[qb]? = some (.cells #[.int .u32 0, .int .u32 0, .int .u32 0, .int .u32 0] 36 (0, 0)) ∧ w2.heap.size ≤ wr.heap.size) (fun i _ => u.T.rts.length - (intOf i).toNat)
    case atStart => exact ⟨0, u5, l5, Nat.zero_le _, rfl, A5.out, O5.out, C5.out, F5.out, Q5.out, Z5.out⟩
    case round =>
      clear A5 O5 C5 F5 Q5 Z5
      obtain ⟨k, u5, l5, hk, rfl, hA5, hO5, hC5, hF5, hQ5, hZ5⟩ := hrel
      have A5 := Lib.hid hA5; have O5 := Lib.hid hO5; have C5 := Lib.hid hC5; have F5 := Lib.hid hF5; have Q5 := Lib.hid hQ5; have Z5 := Lib.hid hZ5
      clear hA5 hO5 hC5 hF5 hQ5 hZ5
      obtain ⟨-, g4, -, lg⟩ := HG.out _ _ _ _ A5.out
      by_cases hlt : k < u.T.rts.length
      case pos =>
        have HUN := Lib.hid (asked_any A5.out HF.out HTK.out hlt)
        have f0 := cell_row (j := 0) F5.out rfl; have f1 := cell_row (j := 1) F5.out rfl; have f2 := cell_row (j := 2) F5.out rfl; have f3 := cell_row (j := 3) F5.out rfl; have f4 := cell_row (j := 4) F5.out rfl; have f5 := cell_row (j := 5) F5.out rfl
        have lf := heap_lt F5.out
        go_wp2_with fail
        refine HUN.out.mono ?_
        rintro e w6 ⟨rfl, u6, l6, hA6, ho6, hc6⟩
        have A6 := Lib.hid hA6
        have O6 : Hid (Only (Own27 u S ub lb) w w6) := ⟨ho6.os.trans O5.out.os, ho6.tape.trans O5.out.tape, ho6.output.trans O5.out.output, Nat.le_trans O5.out.size ho6.size, fun i hi hm => (ho6.block i (Nat.lt_of_lt_of_le hi O5.out.size) (fun h1 => by
          rcases C5.out i h1 with h2 | h2
          · exact hm h2
          · have := HSZ.out.1; omega)).trans (O5.out.block i hi hm)⟩
        have C6 : Hid (∀ b, Own27 u _ u6 l6 b → Own27 u S ub lb b ∨ w2.heap.size ≤ b) := fun b hb => by
          rcases hc6 b hb with h | h
          · exact C5.out b h
          · exact .inr (Nat.le_trans Z5.out h)
        have noF : ∀ b, b < w2.heap.size → w.heap.size ≤ b → ¬ Own27 u _ u5 l5 b := fun b h1 h2 h3 => by
          rcases C5.out b h3 with h | h
          · have := HOW.out b h; omega
          · omega
        have F6 : Hid (w6.heap[fb]? = some (.cells #[.int .u32 (f.cl : Int), .int .u32 (f.no : Int), .int .u32 (f.re : Int), .int .u32 (f.ak : Int), .int .u32 (f.ca : Int), .int .u32 (f.rq : Int)] 38 (0, 0))) := (ho6.block _ (heap_lt F5.out) (noF _ HSZ.out.2.1 HSZ.out.2.2.2.1)).trans F5.out
        have Q6 : Hid (w6.heap[qb]? = some (.cells #[.int .u32 0, .int .u32 0, .int .u32 0, .int .u32 0] 36 (0, 0))) := (ho6.block _ (heap_lt Q5.out) (noF _ HSZ.out.2.2.1 HSZ.out.2.2.2.2)).trans Q5.out
        have Z6 : Hid (w2.heap.size ≤ w6.heap.size) := Nat.le_trans Z5.out ho6.size
        clear hA6 ho6 hc6 noF f0 f1 f2 f3 f4 f5 lf g4 lg HUN
        go_wp2_with fail
        go_roundw
        case rel => exact ⟨k + 1, u6, l6, by omega, by go_num, A6.out, O6.out, C6.out, F6.out, Q6.out, Z6.out⟩
        case measure => simp [intOf]; omega
      case neg =>
      obtain rfl : k = u.T.rts.length := by omega
      rw [← HSF.out] at A5 C5
      obtain ⟨wo, hwo⟩ : ∃ W, W = wr.alloc (.cells #[.int .u32 0, .int .u32 0, .int .u32 0, .int .u32 0] 36) := ⟨_, rfl⟩
      have BO : Hid (Below wr.heap.size wr wo) := by rw [hwo]; exact tb_alloc_below _ _
      have KO : Hid (wo.heap[wr.heap.size]? = some (.cells #[.int .u32 0, .int .u32 0, .int .u32 0, .int .u32 0] 36 (0, 0))) := by rw [hwo]; exact heap_alloc_new _ _
      have HWO := Lib.hid hwo
      have SA : Hid (StA u SF u5 l5 w fb qb wr.heap.size) := ⟨by have := HSZ.out; have := Z5.out; omega, by have := HSZ.out; have := Z5.out; omega, by have := HSZ.out.1; have := Z5.out; omega, A5.out.bel.size, by have := heap_lt A5.out.obj; omega, fun b hb => by have := A5.out.own_lt hb; omega⟩
      have S0 : Hid (StW u S SF ub lb u5 l5 w wo fb qb wr.heap.size #[.int .u32 (f.cl : Int), .int .u32 (f.no : Int), .int .u32 (f.re : Int), .int .u32 (f.ak : Int), .int .u32 (f.ca : Int), .int .u32 (f.rq : Int)] ⟨0, 0, 0, 0⟩) := ⟨A5.out.below BO.out, O5.out.trans (Only.of_below _ BO.out), tb_kept F5.out BO.out, tb_kept Q5.out BO.out, KO.out⟩
      have HLE : Hid (w.heap.size ≤ w2.heap.size) := HSZ.out.1
      clear hwo
      go_upto_region 10 with fail
      rw [← HWO.out]
      obtain ⟨ob, hob⟩ : ∃ b, b = wr.heap.size := ⟨_, rfl⟩
      rw [← hob] at SA S0 ⊢
      clear hob HWO BO KO A5 O5 F5 Q5 Z5 g4 lg
      obtain ⟨-, g4, -, lg⟩ := HG.out _ _ _ _ S0.out.a
      go_wp2_with fail
      clear g4 lg
      have HPRL : Hid (∀ k, k ≤ u.T.rts.length → prN u.T f SF.R k < 4294967296) := prN_lt u.T f SF.R (fun n hn => by have := HTK.out.sig n hn; omega)
      have HLOL : Hid (∀ k, k ≤ 16 → loN SF.R k < 4294967296) := loN_lt SF.R
      have HNOL : Hid (∀ k, k ≤ 12 → noN SF.C k < 4294967296) := noN_lt SF.C HSO.out.C
      have HREL : Hid (∀ k, k ≤ 12 → reN SF.C k < 4294967296) := reN_lt SF.C HSO.out.C
      go_loopw [8] (fun i wr => ∃ k : Nat, k ≤ u.T.rts.length ∧ i = .int .i64 k ∧ StW u S SF ub lb u5 l5 w wr fb qb ob #[.int .u32 (f.cl : Int), .int .u32 (f.no : Int), .int .u32 (f.re : Int), .int .u32 (f.ak : Int), .int .u32 (f.ca : Int), .int .u32 (f.rq : Int)] ⟨prN u.T f SF.R k, 0, 0, loN SF.R k⟩) (fun i _ => u.T.rts.length - (intOf i).toNat)
      case atStart => exact ⟨0, Nat.zero_le _, rfl, S0.out⟩
      case round =>
        clear S0
        obtain ⟨k, hk, rfl, hs⟩ := hrel
        have S1 := Lib.hid hs
        clear hs
        obtain ⟨-, g4, -, lg⟩ := HG.out _ _ _ _ S1.out.a
        by_cases hlt : k < u.T.rts.length
        case pos =>
          have p0 : wr.cell? ⟨u.rb, k * 4, none⟩ = some (.int .i64 ((SF.R k).ph : Int)) := by
            have := S1.out.a.rs.cell (i := k * 4) (by omega)
            rw [r27V_0] at this; exact this
          have lr := S1.out.a.rs.lt
          have HLO : Hid (loN SF.R (k + 1) = if (SF.R k).ph = 0 then loN SF.R k else loN SF.R k ||| 2 ^ k) := rfl
          have HPR : Hid (prN u.T f SF.R (k + 1) = if (SF.R k).ph == 1 && rprocB f (u.T.rts.getD k rt0) then prN u.T f SF.R k ||| 2 ^ (u.T.rts.getD k rt0).sig.toNat else prN u.T f SF.R k) := by
            show (if procB f _ _ then _ else _) = _
            unfold procB rprocB
            rw [Bool.and_assoc]
          have hll := HLOL.out k (by omega); have hpl := HPRL.out k hk
          generalize hlo1 : loN SF.R (k + 1) = lo1 at *
          generalize hpr1 : prN u.T f SF.R (k + 1) = pr1 at *
          have HE1 := Lib.hid hlo1; have HE2 := Lib.hid hpr1
          generalize loN SF.R k = lo at *
          generalize prN u.T f SF.R k = pr at *
          generalize hphe : (SF.R k).ph = ph at *
          have HPHE := Lib.hid hphe
          clear hlo1 hpr1 hphe
          have HLT := Lib.hid hlt
          by_cases hp0 : ph = 0
          case pos =>
            subst hp0
            have p0' : wr.cell? ⟨u.rb, k * 4, none⟩ = some (.int .i64 0) := p0
            clear p0
            have p0 := p0'
            clear p0'
            have HLX : Hid (lo1 = lo) := HLO.out
            have tb1 : ((0 : Nat) == 1) = false := rfl
            have HPX : Hid (pr1 = pr) := by show _ = _; rw [HPR.out, tb1]; rfl
            go_upto_region 15 with fail
            go_quiet (fail)
            have S3 := Lib.hid (S1.out.below (RG_drewN _ nq))
            generalize (wr).drewN nq = w6 at *
            clear g4 lg p0 lr
            go_wp2_with fail
            go_roundw
            case rel => exact ⟨k + 1, by have := HLT.out; omega, by go_num, by rw [HE1.out, HE2.out, HLX.out, HPX.out]; exact S3.out⟩
            case measure => have := HLT.out; simp [intOf]; omega
          case neg =>
            have t0 : ((ph : Int) != 0) = true := by simp; omega
            have HLX : Hid (lo1 = lo ||| 2 ^ k) := by show _ = _; rw [HLO.out, if_neg hp0]
            have b3 := cell_row (j := 3) S1.out.b rfl
            have fr : wr.frozen? ⟨ob, 3, none⟩ = false := frozen_of_row _ _ _ _ _ S1.out.b
            have lbb := heap_lt S1.out.b
            have HX := Lib.hid (or_bitw lo k hll (by omega) _ rfl)
            go_upto_region 14 with fail
            clear p0 lr t0
            go_region
            rw [HX.out]
            have S2 : Hid (StW u S SF ub lb u5 l5 w (wr.setCell ⟨ob, 3, none⟩ (.int .u32 ((lo ||| 2 ^ k : Nat) : Int))).drew fb qb ob #[.int .u32 (f.cl : Int), .int .u32 (f.no : Int), .int .u32 (f.re : Int), .int .u32 (f.ak : Int), .int .u32 (f.ca : Int), .int .u32 (f.rq : Int)] ⟨pr, 0, 0, lo ||| 2 ^ k⟩) := (S1.out.set (o' := ⟨pr, 0, 0, lo ||| 2 ^ k⟩) (j := 3) (v := .int .u32 ((lo ||| 2 ^ k : Nat) : Int)) SA.out rfl).below ⟨rfl, rfl, rfl, Nat.le_refl _, fun _ _ => rfl⟩
            generalize (wr.setCell ⟨ob, 3, none⟩ (.int .u32 ((lo ||| 2 ^ k : Nat) : Int))).drew = w2' at *
            clear b3 fr lbb HX S1 g4 lg
            obtain ⟨g3, g4, -, lg⟩ := HG.out _ _ _ _ S2.out.a
            have p0 : w2'.cell? ⟨u.rb, k * 4, none⟩ = some (.int .i64 (ph : Int)) := by
              have := S2.out.a.rs.cell (i := k * 4) (by have := HLT.out; omega)
              rw [r27V_0, HPHE.out] at this; exact this
            have lr := S2.out.a.rs.lt
            by_cases hp1 : ph = 1
            case neg =>
              have t1 : ((ph : Int) == 1) = false := by simp; omega
              have tb1 : (ph == 1) = false := by simpa using hp1
              clear hp0 hp1 g3
              have HPX : Hid (pr1 = pr) := by show _ = _; rw [HPR.out, tb1]; rfl
              go_upto_region 15 with fail
              go_quiet (fail)
              have S3 := Lib.hid (S2.out.below (RG_drewN _ nq))
              generalize (w2').drewN nq = w6 at *
              clear g4 lg p0 lr
              go_wp2_with fail
              go_roundw
              case rel => exact ⟨k + 1, by have := HLT.out; omega, by go_num, by rw [HE1.out, HE2.out, HLX.out, HPX.out]; exact S3.out⟩
              case measure => have := HLT.out; simp [intOf]; omega
            case pos =>
              subst hp1
              have p0' : w2'.cell? ⟨u.rb, k * 4, none⟩ = some (.int .i64 1) := p0
              clear p0
              obtain ⟨b, off, C, rfl, hb, hc, hR⟩ := HRT.out.cells (i := k) HLT.out
              have hx : ∀ j, j < 6 → w2'.cell? ⟨b, off + k * 6 + j, none⟩ = some (C j) := fun j hj => (S2.out.a.bel.cell hb).trans (hc j hj)
              have x0 := hx 0 (by omega); have x1 := hx 1 (by omega); have x2 := hx 2 (by omega); have x3 := hx 3 (by omega); have x4 := hx 4 (by omega); have x5 := hx 5 (by omega)
              rw [Nat.add_zero] at x0
              have hV := hR.rval
              obtain ⟨A, hA⟩ : ∃ A, A = u.T.rts.getD k rt0 := ⟨_, rfl⟩
              have hsg := HTK.out.sig k HLT.out; have htr := HTK.out.tr k HLT.out; have hpp := HTK.out.pp k HLT.out
              rw [← hA] at hR hV hsg htr hpp HPR
              obtain ⟨⟨ta, tc, ht, _⟩, _⟩ := hR.tr
              obtain ⟨⟨pa, pc, hp, _⟩, _⟩ := hR.pts
              obtain ⟨⟨ca, cc, hcn, _⟩, _⟩ := hR.con
              rw [hR.sig] at x0 hV; rw [ht] at x1 hV; rw [hp] at x2 hV; rw [hR.app] at x3 hV; rw [hcn] at x4 hV; rw [hR.hold] at x5 hV
              obtain ⟨sg, hsgn⟩ := Int.eq_ofNat_of_zero_le hsg.1
              have hsg32 : sg < 12 := by omega
              have HXS : Hid (∀ W, Below u.w0.heap.size u.w0 W → W.cell? ⟨b, off + k * 6, none⟩ = some (.int .i64 (sg : Int))) := fun W hW => by
                have := (hW.cell hb).trans (hc 0 (by omega))
                rw [Nat.add_zero, hR.sig, hsgn] at this; exact this
              have HPRS : Hid (pr1 = if (1 == 1) && rprocB f A then pr ||| 2 ^ sg else pr) := by
                show _ = _
                rw [HPR.out, hsgn]; rfl
              have HPC := Lib.hid (fun W (hW : Below u.w0.heap.size u.w0 W) => rproc_any _ A f W (hV.below hW) HF.out (fun i hi => ⟨(htr i hi).1, by have := (htr i hi).2; omega⟩) (fun i hi => ⟨(hpp i hi).1, by have := (hpp i hi).2; omega⟩))
              have HBS : Hid (b < u.w0.heap.size) := hb
              have hbl : b < w2'.heap.size := Nat.lt_of_lt_of_le hb S2.out.a.bel.size
              have f0 := cell_row (j := 0) S2.out.f rfl; have f1 := cell_row (j := 1) S2.out.f rfl; have f2 := cell_row (j := 2) S2.out.f rfl; have f3 := cell_row (j := 3) S2.out.f rfl; have f4 := cell_row (j := 4) S2.out.f rfl; have f5 := cell_row (j := 5) S2.out.f rfl
              have lf := heap_lt S2.out.f
              generalize rprocB f A = pv at *
              clear hV hR hc hx hA htr hpp ht hp hcn hsg hsgn hb hp0
              go_upto_region 15 with fail
              obtain ⟨U, fU, hUn, hU1, hU2⟩ := class_of (fun V => Below w2'.heap.size w2' V) (W := w2'.drew) ⟨rfl, rfl, rfl, Nat.le_refl _, fun _ _ => rfl⟩
              have HU1 := Lib.hid hU1; have HU2 := Lib.hid hU2
              clear hU1 hU2
              have hfm : (Try.prog).follows .mixedOrders = true := by kernel_rfl
              obtain ⟨qn, hd1⟩ : ∃ q : Nat, 1 ≤ q := ⟨1, Nat.le_refl _⟩
              have zp := fun uu => ((HU1.out uu).cell lr).trans p0'
              have z3 := fun uu => ((HU1.out uu).cell lg).trans g3
              have z4 := fun uu => ((HU1.out uu).cell lg).trans g4
              have zx0 := fun uu => ((HU1.out uu).cell hbl).trans x0
              have zf0 := fun uu => ((HU1.out uu).cell lf).trans f0
              have zx1 := fun uu => ((HU1.out uu).cell hbl).trans x1
              have zf1 := fun uu => ((HU1.out uu).cell lf).trans f1
              have zx2 := fun uu => ((HU1.out uu).cell hbl).trans x2
              have zf2 := fun uu => ((HU1.out uu).cell lf).trans f2
              have zx3 := fun uu => ((HU1.out uu).cell hbl).trans x3
              have zf3 := fun uu => ((HU1.out uu).cell lf).trans f3
              have zx4 := fun uu => ((HU1.out uu).cell hbl).trans x4
              have zf4 := fun uu => ((HU1.out uu).cell lf).trans f4
              have zx5 := fun uu => ((HU1.out uu).cell hbl).trans x5
              have zf5 := fun uu => ((HU1.out uu).cell lf).trans f5
              have h0_HR : ∀ uu, Calls Try.prog 45 #[.agg #[.int .i64 A.sig, .slice ta A.tr.length tc, .slice pa A.pts.length pc, .int .i64 A.app, .slice ca A.con.length cc, .int .u16 (A.hold : Int)], .agg #[.int .u32 (f.cl : Int), .int .u32 (f.no : Int), .int .u32 (f.re : Int), .int .u32 (f.ak : Int), .int .u32 (f.ca : Int), .int .u32 (f.rq : Int)]] (fU uu) fun e w' => e = .returned (.bool pv) ∧ Below (fU uu).heap.size (fU uu) w' := fun uu => HPC.out (fU uu) (S2.out.a.bel.trans ((HU1.out uu).mono S2.out.a.bel.size))
              have HR : Hid (∀ uu, CallsIn Fence.wide (qn - 1) Try.prog 45 #[.agg #[.int .i64 A.sig, .slice ta A.tr.length tc, .slice pa A.pts.length pc, .int .i64 A.app, .slice ca A.con.length cc, .int .u16 (A.hold : Int)], .agg #[.int .u32 (f.cl : Int), .int .u32 (f.no : Int), .int .u32 (f.re : Int), .int .u32 (f.ak : Int), .int .u32 (f.ca : Int), .int .u32 (f.rq : Int)]] (fU uu) fun e w' => e = .returned (.bool pv) ∧ ∃ uu', w' = fU uu') := fun uu => (callsIn_wide.2 (h0_HR uu)).mono (fun e w' ⟨he, hb⟩ => ⟨he, HU2.out _ ((HU1.out uu).trans (hb.mono (HU1.out uu).size))⟩)
              have hf_HR : Fence.wide.fn 45 := trivial
              clear h0_HR
              clear p0' g3 g4 x0 x1 x2 x3 x4 x5 f0 f1 f2 f3 f4 f5
              refine (wpIn_wide (n := qn)).1 ?_
              refine wpIn_region_cls fU (by kernel_rfl) hfm (by kernel_rfl) (HU2.out _ ⟨rfl, rfl, rfl, Nat.le_refl _, fun _ _ => rfl⟩) ?_
              repeat (gi_big_quiet_step ((gi_at_call 45; (with_reducible exact HR.out _))))
              refine wpQuietIn_nil ?_
              rintro w6 ⟨uu, rfl⟩
              have S3 := Lib.hid (S2.out.below (HU1.out uu))
              clear zp z3 z4 zx0 zx1 zx2 zx3 zx4 zx5 zf0 zf1 zf2 zf3 zf4 zf5 HU1 HU2 HR HPC lr lg hbl lf
              generalize fU uu = w6 at *
              cases pv
              case false =>
                have HPX : Hid (pr1 = pr) := HPRS.out
                go_wp2_with fail
                go_roundw
                case rel => exact ⟨k + 1, by have := HLT.out; omega, by go_num, by rw [HE1.out, HE2.out, HLX.out, HPX.out]; exact S3.out⟩
                case measure => have := HLT.out; simp [intOf]; omega
              case true =>
                have HPX : Hid (pr1 = pr ||| 2 ^ sg) := HPRS.out
                obtain ⟨g3, -, -, lg⟩ := HG.out _ _ _ _ S3.out.a
                have x0 := HXS.out _ S3.out.a.bel
                have hbl : b < w6.heap.size := Nat.lt_of_lt_of_le HBS.out S3.out.a.bel.size
                have b0 := cell_row (j := 0) S3.out.b rfl
                have fr : w6.frozen? ⟨ob, 0, none⟩ = false := frozen_of_row _ _ _ _ _ S3.out.b
                have lbb := heap_lt S3.out.b
                have HX := Lib.hid (or_bitw pr sg hpl (by omega) _ rfl)
                go_upto_region 16 with fail
                go_region
                rw [HX.out]
                have S4 : Hid (StW u S SF ub lb u5 l5 w (w6.setCell ⟨ob, 0, none⟩ (.int .u32 ((pr ||| 2 ^ sg : Nat) : Int))).drew fb qb ob #[.int .u32 (f.cl : Int), .int .u32 (f.no : Int), .int .u32 (f.re : Int), .int .u32 (f.ak : Int), .int .u32 (f.ca : Int), .int .u32 (f.rq : Int)] ⟨pr ||| 2 ^ sg, 0, 0, lo ||| 2 ^ k⟩) := (S3.out.set (o' := ⟨pr ||| 2 ^ sg, 0, 0, lo ||| 2 ^ k⟩) (j := 0) (v := .int .u32 ((pr ||| 2 ^ sg : Nat) : Int)) SA.out rfl).below ⟨rfl, rfl, rfl, Nat.le_refl _, fun _ _ => rfl⟩
                generalize (w6.setCell ⟨ob, 0, none⟩ (.int .u32 ((pr ||| 2 ^ sg : Nat) : Int))).drew = w7 at *
                clear g3 lg x0 hbl b0 fr lbb HX
                go_wp2_with fail
                go_roundw
                case rel => exact ⟨k + 1, by have := HLT.out; omega, by go_num, by rw [HE1.out, HE2.out, HLX.out, HPX.out]; exact S4.out⟩
                case measure => have := HLT.out; simp [intOf]; omega
        case neg =>
        obtain rfl : k = u.T.rts.length := by omega
        go_wp2_with fail
        clear g4 lg
        go_loopw [9] (fun i wr => ∃ k : Nat, k ≤ u.T.pts.length ∧ i = .int .i64 k ∧ StW u S SF ub lb u5 l5 w wr fb qb ob #[.int .u32 (f.cl : Int), .int .u32 (f.no : Int), .int .u32 (f.re : Int), .int .u32 (f.ak : Int), .int .u32 (f.ca : Int), .int .u32 (f.rq : Int)] ⟨prN u.T f SF.R u.T.rts.length, noN SF.C k, reN SF.C k, loN SF.R u.T.rts.length⟩) (fun i _ => u.T.pts.length - (intOf i).toNat)
        case atStart => exact ⟨0, Nat.zero_le _, rfl, S1.out⟩
        case round =>
          clear S1
          obtain ⟨k, hk, rfl, hs⟩ := hrel
          have S1 := Lib.hid hs
          clear hs
          obtain ⟨-, -, g5, lg⟩ := HG.out _ _ _ _ S1.out.a
          by_cases hlt : k < u.T.pts.length
          case pos =>
            have HLT := Lib.hid hlt
            have p0 : wr.cell? ⟨u.cb, k, none⟩ = some (.int .i64 (SF.C k : Int)) := S1.out.a.cs.cell hlt
            have lr := S1.out.a.cs.lt
            have hc3 := HSO.out.C k
            have HN1 := Lib.hid (noN_succ SF.C k hc3); have HN2 := Lib.hid (reN_succ SF.C k hc3)
            have hnl := HNOL.out k (by omega); have hrl' := HREL.out k (by omega)
            generalize hno1 : noN SF.C (k + 1) = no1 at *
            generalize hre1 : reN SF.C (k + 1) = re1 at *
            have HE1 := Lib.hid hno1; have HE2 := Lib.hid hre1
            generalize noN SF.C k = no at *
            generalize reN SF.C k = re at *
            generalize prN u.T f SF.R u.T.rts.length = prf at *
            generalize loN SF.R u.T.rts.length = lof at *
            generalize hcc : SF.C k = c at *
            have HCC := Lib.hid hcc
            clear hno1 hre1 hcc
            rcases (show c = 0 ∨ c = 1 ∨ c = 2 by omega) with rfl | rfl | rfl
            · have p0' : wr.cell? ⟨u.cb, k, none⟩ = some (.int .i64 0) := p0
              clear p0
              have HX1 : Hid (no1 = no) := HN1.out
              have HX2 : Hid (re1 = re) := HN2.out
              go_wp2_with fail
              clear p0' g5 lg lr
              go_roundw
              case rel => exact ⟨k + 1, by have := HLT.out; omega, by go_num, by rw [HE1.out, HE2.out, HX1.out, HX2.out]; exact S1.out⟩
              case measure => have := HLT.out; simp [intOf]; omega
            · have p0' : wr.cell? ⟨u.cb, k, none⟩ = some (.int .i64 1) := p0
              clear p0
              have HX1 : Hid (no1 = no ||| 2 ^ k) := HN1.out
              have HX2 : Hid (re1 = re) := HN2.out
              have b1 := cell_row (j := 1) S1.out.b rfl
              have fr : wr.frozen? ⟨ob, 1, none⟩ = false := frozen_of_row _ _ _ _ _ S1.out.b
              have lbb := heap_lt S1.out.b
              have HX := Lib.hid (or_bitw no k hnl (by omega) _ rfl)
              go_upto_region 21 with fail
              clear p0' g5 lg lr
              go_region
              rw [HX.out]
              have S2 : Hid (StW u S SF ub lb u5 l5 w (wr.setCell ⟨ob, 1, none⟩ (.int .u32 ((no ||| 2 ^ k : Nat) : Int))).drew fb qb ob #[.int .u32 (f.cl : Int), .int .u32 (f.no : Int), .int .u32 (f.re : Int), .int .u32 (f.ak : Int), .int .u32 (f.ca : Int), .int .u32 (f.rq : Int)] ⟨prf, no ||| 2 ^ k, re, lof⟩) := (S1.out.set (o' := ⟨prf, no ||| 2 ^ k, re, lof⟩) (j := 1) (v := .int .u32 ((no ||| 2 ^ k : Nat) : Int)) SA.out rfl).below ⟨rfl, rfl, rfl, Nat.le_refl _, fun _ _ => rfl⟩
              generalize (wr.setCell ⟨ob, 1, none⟩ (.int .u32 ((no ||| 2 ^ k : Nat) : Int))).drew = w3 at *
              clear b1 fr lbb HX S1
              obtain ⟨-, -, g5, lg⟩ := HG.out _ _ _ _ S2.out.a
              have p0 : w3.cell? ⟨u.cb, k, none⟩ = some (.int .i64 1) := by
                have := S2.out.a.cs.cell HLT.out
                rw [HCC.out] at this; exact this
              have lr := S2.out.a.cs.lt
              go_wp2_with fail
              clear p0 g5 lg lr
              go_roundw
              case rel => exact ⟨k + 1, by have := HLT.out; omega, by go_num, by rw [HE1.out, HE2.out, HX1.out, HX2.out]; exact S2.out⟩
              case measure => have := HLT.out; simp [intOf]; omega
            · have p0' : wr.cell? ⟨u.cb, k, none⟩ = some (.int .i64 2) := p0
              clear p0
              have HX1 : Hid (no1 = no) := HN1.out
              have HX2 : Hid (re1 = re ||| 2 ^ k) := HN2.out
              have b2 := cell_row (j := 2) S1.out.b rfl
              have fr : wr.frozen? ⟨ob, 2, none⟩ = false := frozen_of_row _ _ _ _ _ S1.out.b
              have lbb := heap_lt S1.out.b
              have HX := Lib.hid (or_bitw re k hrl' (by omega) _ rfl)
              go_upto_region 23 with fail
              clear p0' g5 lg lr
              go_region
              rw [HX.out]
              have S2 : Hid (StW u S SF ub lb u5 l5 w (wr.setCell ⟨ob, 2, none⟩ (.int .u32 ((re ||| 2 ^ k : Nat) : Int))).drew fb qb ob #[.int .u32 (f.cl : Int), .int .u32 (f.no : Int), .int .u32 (f.re : Int), .int .u32 (f.ak : Int), .int .u32 (f.ca : Int), .int .u32 (f.rq : Int)] ⟨prf, no, re ||| 2 ^ k, lof⟩) := (S1.out.set (o' := ⟨prf, no, re ||| 2 ^ k, lof⟩) (j := 2) (v := .int .u32 ((re ||| 2 ^ k : Nat) : Int)) SA.out rfl).below ⟨rfl, rfl, rfl, Nat.le_refl _, fun _ _ => rfl⟩
              generalize (wr.setCell ⟨ob, 2, none⟩ (.int .u32 ((re ||| 2 ^ k : Nat) : Int))).drew = w3 at *
              clear b2 fr lbb HX S1
              go_wp2_with fail
              go_roundw
              case rel => exact ⟨k + 1, by have := HLT.out; omega, by go_num, by rw [HE1.out, HE2.out, HX1.out, HX2.out]; exact S2.out⟩
              case measure => have := HLT.out; simp [intOf]; omega
          case neg =>
          obtain rfl : k = u.T.pts.length := by omega
          have b0 := cell_row (j := 0) S1.out.b rfl; have b1 := cell_row (j := 1) S1.out.b rfl; have b2 := cell_row (j := 2) S1.out.b rfl; have b3 := cell_row (j := 3) S1.out.b rfl
          have q0 := cell_row (j := 0) S1.out.q rfl; have q1 := cell_row (j := 1) S1.out.q rfl; have q2 := cell_row (j := 2) S1.out.q rfl; have q3 := cell_row (j := 3) S1.out.q rfl
          generalize hPR : prN u.T f SF.R u.T.rts.length = PR at *
          generalize hLO : loN SF.R u.T.rts.length = LO at *
          generalize hno : noN SF.C u.T.pts.length = NO at *
          generalize hre : reN SF.C u.T.pts.length = RE at *
          have HOE : Hid (O = ⟨PR, NO, RE, LO⟩) := HO.out
          clear hPR hLO hno hre
          have HSET : Hid (∀ (W : World) (j : Nat) (x : Value), R27At W u SF u5 l5 ∧ Only (Own27 u S ub lb) w W → R27At (W.setCell ⟨qb, j, none⟩ x) u SF u5 l5 ∧ Only (Own27 u S ub lb) w (W.setCell ⟨qb, j, none⟩ x)) := fun W j x hW => by
            have hz := HSZ.out
            refine ⟨hW.1.only (M := fun b => b = qb) ((Only.refl _ W).set _ _ (.inr rfl)) (fun b hb => by rw [hb]; have := H.out.bel.size; omega) (fun e => by have := heap_lt H.out.obj; omega) (fun b hb e => ?_), hW.2.set _ _ (.inl hz.2.2.2.2)⟩
            rcases C5.out b hb with h | h
            · have := HOW.out b h; omega
            · omega
          have fq : ∀ j, wr.frozen? ⟨qb, j, none⟩ = false := fun j => frozen_of_row _ _ _ _ _ S1.out.q
          have fq0 := fq 0; have fq1 := fq 1; have fq2 := fq 2; have fq3 := fq 3
          have lbb := heap_lt S1.out.b; have lqq := heap_lt S1.out.q
          clear fq
          go_wp2_with fail
          exact bodyPost_ret (v := .agg #[.int .u32 (PR : Int), .int .u32 (NO : Int), .int .u32 (RE : Int), .int .u32 (LO : Int)]) (by simp [results, Try.results20, go_sem, q0, q1, q2, q3, lqq]) rfl ⟨by rw [HOE.out]; rfl, by
            obtain ⟨z1, z2⟩ := HSET.out _ _ _ (HSET.out _ _ _ (HSET.out _ _ _ (HSET.out _ _ _ ⟨S1.out.a, S1.out.on⟩)))
            exact ⟨u5, l5, z1, z2, fun b hb => (C5.out b hb).imp id (fun h => Nat.le_trans HLE.out h)⟩⟩
end Go.Proofs.Ytlfcmedhadfheaa
