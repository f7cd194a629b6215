/- The law AutoBits, walked. -/
import Derived.Test.YtlfcmedhadfheaaAutBp
import Derived.Test.YtlfcmedhadfheaaAutFd
import Derived.Test.YtlfcmedhadfheaaAutD
import Derived.Laws.BitsAllLaws
import Derived.Deep.RegionHeld3
namespace Go.Proofs.Ytlfcmedhadfheaa
open Go.RowKit
set_option linter.unusedVariables false
set_option linter.unusedSimpArgs false
/-- Noise ahead of a word's own bits. -/
def xr (x z t : Nat) : Nat := x ^^^ (z * 2 ^ t % 4294967296)
theorem xr_lt {x z t : Nat} (hx : x < 4294967296) : xr x z t < 4294967296 := Nat.xor_lt_two_pow (n := 32) hx (Nat.mod_lt _ (by decide))
theorem xr_bits {x z t : Nat} (hx : x < 4294967296) : bits .xor .u32 (x : Int) ((z : Int) * (2 : Int) ^ t % 4294967296) = ((xr x z t : Nat) : Int) := by
  have e : (z : Int) * (2 : Int) ^ t % 4294967296 = ((z * 2 ^ t % 4294967296 : Nat) : Int) := by simp
  rw [e]
  exact u32_xor_nat x _ hx (Nat.mod_lt _ (by decide))
theorem xr_bit {x z t n : Nat} (hn : n < t) : (xr x z t).testBit n = x.testBit n := by
  unfold xr
  rw [Nat.testBit_xor, show (4294967296 : Nat) = 2 ^ 32 from rfl, Nat.testBit_mod_two_pow, Nat.mul_comm z, Nat.testBit_two_pow_mul]
  rw [decide_eq_false (show ¬ t ≤ n by omega)]
  simp
def rqB (f : FD) (N : Nat) : Bool := decide (f.rq = 0) || decide (N < f.rq)
def noisy (T : Tab) (t z : Nat) (f : FD) : FD := ⟨xr f.cl z t, xr f.no z T.pts.length, xr f.re z T.pts.length, xr f.ak z T.rts.length, xr f.ca z T.rts.length, if rqB f T.rts.length then (if z ≤ T.rts.length then 0 else z) else f.rq⟩
theorem noisy_ok {T : Tab} {t z : Nat} {f : FD} (hf : f.Ok) (hz : z < 4294967296) : (noisy T t z f).Ok := ⟨xr_lt hf.cl, xr_lt hf.no, xr_lt hf.re, xr_lt hf.ak, xr_lt hf.ca, by
  show (if rqB f T.rts.length then (if z ≤ T.rts.length then 0 else z) else f.rq) < _
  have := hf.rq
  split
  · split <;> omega
  · exact this⟩
theorem noisy_eq {T : Tab} {t z : Nat} {f : FD} (ht : T.tracks = (t : Int)) : FEq T (noisy T t z f) f := by
  refine ⟨fun x h0 h1 => ?_, fun x h0 h1 => ?_, fun x h0 h1 => ?_, fun n hn => xr_bit hn, fun n hn => xr_bit hn, fun n hn => ?_⟩
  · exact xr_bit (by omega)
  · exact xr_bit (by omega)
  · exact xr_bit (by omega)
  · show ((if rqB f T.rts.length then (if z ≤ T.rts.length then 0 else z) else f.rq) == n + 1) = _
    by_cases hb : rqB f T.rts.length = true
    · rw [if_pos hb]
      unfold rqB at hb
      have e2 : (f.rq == n + 1) = false := by
        rw [beq_eq_false_iff_ne]
        intro e
        rw [e] at hb
        simp at hb
        omega
      rw [e2, beq_eq_false_iff_ne]
      split <;> omega
    · rw [if_neg hb]
/-- The worlds of a round. -/
structure BW (w W : World) (T : Tab) (tr : Array Value) (na nb : Nat) (ua ub : Au) (Sa Sb : AS) (tb xb yb : Nat) (x y : FD) : Prop where
  t : W.heap[tb]? = some (.cells tr 25 (0, 0))
  x : W.heap[xb]? = some (.cells #[.int .u32 (x.cl : Int), .int .u32 (x.no : Int), .int .u32 (x.re : Int), .int .u32 (x.ak : Int), .int .u32 (x.ca : Int), .int .u32 (x.rq : Int)] 38 (0, 0))
  y : W.heap[yb]? = some (.cells #[.int .u32 (y.cl : Int), .int .u32 (y.no : Int), .int .u32 (y.re : Int), .int .u32 (y.ak : Int), .int .u32 (y.ca : Int), .int .u32 (y.rq : Int)] 38 (0, 0))
  a : FA na W ua Sa
  b : FA nb W ub Sb
  bel : Below w.heap.size w W
/-- What stays apart. -/
structure Geo (w : World) (na nb : Nat) (ua ub : Au) (tb : Nat) : Prop where
  wt : w.heap.size ≤ tb
  tn : tb < na
  a0 : na ≤ ua.w0.heap.size
  aw : ua.w0.heap.size ≤ nb
  ag : ua.g < nb
  ar : ua.rb < nb
  ap : ua.pb < nb
  b0 : nb ≤ ub.w0.heap.size
structure Far (ub : Au) (xb : Nat) : Prop where
  g : ub.g < xb
  r : ub.rb < xb
  p : ub.pb < xb
  w : ub.w0.heap.size < xb
theorem BW.below {w W V : World} {T : Tab} {tr : Array Value} {na nb : Nat} {ua ub : Au} {Sa Sb : AS} {tb xb yb : Nat} {x y : FD} (h : BW w W T tr na nb ua ub Sa Sb tb xb yb x y) (hG : Geo w na nb ua ub tb) (hb : Below W.heap.size W V) : BW w V T tr na nb ua ub Sa Sb tb xb yb x y :=
  ⟨tb_kept h.t hb, tb_kept h.x hb, tb_kept h.y hb, h.a.below hb hG.a0, h.b.below hb hG.b0, h.bel.trans (hb.mono h.bel.size)⟩
theorem BW.sety {w W : World} {T : Tab} {tr : Array Value} {na nb : Nat} {ua ub : Au} {Sa Sb : AS} {tb xb yb : Nat} {x y y' : FD} {j : Nat} {v : Value} (h : BW w W T tr na nb ua ub Sa Sb tb xb yb x y) (hG : Geo w na nb ua ub tb) (hF : Far ub xb) (hx : xb < yb)
    (hv : #[Value.int .u32 (y.cl : Int), .int .u32 (y.no : Int), .int .u32 (y.re : Int), .int .u32 (y.ak : Int), .int .u32 (y.ca : Int), .int .u32 (y.rq : Int)].setIfInBounds j v = #[.int .u32 (y'.cl : Int), .int .u32 (y'.no : Int), .int .u32 (y'.re : Int), .int .u32 (y'.ak : Int), .int .u32 (y'.ca : Int), .int .u32 (y'.rq : Int)]) : BW w (W.setCell ⟨yb, j, none⟩ v) T tr na nb ua ub Sa Sb tb xb yb x y' := by
  have hO : Only (fun b => b = yb) W (W.setCell ⟨yb, j, none⟩ v) := (Only.refl _ W).set _ _ (.inr rfl)
  have := hG.wt; have := hG.tn; have := hG.a0; have := hG.aw; have := hG.ag; have := hG.ar; have := hG.ap; have := hG.b0; have := hF.g; have := hF.r; have := hF.p; have := hF.w
  exact ⟨(heap_setCell_other _ _ _ _ (show tb ≠ yb by omega)).trans h.t, (heap_setCell_other _ _ _ _ (show xb ≠ yb by omega)).trans h.x, by rw [← hv]; exact heap_setCell_same _ _ _ _ _ _ h.y,
    h.a.other hO yb (fun b e => .inr (Nat.le_of_eq e.symm)) hG.a0 (by omega) (by omega) (by omega) (by omega), h.b.other hO yb (fun b e => .inr (Nat.le_of_eq e.symm)) hG.b0 (by omega) (by omega) (by omega) (by omega), h.bel.setCell (p := ⟨yb, j, none⟩) (show w.heap.size ≤ yb by omega) _⟩
theorem BW.stepA {w W V : World} {T : Tab} {tr : Array Value} {na nb : Nat} {ua ub : Au} {Sa Sb Sn : AS} {tb xb yb : Nat} {x y : FD} (h : BW w W T tr na nb ua ub Sa Sb tb xb yb x y) (hG : Geo w na nb ua ub tb) (hF : Far ub xb) (hx : xb < yb) (ha : FA na V ua Sn) (hO : Only ua.M W V) : BW w V T tr na nb ua ub Sn Sb tb xb yb x y := by
  have := hG.wt; have := hG.tn; have := hG.a0; have := hG.aw; have := hG.ag; have := hG.ar; have := hG.ap; have := hG.b0; have := hF.g; have := hF.r; have := hF.p; have := hF.w; have := ha.rB; have := ha.pB
  have hM : ∀ b, ua.M b → b = ua.rb ∨ b = ua.pb := fun b e => e
  exact ⟨(hO.block _ (heap_lt h.t) (fun hm => by have := hM _ hm; omega)).trans h.t, (hO.block _ (heap_lt h.x) (fun hm => by have := hM _ hm; omega)).trans h.x, (hO.block _ (heap_lt h.y) (fun hm => by have := hM _ hm; omega)).trans h.y, ha,
    h.b.other hO xb (fun b e => by have := hM _ e; omega) hG.b0 (by omega) (by omega) (by omega) (by omega), Only.toBelow h.bel hO (fun b e => by have := hM _ e; omega) h.bel.size⟩
theorem BW.stepB {w W V : World} {T : Tab} {tr : Array Value} {na nb : Nat} {ua ub : Au} {Sa Sb Sn : AS} {tb xb yb : Nat} {x y : FD} (h : BW w W T tr na nb ua ub Sa Sb tb xb yb x y) (hG : Geo w na nb ua ub tb) (hF : Far ub xb) (hx : xb < yb) (hb : FA nb V ub Sn) (hO : Only ub.M W V) : BW w V T tr na nb ua ub Sa Sn tb xb yb x y := by
  have := hG.wt; have := hG.tn; have := hG.a0; have := hG.aw; have := hG.ag; have := hG.ar; have := hG.ap; have := hG.b0; have := hF.g; have := hF.r; have := hF.p; have := hF.w; have := hb.rB; have := hb.pB
  have hM : ∀ b, ub.M b → b = ub.rb ∨ b = ub.pb := fun b e => e
  exact ⟨(hO.block _ (heap_lt h.t) (fun hm => by have := hM _ hm; omega)).trans h.t, (hO.block _ (heap_lt h.x) (fun hm => by have := hM _ hm; omega)).trans h.x, (hO.block _ (heap_lt h.y) (fun hm => by have := hM _ hm; omega)).trans h.y,
    h.a.other hO nb (fun b e => by have := hM _ e; omega) hG.a0 (by omega) (by omega) (by omega) (by omega), hb, Only.toBelow h.bel hO (fun b e => by have := hM _ e; omega) h.bel.size⟩
end Go.Proofs.Ytlfcmedhadfheaa
