/- The document's automaton: small calls. -/
import Derived.Test.YtlfcmedhadfheaaAutBp
import Derived.Test.YtlfcmedhadfheaaRfA
namespace Go.Proofs.Ytlfcmedhadfheaa
open Go.RowKit
set_option linter.unusedVariables false
set_option linter.unusedSimpArgs false
theorem rpow_mod {n : Nat} (h : n < 32) : (2 : Int) ^ n % 4294967296 = ((2 ^ n : Nat) : Int) := by
  have h : 2 ^ n < 2 ^ 32 := Nat.pow_lt_pow_right (by omega) h
  have e : ((2 : Int) ^ n) = ((2 ^ n : Nat) : Int) := by simp
  rw [e]
  generalize 2 ^ n = p at *
  omega
theorem on_bit (x n : Nat) : (((x : Int) / ((2 ^ n : Nat) : Int)) % 2 == 1) = x.testBit n := by
  rw [Nat.testBit_eq_decide_div_mod_eq]
  have e : ((x : Int) / ((2 ^ n : Nat) : Int)) = ((x / 2 ^ n : Nat) : Int) := by simp
  rw [e]
  have := Nat.mod_two_eq_zero_or_one (x / 2 ^ n)
  have e2 : ((x / 2 ^ n : Nat) : Int) % 2 = ((x / 2 ^ n % 2 : Nat) : Int) := by omega
  rw [e2]
  rcases this with h | h <;> rw [h] <;> rfl
set_option maxHeartbeats 1000000 in
theorem ron_any (x n : Nat) (w : World) (hx : x < 4294967296) (hn : n < 32) :
    Calls Try.prog 65 #[.int .u32 (x : Int), .int .i64 (n : Int)] w fun e w' => e = .returned (.bool (x.testBit n)) ∧ w' = w := by
  have hq := rpow_mod hn
  have HB := Lib.hid (on_bit x n)
  have h0 : 0 < 2 ^ n := Nat.pow_pos (by omega)
  obtain ⟨q, hqd⟩ : ∃ q, q = 2 ^ n := ⟨_, rfl⟩
  rw [← hqd] at hq HB h0
  clear hqd
  go_enter Try.func65, Try.ntmps65
  go_wp2_with fail
  rw [HB.out]
  go_ret
  exact ⟨rfl, by first | trivial | rfl⟩
theorem ron_q (x n : Nat) (w : World) (hx : x < 4294967296) (hn : n < 32) (k : Nat) :
    Calls Try.prog 65 #[.int .u32 (x : Int), .int .i64 (n : Int)] (w.drewN k) fun e w' => e = .returned (.bool (x.testBit n)) ∧ ∃ m, w' = w.drewN m :=
  Calls.quiet_of_same (ron_any x n _ hx hn)
theorem rneed_any (p : Int × Bool) (w : World) :
    Calls Try.prog 68 #[.agg #[.int .i64 p.1, .bool p.2]] w fun e w' => e = .returned (.int .i64 (needP p : Int)) ∧ Below w.heap.size w w' := by
  obtain ⟨a, b⟩ := p
  simp only
  have B1 : Hid (Below w.heap.size w (w.alloc (.cells #[.int .i64 a, .bool b] 67))) := tb_alloc_below _ _
  cases b
  case true =>
    go_enter Try.func68, Try.ntmps68
    go_wp2_with fail
    go_ret
    exact ⟨rfl, B1.out⟩
  case false =>
    go_enter Try.func68, Try.ntmps68
    go_wp2_with fail
    go_ret
    exact ⟨rfl, B1.out⟩
theorem RG_drewN (w : World) (k : Nat) : Below w.heap.size w (w.drewN k) := ⟨rfl, rfl, rfl, Nat.le_refl _, fun _ _ => rfl⟩
def rprocB (f : FD) (t : Rt) : Bool := (t.tr.all fun x => bt f.cl x) && (t.pts.all fun p => seenB f p)
theorem all_no {α : Type} {l : List α} {d : α} {p : α → Bool} {k : Nat} (hk : k < l.length) (h : p (l.getD k d) = false) : l.all p = false := by
  rw [List.all_eq_false]
  refine ⟨l.getD k d, ?_, by rw [h]; decide⟩
  rw [List.getD_eq_getElem?_getD, List.getElem?_eq_getElem hk]; exact List.getElem_mem hk
theorem all_yes {α : Type} {l : List α} {d : α} {p : α → Bool} (h : ∀ j, j < l.length → p (l.getD j d) = true) : l.all p = true := by
  rw [List.all_eq_true]
  intro x hx
  obtain ⟨i, hi, rfl⟩ := List.mem_iff_getElem.1 hx
  have := h i hi
  rwa [List.getD_eq_getElem?_getD, List.getElem?_eq_getElem hi] at this
set_option maxRecDepth 100000 in
set_option maxHeartbeats 4000000 in
theorem rproc_any (v : Value) (A : Rt) (f : FD) (w : World) (hv : RVal w v A) (hf : f.Ok) (ht : ∀ i, i < A.tr.length → 0 ≤ A.tr.getD i 0 ∧ A.tr.getD i 0 < 32) (hp : ∀ i, i < A.pts.length → 0 ≤ (A.pts.getD i (0, false)).1 ∧ (A.pts.getD i (0, false)).1 < 32) :
    Calls Try.prog 45 #[v, .agg #[.int .u32 (f.cl : Int), .int .u32 (f.no : Int), .int .u32 (f.re : Int), .int .u32 (f.ak : Int), .int .u32 (f.ca : Int), .int .u32 (f.rq : Int)]] w fun e w' => e = .returned (.bool (rprocB f A)) ∧ Below w.heap.size w w' := by
  obtain ⟨⟨va1, va2, va4, rfl, hA1, hA2, _⟩, _, _, _⟩ := hv
  obtain ⟨⟨ta, tc, rfl, _, qa1, _⟩, _⟩ := id hA1
  obtain ⟨⟨pa, pc, rfl, _, qa2, _⟩, _⟩ := id hA2
  have sa1 := hA1.size; have sa2 := hA2.size
  unfold maxLen at qa1 qa2 sa1 sa2
  have HA1 := Lib.hid hA1; have HA2 := Lib.hid hA2; have HF := Lib.hid hf; have HT := Lib.hid ht; have HPP := Lib.hid hp
  obtain ⟨w1, hw1⟩ : ∃ w1, w1 = w.alloc (.cells #[.int .i64 A.sig, .slice ta A.tr.length tc, .slice pa A.pts.length pc, .int .i64 A.app, va4, .int .u16 (A.hold : Int)] 46) := ⟨_, rfl⟩
  have B1 : Hid (Below w.heap.size w w1) := by rw [hw1]; exact tb_alloc_below _ _
  have K1 : Hid (w1.heap[w.heap.size]? = some (.cells #[.int .i64 A.sig, .slice ta A.tr.length tc, .slice pa A.pts.length pc, .int .i64 A.app, va4, .int .u16 (A.hold : Int)] 46 (0, 0))) := by rw [hw1]; exact heap_alloc_new _ _
  obtain ⟨w2, hw2⟩ : ∃ w2, w2 = w1.alloc (.cells #[.int .u32 (f.cl : Int), .int .u32 (f.no : Int), .int .u32 (f.re : Int), .int .u32 (f.ak : Int), .int .u32 (f.ca : Int), .int .u32 (f.rq : Int)] 38) := ⟨_, rfl⟩
  have B12 : Hid (Below w1.heap.size w1 w2) := by rw [hw2]; exact tb_alloc_below _ _
  have KF2 : Hid (w2.heap[w1.heap.size]? = some (.cells #[.int .u32 (f.cl : Int), .int .u32 (f.no : Int), .int .u32 (f.re : Int), .int .u32 (f.ak : Int), .int .u32 (f.ca : Int), .int .u32 (f.rq : Int)] 38 (0, 0))) := by rw [hw2]; exact heap_alloc_new _ _
  have KA2 := Lib.hid (tb_kept K1.out B12.out)
  have BW2 : Hid (Below w.heap.size w w2) := B1.out.trans (B12.out.mono B1.out.size)
  have HW : Hid (w2 = (w.alloc (.cells #[.int .i64 A.sig, .slice ta A.tr.length tc, .slice pa A.pts.length pc, .int .i64 A.app, va4, .int .u16 (A.hold : Int)] 46)).alloc (.cells #[.int .u32 (f.cl : Int), .int .u32 (f.no : Int), .int .u32 (f.re : Int), .int .u32 (f.ak : Int), .int .u32 (f.ca : Int), .int .u32 (f.rq : Int)] 38)) := by show _ = _; rw [hw2, hw1]
  have Z1 : Hid (w1.heap.size = w.heap.size + 1) := by rw [hw1]; exact Array.size_push _
  rw [Z1.out] at KF2
  obtain ⟨ab, hab⟩ : ∃ b, b = w.heap.size := ⟨_, rfl⟩
  obtain ⟨fb, hfb⟩ : ∃ b, b = w.heap.size + 1 := ⟨_, rfl⟩
  have HNUM : Hid (w.heap.size + 1 = fb ∧ w.heap.size = ab) := ⟨hfb.symm, hab.symm⟩
  rw [← hfb] at KF2
  rw [← hab] at KA2
  obtain ⟨F, hF⟩ : ∃ F, F = rprocB f A := ⟨_, rfl⟩
  rw [← hF]
  have HFF : Hid (F = ((A.tr.all fun x => bt f.cl x) && (A.pts.all fun p => seenB f p))) := hF
  clear hF hw1 hw2 hab hfb K1 B1 B12 Z1 hA1 hA2 hf ht hp
  go_enter Try.func45, Try.ntmps45
  go_upto_region 1 with fail
  rw [← HW.out, HNUM.out.1, HNUM.out.2]
  clear HW HNUM
  go_wp2_with fail
  go_loopw [5] (fun i wr => ∃ k : Nat, k ≤ A.tr.length ∧ i = .int .i64 k ∧ (∀ j, j < k → bt f.cl (A.tr.getD j 0) = true) ∧ Below w2.heap.size w2 wr) (fun i _ => A.tr.length - (intOf i).toNat)
  case atStart => exact ⟨0, Nat.zero_le _, rfl, fun j hj => absurd hj (by omega), Below.refl _ _⟩
  case round =>
    obtain ⟨k, hk, rfl, hno, hb⟩ := hrel
    have NO := Lib.hid hno; have B3 := Lib.hid hb
    have BW : Hid (Below w.heap.size w wr) := BW2.out.trans (hb.mono BW2.out.size)
    clear hno hb
    have a1 := cell_row (j := 1) (tb_kept KA2.out B3.out) rfl; have f0 := cell_row (j := 0) (tb_kept KF2.out B3.out) rfl
    have la := heap_lt (tb_kept KA2.out B3.out); have lf := heap_lt (tb_kept KF2.out B3.out)
    by_cases hlt : k < A.tr.length
    case pos =>
      obtain ⟨b, off, rfl, hb, x0⟩ := (HA1.out.below BW.out).cell hlt
      obtain ⟨y, hy⟩ := Int.eq_ofNat_of_zero_le (HT.out k hlt).1
      have HC := Lib.hid (ron_q f.cl y wr HF.out.cl (by have := (HT.out k hlt).2; omega))
      have HNN : Hid (f.cl.testBit y = true → ∀ j, j < k + 1 → bt f.cl (A.tr.getD j 0) = true) := fun h j hj => by
        by_cases e : j < k
        · exact NO.out j e
        · obtain rfl : j = k := by omega
          rw [hy]; exact h
      have HNX : Hid (f.cl.testBit y = false → false = F) := fun h => by
        rw [HFF.out, all_no (p := fun x => bt f.cl x) hlt (by rw [hy]; exact h)]; rfl
      rw [hy] at x0
      clear hy
      generalize f.cl.testBit y = h at *
      go_upto_region 4 with fail
      cases h
      case false =>
        have HX := Lib.hid (HNX.out rfl)
        go_quiet ((go_at_call 65; (with_reducible exact HC.out _)))
        have B4 : Hid (Below w2.heap.size w2 (wr.drewN nq)) := B3.out.trans ((RG_drewN _ nq).mono B3.out.size)
        have BW4 : Hid (Below w.heap.size w (wr.drewN nq)) := BW.out.trans ((RG_drewN _ nq).mono BW.out.size)
        generalize wr.drewN nq = w4 at *
        clear a1 f0 la lf x0 hb HC
        go_wp2_with fail
        go_ret
        exact ⟨congrArg (fun x => Ending.returned (.bool x)) HX.out, BW4.out⟩
      case true =>
        have HX := Lib.hid (HNN.out rfl)
        go_quiet ((go_at_call 65; (with_reducible exact HC.out _)))
        have B4 : Hid (Below w2.heap.size w2 (wr.drewN nq)) := B3.out.trans ((RG_drewN _ nq).mono B3.out.size)
        have BW4 : Hid (Below w.heap.size w (wr.drewN nq)) := BW.out.trans ((RG_drewN _ nq).mono BW.out.size)
        generalize wr.drewN nq = w4 at *
        clear a1 f0 la lf x0 hb HC
        go_wp2_with fail
        go_roundw
        case rel => exact ⟨k + 1, by omega, by go_num, HX.out, B4.out⟩
        case measure => simp [intOf]; omega
    case neg =>
    obtain rfl : k = A.tr.length := by omega
    have HF2 : Hid (F = (A.pts.all fun p => seenB f p)) := by show _ = _; rw [HFF.out, all_yes (p := fun x => bt f.cl x) NO.out, Bool.true_and]
    clear HFF
    go_wp2_with fail
    clear a1 f0 la lf NO
    go_loopw [6, 7] (fun i _x wr => ∃ k : Nat, k ≤ A.pts.length ∧ i = .int .i64 k ∧ (∀ j, j < k → seenB f (A.pts.getD j (0, false)) = true) ∧ Below w2.heap.size w2 wr) (fun i _ _ => A.pts.length - (intOf i).toNat)
    case atStart => exact ⟨0, Nat.zero_le _, rfl, fun j hj => absurd hj (by omega), B3.out⟩
    case round =>
      clear B3 BW
      obtain ⟨k, hk, rfl, hno, hb⟩ := hrel
      have NO := Lib.hid hno; have B3 := Lib.hid hb
      have BW : Hid (Below w.heap.size w wr) := BW2.out.trans (hb.mono BW2.out.size)
      clear hno hb
      have a2 := cell_row (j := 2) (tb_kept KA2.out B3.out) rfl
      have la := heap_lt (tb_kept KA2.out B3.out)
      by_cases hlt : k < A.pts.length
      case pos =>
        obtain ⟨b, off, rfl, hb, x0, x1⟩ := (HA2.out.below BW.out).cell hlt
        have hpp := HPP.out k hlt
        have HNN : Hid (seenB f (A.pts.getD k (0, false)) = true → ∀ j, j < k + 1 → seenB f (A.pts.getD j (0, false)) = true) := fun h j hj => by
          by_cases e : j < k
          · exact NO.out j e
          · obtain rfl : j = k := by omega
            exact h
        have HNX : Hid (seenB f (A.pts.getD k (0, false)) = false → false = F) := fun h => by
          rw [HF2.out, all_no (p := fun p => seenB f p) hlt h]
        have HS : Hid (seenB f (A.pts.getD k (0, false)) = ((bt f.no (A.pts.getD k (0, false)).1 == !(A.pts.getD k (0, false)).2) && (bt f.re (A.pts.getD k (0, false)).1 == (A.pts.getD k (0, false)).2))) := rfl
        generalize seenB f (A.pts.getD k (0, false)) = r at *
        generalize A.pts.getD k (0, false) = p at *
        obtain ⟨y, z⟩ := p
        simp only at x0 x1 hpp HS
        obtain ⟨y, rfl⟩ := Int.eq_ofNat_of_zero_le hpp.1
        have hy32 : y < 32 := by have := hpp.2; omega
        obtain ⟨w5, hw5⟩ : ∃ W, W = wr.alloc (.cells #[.int .i64 (y : Int), .bool z] 67) := ⟨_, rfl⟩
        have B45 : Hid (Below wr.heap.size wr w5) := by rw [hw5]; exact tb_alloc_below _ _
        have KP5 : Hid (w5.heap[wr.heap.size]? = some (.cells #[.int .i64 (y : Int), .bool z] 67 (0, 0))) := by rw [hw5]; exact heap_alloc_new _ _
        have B5 : Hid (Below w2.heap.size w2 w5) := B3.out.trans (B45.out.mono B3.out.size)
        have HW5 := Lib.hid hw5
        have HC1 := Lib.hid (ron_q f.no y w5 HF.out.no hy32)
        have HC2 := Lib.hid (ron_q f.re y w5 HF.out.re hy32)
        have HS2 : Hid (r = ((f.no.testBit y == !z) && (f.re.testBit y == z))) := HS.out
        generalize f.no.testBit y = e1 at *
        generalize f.re.testBit y = e2 at *
        clear hw5 hpp HS
        go_upto_region 10 with fail
        rw [← HW5.out]
        clear x0 x1 hb HW5 a2 la
        obtain ⟨xb, hxb⟩ : ∃ ab, ab = wr.heap.size := ⟨_, rfl⟩
        rw [← hxb] at KP5 ⊢
        clear hxb
        have f1 := cell_row (j := 1) (tb_kept KF2.out B5.out) rfl; have f2 := cell_row (j := 2) (tb_kept KF2.out B5.out) rfl
        have p0 := cell_row (j := 0) KP5.out rfl; have p1 := cell_row (j := 1) KP5.out rfl
        have lf := heap_lt (tb_kept KF2.out B5.out); have lp := heap_lt KP5.out
        cases z
        case false =>
          cases e1
          case false =>
            have HX := Lib.hid (HNX.out HS2.out)
            go_quiet ((go_at_call 65; first | (with_reducible exact HC1.out _) | (with_reducible exact HC2.out _)))
            have B6 : Hid (Below w2.heap.size w2 (w5.drewN nq)) := B5.out.trans ((RG_drewN _ nq).mono B5.out.size)
            have BW6 : Hid (Below w.heap.size w (w5.drewN nq)) := BW2.out.trans (B6.out.mono BW2.out.size)
            generalize w5.drewN nq = w6 at *
            clear f1 f2 p0 p1 lf lp HC1 HC2 KP5
            go_wp2_with fail
            go_ret
            exact ⟨congrArg (fun x => Ending.returned (.bool x)) HX.out, BW6.out⟩
          case true =>
            cases e2
            case false =>
              have HX := Lib.hid (HNN.out HS2.out)
              go_quiet ((go_at_call 65; first | (with_reducible exact HC1.out _) | (with_reducible exact HC2.out _)))
              have B6 : Hid (Below w2.heap.size w2 (w5.drewN nq)) := B5.out.trans ((RG_drewN _ nq).mono B5.out.size)
              have BW6 : Hid (Below w.heap.size w (w5.drewN nq)) := BW2.out.trans (B6.out.mono BW2.out.size)
              generalize w5.drewN nq = w6 at *
              clear f1 f2 p0 p1 lf lp HC1 HC2 KP5
              go_wp2_with fail
              go_roundw
              case rel => exact ⟨k + 1, by omega, by go_num, HX.out, B6.out⟩
              case measure => simp [intOf]; omega
            case true =>
              have HX := Lib.hid (HNX.out HS2.out)
              go_quiet ((go_at_call 65; first | (with_reducible exact HC1.out _) | (with_reducible exact HC2.out _)))
              have B6 : Hid (Below w2.heap.size w2 (w5.drewN nq)) := B5.out.trans ((RG_drewN _ nq).mono B5.out.size)
              have BW6 : Hid (Below w.heap.size w (w5.drewN nq)) := BW2.out.trans (B6.out.mono BW2.out.size)
              generalize w5.drewN nq = w6 at *
              clear f1 f2 p0 p1 lf lp HC1 HC2 KP5
              go_wp2_with fail
              go_ret
              exact ⟨congrArg (fun x => Ending.returned (.bool x)) HX.out, BW6.out⟩
        case true =>
          cases e1
          case true =>
            have HX := Lib.hid (HNX.out HS2.out)
            go_quiet ((go_at_call 65; first | (with_reducible exact HC1.out _) | (with_reducible exact HC2.out _)))
            have B6 : Hid (Below w2.heap.size w2 (w5.drewN nq)) := B5.out.trans ((RG_drewN _ nq).mono B5.out.size)
            have BW6 : Hid (Below w.heap.size w (w5.drewN nq)) := BW2.out.trans (B6.out.mono BW2.out.size)
            generalize w5.drewN nq = w6 at *
            clear f1 f2 p0 p1 lf lp HC1 HC2 KP5
            go_wp2_with fail
            go_ret
            exact ⟨congrArg (fun x => Ending.returned (.bool x)) HX.out, BW6.out⟩
          case false =>
            cases e2
            case true =>
              have HX := Lib.hid (HNN.out HS2.out)
              go_quiet ((go_at_call 65; first | (with_reducible exact HC1.out _) | (with_reducible exact HC2.out _)))
              have B6 : Hid (Below w2.heap.size w2 (w5.drewN nq)) := B5.out.trans ((RG_drewN _ nq).mono B5.out.size)
              have BW6 : Hid (Below w.heap.size w (w5.drewN nq)) := BW2.out.trans (B6.out.mono BW2.out.size)
              generalize w5.drewN nq = w6 at *
              clear f1 f2 p0 p1 lf lp HC1 HC2 KP5
              go_wp2_with fail
              go_roundw
              case rel => exact ⟨k + 1, by omega, by go_num, HX.out, B6.out⟩
              case measure => simp [intOf]; omega
            case false =>
              have HX := Lib.hid (HNX.out HS2.out)
              go_quiet ((go_at_call 65; first | (with_reducible exact HC1.out _) | (with_reducible exact HC2.out _)))
              have B6 : Hid (Below w2.heap.size w2 (w5.drewN nq)) := B5.out.trans ((RG_drewN _ nq).mono B5.out.size)
              have BW6 : Hid (Below w.heap.size w (w5.drewN nq)) := BW2.out.trans (B6.out.mono BW2.out.size)
              generalize w5.drewN nq = w6 at *
              clear f1 f2 p0 p1 lf lp HC1 HC2 KP5
              go_wp2_with fail
              go_ret
              exact ⟨congrArg (fun x => Ending.returned (.bool x)) HX.out, BW6.out⟩
      case neg =>
      obtain rfl : k = A.pts.length := by omega
      have HX : Hid (true = F) := by show _ = _; rw [HF2.out, all_yes (p := fun p => seenB f p) NO.out]
      go_wp2_with fail
      go_ret
      exact ⟨congrArg (fun x => Ending.returned (.bool x)) HX.out, BW.out⟩
end Go.Proofs.Ytlfcmedhadfheaa
